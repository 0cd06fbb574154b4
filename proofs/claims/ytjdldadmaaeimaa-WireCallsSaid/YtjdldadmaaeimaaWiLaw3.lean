/-
  Laws whose arguments are calls and replies: their cells.
-/
import Derived.Test.YtjdldadmaaeimaaWiLaw2
import Derived.Test.YtjdldadmaaeimaaWiCe
import Derived.Test.YtjdldadmaaeimaaWiM
set_option maxRecDepth 100000
set_option linter.unusedVariables false
set_option linter.unusedSimpArgs false
namespace Go.Proofs.Ytjdldadmaaeimaa
open Go.ChangeShapes Go.WideShapes Go.ChangeAt Go.RowKit Go.SE Go.Deep

section
variable {H : Type} {enc : TypeId × Value → H}
theorem dt {cs : List Value} {o k : Nat} {L : List Value} (h : (cs.drop o).take k = L) : cs.drop o = L ++ cs.drop (o + k) := by
  rw [← h, ← List.drop_drop, List.take_append_drop]
theorem c_Handle {W : World} {fuel : Nat} {cs : List Value} {y : DataW H × List MemPlace} (hf : DataW.trod enc Try.prog W 0 (fun _ => true) true fuel 32 cs = some y) :
    ∃ (a0 : Int) (a1 : Int), cs = [.int .i64 a0, .int .i64 a1] ∧ I64 a0 ∧ I64 a1 := by
  obtain ⟨xs, m, _, _, hl, hlen, hf⟩ := DataW.trod_struct Try.underlying32 hf
  match xs, hlen with
  | [y0, y1], _ =>
    obtain ⟨a0, g0, _, w0⟩ := DataW.trod_int (k := .i64) (by kernel_rfl) (hf 0 _ rfl)
    have w0 := wf_i64 w0
    have g0 : (cs.drop 0).take (Try.prog.cellsOf 3) = [.int .i64 a0] := g0
    rw [show Try.prog.cellsOf 3 = 1 by kernel_rfl] at g0
    have k0 : cs.drop 0 = [.int .i64 a0] ++ cs.drop 1 := dt g0
    obtain ⟨a1, g1, _, w1⟩ := DataW.trod_int (k := .i64) (by kernel_rfl) (hf 1 _ rfl)
    have w1 := wf_i64 w1
    have g1 : (cs.drop 1).take (Try.prog.cellsOf 3) = [.int .i64 a1] := g1
    rw [show Try.prog.cellsOf 3 = 1 by kernel_rfl] at g1
    have k1 : cs.drop 1 = [.int .i64 a1] ++ cs.drop 2 := dt g1
    rw [show Try.prog.cellsOf 32 = 2 by kernel_rfl] at hl
    refine ⟨a0, a1, ?_, w0, w1⟩
    show cs.drop 0 = _
    rw [k0, k1, List.drop_eq_nil_of_le (by omega)]
    rfl
theorem c_Spot {W : World} {fuel : Nat} {cs : List Value} {y : DataW H × List MemPlace} (hf : DataW.trod enc Try.prog W 0 (fun _ => true) true fuel 47 cs = some y) :
    ∃ (a0 : Int) (a1 : Int), cs = [.int .i64 a0, .int .i64 a1] ∧ I64 a0 ∧ I64 a1 := by
  obtain ⟨xs, m, _, _, hl, hlen, hf⟩ := DataW.trod_struct Try.underlying47 hf
  match xs, hlen with
  | [y0, y1], _ =>
    obtain ⟨a0, g0, _, w0⟩ := DataW.trod_int (k := .i64) (by kernel_rfl) (hf 0 _ rfl)
    have w0 := wf_i64 w0
    have g0 : (cs.drop 0).take (Try.prog.cellsOf 2) = [.int .i64 a0] := g0
    rw [show Try.prog.cellsOf 2 = 1 by kernel_rfl] at g0
    have k0 : cs.drop 0 = [.int .i64 a0] ++ cs.drop 1 := dt g0
    obtain ⟨a1, g1, _, w1⟩ := DataW.trod_int (k := .i64) (by kernel_rfl) (hf 1 _ rfl)
    have w1 := wf_i64 w1
    have g1 : (cs.drop 1).take (Try.prog.cellsOf 2) = [.int .i64 a1] := g1
    rw [show Try.prog.cellsOf 2 = 1 by kernel_rfl] at g1
    have k1 : cs.drop 1 = [.int .i64 a1] ++ cs.drop 2 := dt g1
    rw [show Try.prog.cellsOf 47 = 2 by kernel_rfl] at hl
    refine ⟨a0, a1, ?_, w0, w1⟩
    show cs.drop 0 = _
    rw [k0, k1, List.drop_eq_nil_of_le (by omega)]
    rfl
theorem c_Num {W : World} {fuel : Nat} {cs : List Value} {y : DataW H × List MemPlace} (hf : DataW.trod enc Try.prog W 0 (fun _ => true) true fuel 37 cs = some y) :
    ∃ (a0 : Int) (f1 : Bool), cs = [.int .i64 a0, .bool f1] ∧ I64 a0 := by
  obtain ⟨xs, m, _, _, hl, hlen, hf⟩ := DataW.trod_struct Try.underlying37 hf
  match xs, hlen with
  | [y0, y1], _ =>
    obtain ⟨a0, g0, _, w0⟩ := DataW.trod_int (k := .i64) (by kernel_rfl) (hf 0 _ rfl)
    have w0 := wf_i64 w0
    have g0 : (cs.drop 0).take (Try.prog.cellsOf 2) = [.int .i64 a0] := g0
    rw [show Try.prog.cellsOf 2 = 1 by kernel_rfl] at g0
    have k0 : cs.drop 0 = [.int .i64 a0] ++ cs.drop 1 := dt g0
    obtain ⟨f1, g1, _⟩ := DataW.trod_bool (by kernel_rfl) (hf 1 _ rfl)
    have g1 : (cs.drop 1).take (Try.prog.cellsOf 4) = [.bool f1] := g1
    rw [show Try.prog.cellsOf 4 = 1 by kernel_rfl] at g1
    have k1 : cs.drop 1 = [.bool f1] ++ cs.drop 2 := dt g1
    rw [show Try.prog.cellsOf 37 = 2 by kernel_rfl] at hl
    refine ⟨a0, f1, ?_, w0⟩
    show cs.drop 0 = _
    rw [k0, k1, List.drop_eq_nil_of_le (by omega)]
    rfl
theorem c_Vec {W : World} {fuel : Nat} {cs : List Value} {y : DataW H × List MemPlace} (hf : DataW.trod enc Try.prog W 0 (fun _ => true) true fuel 39 cs = some y) :
    ∃ (a0 : Int) (f1 : Bool) (a2 : Int) (f3 : Bool), cs = [.int .i64 a0, .bool f1, .int .i64 a2, .bool f3] ∧ I64 a0 ∧ I64 a2 := by
  obtain ⟨xs, m, _, _, hl, hlen, hf⟩ := DataW.trod_struct Try.underlying39 hf
  match xs, hlen with
  | [y0, y1], _ =>
    obtain ⟨a0, f1, g0, w0⟩ := c_Num (hf 0 _ rfl)
    have g0 : (cs.drop 0).take (Try.prog.cellsOf 37) = [.int .i64 a0, .bool f1] := g0
    rw [show Try.prog.cellsOf 37 = 2 by kernel_rfl] at g0
    have k0 : cs.drop 0 = [.int .i64 a0, .bool f1] ++ cs.drop 2 := dt g0
    obtain ⟨a2, f3, g1, w2⟩ := c_Num (hf 1 _ rfl)
    have g1 : (cs.drop 2).take (Try.prog.cellsOf 37) = [.int .i64 a2, .bool f3] := g1
    rw [show Try.prog.cellsOf 37 = 2 by kernel_rfl] at g1
    have k1 : cs.drop 2 = [.int .i64 a2, .bool f3] ++ cs.drop 4 := dt g1
    rw [show Try.prog.cellsOf 39 = 4 by kernel_rfl] at hl
    refine ⟨a0, f1, a2, f3, ?_, w0, w2⟩
    show cs.drop 0 = _
    rw [k0, k1, List.drop_eq_nil_of_le (by omega)]
    rfl
theorem c_Rot {W : World} {fuel : Nat} {cs : List Value} {y : DataW H × List MemPlace} (hf : DataW.trod enc Try.prog W 0 (fun _ => true) true fuel 41 cs = some y) :
    ∃ (a0 : Int) (f1 : Bool) (a2 : Int) (f3 : Bool), cs = [.int .i64 a0, .bool f1, .int .i64 a2, .bool f3] ∧ I64 a0 ∧ I64 a2 := by
  obtain ⟨xs, m, _, _, hl, hlen, hf⟩ := DataW.trod_struct Try.underlying41 hf
  match xs, hlen with
  | [y0, y1], _ =>
    obtain ⟨a0, f1, g0, w0⟩ := c_Num (hf 0 _ rfl)
    have g0 : (cs.drop 0).take (Try.prog.cellsOf 37) = [.int .i64 a0, .bool f1] := g0
    rw [show Try.prog.cellsOf 37 = 2 by kernel_rfl] at g0
    have k0 : cs.drop 0 = [.int .i64 a0, .bool f1] ++ cs.drop 2 := dt g0
    obtain ⟨a2, f3, g1, w2⟩ := c_Num (hf 1 _ rfl)
    have g1 : (cs.drop 2).take (Try.prog.cellsOf 37) = [.int .i64 a2, .bool f3] := g1
    rw [show Try.prog.cellsOf 37 = 2 by kernel_rfl] at g1
    have k1 : cs.drop 2 = [.int .i64 a2, .bool f3] ++ cs.drop 4 := dt g1
    rw [show Try.prog.cellsOf 41 = 4 by kernel_rfl] at hl
    refine ⟨a0, f1, a2, f3, ?_, w0, w2⟩
    show cs.drop 0 = _
    rw [k0, k1, List.drop_eq_nil_of_le (by omega)]
    rfl
theorem c_Pose {W : World} {fuel : Nat} {cs : List Value} {y : DataW H × List MemPlace} (hf : DataW.trod enc Try.prog W 0 (fun _ => true) true fuel 43 cs = some y) :
    ∃ (a0 : Int) (f1 : Bool) (a2 : Int) (f3 : Bool) (a4 : Int) (f5 : Bool) (a6 : Int) (f7 : Bool), cs = [.int .i64 a0, .bool f1, .int .i64 a2, .bool f3, .int .i64 a4, .bool f5, .int .i64 a6, .bool f7] ∧ I64 a0 ∧ I64 a2 ∧ I64 a4 ∧ I64 a6 := by
  obtain ⟨xs, m, _, _, hl, hlen, hf⟩ := DataW.trod_struct Try.underlying43 hf
  match xs, hlen with
  | [y0, y1], _ =>
    obtain ⟨a0, f1, a2, f3, g0, w0, w2⟩ := c_Vec (hf 0 _ rfl)
    have g0 : (cs.drop 0).take (Try.prog.cellsOf 39) = [.int .i64 a0, .bool f1, .int .i64 a2, .bool f3] := g0
    rw [show Try.prog.cellsOf 39 = 4 by kernel_rfl] at g0
    have k0 : cs.drop 0 = [.int .i64 a0, .bool f1, .int .i64 a2, .bool f3] ++ cs.drop 4 := dt g0
    obtain ⟨a4, f5, a6, f7, g1, w4, w6⟩ := c_Rot (hf 1 _ rfl)
    have g1 : (cs.drop 4).take (Try.prog.cellsOf 41) = [.int .i64 a4, .bool f5, .int .i64 a6, .bool f7] := g1
    rw [show Try.prog.cellsOf 41 = 4 by kernel_rfl] at g1
    have k1 : cs.drop 4 = [.int .i64 a4, .bool f5, .int .i64 a6, .bool f7] ++ cs.drop 8 := dt g1
    rw [show Try.prog.cellsOf 43 = 8 by kernel_rfl] at hl
    refine ⟨a0, f1, a2, f3, a4, f5, a6, f7, ?_, w0, w2, w4, w6⟩
    show cs.drop 0 = _
    rw [k0, k1, List.drop_eq_nil_of_le (by omega)]
    rfl
theorem c_Box {W : World} {fuel : Nat} {cs : List Value} {y : DataW H × List MemPlace} (hf : DataW.trod enc Try.prog W 0 (fun _ => true) true fuel 45 cs = some y) :
    ∃ (a0 : Int) (a1 : Int) (a2 : Int) (a3 : Int), cs = [.int .i64 a0, .int .i64 a1, .int .i64 a2, .int .i64 a3] ∧ I64 a0 ∧ I64 a1 ∧ I64 a2 ∧ I64 a3 := by
  obtain ⟨xs, m, _, _, hl, hlen, hf⟩ := DataW.trod_struct Try.underlying45 hf
  match xs, hlen with
  | [y0, y1, y2, y3], _ =>
    obtain ⟨a0, g0, _, w0⟩ := DataW.trod_int (k := .i64) (by kernel_rfl) (hf 0 _ rfl)
    have w0 := wf_i64 w0
    have g0 : (cs.drop 0).take (Try.prog.cellsOf 2) = [.int .i64 a0] := g0
    rw [show Try.prog.cellsOf 2 = 1 by kernel_rfl] at g0
    have k0 : cs.drop 0 = [.int .i64 a0] ++ cs.drop 1 := dt g0
    obtain ⟨a1, g1, _, w1⟩ := DataW.trod_int (k := .i64) (by kernel_rfl) (hf 1 _ rfl)
    have w1 := wf_i64 w1
    have g1 : (cs.drop 1).take (Try.prog.cellsOf 2) = [.int .i64 a1] := g1
    rw [show Try.prog.cellsOf 2 = 1 by kernel_rfl] at g1
    have k1 : cs.drop 1 = [.int .i64 a1] ++ cs.drop 2 := dt g1
    obtain ⟨a2, g2, _, w2⟩ := DataW.trod_int (k := .i64) (by kernel_rfl) (hf 2 _ rfl)
    have w2 := wf_i64 w2
    have g2 : (cs.drop 2).take (Try.prog.cellsOf 2) = [.int .i64 a2] := g2
    rw [show Try.prog.cellsOf 2 = 1 by kernel_rfl] at g2
    have k2 : cs.drop 2 = [.int .i64 a2] ++ cs.drop 3 := dt g2
    obtain ⟨a3, g3, _, w3⟩ := DataW.trod_int (k := .i64) (by kernel_rfl) (hf 3 _ rfl)
    have w3 := wf_i64 w3
    have g3 : (cs.drop 3).take (Try.prog.cellsOf 2) = [.int .i64 a3] := g3
    rw [show Try.prog.cellsOf 2 = 1 by kernel_rfl] at g3
    have k3 : cs.drop 3 = [.int .i64 a3] ++ cs.drop 4 := dt g3
    rw [show Try.prog.cellsOf 45 = 4 by kernel_rfl] at hl
    refine ⟨a0, a1, a2, a3, ?_, w0, w1, w2, w3⟩
    show cs.drop 0 = _
    rw [k0, k1, k2, k3, List.drop_eq_nil_of_le (by omega)]
    rfl
theorem c_sSpot {W : World} {fuel : Nat} {cs : List Value} {y : DataW H × List MemPlace} (hf : DataW.trod enc Try.prog W 0 (fun _ => true) true fuel 33 cs = some y) :
    ∃ (n0 c0 : Nat) (row0 : Nat → List SV) (l0 : SE.Loc) (v0 : Value), cs = [v0] ∧ ((∀ δ kk, δ kk = some l0 → absV δ (.sl kk 2 0 n0 c0) v0 ∧ Live δ (Ro.blk ⟨2, n0, row0⟩) W l0) ∧ ∀ i, i < n0 → isPI (row0 i)) := by
  obtain ⟨n, c, row, l, v, h1, h2, _, h3⟩ := rows_open (k := 2) (Q := fun cs => ∃ (a b : Int), cs = [.int .i64 a, .int .i64 b] ∧ I64 a ∧ I64 b) (by omega) Try.underlying33 (by kernel_rfl) (fun fuel cs y h => c_Spot h) hf
  refine ⟨n, c, row, l, v, h1, h2, fun i hi => ?_⟩
  obtain ⟨xs, hr, a, b, rfl, w1, w2⟩ := h3 i hi
  rw [hr]
  exact ⟨w1, w2⟩
theorem c_sHandle {W : World} {fuel : Nat} {cs : List Value} {y : DataW H × List MemPlace} (hf : DataW.trod enc Try.prog W 0 (fun _ => true) true fuel 60 cs = some y) :
    ∃ (n0 c0 : Nat) (row0 : Nat → List SV) (l0 : SE.Loc) (v0 : Value), cs = [v0] ∧ ((∀ δ kk, δ kk = some l0 → absV δ (.sl kk 2 0 n0 c0) v0 ∧ Live δ (Ro.blk ⟨2, n0, row0⟩) W l0) ∧ ∀ i, i < n0 → isPI (row0 i)) := by
  obtain ⟨n, c, row, l, v, h1, h2, _, h3⟩ := rows_open (k := 2) (Q := fun cs => ∃ (a b : Int), cs = [.int .i64 a, .int .i64 b] ∧ I64 a ∧ I64 b) (by omega) Try.underlying60 (by kernel_rfl) (fun fuel cs y h => c_Handle h) hf
  refine ⟨n, c, row, l, v, h1, h2, fun i hi => ?_⟩
  obtain ⟨xs, hr, a, b, rfl, w1, w2⟩ := h3 i hi
  rw [hr]
  exact ⟨w1, w2⟩
theorem c_Shape {W : World} {fuel : Nat} {cs : List Value} {y : DataW H × List MemPlace} (hf : DataW.trod enc Try.prog W 0 (fun _ => true) true fuel 35 cs = some y) :
    ∃ (a0 : Int) (a1 : Int) (a2 : Int) (a3 : Int) (n4 c4 : Nat) (row4 : Nat → List SV) (l4 : SE.Loc) (v4 : Value), cs = [.int .i64 a0, .int .i64 a1, .int .i64 a2, .int .i64 a3, v4] ∧ I64 a0 ∧ I64 a1 ∧ I64 a2 ∧ I64 a3 ∧ ((∀ δ kk, δ kk = some l4 → absV δ (.sl kk 2 0 n4 c4) v4 ∧ Live δ (Ro.blk ⟨2, n4, row4⟩) W l4) ∧ ∀ i, i < n4 → isPI (row4 i)) := by
  obtain ⟨xs, m, _, _, hl, hlen, hf⟩ := DataW.trod_struct Try.underlying35 hf
  match xs, hlen with
  | [y0, y1, y2, y3, y4], _ =>
    obtain ⟨a0, g0, _, w0⟩ := DataW.trod_int (k := .i64) (by kernel_rfl) (hf 0 _ rfl)
    have w0 := wf_i64 w0
    have g0 : (cs.drop 0).take (Try.prog.cellsOf 3) = [.int .i64 a0] := g0
    rw [show Try.prog.cellsOf 3 = 1 by kernel_rfl] at g0
    have k0 : cs.drop 0 = [.int .i64 a0] ++ cs.drop 1 := dt g0
    obtain ⟨a1, g1, _, w1⟩ := DataW.trod_int (k := .i64) (by kernel_rfl) (hf 1 _ rfl)
    have w1 := wf_i64 w1
    have g1 : (cs.drop 1).take (Try.prog.cellsOf 2) = [.int .i64 a1] := g1
    rw [show Try.prog.cellsOf 2 = 1 by kernel_rfl] at g1
    have k1 : cs.drop 1 = [.int .i64 a1] ++ cs.drop 2 := dt g1
    obtain ⟨a2, g2, _, w2⟩ := DataW.trod_int (k := .i64) (by kernel_rfl) (hf 2 _ rfl)
    have w2 := wf_i64 w2
    have g2 : (cs.drop 2).take (Try.prog.cellsOf 2) = [.int .i64 a2] := g2
    rw [show Try.prog.cellsOf 2 = 1 by kernel_rfl] at g2
    have k2 : cs.drop 2 = [.int .i64 a2] ++ cs.drop 3 := dt g2
    obtain ⟨a3, g3, _, w3⟩ := DataW.trod_int (k := .i64) (by kernel_rfl) (hf 3 _ rfl)
    have w3 := wf_i64 w3
    have g3 : (cs.drop 3).take (Try.prog.cellsOf 2) = [.int .i64 a3] := g3
    rw [show Try.prog.cellsOf 2 = 1 by kernel_rfl] at g3
    have k3 : cs.drop 3 = [.int .i64 a3] ++ cs.drop 4 := dt g3
    obtain ⟨n4, c4, row4, l4, v4, g4, w4⟩ := c_sSpot (hf 4 _ rfl)
    have g4 : (cs.drop 4).take (Try.prog.cellsOf 33) = [v4] := g4
    rw [show Try.prog.cellsOf 33 = 1 by kernel_rfl] at g4
    have k4 : cs.drop 4 = [v4] ++ cs.drop 5 := dt g4
    rw [show Try.prog.cellsOf 35 = 5 by kernel_rfl] at hl
    refine ⟨a0, a1, a2, a3, n4, c4, row4, l4, v4, ?_, w0, w1, w2, w3, w4⟩
    show cs.drop 0 = _
    rw [k0, k1, k2, k3, k4, List.drop_eq_nil_of_le (by omega)]
    rfl
theorem c_Weight {W : World} {fuel : Nat} {cs : List Value} {y : DataW H × List MemPlace} (hf : DataW.trod enc Try.prog W 0 (fun _ => true) true fuel 57 cs = some y) :
    ∃ (a0 : Int) (f1 : Bool) (a2 : Int) (f3 : Bool), cs = [.int .i64 a0, .bool f1, .int .i64 a2, .bool f3] ∧ I64 a0 ∧ I64 a2 := by
  obtain ⟨xs, m, _, _, hl, hlen, hf⟩ := DataW.trod_struct Try.underlying57 hf
  match xs, hlen with
  | [y0, y1], _ =>
    obtain ⟨a0, f1, g0, w0⟩ := c_Num (hf 0 _ rfl)
    have g0 : (cs.drop 0).take (Try.prog.cellsOf 37) = [.int .i64 a0, .bool f1] := g0
    rw [show Try.prog.cellsOf 37 = 2 by kernel_rfl] at g0
    have k0 : cs.drop 0 = [.int .i64 a0, .bool f1] ++ cs.drop 2 := dt g0
    obtain ⟨a2, f3, g1, w2⟩ := c_Num (hf 1 _ rfl)
    have g1 : (cs.drop 2).take (Try.prog.cellsOf 37) = [.int .i64 a2, .bool f3] := g1
    rw [show Try.prog.cellsOf 37 = 2 by kernel_rfl] at g1
    have k1 : cs.drop 2 = [.int .i64 a2, .bool f3] ++ cs.drop 4 := dt g1
    rw [show Try.prog.cellsOf 57 = 4 by kernel_rfl] at hl
    refine ⟨a0, f1, a2, f3, ?_, w0, w2⟩
    show cs.drop 0 = _
    rw [k0, k1, List.drop_eq_nil_of_le (by omega)]
    rfl
theorem c_Body {W : World} {fuel : Nat} {cs : List Value} {y : DataW H × List MemPlace} (hf : DataW.trod enc Try.prog W 0 (fun _ => true) true fuel 59 cs = some y) :
    ∃ (a0 : Int) (a1 : Int) (a2 : Int) (a3 : Int) (n4 c4 : Nat) (row4 : Nat → List SV) (l4 : SE.Loc) (v4 : Value) (a5 : Int) (f6 : Bool) (a7 : Int) (f8 : Bool) (a9 : Int) (f10 : Bool) (a11 : Int) (f12 : Bool) (a13 : Int) (f14 : Bool) (a15 : Int) (f16 : Bool) (a17 : Int) (f18 : Bool) (a19 : Int) (f20 : Bool) (a21 : Int) (f22 : Bool) (a23 : Int) (f24 : Bool) (f25 : Bool) (a26 : Int), cs = [.int .i64 a0, .int .i64 a1, .int .i64 a2, .int .i64 a3, v4, .int .i64 a5, .bool f6, .int .i64 a7, .bool f8, .int .i64 a9, .bool f10, .int .i64 a11, .bool f12, .int .i64 a13, .bool f14, .int .i64 a15, .bool f16, .int .i64 a17, .bool f18, .int .i64 a19, .bool f20, .int .i64 a21, .bool f22, .int .i64 a23, .bool f24, .bool f25, .int .i64 a26] ∧ I64 a0 ∧ I64 a1 ∧ I64 a2 ∧ I64 a3 ∧ ((∀ δ kk, δ kk = some l4 → absV δ (.sl kk 2 0 n4 c4) v4 ∧ Live δ (Ro.blk ⟨2, n4, row4⟩) W l4) ∧ ∀ i, i < n4 → isPI (row4 i)) ∧ I64 a5 ∧ I64 a7 ∧ I64 a9 ∧ I64 a11 ∧ I64 a13 ∧ I64 a15 ∧ I64 a17 ∧ I64 a19 ∧ I64 a21 ∧ I64 a23 ∧ I64 a26 := by
  obtain ⟨xs, m, _, _, hl, hlen, hf⟩ := DataW.trod_struct Try.underlying59 hf
  match xs, hlen with
  | [y0, y1, y2, y3, y4, y5, y6, y7, y8], _ =>
    obtain ⟨a0, a1, a2, a3, n4, c4, row4, l4, v4, g0, w0, w1, w2, w3, w4⟩ := c_Shape (hf 0 _ rfl)
    have g0 : (cs.drop 0).take (Try.prog.cellsOf 35) = [.int .i64 a0, .int .i64 a1, .int .i64 a2, .int .i64 a3, v4] := g0
    rw [show Try.prog.cellsOf 35 = 5 by kernel_rfl] at g0
    have k0 : cs.drop 0 = [.int .i64 a0, .int .i64 a1, .int .i64 a2, .int .i64 a3, v4] ++ cs.drop 5 := dt g0
    obtain ⟨a5, f6, a7, f8, a9, f10, a11, f12, g1, w5, w7, w9, w11⟩ := c_Pose (hf 1 _ rfl)
    have g1 : (cs.drop 5).take (Try.prog.cellsOf 43) = [.int .i64 a5, .bool f6, .int .i64 a7, .bool f8, .int .i64 a9, .bool f10, .int .i64 a11, .bool f12] := g1
    rw [show Try.prog.cellsOf 43 = 8 by kernel_rfl] at g1
    have k1 : cs.drop 5 = [.int .i64 a5, .bool f6, .int .i64 a7, .bool f8, .int .i64 a9, .bool f10, .int .i64 a11, .bool f12] ++ cs.drop 13 := dt g1
    obtain ⟨a13, f14, a15, f16, g2, w13, w15⟩ := c_Vec (hf 2 _ rfl)
    have g2 : (cs.drop 13).take (Try.prog.cellsOf 39) = [.int .i64 a13, .bool f14, .int .i64 a15, .bool f16] := g2
    rw [show Try.prog.cellsOf 39 = 4 by kernel_rfl] at g2
    have k2 : cs.drop 13 = [.int .i64 a13, .bool f14, .int .i64 a15, .bool f16] ++ cs.drop 17 := dt g2
    obtain ⟨a17, f18, g3, w17⟩ := c_Num (hf 3 _ rfl)
    have g3 : (cs.drop 17).take (Try.prog.cellsOf 37) = [.int .i64 a17, .bool f18] := g3
    rw [show Try.prog.cellsOf 37 = 2 by kernel_rfl] at g3
    have k3 : cs.drop 17 = [.int .i64 a17, .bool f18] ++ cs.drop 19 := dt g3
    obtain ⟨a19, f20, a21, f22, g4, w19, w21⟩ := c_Weight (hf 4 _ rfl)
    have g4 : (cs.drop 19).take (Try.prog.cellsOf 57) = [.int .i64 a19, .bool f20, .int .i64 a21, .bool f22] := g4
    rw [show Try.prog.cellsOf 57 = 4 by kernel_rfl] at g4
    have k4 : cs.drop 19 = [.int .i64 a19, .bool f20, .int .i64 a21, .bool f22] ++ cs.drop 23 := dt g4
    obtain ⟨a23, g5, _, w23⟩ := DataW.trod_int (k := .i64) (by kernel_rfl) (hf 5 _ rfl)
    have w23 := wf_i64 w23
    have g5 : (cs.drop 23).take (Try.prog.cellsOf 3) = [.int .i64 a23] := g5
    rw [show Try.prog.cellsOf 3 = 1 by kernel_rfl] at g5
    have k5 : cs.drop 23 = [.int .i64 a23] ++ cs.drop 24 := dt g5
    obtain ⟨f24, g6, _⟩ := DataW.trod_bool (by kernel_rfl) (hf 6 _ rfl)
    have g6 : (cs.drop 24).take (Try.prog.cellsOf 4) = [.bool f24] := g6
    rw [show Try.prog.cellsOf 4 = 1 by kernel_rfl] at g6
    have k6 : cs.drop 24 = [.bool f24] ++ cs.drop 25 := dt g6
    obtain ⟨f25, g7, _⟩ := DataW.trod_bool (by kernel_rfl) (hf 7 _ rfl)
    have g7 : (cs.drop 25).take (Try.prog.cellsOf 4) = [.bool f25] := g7
    rw [show Try.prog.cellsOf 4 = 1 by kernel_rfl] at g7
    have k7 : cs.drop 25 = [.bool f25] ++ cs.drop 26 := dt g7
    obtain ⟨a26, g8, _, w26⟩ := DataW.trod_int (k := .i64) (by kernel_rfl) (hf 8 _ rfl)
    have w26 := wf_i64 w26
    have g8 : (cs.drop 26).take (Try.prog.cellsOf 2) = [.int .i64 a26] := g8
    rw [show Try.prog.cellsOf 2 = 1 by kernel_rfl] at g8
    have k8 : cs.drop 26 = [.int .i64 a26] ++ cs.drop 27 := dt g8
    rw [show Try.prog.cellsOf 59 = 27 by kernel_rfl] at hl
    refine ⟨a0, a1, a2, a3, n4, c4, row4, l4, v4, a5, f6, a7, f8, a9, f10, a11, f12, a13, f14, a15, f16, a17, f18, a19, f20, a21, f22, a23, f24, f25, a26, ?_, w0, w1, w2, w3, w4, w5, w7, w9, w11, w13, w15, w17, w19, w21, w23, w26⟩
    show cs.drop 0 = _
    rw [k0, k1, k2, k3, k4, k5, k6, k7, k8, List.drop_eq_nil_of_le (by omega)]
    rfl
theorem c_Hit {W : World} {fuel : Nat} {cs : List Value} {y : DataW H × List MemPlace} (hf : DataW.trod enc Try.prog W 0 (fun _ => true) true fuel 62 cs = some y) :
    ∃ (f0 : Bool) (a1 : Int) (f2 : Bool) (a3 : Int) (f4 : Bool) (a5 : Int) (f6 : Bool), cs = [.bool f0, .int .i64 a1, .bool f2, .int .i64 a3, .bool f4, .int .i64 a5, .bool f6] ∧ I64 a1 ∧ I64 a3 ∧ I64 a5 := by
  obtain ⟨xs, m, _, _, hl, hlen, hf⟩ := DataW.trod_struct Try.underlying62 hf
  match xs, hlen with
  | [y0, y1, y2], _ =>
    obtain ⟨f0, g0, _⟩ := DataW.trod_bool (by kernel_rfl) (hf 0 _ rfl)
    have g0 : (cs.drop 0).take (Try.prog.cellsOf 4) = [.bool f0] := g0
    rw [show Try.prog.cellsOf 4 = 1 by kernel_rfl] at g0
    have k0 : cs.drop 0 = [.bool f0] ++ cs.drop 1 := dt g0
    obtain ⟨a1, f2, g1, w1⟩ := c_Num (hf 1 _ rfl)
    have g1 : (cs.drop 1).take (Try.prog.cellsOf 37) = [.int .i64 a1, .bool f2] := g1
    rw [show Try.prog.cellsOf 37 = 2 by kernel_rfl] at g1
    have k1 : cs.drop 1 = [.int .i64 a1, .bool f2] ++ cs.drop 3 := dt g1
    obtain ⟨a3, f4, a5, f6, g2, w3, w5⟩ := c_Vec (hf 2 _ rfl)
    have g2 : (cs.drop 3).take (Try.prog.cellsOf 39) = [.int .i64 a3, .bool f4, .int .i64 a5, .bool f6] := g2
    rw [show Try.prog.cellsOf 39 = 4 by kernel_rfl] at g2
    have k2 : cs.drop 3 = [.int .i64 a3, .bool f4, .int .i64 a5, .bool f6] ++ cs.drop 7 := dt g2
    rw [show Try.prog.cellsOf 62 = 7 by kernel_rfl] at hl
    refine ⟨f0, a1, f2, a3, f4, a5, f6, ?_, w1, w3, w5⟩
    show cs.drop 0 = _
    rw [k0, k1, k2, List.drop_eq_nil_of_le (by omega)]
    rfl
theorem c_Call {W : World} {fuel : Nat} {cs : List Value} {y : DataW H × List MemPlace} (hf : DataW.trod enc Try.prog W 0 (fun _ => true) true fuel 49 cs = some y) :
    ∃ (a0 : Int) (a1 : Int) (a2 : Int) (a3 : Int) (a4 : Int) (a5 : Int) (a6 : Int) (a7 : Int) (a8 : Int) (n9 c9 : Nat) (row9 : Nat → List SV) (l9 : SE.Loc) (v9 : Value) (a10 : Int) (f11 : Bool) (a12 : Int) (f13 : Bool) (a14 : Int) (f15 : Bool) (a16 : Int) (f17 : Bool) (a18 : Int) (f19 : Bool) (a20 : Int) (f21 : Bool) (a22 : Int) (f23 : Bool) (a24 : Int) (f25 : Bool) (a26 : Int) (f27 : Bool) (a28 : Int) (f29 : Bool) (a30 : Int) (f31 : Bool) (a32 : Int) (f33 : Bool) (a34 : Int) (a35 : Int) (a36 : Int) (a37 : Int) (a38 : Int) (a39 : Int) (a40 : Int) (a41 : Int) (a42 : Int), cs = [.int .i64 a0, .int .i64 a1, .int .i64 a2, .int .i64 a3, .int .i64 a4, .int .i64 a5, .int .i64 a6, .int .i64 a7, .int .i64 a8, v9, .int .i64 a10, .bool f11, .int .i64 a12, .bool f13, .int .i64 a14, .bool f15, .int .i64 a16, .bool f17, .int .i64 a18, .bool f19, .int .i64 a20, .bool f21, .int .i64 a22, .bool f23, .int .i64 a24, .bool f25, .int .i64 a26, .bool f27, .int .i64 a28, .bool f29, .int .i64 a30, .bool f31, .int .i64 a32, .bool f33, .int .i64 a34, .int .i64 a35, .int .i64 a36, .int .i64 a37, .int .i64 a38, .int .i64 a39, .int .i64 a40, .int .i64 a41, .int .i64 a42] ∧ I64 a0 ∧ I64 a1 ∧ I64 a2 ∧ I64 a3 ∧ I64 a4 ∧ I64 a5 ∧ I64 a6 ∧ I64 a7 ∧ I64 a8 ∧ ((∀ δ kk, δ kk = some l9 → absV δ (.sl kk 2 0 n9 c9) v9 ∧ Live δ (Ro.blk ⟨2, n9, row9⟩) W l9) ∧ ∀ i, i < n9 → isPI (row9 i)) ∧ I64 a10 ∧ I64 a12 ∧ I64 a14 ∧ I64 a16 ∧ I64 a18 ∧ I64 a20 ∧ I64 a22 ∧ I64 a24 ∧ I64 a26 ∧ I64 a28 ∧ I64 a30 ∧ I64 a32 ∧ I64 a34 ∧ I64 a35 ∧ I64 a36 ∧ I64 a37 ∧ I64 a38 ∧ I64 a39 ∧ I64 a40 ∧ I64 a41 ∧ I64 a42 := by
  obtain ⟨xs, m, _, _, hl, hlen, hf⟩ := DataW.trod_struct Try.underlying49 hf
  match xs, hlen with
  | [y0, y1, y2, y3, y4, y5, y6, y7, y8, y9, y10, y11, y12, y13, y14, y15], _ =>
    obtain ⟨a0, g0, _, w0⟩ := DataW.trod_int (k := .i64) (by kernel_rfl) (hf 0 _ rfl)
    have w0 := wf_i64 w0
    have g0 : (cs.drop 0).take (Try.prog.cellsOf 3) = [.int .i64 a0] := g0
    rw [show Try.prog.cellsOf 3 = 1 by kernel_rfl] at g0
    have k0 : cs.drop 0 = [.int .i64 a0] ++ cs.drop 1 := dt g0
    obtain ⟨a1, g1, _, w1⟩ := DataW.trod_int (k := .i64) (by kernel_rfl) (hf 1 _ rfl)
    have w1 := wf_i64 w1
    have g1 : (cs.drop 1).take (Try.prog.cellsOf 3) = [.int .i64 a1] := g1
    rw [show Try.prog.cellsOf 3 = 1 by kernel_rfl] at g1
    have k1 : cs.drop 1 = [.int .i64 a1] ++ cs.drop 2 := dt g1
    obtain ⟨a2, a3, g2, w2, w3⟩ := c_Handle (hf 2 _ rfl)
    have g2 : (cs.drop 2).take (Try.prog.cellsOf 32) = [.int .i64 a2, .int .i64 a3] := g2
    rw [show Try.prog.cellsOf 32 = 2 by kernel_rfl] at g2
    have k2 : cs.drop 2 = [.int .i64 a2, .int .i64 a3] ++ cs.drop 4 := dt g2
    obtain ⟨a4, g3, _, w4⟩ := DataW.trod_int (k := .i64) (by kernel_rfl) (hf 3 _ rfl)
    have w4 := wf_i64 w4
    have g3 : (cs.drop 4).take (Try.prog.cellsOf 2) = [.int .i64 a4] := g3
    rw [show Try.prog.cellsOf 2 = 1 by kernel_rfl] at g3
    have k3 : cs.drop 4 = [.int .i64 a4] ++ cs.drop 5 := dt g3
    obtain ⟨a5, a6, a7, a8, n9, c9, row9, l9, v9, g4, w5, w6, w7, w8, w9⟩ := c_Shape (hf 4 _ rfl)
    have g4 : (cs.drop 5).take (Try.prog.cellsOf 35) = [.int .i64 a5, .int .i64 a6, .int .i64 a7, .int .i64 a8, v9] := g4
    rw [show Try.prog.cellsOf 35 = 5 by kernel_rfl] at g4
    have k4 : cs.drop 5 = [.int .i64 a5, .int .i64 a6, .int .i64 a7, .int .i64 a8, v9] ++ cs.drop 10 := dt g4
    obtain ⟨a10, f11, a12, f13, a14, f15, a16, f17, g5, w10, w12, w14, w16⟩ := c_Pose (hf 5 _ rfl)
    have g5 : (cs.drop 10).take (Try.prog.cellsOf 43) = [.int .i64 a10, .bool f11, .int .i64 a12, .bool f13, .int .i64 a14, .bool f15, .int .i64 a16, .bool f17] := g5
    rw [show Try.prog.cellsOf 43 = 8 by kernel_rfl] at g5
    have k5 : cs.drop 10 = [.int .i64 a10, .bool f11, .int .i64 a12, .bool f13, .int .i64 a14, .bool f15, .int .i64 a16, .bool f17] ++ cs.drop 18 := dt g5
    obtain ⟨a18, f19, a20, f21, g6, w18, w20⟩ := c_Vec (hf 6 _ rfl)
    have g6 : (cs.drop 18).take (Try.prog.cellsOf 39) = [.int .i64 a18, .bool f19, .int .i64 a20, .bool f21] := g6
    rw [show Try.prog.cellsOf 39 = 4 by kernel_rfl] at g6
    have k6 : cs.drop 18 = [.int .i64 a18, .bool f19, .int .i64 a20, .bool f21] ++ cs.drop 22 := dt g6
    obtain ⟨a22, f23, g7, w22⟩ := c_Num (hf 7 _ rfl)
    have g7 : (cs.drop 22).take (Try.prog.cellsOf 37) = [.int .i64 a22, .bool f23] := g7
    rw [show Try.prog.cellsOf 37 = 2 by kernel_rfl] at g7
    have k7 : cs.drop 22 = [.int .i64 a22, .bool f23] ++ cs.drop 24 := dt g7
    obtain ⟨a24, g8, _, w24⟩ := DataW.trod_int (k := .i64) (by kernel_rfl) (hf 8 _ rfl)
    have w24 := wf_i64 w24
    have g8 : (cs.drop 24).take (Try.prog.cellsOf 2) = [.int .i64 a24] := g8
    rw [show Try.prog.cellsOf 2 = 1 by kernel_rfl] at g8
    have k8 : cs.drop 24 = [.int .i64 a24] ++ cs.drop 25 := dt g8
    obtain ⟨f25, g9, _⟩ := DataW.trod_bool (by kernel_rfl) (hf 9 _ rfl)
    have g9 : (cs.drop 25).take (Try.prog.cellsOf 4) = [.bool f25] := g9
    rw [show Try.prog.cellsOf 4 = 1 by kernel_rfl] at g9
    have k9 : cs.drop 25 = [.bool f25] ++ cs.drop 26 := dt g9
    obtain ⟨a26, f27, a28, f29, g10, w26, w28⟩ := c_Vec (hf 10 _ rfl)
    have g10 : (cs.drop 26).take (Try.prog.cellsOf 39) = [.int .i64 a26, .bool f27, .int .i64 a28, .bool f29] := g10
    rw [show Try.prog.cellsOf 39 = 4 by kernel_rfl] at g10
    have k10 : cs.drop 26 = [.int .i64 a26, .bool f27, .int .i64 a28, .bool f29] ++ cs.drop 30 := dt g10
    obtain ⟨a30, f31, a32, f33, g11, w30, w32⟩ := c_Vec (hf 11 _ rfl)
    have g11 : (cs.drop 30).take (Try.prog.cellsOf 39) = [.int .i64 a30, .bool f31, .int .i64 a32, .bool f33] := g11
    rw [show Try.prog.cellsOf 39 = 4 by kernel_rfl] at g11
    have k11 : cs.drop 30 = [.int .i64 a30, .bool f31, .int .i64 a32, .bool f33] ++ cs.drop 34 := dt g11
    obtain ⟨a34, g12, _, w34⟩ := DataW.trod_int (k := .i64) (by kernel_rfl) (hf 12 _ rfl)
    have w34 := wf_i64 w34
    have g12 : (cs.drop 34).take (Try.prog.cellsOf 3) = [.int .i64 a34] := g12
    rw [show Try.prog.cellsOf 3 = 1 by kernel_rfl] at g12
    have k12 : cs.drop 34 = [.int .i64 a34] ++ cs.drop 35 := dt g12
    obtain ⟨a35, a36, a37, a38, g13, w35, w36, w37, w38⟩ := c_Box (hf 13 _ rfl)
    have g13 : (cs.drop 35).take (Try.prog.cellsOf 45) = [.int .i64 a35, .int .i64 a36, .int .i64 a37, .int .i64 a38] := g13
    rw [show Try.prog.cellsOf 45 = 4 by kernel_rfl] at g13
    have k13 : cs.drop 35 = [.int .i64 a35, .int .i64 a36, .int .i64 a37, .int .i64 a38] ++ cs.drop 39 := dt g13
    obtain ⟨a39, a40, g14, w39, w40⟩ := c_Spot (hf 14 _ rfl)
    have g14 : (cs.drop 39).take (Try.prog.cellsOf 47) = [.int .i64 a39, .int .i64 a40] := g14
    rw [show Try.prog.cellsOf 47 = 2 by kernel_rfl] at g14
    have k14 : cs.drop 39 = [.int .i64 a39, .int .i64 a40] ++ cs.drop 41 := dt g14
    obtain ⟨a41, a42, g15, w41, w42⟩ := c_Spot (hf 15 _ rfl)
    have g15 : (cs.drop 41).take (Try.prog.cellsOf 47) = [.int .i64 a41, .int .i64 a42] := g15
    rw [show Try.prog.cellsOf 47 = 2 by kernel_rfl] at g15
    have k15 : cs.drop 41 = [.int .i64 a41, .int .i64 a42] ++ cs.drop 43 := dt g15
    rw [show Try.prog.cellsOf 49 = 43 by kernel_rfl] at hl
    refine ⟨a0, a1, a2, a3, a4, a5, a6, a7, a8, n9, c9, row9, l9, v9, a10, f11, a12, f13, a14, f15, a16, f17, a18, f19, a20, f21, a22, f23, a24, f25, a26, f27, a28, f29, a30, f31, a32, f33, a34, a35, a36, a37, a38, a39, a40, a41, a42, ?_, w0, w1, w2, w3, w4, w5, w6, w7, w8, w9, w10, w12, w14, w16, w18, w20, w22, w24, w26, w28, w30, w32, w34, w35, w36, w37, w38, w39, w40, w41, w42⟩
    show cs.drop 0 = _
    rw [k0, k1, k2, k3, k4, k5, k6, k7, k8, k9, k10, k11, k12, k13, k14, k15, List.drop_eq_nil_of_le (by omega)]
    rfl
theorem c_Reply {W : World} {fuel : Nat} {cs : List Value} {y : DataW H × List MemPlace} (hf : DataW.trod enc Try.prog W 0 (fun _ => true) true fuel 64 cs = some y) :
    ∃ (a0 : Int) (a1 : Int) (a2 : Int) (a3 : Int) (a4 : Int) (a5 : Int) (a6 : Int) (a7 : Int) (a8 : Int) (a9 : Int) (a10 : Int) (n11 c11 : Nat) (row11 : Nat → List SV) (l11 : SE.Loc) (v11 : Value) (a12 : Int) (f13 : Bool) (a14 : Int) (f15 : Bool) (a16 : Int) (f17 : Bool) (a18 : Int) (f19 : Bool) (a20 : Int) (f21 : Bool) (a22 : Int) (f23 : Bool) (a24 : Int) (f25 : Bool) (a26 : Int) (f27 : Bool) (a28 : Int) (f29 : Bool) (a30 : Int) (f31 : Bool) (f32 : Bool) (a33 : Int) (n34 c34 : Nat) (row34 : Nat → List SV) (l34 : SE.Loc) (v34 : Value) (f35 : Bool) (a36 : Int) (f37 : Bool) (a38 : Int) (f39 : Bool) (a40 : Int) (f41 : Bool) (a42 : Int), cs = [.int .i64 a0, .int .i64 a1, .int .i64 a2, .int .i64 a3, .int .i64 a4, .int .i64 a5, .int .i64 a6, .int .i64 a7, .int .i64 a8, .int .i64 a9, .int .i64 a10, v11, .int .i64 a12, .bool f13, .int .i64 a14, .bool f15, .int .i64 a16, .bool f17, .int .i64 a18, .bool f19, .int .i64 a20, .bool f21, .int .i64 a22, .bool f23, .int .i64 a24, .bool f25, .int .i64 a26, .bool f27, .int .i64 a28, .bool f29, .int .i64 a30, .bool f31, .bool f32, .int .i64 a33, v34, .bool f35, .int .i64 a36, .bool f37, .int .i64 a38, .bool f39, .int .i64 a40, .bool f41, .int .i64 a42] ∧ I64 a0 ∧ I64 a1 ∧ I64 a2 ∧ I64 a3 ∧ I64 a4 ∧ I64 a5 ∧ I64 a6 ∧ I64 a7 ∧ I64 a8 ∧ I64 a9 ∧ I64 a10 ∧ ((∀ δ kk, δ kk = some l11 → absV δ (.sl kk 2 0 n11 c11) v11 ∧ Live δ (Ro.blk ⟨2, n11, row11⟩) W l11) ∧ ∀ i, i < n11 → isPI (row11 i)) ∧ I64 a12 ∧ I64 a14 ∧ I64 a16 ∧ I64 a18 ∧ I64 a20 ∧ I64 a22 ∧ I64 a24 ∧ I64 a26 ∧ I64 a28 ∧ I64 a30 ∧ I64 a33 ∧ ((∀ δ kk, δ kk = some l34 → absV δ (.sl kk 2 0 n34 c34) v34 ∧ Live δ (Ro.blk ⟨2, n34, row34⟩) W l34) ∧ ∀ i, i < n34 → isPI (row34 i)) ∧ I64 a36 ∧ I64 a38 ∧ I64 a40 ∧ I64 a42 := by
  obtain ⟨xs, m, _, _, hl, hlen, hf⟩ := DataW.trod_struct Try.underlying64 hf
  match xs, hlen with
  | [y0, y1, y2, y3, y4, y5, y6, y7, y8, y9], _ =>
    obtain ⟨a0, g0, _, w0⟩ := DataW.trod_int (k := .i64) (by kernel_rfl) (hf 0 _ rfl)
    have w0 := wf_i64 w0
    have g0 : (cs.drop 0).take (Try.prog.cellsOf 3) = [.int .i64 a0] := g0
    rw [show Try.prog.cellsOf 3 = 1 by kernel_rfl] at g0
    have k0 : cs.drop 0 = [.int .i64 a0] ++ cs.drop 1 := dt g0
    obtain ⟨a1, g1, _, w1⟩ := DataW.trod_int (k := .i64) (by kernel_rfl) (hf 1 _ rfl)
    have w1 := wf_i64 w1
    have g1 : (cs.drop 1).take (Try.prog.cellsOf 3) = [.int .i64 a1] := g1
    rw [show Try.prog.cellsOf 3 = 1 by kernel_rfl] at g1
    have k1 : cs.drop 1 = [.int .i64 a1] ++ cs.drop 2 := dt g1
    obtain ⟨a2, g2, _, w2⟩ := DataW.trod_int (k := .i64) (by kernel_rfl) (hf 2 _ rfl)
    have w2 := wf_i64 w2
    have g2 : (cs.drop 2).take (Try.prog.cellsOf 26) = [.int .i64 a2] := g2
    rw [show Try.prog.cellsOf 26 = 1 by kernel_rfl] at g2
    have k2 : cs.drop 2 = [.int .i64 a2] ++ cs.drop 3 := dt g2
    obtain ⟨a3, a4, g3, w3, w4⟩ := c_Handle (hf 3 _ rfl)
    have g3 : (cs.drop 3).take (Try.prog.cellsOf 32) = [.int .i64 a3, .int .i64 a4] := g3
    rw [show Try.prog.cellsOf 32 = 2 by kernel_rfl] at g3
    have k3 : cs.drop 3 = [.int .i64 a3, .int .i64 a4] ++ cs.drop 5 := dt g3
    obtain ⟨a5, g4, _, w5⟩ := DataW.trod_int (k := .i64) (by kernel_rfl) (hf 4 _ rfl)
    have w5 := wf_i64 w5
    have g4 : (cs.drop 5).take (Try.prog.cellsOf 2) = [.int .i64 a5] := g4
    rw [show Try.prog.cellsOf 2 = 1 by kernel_rfl] at g4
    have k4 : cs.drop 5 = [.int .i64 a5] ++ cs.drop 6 := dt g4
    obtain ⟨a6, g5, _, w6⟩ := DataW.trod_int (k := .i64) (by kernel_rfl) (hf 5 _ rfl)
    have w6 := wf_i64 w6
    have g5 : (cs.drop 6).take (Try.prog.cellsOf 3) = [.int .i64 a6] := g5
    rw [show Try.prog.cellsOf 3 = 1 by kernel_rfl] at g5
    have k5 : cs.drop 6 = [.int .i64 a6] ++ cs.drop 7 := dt g5
    obtain ⟨a7, a8, a9, a10, n11, c11, row11, l11, v11, a12, f13, a14, f15, a16, f17, a18, f19, a20, f21, a22, f23, a24, f25, a26, f27, a28, f29, a30, f31, f32, a33, g6, w7, w8, w9, w10, w11, w12, w14, w16, w18, w20, w22, w24, w26, w28, w30, w33⟩ := c_Body (hf 6 _ rfl)
    have g6 : (cs.drop 7).take (Try.prog.cellsOf 59) = [.int .i64 a7, .int .i64 a8, .int .i64 a9, .int .i64 a10, v11, .int .i64 a12, .bool f13, .int .i64 a14, .bool f15, .int .i64 a16, .bool f17, .int .i64 a18, .bool f19, .int .i64 a20, .bool f21, .int .i64 a22, .bool f23, .int .i64 a24, .bool f25, .int .i64 a26, .bool f27, .int .i64 a28, .bool f29, .int .i64 a30, .bool f31, .bool f32, .int .i64 a33] := g6
    rw [show Try.prog.cellsOf 59 = 27 by kernel_rfl] at g6
    have k6 : cs.drop 7 = [.int .i64 a7, .int .i64 a8, .int .i64 a9, .int .i64 a10, v11, .int .i64 a12, .bool f13, .int .i64 a14, .bool f15, .int .i64 a16, .bool f17, .int .i64 a18, .bool f19, .int .i64 a20, .bool f21, .int .i64 a22, .bool f23, .int .i64 a24, .bool f25, .int .i64 a26, .bool f27, .int .i64 a28, .bool f29, .int .i64 a30, .bool f31, .bool f32, .int .i64 a33] ++ cs.drop 34 := dt g6
    obtain ⟨n34, c34, row34, l34, v34, g7, w34⟩ := c_sHandle (hf 7 _ rfl)
    have g7 : (cs.drop 34).take (Try.prog.cellsOf 60) = [v34] := g7
    rw [show Try.prog.cellsOf 60 = 1 by kernel_rfl] at g7
    have k7 : cs.drop 34 = [v34] ++ cs.drop 35 := dt g7
    obtain ⟨f35, a36, f37, a38, f39, a40, f41, g8, w36, w38, w40⟩ := c_Hit (hf 8 _ rfl)
    have g8 : (cs.drop 35).take (Try.prog.cellsOf 62) = [.bool f35, .int .i64 a36, .bool f37, .int .i64 a38, .bool f39, .int .i64 a40, .bool f41] := g8
    rw [show Try.prog.cellsOf 62 = 7 by kernel_rfl] at g8
    have k8 : cs.drop 35 = [.bool f35, .int .i64 a36, .bool f37, .int .i64 a38, .bool f39, .int .i64 a40, .bool f41] ++ cs.drop 42 := dt g8
    obtain ⟨a42, g9, _, w42⟩ := DataW.trod_int (k := .i64) (by kernel_rfl) (hf 9 _ rfl)
    have w42 := wf_i64 w42
    have g9 : (cs.drop 42).take (Try.prog.cellsOf 3) = [.int .i64 a42] := g9
    rw [show Try.prog.cellsOf 3 = 1 by kernel_rfl] at g9
    have k9 : cs.drop 42 = [.int .i64 a42] ++ cs.drop 43 := dt g9
    rw [show Try.prog.cellsOf 64 = 43 by kernel_rfl] at hl
    refine ⟨a0, a1, a2, a3, a4, a5, a6, a7, a8, a9, a10, n11, c11, row11, l11, v11, a12, f13, a14, f15, a16, f17, a18, f19, a20, f21, a22, f23, a24, f25, a26, f27, a28, f29, a30, f31, f32, a33, n34, c34, row34, l34, v34, f35, a36, f37, a38, f39, a40, f41, a42, ?_, w0, w1, w2, w3, w4, w5, w6, w7, w8, w9, w10, w11, w12, w14, w16, w18, w20, w22, w24, w26, w28, w30, w33, w34, w36, w38, w40, w42⟩
    show cs.drop 0 = _
    rw [k0, k1, k2, k3, k4, k5, k6, k7, k8, k9, List.drop_eq_nil_of_le (by omega)]
    rfl
theorem call_open {W : World} {b0 : Nat} {r : Reach} {v : Value} {d : DataW H} {p : List MemPlace} (hv : Value.okWide Try.prog W r b0 49 v) (h : DataW.Trod enc Try.prog W 0 (fun _ => true) true 49 v d p) :
    ∃ (k : Int) (s : CV) (n c : Nat) (row : Nat → List SV) (l : SE.Loc), I64 k ∧ cvOk s ∧ (∀ δ kk, δ kk = some l → absV δ (caS k s (.sl kk 2 0 n c)) v ∧ Live δ (Ro.blk ⟨2, n, row⟩) W l) ∧ ∀ i, i < n → isPI (row i) := by
  obtain ⟨cs, rfl, hsz⟩ := okWide_struct Try.underlying49 hv
  obtain ⟨fuel, hf⟩ := h
  obtain ⟨a0, a1, a2, a3, a4, a5, a6, a7, a8, n9, c9, row9, l9, v9, a10, f11, a12, f13, a14, f15, a16, f17, a18, f19, a20, f21, a22, f23, a24, f25, a26, f27, a28, f29, a30, f31, a32, f33, a34, a35, a36, a37, a38, a39, a40, a41, a42, h1, w0, w1, w2, w3, w4, w5, w6, w7, w8, w9, w10, w12, w14, w16, w18, w20, w22, w24, w26, w28, w30, w32, w34, w35, w36, w37, w38, w39, w40, w41, w42⟩ := c_Call hf
  obtain ⟨cs⟩ := cs
  simp only [Value.cells] at h1
  subst h1
  refine ⟨a0, ⟨a1, a2, a3, a4, a5, a6, a7, a8, a10, f11, a12, f13, a14, f15, a16, f17, a18, f19, a20, f21, a22, f23, a24, f25, a26, f27, a28, f29, a30, f31, a32, f33, a34, a35, a36, a37, a38, a39, a40, a41, a42⟩, n9, c9, row9, l9, w0, ⟨w1, w2, w3, w4, w5, w6, w7, w8, w10, w12, w14, w16, w18, w20, w22, w24, w26, w28, w30, w32, w34, w35, w36, w37, w38, w39, w40, w41, w42⟩, fun δ kk hd => ⟨?_, (w9.1 δ kk hd).2⟩, w9.2⟩
  have hp := (w9.1 δ kk hd).1
  simp only [caS, absV, absL] at hp ⊢
  exact ⟨_, rfl, rfl, rfl, rfl, rfl, rfl, rfl, rfl, rfl, rfl, hp, rfl, rfl, rfl, rfl, rfl, rfl, rfl, rfl, rfl, rfl, rfl, rfl, rfl, rfl, rfl, rfl, rfl, rfl, rfl, rfl, rfl, rfl, rfl, rfl, rfl, rfl, rfl, rfl, rfl, rfl, rfl, rfl, rfl, trivial⟩
end
end Go.Proofs.Ytjdldadmaaeimaa
