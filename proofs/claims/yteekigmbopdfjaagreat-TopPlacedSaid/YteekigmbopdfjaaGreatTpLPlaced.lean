/-
  TopPlaced answers true, whatever the input. No condition.
-/
import Derived.Test.YteekigmbopdfjaaGreatZp15
import Derived.Deep.Slices
import Derived.Deep.Fields
set_option maxRecDepth 100000
set_option linter.unusedVariables false
set_option linter.unusedSimpArgs false
namespace Go.Proofs.YteekigmbopdfjaaGreat
open Go.ChangeShapes Go.WideShapes Go.ChangeAt Go.RowKit Go.SE

section
variable {H : Type} {enc : TypeId × Value → H}
theorem made_cells {W : World} {base : Nat} {sp : Nat → Bool} {hd : Bool} {fuel : Nat} {cs : List Value} {y : DataW H × List MemPlace} (h : DataW.trod enc Tryz.prog W base sp hd fuel 23 cs = some y) :
    ∃ (a b c d e f : Int), cs = [.int .i64 a, .int .i64 b, .int .i64 c, .int .i64 d, .int .i64 e, .int .i64 f] ∧ I64 a ∧ I64 b ∧ I64 c ∧ I64 d ∧ I64 e ∧ I64 f := by
  obtain ⟨xs, m, _, _, hl, hlen, hf⟩ := DataW.trod_struct Tryz.underlying23 h
  match xs, hlen with
  | [y0, y1, y2, y3, y4, y5], _ =>
    have h0 := hf 0 _ rfl
    have h1 := hf 1 _ rfl
    have h2 := hf 2 _ rfl
    have h3 := hf 3 _ rfl
    have h4 := hf 4 _ rfl
    have h5 := hf 5 _ rfl
    obtain ⟨a, g0, _, w0⟩ := DataW.trod_int (k := .i64) (by kernel_rfl) h0
    obtain ⟨b, g1, _, w1⟩ := DataW.trod_int (k := .i64) (by kernel_rfl) h1
    obtain ⟨c, g2, _, w2⟩ := DataW.trod_int (k := .i64) (by kernel_rfl) h2
    obtain ⟨d, g3, _, w3⟩ := DataW.trod_int (k := .i64) (by kernel_rfl) h3
    obtain ⟨e, g4, _, w4⟩ := DataW.trod_int (k := .i64) (by kernel_rfl) h4
    obtain ⟨f, g5, _, w5⟩ := DataW.trod_int (k := .i64) (by kernel_rfl) h5
    have e0 : (Tryz.prog.cellsOf 2) = 1 := by kernel_rfl
    have e3 : (Tryz.prog.cellsOf 3) = 1 := by kernel_rfl
    have e6 : (Tryz.prog.cellsOf 23) = 6 := by kernel_rfl
    rw [e6] at hl
    have g0 : (cs.drop 0).take (Tryz.prog.cellsOf 3) = [.int .i64 a] := g0
    have g1 : (cs.drop 1).take (Tryz.prog.cellsOf 3) = [.int .i64 b] := g1
    have g2 : (cs.drop 2).take (Tryz.prog.cellsOf 3) = [.int .i64 c] := g2
    have g3 : (cs.drop 3).take (Tryz.prog.cellsOf 2) = [.int .i64 d] := g3
    have g4 : (cs.drop 4).take (Tryz.prog.cellsOf 2) = [.int .i64 e] := g4
    have g5 : (cs.drop 5).take (Tryz.prog.cellsOf 2) = [.int .i64 f] := g5
    rw [e3] at g0 g1 g2
    rw [e0] at g3 g4 g5
    clear h0 h1 h2 h3 h4 h5 hf
    match cs, hl, g0, g1, g2, g3, g4, g5 with
    | [x0, x1, x2, x3, x4, x5], _, g0, g1, g2, g3, g4, g5 =>
      simp at g0 g1 g2 g3 g4 g5
      subst g0 g1 g2 g3 g4 g5
      exact ⟨a, b, c, d, e, f, rfl, Qok w0, Qok w1, Qok w2, Qok w3, Qok w4, Qok w5⟩
theorem made_open {W : World} {b0 base : Nat} {r : Reach} {sp : Nat → Bool} {hd : Bool} {v : Value} {d : DataW H} {p : List MemPlace} (hv : Value.okWide Tryz.prog W r b0 23 v) (h : DataW.Trod enc Tryz.prog W base sp hd 23 v d p) :
    ∃ (m : MD), v = .agg #[.int .i64 m.k, .int .i64 m.a, .int .i64 m.b, .int .i64 m.x, .int .i64 m.y, .int .i64 m.w] ∧ mdI m := by
  obtain ⟨cs, rfl, hsz⟩ := okWide_struct Tryz.underlying23 hv
  obtain ⟨fuel, hf⟩ := h
  obtain ⟨k, a, b, x, y, w, g0, w0⟩ := made_cells hf
  obtain ⟨cs⟩ := cs
  have g0 : cs = [.int .i64 k, .int .i64 a, .int .i64 b, .int .i64 x, .int .i64 y, .int .i64 w] := g0
  subst g0
  exact ⟨⟨k, a, b, x, y, w⟩, rfl, w0⟩
end
theorem topPlaced_lifted (os : Os) (started : os.Started) (H : Type) (enc : TypeId × Value → H) :
    ReturnsInHanded {} Tryz.checked os 4 .any (Rows.topPlacedSpec.pre6 enc Tryz.prog Tryz.f4 Rows.topPlacedRow.domain false) (Rows.topPlacedSpec.post enc Tryz.prog Tryz.f4 false true false false) := by
  refine returnsInHanded_of_change (C := Tryz.checked) Tryz.own started (by kernel_rfl) Tryz.func4
    (ChangeSpec.witness6 (enc := enc) (C := Tryz.checked) false ⟨#[], #[.agg #[.int .i64 0, .int .i64 0, .int .i64 0, .int .i64 0, .int .i64 0, .int .i64 0]], []⟩ 8 (by kernel_rfl) (by kernel_rfl) (by kernel_rfl) (by kernel_rfl)) ?_
  intro W base args ds gs before hval hW _ _
  refine Q2w rfl rfl (by kernel_rfl) (fun ds hl => ?_) (fun W base args ds ps hval hA => ?_) W base args ds gs before hval hW
  · match ds, hl with
    | [_], _ => rfl
  · have hA0 : DataW.TrodAll enc Tryz.prog W 0 (fun _ => true) true [23] args.toList ds ps := hA
    obtain ⟨vs⟩ := args
    obtain ⟨v0, vs, d0, _, p0, _, rfl, rfl, rfl, k0, hA0⟩ := trodAll_cons hA0
    obtain ⟨rfl, rfl, rfl⟩ := trodAll_nil hA0
    obtain ⟨m, rfl, h0⟩ := made_open (hval 0 23 _ rfl rfl) k0
    exact (Q71 [mdS m] _ _ rfl (fun q hq => by cases hq; exact h0)).2.2 W

theorem topPlaced_holds : Rows.TopPlacedSaid :=
  OpenClaim.holds_of_wide 4 Tryz.f4 rfl rfl rfl rfl rfl rfl rfl ⟨rfl, rfl, rfl, rfl, rfl⟩ rfl rfl rfl rfl rfl (by kernel_rfl) Tryz.func4 (by kernel_rfl)
    (of_decide_eq_true (by kernel_rfl)) (by unfold Func.isWrapper; rw [if_neg (by decide +kernel)]; exact ⟨rfl, rfl⟩)
    (fun os started H enc _ => topPlaced_lifted os started H enc)

#print axioms topPlaced_holds
end Go.Proofs.YteekigmbopdfjaaGreat
