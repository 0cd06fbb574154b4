import Derived.Test.YtheljpebapokjaaRows
import Derived.Test.YtheljpebapokjaaFxMath
import Derived.ProofKit

section
/-
  The frame of a law: whatever the input, it answers true and leaves what was there as it was.
-/
set_option maxRecDepth 100000
namespace Go.Proofs.Ytheljpebapokjaa
open Go.ChangeShapes Go.WideShapes Go.ChangeAt Go.RowKit

theorem Try.own : ownKnob Try.prog.godebug = none := by kernel_rfl
theorem Try.laidOut : laidOutB Try.prog = true := by kernel_rfl

section
variable {H : Type} {enc : TypeId × Value → H}
theorem trodAll_below {P : Program} (hl : laidOutB P = true) {W W' : World} (hb : Below W.heap.size W W') :
    ∀ {ts : List TypeId} {vs : List Value} {ds : List (DataW H)} {ps : List MemPlace}, (∀ t ∈ ts, P.readableRec t = true ∧ t < P.types.size) → DataW.TrodAll enc P W 0 (fun _ => true) true ts vs ds ps →
      (∀ x ∈ ps, x.block < W.heap.size) → DataW.TrodAll enc P W' 0 (fun b => decide (b < W.heap.size)) true ts vs ds ps
  | [], [], [], _, _, h, _ => h
  | [], [], _ :: _, _, _, h, _ => h.elim
  | [], _ :: _, _, _, _, h, _ => h.elim
  | _ :: _, [], _, _, _, h, _ => h.elim
  | _ :: _, _ :: _, [], _, _, h, _ => h.elim
  | t :: ts, v :: vs, d :: ds, ps, ht, h, hlt => by
    obtain ⟨p, q, h1, h2, rfl⟩ := h
    have hd := ht t (List.mem_cons_self ..)
    exact ⟨p, q, Below.trod hl hd.1 hd.2 h1 hb fun x hx => hlt x (List.mem_append_left _ hx), trodAll_below hl hb (fun t' h' => ht t' (List.mem_cons_of_mem _ h')) h2 fun x hx => hlt x (List.mem_append_right _ hx), rfl⟩
theorem trodAll_len {P : Program} {W : World} {b : Nat} {sp : Nat → Bool} {hd : Bool} : ∀ {ts : List TypeId} {vs : List Value} {ds : List (DataW H)} {ps : List MemPlace}, DataW.TrodAll enc P W b sp hd ts vs ds ps → ds.length = ts.length
  | [], [], [], _, _ => rfl
  | [], [], _ :: _, _, h => h.elim
  | [], _ :: _, _, _, h => h.elim
  | _ :: _, [], _, _, h => h.elim
  | _ :: _, _ :: _, [], _, h => h.elim
  | _ :: _, _ :: _, _ :: _, _, ⟨_, _, _, h2, _⟩ => by simp [trodAll_len h2]

/-- A law's frame. -/
theorem law_frame {f : FuncId} {fn : Func} {s : ChangeSpec} {apart fresh handsOn : Bool} (hn : s.vars = []) (hr : fn.resultTypes = #[4])
    (hts : (fn.params.toList.all fun t => Try.prog.readableRec t && decide (t < Try.prog.types.size)) = true)
    (hspec : ∀ ds : List (DataW H), ds.length = fn.params.size → s.fn H ds = { results := [.lit (.bool true)], args := ds })
    (hc : ∀ (W : World) (base : Nat) (args : Array Value) (ds : List (DataW H)) (ps : List MemPlace), (∀ (j : Nat) t v, fn.params[j]? = some t → args[j]? = some v → Value.okWide Try.prog W .any base t v) →
      DataW.TrodAll enc Try.prog W 0 (fun _ => true) true fn.params.toList args.toList ds ps → Calls Try.prog f args W fun e W' => e = .returned (.bool true) ∧ Below W.heap.size W W')
    (W : World) (base : Nat) (args : Array Value) (ds gs : List (DataW H)) (before : List MemPlace)
    (hval : ∀ (j : Nat) t v, fn.params[j]? = some t → args[j]? = some v → Value.okWide Try.prog W .any base t v)
    (hW : DataW.Whole enc Try.prog fn.params.toList s.vars apart W args.toList ds gs before) :
    Calls Try.prog f args W fun e W' => ∃ v, e = .returned v ∧ s.post enc Try.prog fn apart fresh handsOn false W args v W' := by
  have hW' := hW
  obtain ⟨p, q, hA, hV, rfl, hfz, hnd⟩ := hW
  rw [hn] at hV
  obtain ⟨rfl, rfl⟩ := trodVars_none hV
  have hlen : ds.length = fn.params.size := by rw [trodAll_len hA, Array.length_toList]
  have hlt : ∀ x ∈ p, x.block < W.heap.size := fun x hx => by simpa using hW'.lt x (by simpa using hx)
  refine (hc W base args ds p hval hA).mono fun e W' ⟨he, hb⟩ => ⟨.bool true, he, ds, [], p ++ [], [], p, [], hW', ?_, ?_, ?_, hb.frame _, fun h => by cases h⟩
  · rw [hr, List.append_nil, hspec ds hlen]
    exact trodAll_mk1 (shut_bool Try.underlying4 true)
  · rw [List.append_nil, hspec ds hlen]
    refine trodAll_below Try.laidOut hb (fun t ht => ?_) hA hlt
    have := List.all_eq_true.1 hts t ht
    simp only [Bool.and_eq_true, decide_eq_true_eq] at this
    exact this
  · rw [hn, List.append_nil, hspec ds hlen]
    exact rfl

theorem wf_i64 {n : Int} (hw : (Lit.int .i64 n).wf = true) : I64 n := by
  simp only [Lit.wf, Bool.and_eq_true, decide_eq_true_eq] at hw
  have e1 : IntKind.i64.min = -9223372036854775808 := by kernel_rfl
  have e2 : IntKind.i64.max = 9223372036854775807 := by kernel_rfl
  rw [e1, e2] at hw
  exact ⟨by omega, by omega⟩
theorem num_open {W : World} {b0 base : Nat} {r : Reach} {sp : Nat → Bool} {hd : Bool} {v : Value} {d : DataW H} {p : List MemPlace} (hv : Value.okWide Try.prog W r b0 23 v) (h : DataW.Trod enc Try.prog W base sp hd 23 v d p) :
    ∃ (n : Int) (f : Bool), v = .agg #[.int .i64 n, .bool f] ∧ I64 n := by
  obtain ⟨cs, rfl, hsz⟩ := okWide_struct Try.underlying23 hv
  obtain ⟨fuel, hf⟩ := h
  obtain ⟨y0, y1, n, hx, hl, h0, h1⟩ := trod_struct2 Try.underlying23 hf
  obtain ⟨a, h2, _, wa⟩ := DataW.trod_int (k := .i64) (by kernel_rfl) h0
  obtain ⟨f, h3, _⟩ := DataW.trod_bool (by kernel_rfl) h1
  have e0 : (Try.prog.cellsOf 2) = 1 := by kernel_rfl
  have e1 : (Try.prog.cellsOf 4) = 1 := by kernel_rfl
  have e2 : (Try.prog.cellsOf 23) = 2 := by kernel_rfl
  rw [e2] at hsz
  simp only [Value.cells] at h2 h3
  rw [e0] at h2
  rw [e1] at h3
  obtain ⟨cs⟩ := cs
  match cs, hsz, h2, h3 with
  | [x, y], _, h2, h3 =>
    simp at h2 h3
    subst h2 h3
    exact ⟨a, f, rfl, wf_i64 wa⟩
theorem int_open {W : World} {b0 base : Nat} {r : Reach} {sp : Nat → Bool} {hd : Bool} {t : TypeId} {v : Value} {d : DataW H} {p : List MemPlace} (ht : Try.prog.underlying t = some (.int .i64)) (hv : Value.okWide Try.prog W r b0 t v) (h : DataW.Trod enc Try.prog W base sp hd t v d p) :
    ∃ n : Int, v = .int .i64 n ∧ I64 n := by
  obtain ⟨n, rfl, _, _, hw⟩ := open_int ht hv h
  exact ⟨n, rfl, wf_i64 hw⟩
end
end Go.Proofs.Ytheljpebapokjaa
end

section
/-
  What a law's arguments are: places and poses.
-/
set_option maxRecDepth 100000
namespace Go.Proofs.Ytheljpebapokjaa
open Go.ChangeShapes Go.WideShapes Go.ChangeAt Go.RowKit

section
variable {H : Type} {enc : TypeId × Value → H}
theorem num_cells {W : World} {base : Nat} {sp : Nat → Bool} {hd : Bool} {fuel : Nat} {cs : List Value} {y : DataW H × List MemPlace} (h : DataW.trod enc Try.prog W base sp hd fuel 23 cs = some y) :
    ∃ (n : Int) (f : Bool), cs = [.int .i64 n, .bool f] ∧ I64 n := by
  obtain ⟨y0, y1, n, hx, hl, h0, h1⟩ := trod_struct2 Try.underlying23 h
  obtain ⟨a, h2, _, wa⟩ := DataW.trod_int (k := .i64) (by kernel_rfl) h0
  obtain ⟨f, h3, _⟩ := DataW.trod_bool (by kernel_rfl) h1
  have e0 : (Try.prog.cellsOf 2) = 1 := by kernel_rfl
  have e1 : (Try.prog.cellsOf 4) = 1 := by kernel_rfl
  have e2 : (Try.prog.cellsOf 23) = 2 := by kernel_rfl
  rw [e2] at hl
  rw [e0] at h2
  rw [e1] at h3
  match cs, hl, h2, h3 with
  | [x, y], _, h2, h3 =>
    simp at h2 h3
    subst h2 h3
    exact ⟨a, f, rfl, wf_i64 wa⟩
theorem vec_cells {W : World} {base : Nat} {sp : Nat → Bool} {hd : Bool} {fuel : Nat} {cs : List Value} {y : DataW H × List MemPlace} (h : DataW.trod enc Try.prog W base sp hd fuel 25 cs = some y) :
    ∃ (a : Int) (f : Bool) (b : Int) (g : Bool), cs = [.int .i64 a, .bool f, .int .i64 b, .bool g] ∧ I64 a ∧ I64 b := by
  obtain ⟨y0, y1, n, hx, hl, h0, h1⟩ := trod_struct2 Try.underlying25 h
  obtain ⟨a, f, h2, wa⟩ := num_cells h0
  obtain ⟨b, g, h3, wb⟩ := num_cells h1
  have e2 : (Try.prog.cellsOf 23) = 2 := by kernel_rfl
  have e4 : (Try.prog.cellsOf 25) = 4 := by kernel_rfl
  rw [e4] at hl
  simp only [e2] at h2 h3
  match cs, hl, h2, h3 with
  | [x0, x1, x2, x3], _, h2, h3 =>
    simp at h2 h3
    obtain ⟨rfl, rfl⟩ := h2
    obtain ⟨rfl, rfl⟩ := h3
    exact ⟨a, f, b, g, rfl, wa, wb⟩
theorem rot_cells {W : World} {base : Nat} {sp : Nat → Bool} {hd : Bool} {fuel : Nat} {cs : List Value} {y : DataW H × List MemPlace} (h : DataW.trod enc Try.prog W base sp hd fuel 70 cs = some y) :
    ∃ (a : Int) (f : Bool) (b : Int) (g : Bool), cs = [.int .i64 a, .bool f, .int .i64 b, .bool g] ∧ I64 a ∧ I64 b := by
  obtain ⟨y0, y1, n, hx, hl, h0, h1⟩ := trod_struct2 Try.underlying70 h
  obtain ⟨a, f, h2, wa⟩ := num_cells h0
  obtain ⟨b, g, h3, wb⟩ := num_cells h1
  have e2 : (Try.prog.cellsOf 23) = 2 := by kernel_rfl
  have e4 : (Try.prog.cellsOf 70) = 4 := by kernel_rfl
  rw [e4] at hl
  simp only [e2] at h2 h3
  match cs, hl, h2, h3 with
  | [x0, x1, x2, x3], _, h2, h3 =>
    simp at h2 h3
    obtain ⟨rfl, rfl⟩ := h2
    obtain ⟨rfl, rfl⟩ := h3
    exact ⟨a, f, b, g, rfl, wa, wb⟩
theorem pose_cells {W : World} {base : Nat} {sp : Nat → Bool} {hd : Bool} {fuel : Nat} {cs : List Value} {y : DataW H × List MemPlace} (h : DataW.trod enc Try.prog W base sp hd fuel 72 cs = some y) :
    ∃ (a : Int) (f : Bool) (b : Int) (g : Bool) (c : Int) (k : Bool) (d : Int) (l : Bool), cs = [.int .i64 a, .bool f, .int .i64 b, .bool g, .int .i64 c, .bool k, .int .i64 d, .bool l] ∧ (I64 a ∧ I64 b) ∧ (I64 c ∧ I64 d) := by
  obtain ⟨y0, y1, n, hx, hl, h0, h1⟩ := trod_struct2 Try.underlying72 h
  obtain ⟨a, f, b, g, h2, w1⟩ := vec_cells h0
  obtain ⟨c, k, d, l, h3, w2⟩ := rot_cells h1
  have e4 : (Try.prog.cellsOf 25) = 4 := by kernel_rfl
  have e4' : (Try.prog.cellsOf 70) = 4 := by kernel_rfl
  have e8 : (Try.prog.cellsOf 72) = 8 := by kernel_rfl
  rw [e8] at hl
  simp only [e4, e4'] at h2 h3
  match cs, hl, h2, h3 with
  | [x0, x1, x2, x3, x4, x5, x6, x7], _, h2, h3 =>
    simp at h2 h3
    obtain ⟨rfl, rfl, rfl, rfl⟩ := h2
    obtain ⟨rfl, rfl, rfl, rfl⟩ := h3
    exact ⟨a, f, b, g, c, k, d, l, rfl, w1, w2⟩
theorem vec_open {W : World} {b0 base : Nat} {r : Reach} {sp : Nat → Bool} {hd : Bool} {v : Value} {d : DataW H} {p : List MemPlace} (hv : Value.okWide Try.prog W r b0 25 v) (h : DataW.Trod enc Try.prog W base sp hd 25 v d p) :
    ∃ (a : Int) (f : Bool) (b : Int) (g : Bool), v = .agg #[.int .i64 a, .bool f, .int .i64 b, .bool g] ∧ I64 a ∧ I64 b := by
  obtain ⟨cs, rfl, hsz⟩ := okWide_struct Try.underlying25 hv
  obtain ⟨fuel, hf⟩ := h
  obtain ⟨a, f, b, g, h, w⟩ := vec_cells hf
  obtain ⟨cs⟩ := cs
  simp only [Value.cells] at h
  subst h
  exact ⟨a, f, b, g, rfl, w⟩
theorem rot_open {W : World} {b0 base : Nat} {r : Reach} {sp : Nat → Bool} {hd : Bool} {v : Value} {d : DataW H} {p : List MemPlace} (hv : Value.okWide Try.prog W r b0 70 v) (h : DataW.Trod enc Try.prog W base sp hd 70 v d p) :
    ∃ (a : Int) (f : Bool) (b : Int) (g : Bool), v = .agg #[.int .i64 a, .bool f, .int .i64 b, .bool g] ∧ I64 a ∧ I64 b := by
  obtain ⟨cs, rfl, hsz⟩ := okWide_struct Try.underlying70 hv
  obtain ⟨fuel, hf⟩ := h
  obtain ⟨a, f, b, g, h, w⟩ := rot_cells hf
  obtain ⟨cs⟩ := cs
  simp only [Value.cells] at h
  subst h
  exact ⟨a, f, b, g, rfl, w⟩
theorem pose_open {W : World} {b0 base : Nat} {r : Reach} {sp : Nat → Bool} {hd : Bool} {v : Value} {d : DataW H} {p : List MemPlace} (hv : Value.okWide Try.prog W r b0 72 v) (h : DataW.Trod enc Try.prog W base sp hd 72 v d p) :
    ∃ (a : Int) (f : Bool) (b : Int) (g : Bool) (c : Int) (k : Bool) (e : Int) (l : Bool), v = .agg #[.int .i64 a, .bool f, .int .i64 b, .bool g, .int .i64 c, .bool k, .int .i64 e, .bool l] ∧ (I64 a ∧ I64 b) ∧ (I64 c ∧ I64 e) := by
  obtain ⟨cs, rfl, hsz⟩ := okWide_struct Try.underlying72 hv
  obtain ⟨fuel, hf⟩ := h
  obtain ⟨a, f, b, g, c, k, e, l, h, w⟩ := pose_cells hf
  obtain ⟨cs⟩ := cs
  simp only [Value.cells] at h
  subst h
  exact ⟨a, f, b, g, c, k, e, l, rfl, w⟩
end
end Go.Proofs.Ytheljpebapokjaa
end
