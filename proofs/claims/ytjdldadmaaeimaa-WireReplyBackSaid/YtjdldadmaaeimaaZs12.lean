/-
  What the proof uses, part 12.
-/
import Derived.Deep.Slices
import Derived.Deep.Fields
import Derived.Test.YtjdldadmaaeimaaZs11
set_option maxRecDepth 100000
set_option linter.unusedSimpArgs false
set_option linter.unusedVariables false

section
namespace Go.Proofs.Ytjdldadmaaeimaa
open Go.ChangeShapes Go.WideShapes Go.ChangeAt Go.RowKit Go.SE Go.Deep
section
variable {H : Type} {enc : TypeId × Value → H}
def listD (ls : List SE.Loc) : Dict := fun k => ls[k]?
theorem list_rep {W : World} {ls : List SE.Loc} {bs : List Ro} (h : ∀ (k : Nat) (b : Ro), bs[k]? = some b → ∃ l, ls[k]? = some l ∧ Live (listD ls) b.blk W l) : HRep (listD ls) (heapOf (bs.map Ro.blk)) W := by
  refine ⟨fun k b' hk => ?_, fun k k' r b' h1 h2 hk hrw => ?_⟩
  · simp only [heapOf, List.getElem?_map] at hk
    cases hb : bs[k]? with
    | none => rw [hb] at hk; cases hk
    | some b =>
      rw [hb] at hk
      cases hk
      obtain ⟨l, h1, h2⟩ := h k b hb
      exact ⟨l, h1, fun _ => h2⟩
  · simp only [heapOf, List.getElem?_map] at hk
    cases hb : bs[k]? with
    | none => rw [hb] at hk; cases hk
    | some b => rw [hb] at hk; cases hk; cases hrw
theorem roOf_map : ∀ bs : List Ro, roOf (bs.map Ro.blk) = some bs
  | [] => rfl
  | b :: bs => by
    simp only [List.map_cons, roOf, roOf_map bs]
    rfl
theorem ro_calls {f : FuncId} {spec : List SV → List Ro → Option (Option Prop × SV)} (h : RoSpec Try.prog f spec) {args : List SV} {vs : List Value} {ls : List SE.Loc} {bs : List Ro} {W : World} (ha : absL (listD ls) args vs)
    (hl : ∀ (k : Nat) (b : Ro), bs[k]? = some b → ∃ l, ls[k]? = some l ∧ Live (listD ls) b.blk W l) (hn : ls.length = bs.length) (hb : bs.length ≤ 1000) {p : Prop} (hs : spec args bs = some (some p, .v (.bool true))) (hp : p) :
    Calls Try.prog f vs.toArray W fun e W' => e = .returned (.bool true) ∧ Below W.heap.size W W' := by
  have hs' : roSpec spec args (bs.map Ro.blk) = some (.det (some p) (.v (.bool true)) []) := by
    unfold roSpec
    rw [roOf_map]
    show (match spec args bs with | some (p, x) => some (Eff.det p x []) | none => none) = _
    rw [hs]
  refine (h _ _ _ hs' (fun q hq => by cases hq; exact hp) (listD ls) W vs ha (list_rep hl) (fun k hk => ?_) (by simpa using hb)).mono fun e W' ⟨r, x, u, δ', h1, h2, _, h4, h5⟩ => ?_
  · simp only [heapOf, List.getElem?_map, Option.map_eq_none_iff, List.getElem?_eq_none_iff] at hk
    simp only [listD, List.getElem?_eq_none_iff]
    omega
  · obtain ⟨rfl, rfl⟩ := h2
    simp only [absV] at h4
    subst h4
    refine ⟨h1, h5.wrel.os, h5.wrel.tape, h5.wrel.output, h5.wrel.size, fun k hk => h5.wrel.block k hk ?_⟩
    rintro ⟨k', b, hb, hrw, _⟩
    simp only [heapOf, List.getElem?_map] at hb
    cases hb' : bs[k']? with
    | none => rw [hb'] at hb; cases hb
    | some b => rw [hb'] at hb; cases hb; cases hrw
theorem cell_at {W : World} {a : Addr} {v : Value} (h : W.cell? a = some v) : a.spot = none ∧ ∃ c e fz, W.heap[a.block]? = some (.cells c e fz) ∧ c[a.off]? = some v := by
  unfold World.cell? at h
  split at h
  · rename_i c e fz hc
    split at h
    · cases h
    · rename_i hs
      exact ⟨by simpa using hs, c, e, fz, hc, h⟩
  · cases h
theorem add_flat (g o n : Nat) : (⟨g, o, none⟩ : Addr).add n = ⟨g, o + n, none⟩ := by
  unfold Addr.add
  split
  · rename_i h; subst h; rfl
  · rfl
theorem nameless_map : ∀ xs : List Value, namelessL (xs.map SV.v) = true
  | [] => rfl
  | x :: xs => by simp only [List.map_cons, namelessL, nameless, nameless_map xs, Bool.and_self]
theorem rows_open {W : World} {ts te : TypeId} {k fuel : Nat} {cs : List Value} {y : DataW H × List MemPlace} (hk : 0 < k) (hu : Try.prog.underlying ts = some (.slice te)) (hc : Try.prog.cellsOf te = k) {Q : List Value → Prop}
    (hQ : ∀ fuel cs y, DataW.trod enc Try.prog W 0 (fun _ => true) true fuel te cs = some y → Q cs) (h : DataW.trod enc Try.prog W 0 (fun _ => true) true fuel ts cs = some y) :
    ∃ (n c : Nat) (row : Nat → List SV) (l : SE.Loc) (v : Value), cs = [v] ∧ (∀ δ kk, δ kk = some l → absV δ (.sl kk k 0 n c) v ∧ Live δ (Ro.blk ⟨k, n, row⟩) W l) ∧ n ≤ c ∧ ∀ i, i < n → ∃ xs, row i = xs.map SV.v ∧ Q xs := by
  have nil : ∀ v, v = Value.slice none 0 0 → ∀ δ kk, δ kk = some (⟨0, k, 0, 0, true⟩ : SE.Loc) → absV δ (.sl kk k 0 0 0) v ∧ Live δ (Ro.blk ⟨k, 0, fun _ => []⟩) W ⟨0, k, 0, 0, true⟩ := by
    rintro v rfl δ kk hd
    simp only [absV]
    exact ⟨⟨_, hd, rfl, Nat.le_refl _, (.inr ⟨trivial, trivial, _, rfl⟩)⟩, ⟨rfl, rfl, fun _ => ⟨rfl, rfl⟩, fun hh => by cases hh⟩⟩
  rcases open_slice hu h with ⟨h1, _⟩ | ⟨a, len, cap, m, n, D, Pl, h1, _, hle, _, hm, _, hi⟩
  · exact ⟨0, 0, fun _ => [], ⟨0, k, 0, 0, true⟩, _, h1, nil _ rfl, Nat.le_refl _, fun i hi => absurd hi (Nat.not_lt_zero _)⟩
  · rw [if_pos rfl] at hm
    subst hm
    rw [hc] at hi
    rcases Nat.eq_zero_or_pos m with h0 | h0
    · subst h0
      obtain rfl : len = 0 := by omega
      refine ⟨0, 0, fun _ => [], ⟨0, k, 0, 0, true⟩, _, h1, ?_, Nat.le_refl _, fun i hi => absurd hi (Nat.not_lt_zero _)⟩
      intro δ kk hd
      simp only [absV]
      exact ⟨⟨_, hd, rfl, Nat.le_refl _, (.inr ⟨trivial, trivial, _, rfl⟩)⟩, ⟨rfl, rfl, fun _ => ⟨rfl, rfl⟩, fun hh => by cases hh⟩⟩
    · have cells : ∀ i, i < m → ∃ xs : List Value, xs.length = k ∧ Q xs ∧ ∀ j, j < k → W.cell? ((a.add (i * k)).add j) = xs[j]? := by
        intro i him
        obtain ⟨cs', h1, h2⟩ := hi i him
        obtain ⟨_, hlen, hc⟩ := World.cells?_some h1
        exact ⟨cs', hlen, hQ _ _ _ h2, hc⟩
      obtain ⟨xs0, hl0, _, k0⟩ := cells 0 h0
      have k0 := k0 0 hk
      rw [List.getElem?_eq_getElem (by omega)] at k0
      obtain ⟨g, o, sp⟩ := a
      obtain ⟨hs, c, e, fz, hh, ho⟩ := cell_at k0
      obtain rfl : sp = none := by cases sp with | none => rfl | some q => simp [Addr.add] at hs
      rw [add_flat, add_flat] at hh ho
      have hh : W.heap[g]? = some (.cells c e fz) := hh
      have ho : c[o + 0 * k + 0]? = some xs0[0] := ho
      have at1 : ∀ i, i < m → ∃ xs : List Value, xs.length = k ∧ Q xs ∧ ∀ j, j < k → c[o + i * k + j]? = xs[j]? := by
        intro i him
        obtain ⟨xs, hl, hq, g0⟩ := cells i him
        refine ⟨xs, hl, hq, fun j hj => ?_⟩
        have g0 := g0 j hj
        rw [List.getElem?_eq_getElem (by omega)] at g0 ⊢
        rw [add_flat, add_flat] at g0
        obtain ⟨_, c', e', fz', hh', ho'⟩ := cell_at g0
        have hh' : W.heap[g]? = some (.cells c' e' fz') := hh'
        rw [hh] at hh'
        cases hh'
        exact ho'
      have hsz : o ≤ c.size := by
        have := (Array.getElem?_eq_some_iff.1 ho).1
        omega
      let row : Nat → List SV := fun i => ((List.range k).map fun j => (c[o + i * k + j]?).getD undef).map SV.v
      have hrow : ∀ i, i < m → ∃ xs : List Value, xs.length = k ∧ Q xs ∧ row i = xs.map SV.v ∧ ∀ j, j < k → c[o + i * k + j]? = xs[j]? := by
        intro i him
        obtain ⟨xs, hl, hq, g0⟩ := at1 i him
        refine ⟨xs, hl, hq, ?_, g0⟩
        show ((List.range k).map fun j => (c[o + i * k + j]?).getD undef).map SV.v = _
        congr 1
        apply List.ext_getElem
        · simp [hl]
        · intro j h1 h2
          simp only [List.length_map, List.length_range] at h1
          simp only [List.getElem_map, List.getElem_range, g0 j h1]
          rw [List.getElem?_eq_getElem h2]; rfl
      refine ⟨len, m, row, ⟨g, k, o, len, false⟩, _, h1, fun δ kk hd => ⟨?_, ?_⟩, hle, fun i hi => ?_⟩
      · simp only [absV]
        exact ⟨_, hd, rfl, by show 0 + len ≤ len; omega, .inl ⟨rfl, by simp⟩⟩
      · refine ⟨rfl, rfl, (fun hh => by cases hh), fun _ => ⟨c, e, fz, hh, (fun hh => by cases hh), (fun _ i hi => ?_), (fun hh => absurd rfl hh), by show o + 0 * k ≤ c.size; omega, (fun hh => by cases hh), fun i hi => ?_⟩⟩
        · exact nameless_map _
        · obtain ⟨xs, hl, hq, hr, g0⟩ := hrow i (Nat.lt_of_lt_of_le hi hle)
          refine ⟨?_, fun j y hj => ?_⟩
          · show (row i).length = k
            rw [hr, List.length_map, hl]
          · have hj : (row i)[j]? = some y := hj
            rw [hr, List.getElem?_map] at hj
            cases hx : xs[j]? with
            | none => rw [hx] at hj; cases hj
            | some x =>
              rw [hx] at hj
              cases hj
              have hjk : j < k := by
                have := (List.getElem?_eq_some_iff.1 hx).1
                omega
              exact ⟨x, by show c[o + i * k + j]? = _; rw [g0 j hjk, hx], by simp only [absV]⟩
      · obtain ⟨xs, hl, hq, hr, g0⟩ := hrow i (Nat.lt_of_lt_of_le hi hle)
        exact ⟨xs, hr, hq⟩
theorem ints_open {W : World} {b0 : Nat} {r : Reach} {v : Value} {d : DataW H} {p : List MemPlace} (hv : Value.okWide Try.prog W r b0 30 v) (h : DataW.Trod enc Try.prog W 0 (fun _ => true) true 30 v d p) :
    ∃ (n c : Nat) (row : Nat → List SV) (l : SE.Loc), (∀ δ kk, δ kk = some l → absV δ (.sl kk 1 0 n c) v ∧ Live δ (Ro.blk ⟨1, n, row⟩) W l) ∧ ∀ i, i < n → ∃ a : Int, row i = [.v (.int .i64 a)] ∧ I64 a := by
  obtain ⟨a0, len, cap, rfl⟩ := okWide_slice Try.underlying30 hv
  obtain ⟨fuel, hf⟩ := h
  obtain ⟨n, c, row, l, v, h1, h2, hnc, h3⟩ := rows_open (k := 1) (Q := fun cs => ∃ a : Int, cs = [.int .i64 a] ∧ I64 a) (by omega) Try.underlying30 (by kernel_rfl) (fun fuel cs y h => by
    obtain ⟨a, h2, _, wa⟩ := DataW.trod_int (k := .i64) (by kernel_rfl) h
    exact ⟨a, h2, wf_i64 wa⟩) hf
  simp only [Value.cells, List.cons.injEq, and_true] at h1
  subst h1
  refine ⟨n, c, row, l, h2, fun i hi => ?_⟩
  obtain ⟨xs, hr, a, rfl, w⟩ := h3 i hi
  exact ⟨a, hr, w⟩
end
end Go.Proofs.Ytjdldadmaaeimaa
end
section
namespace Go.Proofs.Ytjdldadmaaeimaa
open Go.SE Go.RowKit
theorem hm : Try.prog.follows .mixedOrders = true := by kernel_rfl
def noΛ : Nat → Option LoopSpec := fun _ => none
end Go.Proofs.Ytjdldadmaaeimaa
end
section
namespace Go.Proofs.Ytjdldadmaaeimaa
open Go.SE Go.RowKit
def nmA : List ByteArray := [⟨#[115, 112, 97, 119, 110]⟩, ⟨#[100, 101, 115, 116, 114, 111, 121]⟩, ⟨#[112, 117, 115, 104]⟩, ⟨#[103, 114, 97, 98]⟩, ⟨#[100, 114, 97, 103]⟩, ⟨#[114, 101, 108, 101, 97, 115, 101]⟩, ⟨#[108, 111, 111, 107]⟩, ⟨#[110, 101, 97, 114]⟩, ⟨#[114, 97, 121]⟩, ⟨#[99, 111, 117, 110, 116]⟩]
def emp : ByteArray := ⟨#[]⟩
def nmG (i : Nat) : ByteArray := nmA.getD i emp
def nameK (k : Int) : ByteArray := bif decide (1 ≤ k) && decide (k ≤ 10) then nmG (k.toNat - 1) else emp
def kindFrom (s : ByteArray) : List ByteArray → Int → Int
  | [], _ => 0
  | x :: rest, i => bif x == s then i else kindFrom s rest (i + 1)
def kindS (s : ByteArray) : Int := kindFrom s nmA 1
def strS (s : ByteArray) : SV := .v (.string s)
def sNames : List SV → Option (Option Prop × SV)
  | [] => some (none, .agg (nmA.map strS))
  | _ => none
def sName : List SV → Option (Option Prop × SV)
  | [.v (.int .i64 k)] => some (some (-9223372036854775808 ≤ k ∧ k < 9223372036854775808), strS (nameK k))
  | _ => none
def sKind : List SV → Option (Option Prop × SV)
  | [.v (.string s)] => some (none, .v (.int .i64 (kindS s)))
  | _ => none
def nmB : Blk := { elem := 9, size := 1, rw := true, lock := false, lit := false, flat := true, n := 11, row := fun i => [strS ((emp :: nmA).getD i emp)], ext := 11 }
def sRNames : List SV → List Blk → Option Eff
  | [], [] => some (.det none (.sl 1000 1 0 11 11) [(1000, nmB)])
  | _, _ => none
def ΓW0 : Ctrs := addCtr (addCtr noCtrs 57 (pureCtr sNames)) 58 (hpCtr true sRNames)
theorem vcNames (R : SV→Prop) : (vcPure Try.prog noCtrs noΛ Try.f57 [] R) = (R (SV.agg [(SV.v (.string ({data:=#[115,112,97,119,110]}))),(SV.v (.string ({data:=#[100,101,115,116,114,111,121]}))),(SV.v (.string ({data:=#[112,117,115,104]}))),(SV.v (.string ({data:=#[103,114,97,98]}))),(SV.v (.string ({data:=#[100,114,97,103]}))),(SV.v (.string ({data:=#[114,101,108,101,97,115,101]}))),(SV.v (.string ({data:=#[108,111,111,107]}))),(SV.v (.string ({data:=#[110,101,97,114]}))),(SV.v (.string ({data:=#[114,97,121]}))),(SV.v (.string ({data:=#[99,111,117,110,116]})))])):=by kernel_rfl
theorem vcRNames : (vcFn Try.prog noCtrs noΛ Try.f58 [] (heapOf []) 64 (fun y h' => FinE [] (.det none (.sl 1000 1 0 11 11) [(1000,nmB)]) y h')) = (((SV.sl 72 1 0 11 11) = (SV.sl 72 1 0 11 11))∧(((11 : Nat) = 11)∧(((11 : Nat) ≤ 11)∧(∀ i : Nat,(((i : Nat) < 11)→([(SV.v (.string (bop (Nat.beq i 0) {data:=#[]} (bop (Nat.beq i 1) {data:=#[115,112,97,119,110]} (bop (Nat.beq i 2) {data:=#[100,101,115,116,114,111,121]} (bop (Nat.beq i 3) {data:=#[112,117,115,104]} (bop (Nat.beq i 4) {data:=#[103,114,97,98]} (bop (Nat.beq i 5) {data:=#[100,114,97,103]} (bop (Nat.beq i 6) {data:=#[114,101,108,101,97,115,101]} (bop (Nat.beq i 7) {data:=#[108,111,111,107]} (bop (Nat.beq i 8) {data:=#[110,101,97,114]} (bop (Nat.beq i 9) {data:=#[114,97,121]} {data:=#[99,111,117,110,116]}))))))))))))] = [(SV.v (.string (List.getD (emp :: nmA) i emp)))])))))):=by kernel_rfl
noncomputable def ΛName (k : Int) : Nat → Option LoopSpec := addLoop noΛ Try.f16 0 Nat (fun i => i ≤ 10 ∧ ∀ j : Nat, j < i → (j : Int) + 1 ≠ k) (fun i => 10 - i) [(6, fun i => .v (.int .i64 i))] []
theorem vcName (k : Int) (R : SV→Prop) : (vcPure Try.prog ΓW0 (ΛName k) Try.f16 [.v (.int .i64 k)] R) =
((∃ x : Nat,((((x : Nat) ≤ 10)∧(∀ j : Nat,(((j : Nat) < x)→((((↑j : Int) + 1) : Int) ≠ k))))∧(((SV.v (.int .i64 0)) = (SV.v (.int .i64 ((↑x : Int)))))∧True)))∧(∀ x : Nat,((((x : Nat) ≤ 10)∧(∀ j : Nat,(((j : Nat) < x)→((((↑j : Int) + 1) : Int) ≠ k))))→(sel (decide ((↑x : Int) < 10)) ((((0 : Int) ≤ ((↑x : Int)))∧((((↑x : Int)) : Int) < 10))∧(sel (IntKind.wrap IntKind.i64 ((↑x : Int) + 1) == k) (R (SV.v (.string (bop (Nat.beq (Int.toNat (↑x : Int)) 0) {data:=#[115,112,97,119,110]} (bop (Nat.beq (Int.toNat (↑x : Int)) 1) {data:=#[100,101,115,116,114,111,121]} (bop (Nat.beq (Int.toNat (↑x : Int)) 2) {data:=#[112,117,115,104]} (bop (Nat.beq (Int.toNat (↑x : Int)) 3) {data:=#[103,114,97,98]} (bop (Nat.beq (Int.toNat (↑x : Int)) 4) {data:=#[100,114,97,103]} (bop (Nat.beq (Int.toNat (↑x : Int)) 5) {data:=#[114,101,108,101,97,115,101]} (bop (Nat.beq (Int.toNat (↑x : Int)) 6) {data:=#[108,111,111,107]} (bop (Nat.beq (Int.toNat (↑x : Int)) 7) {data:=#[110,101,97,114]} (bop (Nat.beq (Int.toNat (↑x : Int)) 8) {data:=#[114,97,121]} {data:=#[99,111,117,110,116]})))))))))))) (∃ x' : Nat,(((((x' : Nat) ≤ 10)∧(∀ j : Nat,(((j : Nat) < x')→((((↑j : Int) + 1) : Int) ≠ k))))∧(((SV.v (.int .i64 (IntKind.wrap IntKind.i64 ((↑x : Int) + 1)))) = (SV.v (.int .i64 ((↑x' : Int)))))∧True))∧(((10 - x') : Nat) < (10 - x)))))) (R (SV.v (.string ({data:=#[]})))))))) := by kernel_rfl
noncomputable def ΛKind (s : ByteArray) : Nat → Option LoopSpec := addLoop noΛ Try.f18 0 Nat (fun i => i ≤ 10 ∧ ∀ j, j < i → (nmG j == s) = false) (fun i => 10 - i) [(6, fun i => .v (.int .i64 i))] []
theorem vcKind (s : ByteArray) (R : SV→Prop) : (vcPure Try.prog ΓW0 (ΛKind s) Try.f18 [.v (.string s)] R) =
((∃ x : Nat,((((x : Nat) ≤ 10)∧(∀ j : Nat,(((j : Nat) < x)→((nmG j == s) = false))))∧(((SV.v (.int .i64 0)) = (SV.v (.int .i64 ((↑x : Int)))))∧True)))∧(∀ x : Nat,((((x : Nat) ≤ 10)∧(∀ j : Nat,(((j : Nat) < x)→((nmG j == s) = false))))→(sel (decide ((↑x : Int) < 10)) ((((0 : Int) ≤ ((↑x : Int)))∧((((↑x : Int)) : Int) < 10))∧(sel (bop (Nat.beq (Int.toNat (↑x : Int)) 0) {data:=#[115,112,97,119,110]} (bop (Nat.beq (Int.toNat (↑x : Int)) 1) {data:=#[100,101,115,116,114,111,121]} (bop (Nat.beq (Int.toNat (↑x : Int)) 2) {data:=#[112,117,115,104]} (bop (Nat.beq (Int.toNat (↑x : Int)) 3) {data:=#[103,114,97,98]} (bop (Nat.beq (Int.toNat (↑x : Int)) 4) {data:=#[100,114,97,103]} (bop (Nat.beq (Int.toNat (↑x : Int)) 5) {data:=#[114,101,108,101,97,115,101]} (bop (Nat.beq (Int.toNat (↑x : Int)) 6) {data:=#[108,111,111,107]} (bop (Nat.beq (Int.toNat (↑x : Int)) 7) {data:=#[110,101,97,114]} (bop (Nat.beq (Int.toNat (↑x : Int)) 8) {data:=#[114,97,121]} {data:=#[99,111,117,110,116]})))))))) == s) (R (SV.v (.int .i64 (IntKind.wrap IntKind.i64 ((↑x : Int) + 1))))) (∃ x' : Nat,(((((x' : Nat) ≤ 10)∧(∀ j : Nat,(((j : Nat) < x')→((nmG j == s) = false))))∧(((SV.v (.int .i64 (IntKind.wrap IntKind.i64 ((↑x : Int) + 1)))) = (SV.v (.int .i64 ((↑x' : Int)))))∧True))∧(((10 - x') : Nat) < (10 - x)))))) (R (SV.v (.int .i64 0))))))) := by kernel_rfl
def pk (x : Nat) : ByteArray := (bop (Nat.beq x 0) ⟨#[115, 112, 97, 119, 110]⟩ (bop (Nat.beq x 1) ⟨#[100, 101, 115, 116, 114, 111, 121]⟩ (bop (Nat.beq x 2) ⟨#[112, 117, 115, 104]⟩ (bop (Nat.beq x 3) ⟨#[103, 114, 97, 98]⟩ (bop (Nat.beq x 4) ⟨#[100, 114, 97, 103]⟩ (bop (Nat.beq x 5) ⟨#[114, 101, 108, 101, 97, 115, 101]⟩ (bop (Nat.beq x 6) ⟨#[108, 111, 111, 107]⟩ (bop (Nat.beq x 7) ⟨#[110, 101, 97, 114]⟩ (bop (Nat.beq x 8) ⟨#[114, 97, 121]⟩ ⟨#[99, 111, 117, 110, 116]⟩)))))))))
theorem pick_nm {x : Nat} (h : x < 10) : pk x = nmG x := by
  have : x = 0 ∨ x = 1 ∨ x = 2 ∨ x = 3 ∨ x = 4 ∨ x = 5 ∨ x = 6 ∨ x = 7 ∨ x = 8 ∨ x = 9 := by omega
  rcases this with rfl | rfl | rfl | rfl | rfl | rfl | rfl | rfl | rfl | rfl <;> rfl
def pk1 (x : Nat) : ByteArray := (bop (Nat.beq x 0) ⟨#[]⟩ (bop (Nat.beq x 1) ⟨#[115, 112, 97, 119, 110]⟩ (bop (Nat.beq x 2) ⟨#[100, 101, 115, 116, 114, 111, 121]⟩ (bop (Nat.beq x 3) ⟨#[112, 117, 115, 104]⟩ (bop (Nat.beq x 4) ⟨#[103, 114, 97, 98]⟩ (bop (Nat.beq x 5) ⟨#[100, 114, 97, 103]⟩ (bop (Nat.beq x 6) ⟨#[114, 101, 108, 101, 97, 115, 101]⟩ (bop (Nat.beq x 7) ⟨#[108, 111, 111, 107]⟩ (bop (Nat.beq x 8) ⟨#[110, 101, 97, 114]⟩ (bop (Nat.beq x 9) ⟨#[114, 97, 121]⟩ ⟨#[99, 111, 117, 110, 116]⟩))))))))))
theorem pick_nm1 {x : Nat} (h : x < 11) : pk1 x = (emp :: nmA).getD x emp := by
  have : x = 0 ∨ x = 1 ∨ x = 2 ∨ x = 3 ∨ x = 4 ∨ x = 5 ∨ x = 6 ∨ x = 7 ∨ x = 8 ∨ x = 9 ∨ x = 10 := by omega
  rcases this with rfl | rfl | rfl | rfl | rfl | rfl | rfl | rfl | rfl | rfl | rfl <;> rfl
theorem kindFrom_get {s : ByteArray} : ∀ {l : List ByteArray} {x : Nat} (i : Int), x < l.length → (∀ j, j < x → (l.getD j emp == s) = false) → (l.getD x emp == s) = true → kindFrom s l i = i + x
  | [], x, i, h, _, _ => by simp at h
  | b :: l, 0, i, _, _, h => by
    have h : (b == s) = true := by simpa using h
    simp [kindFrom, h]
  | b :: l, x + 1, i, hx, hn, h => by
    have h0 : (b == s) = false := by simpa using hn 0 (by omega)
    have := kindFrom_get (s := s) (l := l) (x := x) (i + 1) (by simpa using hx) (fun j hj => by simpa using hn (j + 1) (by omega)) (by simpa using h)
    simp only [kindFrom, h0, cond_false, this]
    omega
theorem kindFrom_none {s : ByteArray} : ∀ {l : List ByteArray} (i : Int), (∀ j, j < l.length → (l.getD j emp == s) = false) → kindFrom s l i = 0
  | [], i, _ => rfl
  | b :: l, i, hn => by
    have h0 : (b == s) = false := by simpa using hn 0 (by simp)
    simp only [kindFrom, h0, cond_false]
    exact kindFrom_none (i + 1) fun j hj => by simpa using hn (j + 1) (by simpa using hj)
theorem Names_spec : PureSpec Try.prog 57 sNames := vc_spec hm noCtrs_ok Try.func57 (Λ := fun _ => noΛ) fun args p x h hp => by
  unfold sNames at h
  split at h <;> try (cases h; done)
  cases h
  refine ⟨rfl, rfl, ?_⟩
  exact Eq.mpr (vcNames _) rfl
theorem RNames_spec : HpSpec Try.prog 58 sRNames := hp_spec hm noCtrs_ok Try.func58 (Λ := fun _ _ => noΛ) fun args bs e hs hp => by
  unfold sRNames at hs
  split at hs <;> try (cases hs; done)
  cases hs
  refine ⟨[], trivial, Eq.mpr vcRNames ?_⟩
  refine ⟨rfl, rfl, Nat.le_refl _, fun i hi => ?_⟩
  exact congrArg (fun b => [SV.v (.string b)]) (pick_nm1 hi)
theorem ΓW0_ok : ∀ f g, ΓW0 f = some g → g.ok Try.prog f := addCtr_ok (addCtr_ok noCtrs_ok (pure_ok Try.func57 (by kernel_rfl) (by kernel_rfl) Names_spec)) (hp_ok Try.func58 (by kernel_rfl) (by kernel_rfl) RNames_spec)
theorem nameK_in {k : Int} {x : Nat} (hx : x < 10) (h : (x : Int) + 1 = k) : nameK k = nmG x := by
  subst h
  unfold nameK
  rw [show (decide (1 ≤ (x : Int) + 1) && decide ((x : Int) + 1 ≤ 10)) = true by simp; omega, cond_true, show ((x : Int) + 1).toNat - 1 = x by omega]
theorem nameK_out {k : Int} (h : k < 1 ∨ 10 < k) : nameK k = emp := by
  unfold nameK
  rw [show (decide (1 ≤ k) && decide (k ≤ 10)) = false by simp; omega]
  rfl
theorem Name_spec : PureSpec Try.prog 16 sName := vc_spec hm ΓW0_ok Try.func16 (Λ := fun args => match args with | [.v (.int _ k)] => ΛName k | _ => noΛ) fun args p x h hp => by
  unfold sName at h
  split at h <;> try (cases h; done)
  rename_i k
  cases h
  have hk := hp _ rfl
  refine ⟨rfl, rfl, ?_⟩
  refine Eq.mpr (vcName k _) ⟨⟨0, ⟨by omega, fun j hj => by omega⟩, rfl, trivial⟩, fun x ⟨hx, hn⟩ => sel_of (fun hlt => ?_) fun hge => ?_⟩
  · have hlt : x < 10 := by have := of_decide_eq_true hlt; omega
    have hw : IntKind.i64.wrap ((x : Int) + 1) = x + 1 := wrap_i64 ⟨by omega, by omega⟩
    rw [hw]
    refine ⟨⟨by omega, by omega⟩, sel_of (fun he => ?_) fun he => ?_⟩
    · have he : (x : Int) + 1 = k := by simpa using he
      rw [nameK_in hlt he]
      exact congrArg (fun b => SV.v (.string b)) (pick_nm (x := Int.toNat (x : Int)) (by omega))
    · have he : (x : Int) + 1 ≠ k := by simpa using he
      refine ⟨x + 1, ⟨⟨hlt, fun j hj => ?_⟩, rfl, trivial⟩, by omega⟩
      by_cases h : j = x
      · rw [h]; exact he
      · exact hn j (by omega)
  · have hge : ¬ x < 10 := by have := of_decide_eq_false hge; omega
    rw [nameK_out]
    · rfl
    · have : x = 10 := by omega
      subst this
      by_cases h : 1 ≤ k ∧ k ≤ 10
      · exact absurd (show ((k.toNat - 1 : Nat) : Int) + 1 = k by omega) (hn (k.toNat - 1) (by omega))
      · omega
theorem Kind_spec : PureSpec Try.prog 18 sKind := vc_spec hm ΓW0_ok Try.func18 (Λ := fun args => match args with | [.v (.string s)] => ΛKind s | _ => noΛ) fun args p x h hp => by
  unfold sKind at h
  split at h <;> try (cases h; done)
  rename_i s
  cases h
  refine ⟨rfl, rfl, ?_⟩
  refine Eq.mpr (vcKind s _) ⟨⟨0, ⟨by omega, fun j hj => by omega⟩, rfl, trivial⟩, fun x ⟨hx, hn⟩ => sel_of (fun hlt => ?_) fun hge => ?_⟩
  · have hlt : x < 10 := by have := of_decide_eq_true hlt; omega
    have hw : IntKind.i64.wrap ((x : Int) + 1) = x + 1 := wrap_i64 ⟨by omega, by omega⟩
    rw [hw]
    have hp : pk (Int.toNat (x : Int)) = nmG x := pick_nm hlt
    refine ⟨⟨by omega, by omega⟩, sel_of (fun he => ?_) fun he => ?_⟩
    · have he : (pk (Int.toNat (x : Int)) == s) = true := he
      rw [hp] at he
      rw [show kindS s = 1 + (x : Int) from kindFrom_get (l := nmA) 1 hlt hn he, Int.add_comm]
    · have he : (pk (Int.toNat (x : Int)) == s) = false := he
      rw [hp] at he
      refine ⟨x + 1, ⟨⟨hlt, fun j hj => ?_⟩, rfl, trivial⟩, by omega⟩
      by_cases h : j = x
      · rw [h]; exact he
      · exact hn j (by omega)
  · have hge : ¬ x < 10 := by have := of_decide_eq_false hge; omega
    have : x = 10 := by omega
    subst this
    rw [show kindS s = 0 from kindFrom_none (l := nmA) 1 hn]
end Go.Proofs.Ytjdldadmaaeimaa
end
section
namespace Go.Proofs.Ytjdldadmaaeimaa
open Go.SE Go.RowKit
def bG (n : Nat) (g : Nat → Int) (c : Nat) : Blk := { elem := 5, size := 1, rw := true, lock := false, lit := false, flat := true, n := n, row := fun i => [.v (.int .u8 (g i))], ext := c }
def bOk (b : Blk) : Bool := Nat.beq b.elem 5 && Nat.beq b.size 1 && b.rw && !b.dead && b.flat && !b.whole
def nilS : SV := .v (.slice none 0 0)
def wB (k : Option Bool) (fl : Bool) (a : SV) : Blk := match k with
  | none => { elem := 106, size := 1, rw := true, lock := false, lit := true, flat := fl, n := 1, row := fun _ => [a], ext := 1, whole := true }
  | some b => { elem := 127, size := 2, rw := true, lock := false, lit := true, flat := fl, n := 1, row := fun _ => [a, .v (.bool b)], ext := 1, whole := true }
def wOk (k : Option Bool) (fl : Bool) (b : Blk) : Bool := match k with
  | none => Nat.beq b.elem 106 && Nat.beq b.size 1 && b.rw && !b.dead && Nat.beq b.n 1 && Nat.beq b.ext 1 && b.whole && (b.flat == fl)
  | some _ => Nat.beq b.elem 127 && Nat.beq b.size 2 && b.rw && !b.dead && Nat.beq b.n 1 && Nat.beq b.ext 1 && b.whole && (b.flat == fl)
inductive WrS where
  | fresh (k : Option Bool)
  | used (k : Option Bool) (n : Nat) (g : Nat → Int) (c : Nat) (p : Prop)
def bytesOk (n c : Nat) (D : Blk) : Prop := D.n = n ∧ D.ext = c ∧ n < 70368744177664 ∧ ∀ i, i < n → isByte (D.row i)
def wrOf : List Blk → Option WrS
  | [B] => match B.row 0 with
    | [.v (.slice none 0 0)] => bif wOk none true B then some (.fresh none) else none
    | [.v (.slice none 0 0), .v (.bool b)] => bif wOk (some b) true B then some (.fresh (some b)) else none
    | _ => none
  | [B, D] => match B.row 0 with
    | [.sl 1 1 0 n c] => bif wOk none false B && bOk D then some (.used none n (fun i => SE.byteOf (D.row i)) c (bytesOk n c D)) else none
    | [.sl 1 1 0 n c, .v (.bool b)] => bif wOk (some b) false B && bOk D then some (.used (some b) n (fun i => SE.byteOf (D.row i)) c (bytesOk n c D)) else none
    | _ => none
  | _ => none
def orK (k : Option Bool) (b : Bool) : Option Bool := match k with
  | none => none
  | some x => some (x || b)
def apG (n : Nat) (g : Nat → Int) (L : List Int) : Nat → Int := fun i => bop (Nat.blt i n) (g i) (L.getD (i - n) 0)
def apE (w : WrS) (m : Nat) (q : Prop) (k : Nat) (L : List Int) (b : Bool) : Eff := match w with
  | .fresh kd => .nd q Nat 0 (fun _ => .tup []) fun c' => [(0, wB (orK kd b) false (.sl 1000 1 0 k (k + c'))), (1000, bG k (fun i => L.getD i 0) (k + c'))]
  | .used kd n g c p => .nd ((p ∧ n ≤ m) ∧ q) Nat 0 (fun _ => .tup []) fun c' => [(0, wB (orK kd b) false (.sl 1000 1 0 (n + k) (n + k + c'))), (1, killed (bG n g c)), (1000, bG (n + k) (apG n g L) (n + k + c'))]
def byteAt (n : Int) (k j : Nat) : Int := n / 2 ^ (8 * (k - 1 - j)) % 256
def beT (n : Int) (k i : Nat) : List Int := (List.range i).map (byteAt n k)
def be (n : Int) (k : Nat) : List Int := beT n k k
def kOk (k : Int) : Prop := k = 4 ∨ k = 8
def sPut (args : List SV) (bs : List Blk) : Option Eff := match args with
  | [.vp 0 0, .v (.int .u64 n), .v (.int .i64 k)] => match wrOf bs with
    | some w => some (apE w 1099511627776 (U64 n ∧ kOk k) k.toNat (be n k.toNat) false)
    | none => none
  | _ => none
structure PX where
  i : Nat
  c : Nat
noncomputable def ΛPut (kd : Option Bool) (n0 : Nat) (g : Nat → Int) (n : Int) (k : Nat) : Nat → Option LoopSpec := addLoopN noΛ Try.f94 0 PX (fun x => x.i ≤ k ∧ (x.i = 0 ∨ n0 + x.i ≤ x.c)) (fun x => k - x.i) [(8, fun x => .v (.int .i64 x.i))] [(0, fun x => wB kd false (.sl 40 1 0 (n0 + x.i) x.c))] [(40, fun x => bG (n0 + x.i) (apG n0 g (beT n k x.i)) x.c, inVar 0 0)]
theorem vcPut0 (n : Int) (k : Nat) : (vcFn Try.prog noCtrs (ΛPut none 0 (fun _ => 0) n k) Try.f94 [.vp 0 0,.v (.int .u64 n),.v (.int .i64 (k : Int))] (heapOf [wB none true nilS]) 64 (fun y h' => FinE [wB none true nilS] (apE (.fresh none) 0 True k (be n k) false) y h')) =
((∃ x : PX,(((((PX.i x) : Nat) ≤ k)∧(PX.i x = 0 ∨ 0 + PX.i x ≤ PX.c x))∧(((SV.v (.int .i64 0)) = (SV.v (.int .i64 ((↑(PX.i x) : Int)))))∧((((1 : Nat) = 1)∧(((1 : Nat) ≤ 1)∧(((SV.v (Value.slice none 0 0)) = (SV.v (Value.slice none 0 0)))∧(((0 : Nat) = 0)∧((((0 + PX.i x) : Nat) = 0)∧(((PX.c x) : Nat) = 0))))))∧(((((0 + PX.i x) : Nat) = 0)∧((((PX.c x) : Nat) = 0)∧True))∧True)))))∧(∀ x : PX,(((((PX.i x) : Nat) ≤ k)∧(PX.i x = 0 ∨ 0 + PX.i x ≤ PX.c x))→(sel (decide ((↑(PX.i x) : Int) < (↑k : Int))) (((0 : Int) ≤ (IntKind.wrap IntKind.u64 (IntKind.wrap IntKind.i64 (8 * IntKind.wrap IntKind.i64 (IntKind.wrap IntKind.i64 ((↑k : Int) - 1) - (↑(PX.i x) : Int))))))∧((((((0 + PX.i x + 1) * 1) : Nat) ≤ 140737488355328)∧((((0 + PX.c x) : Nat) ≤ (PX.c x))∧(∀ y : Nat,(((y : Nat) < 1)→True))))∧(∀ c : Nat,(∃ x' : PX,((((((PX.i x') : Nat) ≤ k)∧(PX.i x' = 0 ∨ 0 + PX.i x' ≤ PX.c x'))∧(((SV.v (.int .i64 (IntKind.wrap IntKind.i64 ((↑(PX.i x) : Int) + 1)))) = (SV.v (.int .i64 ((↑(PX.i x') : Int)))))∧((((1 : Nat) = 1)∧(((1 : Nat) ≤ 1)∧((SV.sl 224 1 0 (0 + PX.i x + 1) (0 + PX.i x + 1 + c)) = (SV.sl 224 1 0 (0 + PX.i x') (PX.c x')))))∧((((0 + PX.i x + 1) : Nat) = (0 + PX.i x'))∧((((PX.c x') : Nat) ≤ (0 + PX.i x + 1 + c))∧(∀ i : Nat,(((i : Nat) < (0 + PX.i x'))→([(SV.v (.int .u8 (bop (Nat.blt i (0 + PX.i x)) (apG 0 (fun x => 0) (beT n k (PX.i x)) (0 + i)) (IntKind.wrap IntKind.u8 (n / 2 ^ min (Int.toNat (IntKind.wrap IntKind.u64 (IntKind.wrap IntKind.i64 (8 * IntKind.wrap IntKind.i64 (IntKind.wrap IntKind.i64 ((↑k : Int) - 1) - (↑(PX.i x) : Int)))))) 64)))))] = [(SV.v (.int .u8 (apG 0 (fun x => 0) (beT n k (PX.i x')) i)))]))))))))∧(((k - PX.i x') : Nat) < (k - PX.i x))))))) (∃ c : Nat,(True∧((((1 : Nat) = 1)∧(((1 : Nat) ≤ 1)∧((SV.sl 40 1 0 (0 + PX.i x) (PX.c x)) = (SV.sl 40 1 0 k (k + c)))))∧((((0 + PX.i x) : Nat) = k)∧((((k + c) : Nat) ≤ (PX.c x))∧(∀ i : Nat,(((i : Nat) < k)→([(SV.v (.int .u8 (apG 0 (fun x => 0) (beT n k (PX.i x)) i)))] = [(SV.v (.int .u8 (List.getD (be n k) i 0)))])))))))))))) := by kernel_rfl
theorem vcPut2 (n0 : Nat) (g : Nat→Int) (c : Nat) (n : Int) (k : Nat) : (vcFn Try.prog noCtrs (ΛPut none n0 g n k) Try.f94 [.vp 0 0,.v (.int .u64 n),.v (.int .i64 (k : Int))] (heapOf [wB none false (.sl 1 1 0 n0 c),bG n0 g c]) 64 (fun y h' => FinE [wB none false (.sl 1 1 0 n0 c),bG n0 g c] (apE (.used none n0 g c True) 0 True k (be n k) false) y h')) =
((∃ x : PX,(((((PX.i x) : Nat) ≤ k)∧(PX.i x = 0 ∨ n0 + PX.i x ≤ PX.c x))∧(((SV.v (.int .i64 0)) = (SV.v (.int .i64 ((↑(PX.i x) : Int)))))∧((((1 : Nat) = 1)∧(((1 : Nat) ≤ 1)∧((SV.sl 1 1 0 n0 c) = (SV.sl 1 1 0 (n0 + PX.i x) (PX.c x)))))∧(((n0 : Nat) = (n0 + PX.i x))∧((((PX.c x) : Nat) ≤ c)∧(∀ i : Nat,(((i : Nat) < (n0 + PX.i x))→([(SV.v (.int .u8 (g i)))] = [(SV.v (.int .u8 (apG n0 g (beT n k (PX.i x)) i)))])))))))))∧(∀ x : PX,(((((PX.i x) : Nat) ≤ k)∧(PX.i x = 0 ∨ n0 + PX.i x ≤ PX.c x))→(sel (decide ((↑(PX.i x) : Int) < (↑k : Int))) (((0 : Int) ≤ (IntKind.wrap IntKind.u64 (IntKind.wrap IntKind.i64 (8 * IntKind.wrap IntKind.i64 (IntKind.wrap IntKind.i64 ((↑k : Int) - 1) - (↑(PX.i x) : Int))))))∧((((((n0 + PX.i x + 1) * 1) : Nat) ≤ 140737488355328)∧((((0 + PX.c x) : Nat) ≤ (PX.c x))∧(∀ y : Nat,(((y : Nat) < 1)→True))))∧(∀ c_1 : Nat,(∃ x' : PX,((((((PX.i x') : Nat) ≤ k)∧(PX.i x' = 0 ∨ n0 + PX.i x' ≤ PX.c x'))∧(((SV.v (.int .i64 (IntKind.wrap IntKind.i64 ((↑(PX.i x) : Int) + 1)))) = (SV.v (.int .i64 ((↑(PX.i x') : Int)))))∧((((1 : Nat) = 1)∧(((1 : Nat) ≤ 1)∧((SV.sl 224 1 0 (n0 + PX.i x + 1) (n0 + PX.i x + 1 + c_1)) = (SV.sl 224 1 0 (n0 + PX.i x') (PX.c x')))))∧((((n0 + PX.i x + 1) : Nat) = (n0 + PX.i x'))∧((((PX.c x') : Nat) ≤ (n0 + PX.i x + 1 + c_1))∧(∀ i : Nat,(((i : Nat) < (n0 + PX.i x'))→([(SV.v (.int .u8 (bop (Nat.blt i (n0 + PX.i x)) (apG n0 g (beT n k (PX.i x)) (0 + i)) (IntKind.wrap IntKind.u8 (n / 2 ^ min (Int.toNat (IntKind.wrap IntKind.u64 (IntKind.wrap IntKind.i64 (8 * IntKind.wrap IntKind.i64 (IntKind.wrap IntKind.i64 ((↑k : Int) - 1) - (↑(PX.i x) : Int)))))) 64)))))] = [(SV.v (.int .u8 (apG n0 g (beT n k (PX.i x')) i)))]))))))))∧(((k - PX.i x') : Nat) < (k - PX.i x))))))) (∃ c_1 : Nat,(True∧((((1 : Nat) = 1)∧(((1 : Nat) ≤ 1)∧((SV.sl 40 1 0 (n0 + PX.i x) (PX.c x)) = (SV.sl 40 1 0 (n0 + k) (n0 + k + c_1)))))∧((((n0 + PX.i x) : Nat) = (n0 + k))∧((((n0 + k + c_1) : Nat) ≤ (PX.c x))∧(∀ i : Nat,(((i : Nat) < (n0 + k))→([(SV.v (.int .u8 (apG n0 g (beT n k (PX.i x)) i)))] = [(SV.v (.int .u8 (apG n0 g (be n k) i)))])))))))))))) := by kernel_rfl
theorem vcPut3 (b : Bool) (n : Int) (k : Nat) : (vcFn Try.prog noCtrs (ΛPut (some b) 0 (fun _ => 0) n k) Try.f94 [.vp 0 0,.v (.int .u64 n),.v (.int .i64 (k : Int))] (heapOf [wB (some b) true nilS]) 64 (fun y h' => FinE [wB (some b) true nilS] (apE (.fresh (some b)) 0 True k (be n k) false) y h')) =
((∃ x : PX,(((((PX.i x) : Nat) ≤ k)∧(PX.i x = 0 ∨ 0 + PX.i x ≤ PX.c x))∧(((SV.v (.int .i64 0)) = (SV.v (.int .i64 ((↑(PX.i x) : Int)))))∧((((1 : Nat) = 1)∧(((1 : Nat) ≤ 1)∧((((SV.v (Value.slice none 0 0)) = (SV.v (Value.slice none 0 0)))∧(((0 : Nat) = 0)∧((((0 + PX.i x) : Nat) = 0)∧(((PX.c x) : Nat) = 0))))∧((SV.v (.bool b)) = (SV.v (.bool b))))))∧(((((0 + PX.i x) : Nat) = 0)∧((((PX.c x) : Nat) = 0)∧True))∧True)))))∧(∀ x : PX,(((((PX.i x) : Nat) ≤ k)∧(PX.i x = 0 ∨ 0 + PX.i x ≤ PX.c x))→(sel (decide ((↑(PX.i x) : Int) < (↑k : Int))) (((0 : Int) ≤ (IntKind.wrap IntKind.u64 (IntKind.wrap IntKind.i64 (8 * IntKind.wrap IntKind.i64 (IntKind.wrap IntKind.i64 ((↑k : Int) - 1) - (↑(PX.i x) : Int))))))∧((((((0 + PX.i x + 1) * 1) : Nat) ≤ 140737488355328)∧((((0 + PX.c x) : Nat) ≤ (PX.c x))∧(∀ y : Nat,(((y : Nat) < 1)→True))))∧(∀ c : Nat,(∃ x' : PX,((((((PX.i x') : Nat) ≤ k)∧(PX.i x' = 0 ∨ 0 + PX.i x' ≤ PX.c x'))∧(((SV.v (.int .i64 (IntKind.wrap IntKind.i64 ((↑(PX.i x) : Int) + 1)))) = (SV.v (.int .i64 ((↑(PX.i x') : Int)))))∧((((1 : Nat) = 1)∧(((1 : Nat) ≤ 1)∧(((SV.sl 224 1 0 (0 + PX.i x + 1) (0 + PX.i x + 1 + c)) = (SV.sl 224 1 0 (0 + PX.i x') (PX.c x')))∧((SV.v (.bool b)) = (SV.v (.bool b))))))∧((((0 + PX.i x + 1) : Nat) = (0 + PX.i x'))∧((((PX.c x') : Nat) ≤ (0 + PX.i x + 1 + c))∧(∀ i : Nat,(((i : Nat) < (0 + PX.i x'))→([(SV.v (.int .u8 (bop (Nat.blt i (0 + PX.i x)) (apG 0 (fun x => 0) (beT n k (PX.i x)) (0 + i)) (IntKind.wrap IntKind.u8 (n / 2 ^ min (Int.toNat (IntKind.wrap IntKind.u64 (IntKind.wrap IntKind.i64 (8 * IntKind.wrap IntKind.i64 (IntKind.wrap IntKind.i64 ((↑k : Int) - 1) - (↑(PX.i x) : Int)))))) 64)))))] = [(SV.v (.int .u8 (apG 0 (fun x => 0) (beT n k (PX.i x')) i)))]))))))))∧(((k - PX.i x') : Nat) < (k - PX.i x))))))) (∃ c : Nat,(True∧((((1 : Nat) = 1)∧(((1 : Nat) ≤ 1)∧(((SV.sl 40 1 0 (0 + PX.i x) (PX.c x)) = (SV.sl 40 1 0 k (k + c)))∧((SV.v (.bool b)) = (SV.v (.bool (b||false)))))))∧((((0 + PX.i x) : Nat) = k)∧((((k + c) : Nat) ≤ (PX.c x))∧(∀ i : Nat,(((i : Nat) < k)→([(SV.v (.int .u8 (apG 0 (fun x => 0) (beT n k (PX.i x)) i)))] = [(SV.v (.int .u8 (List.getD (be n k) i 0)))])))))))))))) := by kernel_rfl
theorem vcPut1 (b : Bool) (n0 : Nat) (g : Nat→Int) (c : Nat) (n : Int) (k : Nat) : (vcFn Try.prog noCtrs (ΛPut (some b) n0 g n k) Try.f94 [.vp 0 0,.v (.int .u64 n),.v (.int .i64 (k : Int))] (heapOf [wB (some b) false (.sl 1 1 0 n0 c),bG n0 g c]) 64 (fun y h' => FinE [wB (some b) false (.sl 1 1 0 n0 c),bG n0 g c] (apE (.used (some b) n0 g c True) 0 True k (be n k) false) y h')) =
((∃ x : PX,(((((PX.i x) : Nat) ≤ k)∧(PX.i x = 0 ∨ n0 + PX.i x ≤ PX.c x))∧(((SV.v (.int .i64 0)) = (SV.v (.int .i64 ((↑(PX.i x) : Int)))))∧((((1 : Nat) = 1)∧(((1 : Nat) ≤ 1)∧(((SV.sl 1 1 0 n0 c) = (SV.sl 1 1 0 (n0 + PX.i x) (PX.c x)))∧((SV.v (.bool b)) = (SV.v (.bool b))))))∧(((n0 : Nat) = (n0 + PX.i x))∧((((PX.c x) : Nat) ≤ c)∧(∀ i : Nat,(((i : Nat) < (n0 + PX.i x))→([(SV.v (.int .u8 (g i)))] = [(SV.v (.int .u8 (apG n0 g (beT n k (PX.i x)) i)))])))))))))∧(∀ x : PX,(((((PX.i x) : Nat) ≤ k)∧(PX.i x = 0 ∨ n0 + PX.i x ≤ PX.c x))→(sel (decide ((↑(PX.i x) : Int) < (↑k : Int))) (((0 : Int) ≤ (IntKind.wrap IntKind.u64 (IntKind.wrap IntKind.i64 (8 * IntKind.wrap IntKind.i64 (IntKind.wrap IntKind.i64 ((↑k : Int) - 1) - (↑(PX.i x) : Int))))))∧((((((n0 + PX.i x + 1) * 1) : Nat) ≤ 140737488355328)∧((((0 + PX.c x) : Nat) ≤ (PX.c x))∧(∀ y : Nat,(((y : Nat) < 1)→True))))∧(∀ c_1 : Nat,(∃ x' : PX,((((((PX.i x') : Nat) ≤ k)∧(PX.i x' = 0 ∨ n0 + PX.i x' ≤ PX.c x'))∧(((SV.v (.int .i64 (IntKind.wrap IntKind.i64 ((↑(PX.i x) : Int) + 1)))) = (SV.v (.int .i64 ((↑(PX.i x') : Int)))))∧((((1 : Nat) = 1)∧(((1 : Nat) ≤ 1)∧(((SV.sl 224 1 0 (n0 + PX.i x + 1) (n0 + PX.i x + 1 + c_1)) = (SV.sl 224 1 0 (n0 + PX.i x') (PX.c x')))∧((SV.v (.bool b)) = (SV.v (.bool b))))))∧((((n0 + PX.i x + 1) : Nat) = (n0 + PX.i x'))∧((((PX.c x') : Nat) ≤ (n0 + PX.i x + 1 + c_1))∧(∀ i : Nat,(((i : Nat) < (n0 + PX.i x'))→([(SV.v (.int .u8 (bop (Nat.blt i (n0 + PX.i x)) (apG n0 g (beT n k (PX.i x)) (0 + i)) (IntKind.wrap IntKind.u8 (n / 2 ^ min (Int.toNat (IntKind.wrap IntKind.u64 (IntKind.wrap IntKind.i64 (8 * IntKind.wrap IntKind.i64 (IntKind.wrap IntKind.i64 ((↑k : Int) - 1) - (↑(PX.i x) : Int)))))) 64)))))] = [(SV.v (.int .u8 (apG n0 g (beT n k (PX.i x')) i)))]))))))))∧(((k - PX.i x') : Nat) < (k - PX.i x))))))) (∃ c_1 : Nat,(True∧((((1 : Nat) = 1)∧(((1 : Nat) ≤ 1)∧(((SV.sl 40 1 0 (n0 + PX.i x) (PX.c x)) = (SV.sl 40 1 0 (n0 + k) (n0 + k + c_1)))∧((SV.v (.bool b)) = (SV.v (.bool (b||false)))))))∧((((n0 + PX.i x) : Nat) = (n0 + k))∧((((n0 + k + c_1) : Nat) ≤ (PX.c x))∧(∀ i : Nat,(((i : Nat) < (n0 + k))→([(SV.v (.int .u8 (apG n0 g (beT n k (PX.i x)) i)))] = [(SV.v (.int .u8 (apG n0 g (be n k) i)))])))))))))))) := by kernel_rfl
theorem isByte_row {r : List SV} (h : isByte r) : r = [.v (.int .u8 (SE.byteOf r))] := by
  unfold isByte at h
  split at h
  · rfl
  · exact h.elim
theorem same_bG {n c : Nat} {D : Blk} (h1 : bOk D = true) (h2 : bytesOk n c D) : BlkSame D (bG n (fun i => SE.byteOf (D.row i)) c) := by
  simp only [bOk, Bool.and_eq_true, Bool.not_eq_true'] at h1
  obtain ⟨⟨⟨⟨⟨a1, a2⟩, a3⟩, a4⟩, a5⟩, a6⟩ := h1
  obtain ⟨b1, b2, _, b4⟩ := h2
  exact ⟨Nat.eq_of_beq_eq_true a2, a3, a5, b1, b2, a4, Nat.eq_of_beq_eq_true a1, a6, fun i hi => isByte_row (b4 i (by omega))⟩
def wRow (k : Option Bool) (a : SV) : List SV := match k with
  | none => [a]
  | some b => [a, .v (.bool b)]
theorem same_wB {k : Option Bool} {fl : Bool} {a : SV} {B : Blk} (h1 : wOk k fl B = true) (h2 : B.row 0 = wRow k a) : BlkSame B (wB k fl a) := by
  cases k with
  | none =>
    simp only [wOk, Bool.and_eq_true, Bool.not_eq_true', beq_iff_eq] at h1
    obtain ⟨⟨⟨⟨⟨⟨⟨a1, a2⟩, a3⟩, a4⟩, a5⟩, a6⟩, a7⟩, a8⟩ := h1
    have hn := Nat.eq_of_beq_eq_true a5
    exact ⟨Nat.eq_of_beq_eq_true a2, a3, a8, hn, Nat.eq_of_beq_eq_true a6, a4, Nat.eq_of_beq_eq_true a1, a7, fun i hi => by
      have : i = 0 := by omega
      subst this
      exact h2⟩
  | some b =>
    simp only [wOk, Bool.and_eq_true, Bool.not_eq_true', beq_iff_eq] at h1
    obtain ⟨⟨⟨⟨⟨⟨⟨a1, a2⟩, a3⟩, a4⟩, a5⟩, a6⟩, a7⟩, a8⟩ := h1
    have hn := Nat.eq_of_beq_eq_true a5
    exact ⟨Nat.eq_of_beq_eq_true a2, a3, a8, hn, Nat.eq_of_beq_eq_true a6, a4, Nat.eq_of_beq_eq_true a1, a7, fun i hi => by
      have : i = 0 := by omega
      subst this
      exact h2⟩
theorem bif_some {b : Bool} {α : Type _} {x y : α} (h : (bif b then some x else none) = some y) : b = true ∧ x = y := by
  cases b with
  | true => cases h; exact ⟨rfl, rfl⟩
  | false => cases h
theorem wrOf_fresh {bs : List Blk} {k : Option Bool} (h : wrOf bs = some (.fresh k)) : blksSame bs [wB k true nilS] := by
  unfold wrOf at h
  split at h
  · rename_i B
    split at h <;> try (cases h; done)
    · rename_i hB
      obtain ⟨h1, h2⟩ := bif_some h
      cases h2
      exact ⟨same_wB h1 hB, trivial⟩
    · rename_i b hB
      obtain ⟨h1, h2⟩ := bif_some h
      cases h2
      exact ⟨same_wB h1 hB, trivial⟩
  · split at h <;> try (cases h; done)
    all_goals
      obtain ⟨_, h2⟩ := bif_some h
      cases h2
  · cases h
theorem wrOf_used {bs : List Blk} {k : Option Bool} {n : Nat} {g : Nat → Int} {c : Nat} {p : Prop} (h : wrOf bs = some (.used k n g c p)) (hp : p) : blksSame bs [wB k false (.sl 1 1 0 n c), bG n g c] ∧ n < 70368744177664 := by
  unfold wrOf at h
  split at h
  · split at h <;> try (cases h; done)
    all_goals
      obtain ⟨_, h2⟩ := bif_some h
      cases h2
  · rename_i B D
    split at h <;> try (cases h; done)
    · rename_i n c' hB
      obtain ⟨h1, h2⟩ := bif_some h
      cases h2
      rw [Bool.and_eq_true] at h1
      exact ⟨⟨same_wB h1.1 hB, same_bG h1.2 hp, trivial⟩, hp.2.2.1⟩
    · rename_i n c' b hB
      obtain ⟨h1, h2⟩ := bif_some h
      cases h2
      rw [Bool.and_eq_true] at h1
      exact ⟨⟨same_wB h1.1 hB, same_bG h1.2 hp, trivial⟩, hp.2.2.1⟩
  · cases h
theorem beT_succ (n : Int) (k i : Nat) : beT n k (i + 1) = beT n k i ++ [byteAt n k i] := by
  simp [beT, List.range_succ]
theorem beT_len (n : Int) (k i : Nat) : (beT n k i).length = i := by simp [beT]
theorem be_len (n : Int) (k : Nat) : (be n k).length = k := beT_len n k k
theorem blt_true {i m : Nat} (h : i < m) : Nat.blt i m = true := Nat.ble_eq_true_of_le h
theorem blt_false {i m : Nat} (h : ¬ i < m) : Nat.blt i m = false := by
  cases hb : Nat.blt i m with
  | false => rfl
  | true => exact absurd (Nat.le_of_ble_eq_true hb) h
theorem apG_old {n : Nat} {g : Nat → Int} {L : List Int} {i : Nat} (h : i < n) : apG n g L i = g i := by
  unfold apG; rw [blt_true h]; rfl
theorem apG_new {n : Nat} {g : Nat → Int} {L : List Int} {i : Nat} (h : ¬ i < n) : apG n g L i = L.getD (i - n) 0 := by
  unfold apG; rw [blt_false h]; rfl
theorem apG_ap {n m : Nat} {g : Nat → Int} {L M : List Int} (hm : m = n + L.length) (i : Nat) : apG m (apG n g L) M i = apG n g (L ++ M) i := by
  subst hm
  by_cases h : i < n
  · rw [apG_old (by omega), apG_old h, apG_old h]
  · rw [apG_new h]
    by_cases h2 : i < n + L.length
    · rw [apG_old h2, apG_new h]
      simp [List.getD, List.getElem?_append_left (show i - n < L.length by omega)]
    · rw [apG_new h2]
      simp [List.getD, List.getElem?_append_right (show L.length ≤ i - n by omega), Nat.sub_sub]
theorem put_byte {n : Int} {k i : Nat} (hk : k ≤ 8) (hi : i < k) : 0 ≤ IntKind.u64.wrap (IntKind.i64.wrap (8 * IntKind.i64.wrap (IntKind.i64.wrap ((k : Int) - 1) - (i : Int)))) ∧ IntKind.u8.wrap (n / 2 ^ min (Int.toNat (IntKind.u64.wrap (IntKind.i64.wrap (8 * IntKind.i64.wrap (IntKind.i64.wrap ((k : Int) - 1) - (i : Int)))))) 64) = byteAt n k i := by
  have e1 : IntKind.i64.wrap ((k : Int) - 1) = (k : Int) - 1 := wrap_i64 ⟨by omega, by omega⟩
  have e2 : IntKind.i64.wrap ((k : Int) - 1 - i) = (k : Int) - 1 - i := wrap_i64 ⟨by omega, by omega⟩
  have e3 : IntKind.i64.wrap (8 * ((k : Int) - 1 - i)) = 8 * ((k : Int) - 1 - i) := wrap_i64 ⟨by omega, by omega⟩
  rw [e1, e2, e3, wrap_u64, wrap_u8]
  refine ⟨by omega, ?_⟩
  unfold byteAt
  rw [show min (Int.toNat (8 * ((k : Int) - 1 - i) % 18446744073709551616)) 64 = 8 * (k - 1 - i) by omega]
theorem put_next (n0 : Nat) (g : Nat → Int) (n : Int) (k x i : Nat) (b : Int) (hi : i < n0 + (x + 1)) (hb : b = byteAt n k x) : bop (Nat.blt i (n0 + x)) (apG n0 g (beT n k x) (0 + i)) b = apG n0 g (beT n k (x + 1)) i := by
  rw [beT_succ, ← apG_ap (m := n0 + x) (by rw [beT_len]), hb, Nat.zero_add]
  by_cases h : i < n0 + x
  · rw [blt_true h, apG_old (n := n0 + x) h]; rfl
  · rw [blt_false h, apG_new h, show i - (n0 + x) = 0 by omega]; rfl
theorem Put_used (kd : Option Bool) (n0 : Nat) (g : Nat → Int) (c : Nat) (n : Int) (k : Nat) (hl : n0 ≤ 1099511627776) (hk : k ≤ 8) (h1 : 1 ≤ k) :
    vcFn Try.prog noCtrs (ΛPut kd n0 g n k) Try.f94 [.vp 0 0, .v (.int .u64 n), .v (.int .i64 (k : Int))] (heapOf [wB kd false (.sl 1 1 0 n0 c), bG n0 g c]) 64 (fun y h' => FinE [wB kd false (.sl 1 1 0 n0 c), bG n0 g c] (apE (.used kd n0 g c True) 0 True k (be n k) false) y h') := by
  cases kd with
  | none =>
    refine Eq.mpr (vcPut2 n0 g c n k) ⟨⟨⟨0, c⟩, ⟨Nat.zero_le _, .inl rfl⟩, rfl, ⟨rfl, Nat.le_refl _, rfl⟩, rfl, Nat.le_refl _, fun i hi => congrArg (fun z => [SV.v (.int .u8 z)]) (apG_old hi).symm⟩, fun x ⟨h2, h3⟩ => sel_of (fun hlt => ?_) fun hge => ?_⟩
    · have hlt := of_decide_eq_true hlt
      have hb := put_byte (n := n) hk (show x.i < k by omega)
      have hw : IntKind.i64.wrap ((x.i : Int) + 1) = ((x.i + 1 : Nat) : Int) := wrap_i64 ⟨by omega, by omega⟩
      refine ⟨hb.1, ⟨by omega, by omega, fun _ _ => trivial⟩, fun c' => ⟨⟨x.i + 1, n0 + x.i + 1 + c'⟩, ⟨⟨by show x.i + 1 ≤ k; omega, .inr (by show n0 + (x.i + 1) ≤ n0 + x.i + 1 + c'; omega)⟩, int_mk hw, ⟨rfl, Nat.le_refl _, rfl⟩, rfl, Nat.le_refl _, fun i hi => ?_⟩, by show k - (x.i + 1) < k - x.i; omega⟩⟩
      exact congrArg (fun z => [SV.v (.int .u8 z)]) (put_next n0 g n k x.i i _ hi hb.2)
    · have hge := of_decide_eq_false hge
      have hx : x.i = k := by omega
      rw [hx] at h3 ⊢
      have h3 : n0 + k ≤ x.c := by omega
      have he : n0 + k + (x.c - (n0 + k)) = x.c := by omega
      refine ⟨x.c - (n0 + k), trivial, ⟨rfl, Nat.le_refl _, by rw [he]⟩, rfl, by omega, fun i hi => rfl⟩
  | some b =>
    refine Eq.mpr (vcPut1 b n0 g c n k) ⟨⟨⟨0, c⟩, ⟨Nat.zero_le _, .inl rfl⟩, rfl, ⟨rfl, Nat.le_refl _, rfl, rfl⟩, rfl, Nat.le_refl _, fun i hi => congrArg (fun z => [SV.v (.int .u8 z)]) (apG_old hi).symm⟩, fun x ⟨h2, h3⟩ => sel_of (fun hlt => ?_) fun hge => ?_⟩
    · have hlt := of_decide_eq_true hlt
      have hb := put_byte (n := n) hk (show x.i < k by omega)
      have hw : IntKind.i64.wrap ((x.i : Int) + 1) = ((x.i + 1 : Nat) : Int) := wrap_i64 ⟨by omega, by omega⟩
      refine ⟨hb.1, ⟨by omega, by omega, fun _ _ => trivial⟩, fun c' => ⟨⟨x.i + 1, n0 + x.i + 1 + c'⟩, ⟨⟨by show x.i + 1 ≤ k; omega, .inr (by show n0 + (x.i + 1) ≤ n0 + x.i + 1 + c'; omega)⟩, int_mk hw, ⟨rfl, Nat.le_refl _, rfl, rfl⟩, rfl, Nat.le_refl _, fun i hi => ?_⟩, by show k - (x.i + 1) < k - x.i; omega⟩⟩
      exact congrArg (fun z => [SV.v (.int .u8 z)]) (put_next n0 g n k x.i i _ hi hb.2)
    · have hge := of_decide_eq_false hge
      have hx : x.i = k := by omega
      rw [hx] at h3 ⊢
      have h3 : n0 + k ≤ x.c := by omega
      have he : n0 + k + (x.c - (n0 + k)) = x.c := by omega
      refine ⟨x.c - (n0 + k), trivial, ⟨rfl, Nat.le_refl _, by rw [he], by rw [Bool.or_false]⟩, rfl, by omega, fun i hi => rfl⟩
theorem Put_fresh (kd : Option Bool) (n : Int) (k : Nat) (hk : k ≤ 8) (h1 : 1 ≤ k) :
    vcFn Try.prog noCtrs (ΛPut kd 0 (fun _ => 0) n k) Try.f94 [.vp 0 0, .v (.int .u64 n), .v (.int .i64 (k : Int))] (heapOf [wB kd true nilS]) 64 (fun y h' => FinE [wB kd true nilS] (apE (.fresh kd) 0 True k (be n k) false) y h') := by
  cases kd with
  | none =>
    refine Eq.mpr (vcPut0 n k) ⟨⟨⟨0, 0⟩, ⟨Nat.zero_le _, .inl rfl⟩, rfl, ⟨rfl, Nat.le_refl _, rfl, rfl, rfl, rfl⟩, ⟨rfl, rfl, trivial⟩, trivial⟩, fun x ⟨h2, h3⟩ => sel_of (fun hlt => ?_) fun hge => ?_⟩
    · have hlt := of_decide_eq_true hlt
      have hb := put_byte (n := n) hk (show x.i < k by omega)
      have hw : IntKind.i64.wrap ((x.i : Int) + 1) = ((x.i + 1 : Nat) : Int) := wrap_i64 ⟨by omega, by omega⟩
      refine ⟨hb.1, ⟨by omega, by omega, fun _ _ => trivial⟩, fun c' => ⟨⟨x.i + 1, 0 + x.i + 1 + c'⟩, ⟨⟨by show x.i + 1 ≤ k; omega, .inr (by show 0 + (x.i + 1) ≤ 0 + x.i + 1 + c'; omega)⟩, int_mk hw, ⟨rfl, Nat.le_refl _, rfl⟩, rfl, Nat.le_refl _, fun i hi => ?_⟩, by show k - (x.i + 1) < k - x.i; omega⟩⟩
      exact congrArg (fun z => [SV.v (.int .u8 z)]) (put_next 0 (fun _ => 0) n k x.i i _ hi hb.2)
    · have hge := of_decide_eq_false hge
      have hx : x.i = k := by omega
      rw [hx] at h3 ⊢
      have h3 : 0 + k ≤ x.c := by omega
      have he : k + (x.c - k) = x.c := by omega
      refine ⟨x.c - k, trivial, ⟨rfl, Nat.le_refl _, by rw [he, Nat.zero_add]⟩, Nat.zero_add k, by omega, fun i hi => ?_⟩
      exact congrArg (fun z => [SV.v (.int .u8 z)]) (apG_new (n := 0) (Nat.not_lt_zero i))
  | some b =>
    refine Eq.mpr (vcPut3 b n k) ⟨⟨⟨0, 0⟩, ⟨Nat.zero_le _, .inl rfl⟩, rfl, ⟨rfl, Nat.le_refl _, ⟨rfl, rfl, rfl, rfl⟩, rfl⟩, ⟨rfl, rfl, trivial⟩, trivial⟩, fun x ⟨h2, h3⟩ => sel_of (fun hlt => ?_) fun hge => ?_⟩
    · have hlt := of_decide_eq_true hlt
      have hb := put_byte (n := n) hk (show x.i < k by omega)
      have hw : IntKind.i64.wrap ((x.i : Int) + 1) = ((x.i + 1 : Nat) : Int) := wrap_i64 ⟨by omega, by omega⟩
      refine ⟨hb.1, ⟨by omega, by omega, fun _ _ => trivial⟩, fun c' => ⟨⟨x.i + 1, 0 + x.i + 1 + c'⟩, ⟨⟨by show x.i + 1 ≤ k; omega, .inr (by show 0 + (x.i + 1) ≤ 0 + x.i + 1 + c'; omega)⟩, int_mk hw, ⟨rfl, Nat.le_refl _, rfl, rfl⟩, rfl, Nat.le_refl _, fun i hi => ?_⟩, by show k - (x.i + 1) < k - x.i; omega⟩⟩
      exact congrArg (fun z => [SV.v (.int .u8 z)]) (put_next 0 (fun _ => 0) n k x.i i _ hi hb.2)
    · have hge := of_decide_eq_false hge
      have hx : x.i = k := by omega
      rw [hx] at h3 ⊢
      have h3 : 0 + k ≤ x.c := by omega
      have he : k + (x.c - k) = x.c := by omega
      refine ⟨x.c - k, trivial, ⟨rfl, Nat.le_refl _, by rw [he, Nat.zero_add], by rw [Bool.or_false]⟩, Nat.zero_add k, by omega, fun i hi => ?_⟩
      exact congrArg (fun z => [SV.v (.int .u8 z)]) (apG_new (n := 0) (Nat.not_lt_zero i))
theorem Put_spec : HpSpec Try.prog 94 sPut := hp_spec hm noCtrs_ok Try.func94 (Λ := fun args bs => match args, wrOf bs with | [_, .v (.int _ n), .v (.int _ k)], some (.fresh kd) => ΛPut kd 0 (fun _ => 0) n k.toNat | [_, .v (.int _ n), .v (.int _ k)], some (.used kd n0 g _ _) => ΛPut kd n0 g n k.toNat | _, _ => noΛ) fun args bs e hs hp => by
  unfold sPut at hs
  split at hs <;> try (cases hs; done)
  rename_i n k
  split at hs <;> try (cases hs; done)
  rename_i w hw
  cases hs
  cases w with
  | fresh kd =>
    obtain ⟨hn, hk⟩ : U64 n ∧ (k = 4 ∨ k = 8) := hp
    refine ⟨_, wrOf_fresh hw, ?_⟩
    rw [hw]
    obtain ⟨m, rfl⟩ : ∃ m : Nat, k = (m : Int) := ⟨k.toNat, by omega⟩
    exact Put_fresh kd n m (by omega) (by omega)
  | used kd n0 g c p =>
    obtain ⟨⟨hp, hl⟩, hn, hk⟩ : (p ∧ n0 ≤ 1099511627776) ∧ U64 n ∧ (k = 4 ∨ k = 8) := hp
    refine ⟨_, (wrOf_used hw hp).1, ?_⟩
    rw [hw]
    obtain ⟨m, rfl⟩ : ∃ m : Nat, k = (m : Int) := ⟨k.toNat, by omega⟩
    exact Put_used kd n0 g c n m hl (by omega) (by omega)
end Go.Proofs.Ytjdldadmaaeimaa
end
section
namespace Go.Proofs.Ytjdldadmaaeimaa
open Go.SE Go.RowKit
structure Arms where
  fb : Bool := false
  fw : Bool := false
  ub : Bool := false
  uw : Bool := true
def Arms.has (a : Arms) : WrS → Bool
  | .fresh none => a.fb
  | .fresh (some _) => a.fw
  | .used none _ _ _ _ => a.ub
  | .used (some _) _ _ _ _ => a.uw
def sApp (a : Arms) (m : Nat) (f : List SV → Option (Prop × Nat × List Int × Bool)) (args : List SV) (bs : List Blk) : Option Eff := match args with
  | .vp 0 0 :: rest => match f rest with
    | some (q, k, L, b) => match wrOf bs with
      | some w => bif a.has w then some (apE w m q k L b) else none
      | none => none
    | none => none
  | _ => none
def fB (k : Option Bool) : List Blk := [wB k true nilS]
def uB (k : Option Bool) (n : Nat) (g : Nat → Int) (c : Nat) : List Blk := [wB k false (.sl 1 1 0 n c), bG n g c]
def sNeed (args : List SV) (bs : List Blk) : Option Eff := match args with
  | [.vp 0 0, .v (.bool ok)] => match wrOf bs with
    | some (.fresh (some b)) => some (.det none (.tup []) [(0, wB (some (b || !ok)) true nilS)])
    | some (.used (some b) n g c p) => some (.det (some p) (.tup []) [(0, wB (some (b || !ok)) false (.sl 1 1 0 n c)), (1, bG n g c)])
    | _ => none
  | _ => none
def fOctet : List SV → Option (Prop × Nat × List Int × Bool)
  | [.v (.int .i64 n)] => some (I64 n, 1, [n % 256], false)
  | _ => none
def fWord : List SV → Option (Prop × Nat × List Int × Bool)
  | [.v (.int .i64 n)] => some (I64 n, 4, be (n % 4294967296) 4, false)
  | _ => none
def fInteger : List SV → Option (Prop × Nat × List Int × Bool)
  | [.v (.int .i64 n)] => some (I64 n, 8, be (n % 18446744073709551616) 8, false)
  | _ => none
def fFlag : List SV → Option (Prop × Nat × List Int × Bool)
  | [.v (.bool b)] => some (True, 1, [bif b then 1 else 0], false)
  | _ => none
def notIn (n most : Int) : Bool := !(decide (0 ≤ n) && decide (n ≤ most))
def fSmall : List SV → Option (Prop × Nat × List Int × Bool)
  | [.v (.int .i64 n), .v (.int .i64 most)] => some (I64 n, 1, [n % 256], notIn n most)
  | _ => none
def fCount : List SV → Option (Prop × Nat × List Int × Bool)
  | [.v (.int .i64 n)] => some (I64 n, 4, be (n % 4294967296) 4, notIn n 2147483647)
  | _ => none
def fVersion : List SV → Option (Prop × Nat × List Int × Bool)
  | [.v (.int .i64 n)] => some (I64 n, 8, be (n % 18446744073709551616) 8, notIn n 1099511627776)
  | _ => none
def M0 : Nat := 1099511627776
def aOctet : Arms := { fw := true }
def aWord : Arms := { fb := true }
def sOctet := sApp aOctet M0 fOctet
def sWord := sApp aWord M0 fWord
def sInteger := sApp {} M0 fInteger
def sFlag := sApp {} M0 fFlag
def sSmall := sApp aOctet M0 fSmall
def sCount := sApp {} M0 fCount
def sVersion := sApp {} M0 fVersion
def ΓC0 : Ctrs := addCtr noCtrs 94 (hpCtr true sPut)
def ΓC1 : Ctrs := addCtr (addCtr (addCtr (addCtr ΓC0 95 (hpCtr true sOctet)) 59 (hpCtr true sWord)) 101 (hpCtr true sInteger)) 134 (hpCtr true sNeed)
theorem vcOctet0 (b : Bool) (n : Int) : (vcFn Try.prog noCtrs noΛ Try.f95 [.vp 0 0,.v (.int .i64 n)] (heapOf (fB (some b))) 64 (fun y h' => FinE (fB (some b)) (apE (.fresh (some b)) 0 True 1 [n % 256] false) y h')) = (((1 : Nat) ≤ 140737488355328)∧(∀ c : Nat,(∃ c_1 : Nat,(True∧((((1 : Nat) = 1)∧(((1 : Nat) ≤ 1)∧(((SV.sl 128 1 0 1 (1 + c)) = (SV.sl 128 1 0 1 (1 + c_1)))∧((SV.v (.bool b)) = (SV.v (.bool (b||false)))))))∧(((1 : Nat) = 1)∧((((1 + c_1) : Nat) ≤ (1 + c))∧(∀ i : Nat,(((i : Nat) < 1)→([(SV.v (.int .u8 (IntKind.wrap IntKind.u8 n)))] = [(SV.v (.int .u8 (List.getD [n % 256] i 0)))])))))))))):=by kernel_rfl
theorem vcOctet1 (b : Bool) (n0 : Nat) (g : Nat→Int) (c : Nat) (n : Int) : (vcFn Try.prog noCtrs noΛ Try.f95 [.vp 0 0,.v (.int .i64 n)] (heapOf (uB (some b) n0 g c)) 64 (fun y h' => FinE (uB (some b) n0 g c) (apE (.used (some b) n0 g c True) 0 True 1 [n % 256] false) y h')) = ((((((n0 + 1) * 1) : Nat) ≤ 140737488355328)∧((((0 + c) : Nat) ≤ c)∧(∀ y : Nat,(((y : Nat) < 1)→True))))∧(∀ c_1 : Nat,(∃ c_2 : Nat,(True∧((((1 : Nat) = 1)∧(((1 : Nat) ≤ 1)∧(((SV.sl 128 1 0 (n0 + 1) (n0 + 1 + c_1)) = (SV.sl 128 1 0 (n0 + 1) (n0 + 1 + c_2)))∧((SV.v (.bool b)) = (SV.v (.bool (b||false)))))))∧((((n0 + 1) : Nat) = (n0 + 1))∧((((n0 + 1 + c_2) : Nat) ≤ (n0 + 1 + c_1))∧(∀ i : Nat,(((i : Nat) < (n0 + 1))→([(SV.v (.int .u8 (bop (Nat.blt i n0) (g (0 + i)) (IntKind.wrap IntKind.u8 n))))] = [(SV.v (.int .u8 (apG n0 g [n % 256] i)))])))))))))):=by kernel_rfl
theorem vcWord0 (n : Int) : (vcFn Try.prog ΓC0 noΛ Try.f59 [.vp 0 0,.v (.int .i64 n)] (heapOf (fB none)) 64 (fun y h' => FinE (fB none) (apE (.fresh none) 0 True 4 (be (n % 4294967296) 4) false) y h')) = (((U64 (IntKind.wrap IntKind.u64 (IntKind.wrap IntKind.u32 n)))∧(kOk 4))∧(∀ c : Nat,(∃ c_1 : Nat,(True∧((((1 : Nat) = 1)∧(((1 : Nat) ≤ 1)∧((SV.sl 96 1 0 4 (4 + c)) = (SV.sl 96 1 0 4 (4 + c_1)))))∧(((4 : Nat) = 4)∧((((4 + c_1) : Nat) ≤ (4 + c))∧(∀ i : Nat,(((i : Nat) < 4)→([(SV.v (.int .u8 (List.getD (be (IntKind.wrap IntKind.u64 (IntKind.wrap IntKind.u32 n)) 4) i 0)))] = [(SV.v (.int .u8 (List.getD (be (n % 4294967296) 4) i 0)))])))))))))):=by kernel_rfl
theorem vcWord1 (b : Bool) (n0 : Nat) (g : Nat→Int) (c : Nat) (n : Int) : (vcFn Try.prog ΓC0 noΛ Try.f59 [.vp 0 0,.v (.int .i64 n)] (heapOf (uB (some b) n0 g c)) 64 (fun y h' => FinE (uB (some b) n0 g c) (apE (.used (some b) n0 g c True) 0 True 4 (be (n % 4294967296) 4) false) y h')) = ((((bytesOk n0 c {elem:=5,size:=1,rw:=true,lock:=false,lit:=false,flat:=true,n:=n0,row:=fun i => [SV.v (.int .u8 (g i))],ext:=c})∧((n0 : Nat) ≤ 1099511627776))∧((U64 (IntKind.wrap IntKind.u64 (IntKind.wrap IntKind.u32 n)))∧(kOk 4)))∧(∀ c_1 : Nat,(∃ c_2 : Nat,(True∧((((1 : Nat) = 1)∧(((1 : Nat) ≤ 1)∧(((SV.sl 96 1 0 (n0 + 4) (n0 + 4 + c_1)) = (SV.sl 96 1 0 (n0 + 4) (n0 + 4 + c_2)))∧((SV.v (.bool (b||false))) = (SV.v (.bool (b||false)))))))∧((((n0 + 4) : Nat) = (n0 + 4))∧((((n0 + 4 + c_2) : Nat) ≤ (n0 + 4 + c_1))∧(∀ i : Nat,(((i : Nat) < (n0 + 4))→([(SV.v (.int .u8 (apG n0 (fun i => SE.byteOf [SV.v (.int .u8 (g i))]) (be (IntKind.wrap IntKind.u64 (IntKind.wrap IntKind.u32 n)) 4) i)))] = [(SV.v (.int .u8 (apG n0 g (be (n % 4294967296) 4) i)))])))))))))):=by kernel_rfl
theorem vcInteger1 (b : Bool) (n0 : Nat) (g : Nat→Int) (c : Nat) (n : Int) : (vcFn Try.prog ΓC0 noΛ Try.f101 [.vp 0 0,.v (.int .i64 n)] (heapOf (uB (some b) n0 g c)) 64 (fun y h' => FinE (uB (some b) n0 g c) (apE (.used (some b) n0 g c True) 0 True 8 (be (n % 18446744073709551616) 8) false) y h')) = ((((bytesOk n0 c {elem:=5,size:=1,rw:=true,lock:=false,lit:=false,flat:=true,n:=n0,row:=fun i => [SV.v (.int .u8 (g i))],ext:=c})∧((n0 : Nat) ≤ 1099511627776))∧((U64 (IntKind.wrap IntKind.u64 n))∧(kOk 8)))∧(∀ c_1 : Nat,(∃ c_2 : Nat,(True∧((((1 : Nat) = 1)∧(((1 : Nat) ≤ 1)∧(((SV.sl 88 1 0 (n0 + 8) (n0 + 8 + c_1)) = (SV.sl 88 1 0 (n0 + 8) (n0 + 8 + c_2)))∧((SV.v (.bool (b||false))) = (SV.v (.bool (b||false)))))))∧((((n0 + 8) : Nat) = (n0 + 8))∧((((n0 + 8 + c_2) : Nat) ≤ (n0 + 8 + c_1))∧(∀ i : Nat,(((i : Nat) < (n0 + 8))→([(SV.v (.int .u8 (apG n0 (fun i => SE.byteOf [SV.v (.int .u8 (g i))]) (be (IntKind.wrap IntKind.u64 n) 8) i)))] = [(SV.v (.int .u8 (apG n0 g (be (n % 18446744073709551616) 8) i)))])))))))))):=by kernel_rfl
theorem vcNeed0 (b ok : Bool) : (vcFn Try.prog noCtrs noΛ Try.f134 [.vp 0 0,.v (.bool ok)] (heapOf (fB (some b))) 64 (fun y h' => FinE (fB (some b)) (.det none (.tup []) [(0,wB (some (b||!ok)) true nilS)]) y h')) = (sel (!ok) (True∧(((1 : Nat) = 1)∧(((1 : Nat) ≤ 1)∧(∀ i : Nat,(((i : Nat) < 1)→([(SV.v (Value.slice none 0 0)),(SV.v (.bool true))] = [(SV.v (Value.slice none 0 0)),(SV.v (.bool (b||!ok)))])))))) (True∧(((1 : Nat) = 1)∧(((1 : Nat) ≤ 1)∧(∀ i : Nat,(((i : Nat) < 1)→([(SV.v (Value.slice none 0 0)),(SV.v (.bool b))] = [(SV.v (Value.slice none 0 0)),(SV.v (.bool (b||!ok)))]))))))):=by kernel_rfl
theorem vcNeed1 (b ok : Bool) (n0 : Nat) (g : Nat→Int) (c : Nat) : (vcFn Try.prog noCtrs noΛ Try.f134 [.vp 0 0,.v (.bool ok)] (heapOf (uB (some b) n0 g c)) 64 (fun y h' => FinE (uB (some b) n0 g c) (.det none (.tup []) [(0,wB (some (b||!ok)) false (.sl 1 1 0 n0 c)),(1,bG n0 g c)]) y h')) = (sel (!ok) (True∧((((1 : Nat) = 1)∧(((1 : Nat) ≤ 1)∧(((SV.sl 1 1 0 n0 c) = (SV.sl 1 1 0 n0 c))∧((SV.v (.bool true)) = (SV.v (.bool (b||!ok)))))))∧(((n0 : Nat) = n0)∧(((c : Nat) ≤ c)∧(∀ i : Nat,(((i : Nat) < n0)→([(SV.v (.int .u8 (g i)))] = [(SV.v (.int .u8 (g i)))]))))))) (True∧((((1 : Nat) = 1)∧(((1 : Nat) ≤ 1)∧(((SV.sl 1 1 0 n0 c) = (SV.sl 1 1 0 n0 c))∧((SV.v (.bool b)) = (SV.v (.bool (b||!ok)))))))∧(((n0 : Nat) = n0)∧(((c : Nat) ≤ c)∧(∀ i : Nat,(((i : Nat) < n0)→([(SV.v (.int .u8 (g i)))] = [(SV.v (.int .u8 (g i)))])))))))):=by kernel_rfl
theorem vcFlag1 (b : Bool) (n0 : Nat) (g : Nat→Int) (c : Nat) (x : Bool) : (vcFn Try.prog ΓC1 noΛ Try.f102 [.vp 0 0,.v (.bool x)] (heapOf (uB (some b) n0 g c)) 64 (fun y h' => FinE (uB (some b) n0 g c) (apE (.used (some b) n0 g c True) 0 True 1 [bif x then 1 else 0] false) y h')) =
(sel x ((((bytesOk n0 c {elem:=5,size:=1,rw:=true,lock:=false,lit:=false,flat:=true,n:=n0,row:=fun i => [SV.v (.int .u8 (g i))],ext:=c})∧((n0 : Nat) ≤ M0))∧(I64 1))∧(∀ c_1 : Nat,(∃ c_2 : Nat,(True∧((((1 : Nat) = 1)∧(((1 : Nat) ≤ 1)∧(((SV.sl 120 1 0 (n0 + 1) (n0 + 1 + c_1)) = (SV.sl 120 1 0 (n0 + 1) (n0 + 1 + c_2)))∧((SV.v (.bool (b||false))) = (SV.v (.bool (b||false)))))))∧((((n0 + 1) : Nat) = (n0 + 1))∧((((n0 + 1 + c_2) : Nat) ≤ (n0 + 1 + c_1))∧(∀ i : Nat,(((i : Nat) < (n0 + 1))→([(SV.v (.int .u8 (apG n0 (fun i => SE.byteOf [SV.v (.int .u8 (g i))]) [1] i)))] = [(SV.v (.int .u8 (apG n0 g [bif x then 1 else 0] i)))])))))))))) ((((bytesOk n0 c {elem:=5,size:=1,rw:=true,lock:=false,lit:=false,flat:=true,n:=n0,row:=fun i => [SV.v (.int .u8 (g i))],ext:=c})∧((n0 : Nat) ≤ M0))∧(I64 0))∧(∀ c_1 : Nat,(∃ c_2 : Nat,(True∧((((1 : Nat) = 1)∧(((1 : Nat) ≤ 1)∧(((SV.sl 120 1 0 (n0 + 1) (n0 + 1 + c_1)) = (SV.sl 120 1 0 (n0 + 1) (n0 + 1 + c_2)))∧((SV.v (.bool (b||false))) = (SV.v (.bool (b||false)))))))∧((((n0 + 1) : Nat) = (n0 + 1))∧((((n0 + 1 + c_2) : Nat) ≤ (n0 + 1 + c_1))∧(∀ i : Nat,(((i : Nat) < (n0 + 1))→([(SV.v (.int .u8 (apG n0 (fun i => SE.byteOf [SV.v (.int .u8 (g i))]) [0] i)))] = [(SV.v (.int .u8 (apG n0 g [bif x then 1 else 0] i)))]))))))))))) := by kernel_rfl
theorem vcSmall0 (b : Bool) (n most : Int) : (vcFn Try.prog ΓC1 noΛ Try.f118 [.vp 0 0,.v (.int .i64 n),.v (.int .i64 most)] (heapOf (fB (some b))) 64 (fun y h' => FinE (fB (some b)) (apE (.fresh (some b)) 0 True 1 [n % 256] (notIn n most)) y h')) = (sel (decide (n ≥ 0)) ((I64 n)∧(∀ c : Nat,(∃ c_1 : Nat,(True∧((((1 : Nat) = 1)∧(((1 : Nat) ≤ 1)∧(((SV.sl 168 1 0 1 (1 + c)) = (SV.sl 168 1 0 1 (1 + c_1)))∧((SV.v (.bool (b||!decide (n ≤ most)||false))) = (SV.v (.bool (b||notIn n most)))))))∧(((1 : Nat) = 1)∧((((1 + c_1) : Nat) ≤ (1 + c))∧(∀ i : Nat,(((i : Nat) < 1)→([(SV.v (.int .u8 (List.getD [n % 256] i 0)))] = [(SV.v (.int .u8 (List.getD [n % 256] i 0)))])))))))))) ((I64 n)∧(∀ c : Nat,(∃ c_1 : Nat,(True∧((((1 : Nat) = 1)∧(((1 : Nat) ≤ 1)∧(((SV.sl 168 1 0 1 (1 + c)) = (SV.sl 168 1 0 1 (1 + c_1)))∧((SV.v (.bool (b||true||false))) = (SV.v (.bool (b||notIn n most)))))))∧(((1 : Nat) = 1)∧((((1 + c_1) : Nat) ≤ (1 + c))∧(∀ i : Nat,(((i : Nat) < 1)→([(SV.v (.int .u8 (List.getD [n % 256] i 0)))] = [(SV.v (.int .u8 (List.getD [n % 256] i 0)))]))))))))))):=by kernel_rfl
theorem vcSmall1 (b : Bool) (n0 : Nat) (g : Nat→Int) (c : Nat) (n most : Int) : (vcFn Try.prog ΓC1 noΛ Try.f118 [.vp 0 0,.v (.int .i64 n),.v (.int .i64 most)] (heapOf (uB (some b) n0 g c)) 64 (fun y h' => FinE (uB (some b) n0 g c) (apE (.used (some b) n0 g c True) 0 True 1 [n % 256] (notIn n most)) y h')) =
(sel (decide (n ≥ 0)) ((bytesOk n0 c {elem:=5,size:=1,rw:=true,lock:=false,lit:=false,flat:=true,n:=n0,row:=fun i => [SV.v (.int .u8 (g i))],ext:=c})∧((((bytesOk n0 c {elem:=5,size:=1,rw:=true,lock:=false,lit:=false,flat:=true,n:=n0,row:=fun i => [SV.v (.int .u8 ((fun i => SE.byteOf [SV.v (.int .u8 (g i))]) i))],ext:=c})∧((n0 : Nat) ≤ M0))∧(I64 n))∧(∀ c_1 : Nat,(∃ c_2 : Nat,(True∧((((1 : Nat) = 1)∧(((1 : Nat) ≤ 1)∧(((SV.sl 168 1 0 (n0 + 1) (n0 + 1 + c_1)) = (SV.sl 168 1 0 (n0 + 1) (n0 + 1 + c_2)))∧((SV.v (.bool (b||!decide (n ≤ most)||false))) = (SV.v (.bool (b||notIn n most)))))))∧((((n0 + 1) : Nat) = (n0 + 1))∧((((n0 + 1 + c_2) : Nat) ≤ (n0 + 1 + c_1))∧(∀ i : Nat,(((i : Nat) < (n0 + 1))→([(SV.v (.int .u8 (apG n0 (fun i => SE.byteOf [SV.v (.int .u8 ((fun i => SE.byteOf [SV.v (.int .u8 (g i))]) i))]) [n % 256] i)))] = [(SV.v (.int .u8 (apG n0 g [n % 256] i)))]))))))))))) ((bytesOk n0 c {elem:=5,size:=1,rw:=true,lock:=false,lit:=false,flat:=true,n:=n0,row:=fun i => [SV.v (.int .u8 (g i))],ext:=c})∧((((bytesOk n0 c {elem:=5,size:=1,rw:=true,lock:=false,lit:=false,flat:=true,n:=n0,row:=fun i => [SV.v (.int .u8 ((fun i => SE.byteOf [SV.v (.int .u8 (g i))]) i))],ext:=c})∧((n0 : Nat) ≤ M0))∧(I64 n))∧(∀ c_1 : Nat,(∃ c_2 : Nat,(True∧((((1 : Nat) = 1)∧(((1 : Nat) ≤ 1)∧(((SV.sl 168 1 0 (n0 + 1) (n0 + 1 + c_1)) = (SV.sl 168 1 0 (n0 + 1) (n0 + 1 + c_2)))∧((SV.v (.bool (b||true||false))) = (SV.v (.bool (b||notIn n most)))))))∧((((n0 + 1) : Nat) = (n0 + 1))∧((((n0 + 1 + c_2) : Nat) ≤ (n0 + 1 + c_1))∧(∀ i : Nat,(((i : Nat) < (n0 + 1))→([(SV.v (.int .u8 (apG n0 (fun i => SE.byteOf [SV.v (.int .u8 ((fun i => SE.byteOf [SV.v (.int .u8 (g i))]) i))]) [n % 256] i)))] = [(SV.v (.int .u8 (apG n0 g [n % 256] i)))])))))))))))) := by kernel_rfl
theorem vcCount1 (b : Bool) (n0 : Nat) (g : Nat→Int) (c : Nat) (n : Int) : (vcFn Try.prog ΓC1 noΛ Try.f96 [.vp 0 0,.v (.int .i64 n)] (heapOf (uB (some b) n0 g c)) 64 (fun y h' => FinE (uB (some b) n0 g c) (apE (.used (some b) n0 g c True) 0 True 4 (be (n % 4294967296) 4) (notIn n 2147483647)) y h')) =
(sel (decide (n ≥ 0)) ((bytesOk n0 c {elem:=5,size:=1,rw:=true,lock:=false,lit:=false,flat:=true,n:=n0,row:=fun i => [SV.v (.int .u8 (g i))],ext:=c})∧((((bytesOk n0 c {elem:=5,size:=1,rw:=true,lock:=false,lit:=false,flat:=true,n:=n0,row:=fun i => [SV.v (.int .u8 ((fun i => SE.byteOf [SV.v (.int .u8 (g i))]) i))],ext:=c})∧((n0 : Nat) ≤ M0))∧(I64 n))∧(∀ c_1 : Nat,(∃ c_2 : Nat,(True∧((((1 : Nat) = 1)∧(((1 : Nat) ≤ 1)∧(((SV.sl 160 1 0 (n0 + 4) (n0 + 4 + c_1)) = (SV.sl 160 1 0 (n0 + 4) (n0 + 4 + c_2)))∧((SV.v (.bool (b||!decide (n ≤ 2147483647)||false))) = (SV.v (.bool (b||notIn n 2147483647)))))))∧((((n0 + 4) : Nat) = (n0 + 4))∧((((n0 + 4 + c_2) : Nat) ≤ (n0 + 4 + c_1))∧(∀ i : Nat,(((i : Nat) < (n0 + 4))→([(SV.v (.int .u8 (apG n0 (fun i => SE.byteOf [SV.v (.int .u8 ((fun i => SE.byteOf [SV.v (.int .u8 (g i))]) i))]) (be (n % 4294967296) 4) i)))] = [(SV.v (.int .u8 (apG n0 g (be (n % 4294967296) 4) i)))]))))))))))) ((bytesOk n0 c {elem:=5,size:=1,rw:=true,lock:=false,lit:=false,flat:=true,n:=n0,row:=fun i => [SV.v (.int .u8 (g i))],ext:=c})∧((((bytesOk n0 c {elem:=5,size:=1,rw:=true,lock:=false,lit:=false,flat:=true,n:=n0,row:=fun i => [SV.v (.int .u8 ((fun i => SE.byteOf [SV.v (.int .u8 (g i))]) i))],ext:=c})∧((n0 : Nat) ≤ M0))∧(I64 n))∧(∀ c_1 : Nat,(∃ c_2 : Nat,(True∧((((1 : Nat) = 1)∧(((1 : Nat) ≤ 1)∧(((SV.sl 160 1 0 (n0 + 4) (n0 + 4 + c_1)) = (SV.sl 160 1 0 (n0 + 4) (n0 + 4 + c_2)))∧((SV.v (.bool (b||true||false))) = (SV.v (.bool (b||notIn n 2147483647)))))))∧((((n0 + 4) : Nat) = (n0 + 4))∧((((n0 + 4 + c_2) : Nat) ≤ (n0 + 4 + c_1))∧(∀ i : Nat,(((i : Nat) < (n0 + 4))→([(SV.v (.int .u8 (apG n0 (fun i => SE.byteOf [SV.v (.int .u8 ((fun i => SE.byteOf [SV.v (.int .u8 (g i))]) i))]) (be (n % 4294967296) 4) i)))] = [(SV.v (.int .u8 (apG n0 g (be (n % 4294967296) 4) i)))])))))))))))) := by kernel_rfl
theorem vcVersion1 (b : Bool) (n0 : Nat) (g : Nat→Int) (c : Nat) (n : Int) : (vcFn Try.prog ΓC1 noΛ Try.f104 [.vp 0 0,.v (.int .i64 n)] (heapOf (uB (some b) n0 g c)) 64 (fun y h' => FinE (uB (some b) n0 g c) (apE (.used (some b) n0 g c True) 0 True 8 (be (n % 18446744073709551616) 8) (notIn n 1099511627776)) y h')) =
(sel (decide (n ≥ 0)) ((bytesOk n0 c {elem:=5,size:=1,rw:=true,lock:=false,lit:=false,flat:=true,n:=n0,row:=fun i => [SV.v (.int .u8 (g i))],ext:=c})∧((((bytesOk n0 c {elem:=5,size:=1,rw:=true,lock:=false,lit:=false,flat:=true,n:=n0,row:=fun i => [SV.v (.int .u8 ((fun i => SE.byteOf [SV.v (.int .u8 (g i))]) i))],ext:=c})∧((n0 : Nat) ≤ M0))∧(I64 n))∧(∀ c_1 : Nat,(∃ c_2 : Nat,(True∧((((1 : Nat) = 1)∧(((1 : Nat) ≤ 1)∧(((SV.sl 160 1 0 (n0 + 8) (n0 + 8 + c_1)) = (SV.sl 160 1 0 (n0 + 8) (n0 + 8 + c_2)))∧((SV.v (.bool (b||!decide (n ≤ 1099511627776)||false))) = (SV.v (.bool (b||notIn n 1099511627776)))))))∧((((n0 + 8) : Nat) = (n0 + 8))∧((((n0 + 8 + c_2) : Nat) ≤ (n0 + 8 + c_1))∧(∀ i : Nat,(((i : Nat) < (n0 + 8))→([(SV.v (.int .u8 (apG n0 (fun i => SE.byteOf [SV.v (.int .u8 ((fun i => SE.byteOf [SV.v (.int .u8 (g i))]) i))]) (be (n % 18446744073709551616) 8) i)))] = [(SV.v (.int .u8 (apG n0 g (be (n % 18446744073709551616) 8) i)))]))))))))))) ((bytesOk n0 c {elem:=5,size:=1,rw:=true,lock:=false,lit:=false,flat:=true,n:=n0,row:=fun i => [SV.v (.int .u8 (g i))],ext:=c})∧((((bytesOk n0 c {elem:=5,size:=1,rw:=true,lock:=false,lit:=false,flat:=true,n:=n0,row:=fun i => [SV.v (.int .u8 ((fun i => SE.byteOf [SV.v (.int .u8 (g i))]) i))],ext:=c})∧((n0 : Nat) ≤ M0))∧(I64 n))∧(∀ c_1 : Nat,(∃ c_2 : Nat,(True∧((((1 : Nat) = 1)∧(((1 : Nat) ≤ 1)∧(((SV.sl 160 1 0 (n0 + 8) (n0 + 8 + c_1)) = (SV.sl 160 1 0 (n0 + 8) (n0 + 8 + c_2)))∧((SV.v (.bool (b||true||false))) = (SV.v (.bool (b||notIn n 1099511627776)))))))∧((((n0 + 8) : Nat) = (n0 + 8))∧((((n0 + 8 + c_2) : Nat) ≤ (n0 + 8 + c_1))∧(∀ i : Nat,(((i : Nat) < (n0 + 8))→([(SV.v (.int .u8 (apG n0 (fun i => SE.byteOf [SV.v (.int .u8 ((fun i => SE.byteOf [SV.v (.int .u8 (g i))]) i))]) (be (n % 18446744073709551616) 8) i)))] = [(SV.v (.int .u8 (apG n0 g (be (n % 18446744073709551616) 8) i)))])))))))))))) := by kernel_rfl
theorem app_spec {Γ : Ctrs} (hΓ : ∀ f g, Γ f = some g → g.ok Try.prog f) {f : FuncId} {fn : Func} (hf : Try.prog.funcs[f]? = some fn) {a : Arms} {m : Nat} {F : List SV → Option (Prop × Nat × List Int × Bool)} {Λ0 : List SV → Option Bool → Nat → Option LoopSpec} {Λ1 : List SV → Option Bool → Nat → (Nat → Int) → Nat → Nat → Option LoopSpec}
    (h0 : ∀ rest q k L b kd, F rest = some (q, k, L, b) → q → a.has (.fresh kd) = true → vcFn Try.prog Γ (Λ0 rest kd) fn (.vp 0 0 :: rest) (heapOf (fB kd)) 64 (fun y h' => FinE (fB kd) (apE (.fresh kd) 0 True k L b) y h'))
    (h1 : ∀ rest q k L b kd n g c, F rest = some (q, k, L, b) → q → a.has (.used kd n g c True) = true → n ≤ m → n < 70368744177664 → vcFn Try.prog Γ (Λ1 rest kd n g c) fn (.vp 0 0 :: rest) (heapOf (uB kd n g c)) 64 (fun y h' => FinE (uB kd n g c) (apE (.used kd n g c True) 0 True k L b) y h')) :
    HpSpec Try.prog f (sApp a m F) := hp_spec hm hΓ hf (Λ := fun args bs => match args with
      | _ :: rest => match wrOf bs with
        | some (.fresh kd) => Λ0 rest kd
        | some (.used kd n g c _) => Λ1 rest kd n g c
        | none => noΛ
      | _ => noΛ) fun args bs e hs hp => by
  unfold sApp at hs
  split at hs <;> try (cases hs; done)
  rename_i rest
  split at hs <;> try (cases hs; done)
  rename_i q k L b hF
  split at hs <;> try (cases hs; done)
  rename_i w hw
  obtain ⟨ha, he⟩ := bif_some hs
  subst he
  cases w with
  | fresh kd =>
    refine ⟨_, wrOf_fresh hw, ?_⟩
    simp only [hw]
    exact h0 rest q k L b kd hF hp ha
  | used kd n g c p =>
    obtain ⟨⟨hp, hl⟩, hq⟩ : (p ∧ n ≤ m) ∧ q := hp
    refine ⟨_, (wrOf_used hw hp).1, ?_⟩
    simp only [hw]
    refine h1 rest q k L b kd n g c hF hq ?_ hl (wrOf_used hw hp).2
    cases kd <;> exact ha
theorem bytesOk_bG (n : Nat) (g : Nat → Int) (c : Nat) (h : n < 70368744177664) : bytesOk n c { elem := 5, size := 1, rw := true, lock := false, lit := false, flat := true, n := n, row := fun i => [SV.v (.int .u8 (g i))], ext := c } :=
  ⟨rfl, rfl, h, fun _ _ => trivial⟩
theorem u8_one (x : Int) (i : Nat) (hi : i < 1) : [SV.v (.int .u8 x)] = [SV.v (.int .u8 ([x].getD i 0))] := by
  have : i = 0 := by omega
  subst this; rfl
theorem tailU {a N M c : Nat} {b b' : Bool} {G G' : Nat → Int} (hN : N = M) (hb : b = b') (hG : ∀ i, i < M → G i = G' i) : ∃ c', True ∧ ((1 = 1 ∧ 1 ≤ 1 ∧ SV.sl a 1 0 N (N + c) = SV.sl a 1 0 M (M + c') ∧ SV.v (.bool b) = SV.v (.bool b')) ∧ N = M ∧ M + c' ≤ N + c ∧ ∀ i, i < M → [SV.v (.int .u8 (G i))] = [SV.v (.int .u8 (G' i))]) := by
  subst hN; subst hb
  exact ⟨c, trivial, ⟨rfl, Nat.le_refl _, rfl, rfl⟩, rfl, Nat.le_refl _, fun i hi => by rw [hG i hi]⟩
theorem tailN {a N M c : Nat} {G G' : Nat → Int} (hN : N = M) (hG : ∀ i, i < M → G i = G' i) : ∃ c', True ∧ ((1 = 1 ∧ 1 ≤ 1 ∧ SV.sl a 1 0 N (N + c) = SV.sl a 1 0 M (M + c')) ∧ N = M ∧ M + c' ≤ N + c ∧ ∀ i, i < M → [SV.v (.int .u8 (G i))] = [SV.v (.int .u8 (G' i))]) := by
  subst hN
  exact ⟨c, trivial, ⟨rfl, Nat.le_refl _, rfl⟩, rfl, Nat.le_refl _, fun i hi => by rw [hG i hi]⟩
theorem ap_one (n0 : Nat) (g : Nat → Int) (x y : Int) (hxy : x = y) (i : Nat) (hi : i < n0 + 1) : bop (Nat.blt i n0) (g (0 + i)) x = apG n0 g [y] i := by
  subst hxy
  rw [Nat.zero_add]
  by_cases h : i < n0
  · rw [blt_true h, apG_old h]; rfl
  · rw [blt_false h, apG_new h, show i - n0 = 0 by omega]; rfl
theorem u8_of (n : Int) : IntKind.u8.wrap n = n % 256 := wrap_u8 n
theorem w4_of (n : Int) : IntKind.u64.wrap (IntKind.u32.wrap n) = n % 4294967296 := by rw [wrap_u64, wrap_u32]; omega
theorem Octet_spec : HpSpec Try.prog 95 sOctet := app_spec noCtrs_ok Try.func95 (Λ0 := fun _ _ => noΛ) (Λ1 := fun _ _ _ _ _ => noΛ)
  (fun rest q k L b kd h hq ha => by
  unfold fOctet at h
  split at h <;> try (cases h; done)
  cases kd with
  | none => cases ha
  | some bd =>
    rename_i n
    cases h
    exact Eq.mpr (vcOctet0 bd n) ⟨by omega, fun c' => tailU rfl (Bool.or_false _).symm fun i hi => by
      have : i = 0 := by omega
      subst this
      exact u8_of n⟩)
  (fun rest q k L b kd n0 g c h hq ha hm hn => by
  unfold fOctet at h
  split at h <;> try (cases h; done)
  cases kd with
  | none => cases ha
  | some bd =>
    rename_i n
    cases h
    have hm : n0 ≤ 1099511627776 := hm
    exact Eq.mpr (vcOctet1 bd n0 g c n) ⟨⟨by omega, by omega, fun _ _ => trivial⟩, fun c' => tailU rfl (Bool.or_false _).symm fun i hi => ap_one n0 g _ _ (u8_of n) i hi⟩)
theorem ΓC0_ok : ∀ f g, ΓC0 f = some g → g.ok Try.prog f := addCtr_ok noCtrs_ok (hp_ok Try.func94 (by kernel_rfl) (by kernel_rfl) Put_spec)
theorem Word_spec : HpSpec Try.prog 59 sWord := app_spec ΓC0_ok Try.func59 (Λ0 := fun _ _ => noΛ) (Λ1 := fun _ _ _ _ _ => noΛ)
  (fun rest q k L b kd h hq ha => by
  unfold fWord at h
  split at h <;> try (cases h; done)
  cases kd with
  | none => 
    rename_i n
    cases h
    refine Eq.mpr (vcWord0 n) ?_
    rw [w4_of]
    exact ⟨⟨⟨by omega, by omega⟩, .inl rfl⟩, fun c' => tailN rfl fun i hi => rfl⟩
  | some bd => cases ha)
  (fun rest q k L b kd n0 g c h hq ha hm hn => by
  unfold fWord at h
  split at h <;> try (cases h; done)
  cases kd with
  | none => cases ha
  | some bd => 
    rename_i n
    cases h
    refine Eq.mpr (vcWord1 bd n0 g c n) ?_
    rw [w4_of]
    exact ⟨⟨⟨bytesOk_bG n0 g c hn, hm⟩, ⟨by omega, by omega⟩, .inl rfl⟩, fun c' => tailU rfl rfl fun i hi => rfl⟩)
theorem Integer_spec : HpSpec Try.prog 101 sInteger := app_spec ΓC0_ok Try.func101 (Λ0 := fun _ _ => noΛ) (Λ1 := fun _ _ _ _ _ => noΛ)
  (fun rest q k L b kd h hq ha => by
  unfold fInteger at h
  split at h <;> try (cases h; done)
  cases kd with
  | none => cases ha
  | some bd => cases ha)
  (fun rest q k L b kd n0 g c h hq ha hm hn => by
  unfold fInteger at h
  split at h <;> try (cases h; done)
  cases kd with
  | none => cases ha
  | some bd => 
    rename_i n
    cases h
    refine Eq.mpr (vcInteger1 bd n0 g c n) ?_
    rw [wrap_u64]
    exact ⟨⟨⟨bytesOk_bG n0 g c hn, hm⟩, ⟨by omega, by omega⟩, .inr rfl⟩, fun c' => tailU rfl rfl fun i hi => rfl⟩)
theorem Need_spec : HpSpec Try.prog 134 sNeed := hp_spec hm noCtrs_ok Try.func134 (Λ := fun _ _ => noΛ) fun args bs e hs hp => by
  unfold sNeed at hs
  split at hs <;> try (cases hs; done)
  rename_i ok
  split at hs <;> try (cases hs; done)
  · rename_i b hw
    cases hs
    refine ⟨_, wrOf_fresh hw, Eq.mpr (vcNeed0 b ok) (sel_of (fun h => ?_) fun h => ?_)⟩
    · rw [h, Bool.or_true]; exact ⟨trivial, rfl, Nat.le_refl _, fun _ _ => rfl⟩
    · rw [h, Bool.or_false]; exact ⟨trivial, rfl, Nat.le_refl _, fun _ _ => rfl⟩
  · rename_i b n0 g c p hw
    cases hs
    refine ⟨_, (wrOf_used hw (hp _ rfl)).1, Eq.mpr (vcNeed1 b ok n0 g c) (sel_of (fun h => ?_) fun h => ?_)⟩
    · rw [h, Bool.or_true]; exact ⟨trivial, ⟨rfl, Nat.le_refl _, rfl, rfl⟩, rfl, Nat.le_refl _, fun _ _ => rfl⟩
    · rw [h, Bool.or_false]; exact ⟨trivial, ⟨rfl, Nat.le_refl _, rfl, rfl⟩, rfl, Nat.le_refl _, fun _ _ => rfl⟩
theorem ΓC1_ok : ∀ f g, ΓC1 f = some g → g.ok Try.prog f := addCtr_ok (addCtr_ok (addCtr_ok (addCtr_ok ΓC0_ok (hp_ok Try.func95 (by kernel_rfl) (by kernel_rfl) Octet_spec)) (hp_ok Try.func59 (by kernel_rfl) (by kernel_rfl) Word_spec)) (hp_ok Try.func101 (by kernel_rfl) (by kernel_rfl) Integer_spec)) (hp_ok Try.func134 (by kernel_rfl) (by kernel_rfl) Need_spec)
theorem Flag_spec : HpSpec Try.prog 102 sFlag := app_spec ΓC1_ok Try.func102 (Λ0 := fun _ _ => noΛ) (Λ1 := fun _ _ _ _ _ => noΛ)
  (fun rest q k L b kd h hq ha => by
  unfold fFlag at h
  split at h <;> try (cases h; done)
  cases kd with
  | none => cases ha
  | some bd => cases ha)
  (fun rest q k L b kd n0 g c h hq ha hm hn => by
  unfold fFlag at h
  split at h <;> try (cases h; done)
  cases kd with
  | none => cases ha
  | some bd => 
    rename_i x
    cases h
    refine Eq.mpr (vcFlag1 bd n0 g c x) (sel_of (fun h => ?_) fun h => ?_)
    · rw [h]; exact ⟨⟨⟨bytesOk_bG n0 g c hn, hm⟩, ⟨by omega, by omega⟩⟩, fun c' => tailU rfl rfl fun i hi => rfl⟩
    · rw [h]; exact ⟨⟨⟨bytesOk_bG n0 g c hn, hm⟩, ⟨by omega, by omega⟩⟩, fun c' => tailU rfl rfl fun i hi => rfl⟩)
theorem notIn_lo {n most : Int} (h : decide (n ≥ 0) = true) (b : Bool) : (b || !decide (n ≤ most) || false) = (b || notIn n most) := by
  unfold notIn
  rw [show decide (0 ≤ n) = true from h, Bool.true_and, Bool.or_false]
theorem notIn_no {n most : Int} (h : decide (n ≥ 0) = false) (b : Bool) : (b || true || false) = (b || notIn n most) := by
  unfold notIn
  rw [show decide (0 ≤ n) = false from h]; simp
theorem Small_spec : HpSpec Try.prog 118 sSmall := app_spec ΓC1_ok Try.func118 (Λ0 := fun _ _ => noΛ) (Λ1 := fun _ _ _ _ _ => noΛ)
  (fun rest q k L b kd h hq ha => by
  unfold fSmall at h
  split at h <;> try (cases h; done)
  cases kd with
  | none => cases ha
  | some bd => 
    rename_i n most
    cases h
    refine Eq.mpr (vcSmall0 bd n most) (sel_of (fun h => ?_) fun h => ?_)
    · exact ⟨hq, fun c' => tailU rfl (notIn_lo h bd) fun i hi => rfl⟩
    · exact ⟨hq, fun c' => tailU rfl (notIn_no h bd) fun i hi => rfl⟩)
  (fun rest q k L b kd n0 g c h hq ha hm hn => by
  unfold fSmall at h
  split at h <;> try (cases h; done)
  cases kd with
  | none => cases ha
  | some bd => 
    rename_i n most
    cases h
    refine Eq.mpr (vcSmall1 bd n0 g c n most) (sel_of (fun h => ?_) fun h => ?_)
    · exact ⟨bytesOk_bG n0 g c hn, ⟨⟨bytesOk_bG n0 g c hn, hm⟩, hq⟩, fun c' => tailU rfl (notIn_lo h bd) fun i hi => rfl⟩
    · exact ⟨bytesOk_bG n0 g c hn, ⟨⟨bytesOk_bG n0 g c hn, hm⟩, hq⟩, fun c' => tailU rfl (notIn_no h bd) fun i hi => rfl⟩)
theorem Count_spec : HpSpec Try.prog 96 sCount := app_spec ΓC1_ok Try.func96 (Λ0 := fun _ _ => noΛ) (Λ1 := fun _ _ _ _ _ => noΛ)
  (fun rest q k L b kd h hq ha => by
  unfold fCount at h
  split at h <;> try (cases h; done)
  cases kd with
  | none => cases ha
  | some bd => cases ha)
  (fun rest q k L b kd n0 g c h hq ha hm hn => by
  unfold fCount at h
  split at h <;> try (cases h; done)
  cases kd with
  | none => cases ha
  | some bd => 
    rename_i n
    cases h
    refine Eq.mpr (vcCount1 bd n0 g c n) (sel_of (fun h => ?_) fun h => ?_)
    · exact ⟨bytesOk_bG n0 g c hn, ⟨⟨bytesOk_bG n0 g c hn, hm⟩, hq⟩, fun c' => tailU rfl (notIn_lo h bd) fun i hi => rfl⟩
    · exact ⟨bytesOk_bG n0 g c hn, ⟨⟨bytesOk_bG n0 g c hn, hm⟩, hq⟩, fun c' => tailU rfl (notIn_no h bd) fun i hi => rfl⟩)
theorem Version_spec : HpSpec Try.prog 104 sVersion := app_spec ΓC1_ok Try.func104 (Λ0 := fun _ _ => noΛ) (Λ1 := fun _ _ _ _ _ => noΛ)
  (fun rest q k L b kd h hq ha => by
  unfold fVersion at h
  split at h <;> try (cases h; done)
  cases kd with
  | none => cases ha
  | some bd => cases ha)
  (fun rest q k L b kd n0 g c h hq ha hm hn => by
  unfold fVersion at h
  split at h <;> try (cases h; done)
  cases kd with
  | none => cases ha
  | some bd => 
    rename_i n
    cases h
    refine Eq.mpr (vcVersion1 bd n0 g c n) (sel_of (fun h => ?_) fun h => ?_)
    · exact ⟨bytesOk_bG n0 g c hn, ⟨⟨bytesOk_bG n0 g c hn, hm⟩, hq⟩, fun c' => tailU rfl (notIn_lo h bd) fun i hi => rfl⟩
    · exact ⟨bytesOk_bG n0 g c hn, ⟨⟨bytesOk_bG n0 g c hn, hm⟩, hq⟩, fun c' => tailU rfl (notIn_no h bd) fun i hi => rfl⟩)
end Go.Proofs.Ytjdldadmaaeimaa
end
section
namespace Go.Proofs.Ytjdldadmaaeimaa
open Go.SE Go.RowKit
def byt (s : ByteArray) : List Int := s.data.toList.map fun b => (b.toNat : Int)
theorem byt_len (s : ByteArray) : (byt s).length = s.size := by unfold byt; rw [List.length_map]; exact Array.length_toList
theorem byt_inj {s t : ByteArray} (h : byt s = byt t) : s = t := by
  have e : ∀ l m : List UInt8, l.map (fun b => (b.toNat : Int)) = m.map (fun b => (b.toNat : Int)) → l = m := by
    intro l
    induction l with
    | nil => intro m hm; cases m with | nil => rfl | cons _ _ => simp at hm
    | cons a l ih =>
      intro m hm
      cases m with
      | nil => simp at hm
      | cons b m =>
        simp only [List.map_cons, List.cons.injEq] at hm
        rw [ih m hm.2, UInt8.toNat_inj.1 (by omega : a.toNat = b.toNat)]
  obtain ⟨⟨l⟩⟩ := s
  obtain ⟨⟨m⟩⟩ := t
  rw [e l m h]
theorem byt_str {l : List Int} (h : ∀ x ∈ l, 0 ≤ x ∧ x < 256) : byt (strOfNums l) = l := by
  unfold byt strOfNums
  simp only [List.map_map]
  conv => rhs; rw [← List.map_id l]
  refine List.map_congr_left fun x hx => ?_
  obtain ⟨h0, h1⟩ := h x hx
  simp only [Function.comp, id_eq, UInt8.toNat_ofNat']
  omega
theorem byt_range (s : ByteArray) : ∀ x ∈ byt s, 0 ≤ x ∧ x < 256 := fun x hx => by
  unfold byt at hx
  obtain ⟨b, _, rfl⟩ := List.mem_map.1 hx
  have := b.toNat_lt
  omega
theorem str_byt (s : ByteArray) : strOfNums (byt s) = s := byt_inj (byt_str (byt_range s))
theorem byt_get (s : ByteArray) (i : Nat) : ((s.data.toList.getD i 0).toNat : Int) = (byt s).getD i 0 := by
  unfold byt
  simp only [List.getD, List.getElem?_map]
  cases s.data.toList[i]? <;> rfl
theorem byt_extract (s : ByteArray) (a b : Nat) : byt (s.extract a b) = ((byt s).take b).drop a := by
  unfold byt
  rw [ByteArray.data_extract, Array.toList_extract]
  simp [List.extract_eq_take_drop, List.map_take, List.map_drop, List.drop_take]
theorem byt_append (s t : ByteArray) : byt (s ++ t) = byt s ++ byt t := by
  unfold byt
  rw [ByteArray.data_append, Array.toList_append, List.map_append]
theorem str_append (l r : List Int) : strOfNums l ++ strOfNums r = strOfNums (l ++ r) := by
  unfold strOfNums
  apply ByteArray.ext
  rw [ByteArray.data_append]
  simp
theorem ba_beq (a b : ByteArray) : (a == b) = true ↔ a = b := by
  obtain ⟨a⟩ := a
  obtain ⟨b⟩ := b
  show (a == b) = true ↔ _
  rw [beq_iff_eq]
  simp
theorem size_str (l : List Int) : (strOfNums l).size = l.length := by simp [strOfNums, ByteArray.size]
theorem str_nil : strOfNums [] = emp := rfl
theorem app_emp (s : ByteArray) : s ++ emp = s := by
  apply ByteArray.ext
  rw [ByteArray.data_append]
  simp [emp]
theorem app_assoc (s t u : ByteArray) : s ++ t ++ u = s ++ (t ++ u) := by
  apply ByteArray.ext
  simp [ByteArray.data_append]
theorem str_app2 (s : ByteArray) (l r : List Int) : s ++ strOfNums l ++ strOfNums r = s ++ strOfNums (l ++ r) := by rw [app_assoc, str_append]
theorem size_app (s t : ByteArray) : (s ++ t).size = s.size + t.size := by simp
def lstG (n : Nat) (g : Nat → Int) : List Int := (List.range n).map g
theorem lstG_len (n : Nat) (g : Nat → Int) : (lstG n g).length = n := by simp [lstG]
theorem lstG_congr {n : Nat} {g h : Nat → Int} (e : ∀ i, i < n → g i = h i) : lstG n g = lstG n h := by
  unfold lstG
  exact List.map_congr_left fun i hi => e i (List.mem_range.1 hi)
theorem lstG_ap (n : Nat) (g : Nat → Int) (L : List Int) : lstG (n + L.length) (apG n g L) = lstG n g ++ L := by
  apply List.ext_getElem
  · simp [lstG_len]
  · intro i h1 h2
    rw [lstG_len] at h1
    simp only [lstG, List.getElem_map, List.getElem_range]
    by_cases h : i < n
    · rw [apG_old h, List.getElem_append_left (by simpa using h)]
      simp
    · rw [apG_new h, List.getElem_append_right (by simpa using h)]
      simp [List.getD, show i - n < L.length by omega]
theorem lstG_list (L : List Int) : lstG L.length (fun i => L.getD i 0) = L := by
  apply List.ext_getElem
  · simp [lstG_len]
  · intro i h1 h2
    simp [lstG, List.getD, h2]
theorem strOf_lst (n : Nat) (g : Nat → Int) : (strOf n fun i => [SV.v (.int .u8 (g i))]) = strOfNums (lstG n g) := by
  rw [strOf_eq]
  congr 1
  unfold bytesOf lstG
  rw [List.range_eq_range']
  rfl
theorem strOf_one (x : Int) : (strOf 1 fun _ => [SV.v (.int .u8 x)]) = strOfNums [x] := by rw [strOf_eq]; rfl
end Go.Proofs.Ytjdldadmaaeimaa
end
section
namespace Go.Proofs.Ytjdldadmaaeimaa
open Go.SE Go.RowKit
def frameS (s : ByteArray) : SV := bif Nat.beq s.size 0 then .tup [strS emp, .v (.int .i64 7)] else bif Nat.blt 2048 s.size then .tup [strS emp, .v (.int .i64 6)] else .tup [strS (strOfNums (be (s.size : Int) 4) ++ s), .v (.int .i64 0)]
def sFrame : List SV → Option (Option Prop × SV)
  | [.v (.string s)] => some (some (s.size < 4294967296), frameS s)
  | _ => none
def rB (s : ByteArray) (b : Bool) : Blk := { elem := 109, size := 2, rw := true, lock := false, lit := true, flat := true, n := 1, row := fun _ => [.v (.string s), .v (.bool b)], ext := 1, whole := true }
def rOk (b : Blk) : Bool := Nat.beq b.elem 109 && Nat.beq b.size 2 && b.rw && !b.dead && Nat.beq b.n 1 && Nat.beq b.ext 1 && b.whole && b.flat
def sRApp (m : Nat) (f : List SV → Option (Prop × List Int × Bool)) (args : List SV) (bs : List Blk) : Option Eff := match args, bs with
  | .vp 0 0 :: rest, [B] => match f rest, B.row 0 with
    | some (q, L, b), [.v (.string s), .v (.bool b0)] => bif rOk B then some (.det (some (q ∧ s.size ≤ m)) (.tup []) [(0, rB (s ++ strOfNums L) (b0 || b))]) else none
    | _, _ => none
  | _, _ => none
def fRBytes : List SV → Option (Prop × List Int × Bool)
  | [.v (.int .u64 n), .v (.int .i64 k)] => some (U64 n ∧ 0 ≤ k ∧ k ≤ 8, be n k.toNat, false)
  | _ => none
noncomputable def ΛRBytes (s : ByteArray) (b : Bool) (n : Int) (k : Nat) : Nat → Option LoopSpec := addLoop noΛ Try.f60 0 Nat (fun i => i ≤ k) (fun i => k - i) [(6, fun i => .v (.int .i64 ((k : Int) - 1 - i)))] [(0, fun i => rB (s ++ strOfNums (beT n k i)) b)]
def ΓD0 : Ctrs := addCtr (addCtr ΓC1 59 (hpCtr true sWord)) 60 (hpCtr true (sRApp M0 fRBytes))
theorem vcFrame (s : ByteArray) (R : SV→Prop) : (vcPure Try.prog ΓD0 noΛ Try.f21 [.v (.string s)] R) = (sel ((↑(ByteArray.size s) : Int) == 0) (R (SV.tup [(SV.v (.string ({data:=#[]}))),(SV.v (.int .i64 7))])) (sel (decide ((↑(ByteArray.size s) : Int) > 2048)) (R (SV.tup [(SV.v (.string ({data:=#[]}))),(SV.v (.int .i64 6))])) ((I64 (↑(ByteArray.size s) : Int))∧(∀ c : Nat,((((((4 + ByteArray.size s) * 1) : Nat) ≤ 140737488355328)∧((((0 + (4 + c)) : Nat) ≤ (4 + c))∧(∀ y : Nat,(((y : Nat) < (ByteArray.size s))→True))))∧(∀ c_1 : Nat,((∀ y : Nat,(((y : Nat) < (4 + ByteArray.size s))→True))∧(R (SV.tup [(SV.v (.string (strOf (4 + ByteArray.size s) fun y => [SV.v (.int .u8 (bop (Nat.blt (0 + y) 4) ((fun i => List.getD (be ((↑(ByteArray.size s) : Int) % 4294967296) 4) i 0) (0 + (0 + y))) (↑(UInt8.toNat (List.getD (Array.toList (ByteArray.data s)) (0 + y - 4) 0)) : Int)))]))),(SV.v (.int .i64 0))]))))))))):=by kernel_rfl
theorem vcRBytes (s : ByteArray) (b : Bool) (n : Int) (k : Nat) : (vcFn Try.prog noCtrs (ΛRBytes s b n k) Try.f60 [.vp 0 0,.v (.int .u64 n),.v (.int .i64 (k : Int))] (heapOf [rB s b]) 64 (fun y h' => FinE [rB s b] (.det none (.tup []) [(0,rB (s++strOfNums (be n k)) (b||false))]) y h')) =
((∃ x : Nat,((Nat.le x k)∧(((SV.v (.int .i64 (IntKind.wrap IntKind.i64 ((↑k : Int) - 1)))) = (SV.v (.int .i64 ((↑k : Int) - 1 - (↑x : Int)))))∧(((1 : Nat) = 1)∧(((1 : Nat) ≤ 1)∧(∀ i : Nat,(((i : Nat) < 1)→([(SV.v (.string s)),(SV.v (.bool b))] = [(SV.v (.string (s++strOfNums (beT n k x)))),(SV.v (.bool b))]))))))))∧(∀ x : Nat,((Nat.le x k)→(sel (decide ((↑k : Int) - 1 - (↑x : Int) ≥ 0)) (((0 : Int) ≤ (IntKind.wrap IntKind.u64 (IntKind.wrap IntKind.i64 (8 * ((↑k : Int) - 1 - (↑x : Int))))))∧((∀ y : Nat,(((y : Nat) < 1)→True))∧(((((↑(ByteArray.size (s++strOfNums (beT n k x)) + 1) : Int)) : Int) ≤ 9223372036854775807)∧(∃ x' : Nat,(((Nat.le x' k)∧(((SV.v (.int .i64 (IntKind.wrap IntKind.i64 ((↑k : Int) - 1 - (↑x : Int) - 1)))) = (SV.v (.int .i64 ((↑k : Int) - 1 - (↑x' : Int)))))∧(((1 : Nat) = 1)∧(((1 : Nat) ≤ 1)∧(∀ i : Nat,(((i : Nat) < 1)→([(SV.v (.string (s++strOfNums (beT n k x)++strOf 1 fun y => [SV.v (.int .u8 (IntKind.wrap IntKind.u8 (n / 2 ^ min (Int.toNat (IntKind.wrap IntKind.u64 (IntKind.wrap IntKind.i64 (8 * ((↑k : Int) - 1 - (↑x : Int)))))) 64)))]))),(SV.v (.bool b))] = [(SV.v (.string (s++strOfNums (beT n k x')))),(SV.v (.bool b))])))))))∧(((k - x') : Nat) < (k - x))))))) (True∧(((1 : Nat) = 1)∧(((1 : Nat) ≤ 1)∧(∀ i : Nat,(((i : Nat) < 1)→([(SV.v (.string (s++strOfNums (beT n k x)))),(SV.v (.bool b))] = [(SV.v (.string (s++strOfNums (be n k)))),(SV.v (.bool (b||false)))])))))))))) := by kernel_rfl
theorem Frame_str (s : ByteArray) : (strOf (4 + s.size) fun y => [SV.v (.int .u8 (bop (Nat.blt (0 + y) 4) ((be ((s.size : Int) % 4294967296) 4).getD (0 + (0 + y)) 0) ((s.data.toList.getD (0 + y - 4) 0).toNat : Int)))]) = strOfNums (be ((s.size : Int) % 4294967296) 4) ++ s := by
  have hl : (be ((s.size : Int) % 4294967296) 4).length = 4 := be_len _ _
  generalize be ((s.size : Int) % 4294967296) 4 = L at hl ⊢
  have hs : strOfNums L ++ s = strOfNums (L ++ byt s) := by rw [← str_append, str_byt]
  rw [hs, strOf_lst]
  congr 1
  have := lstG_ap 4 (fun i => L.getD i 0) (byt s)
  rw [byt_len] at this
  have h4 : lstG 4 (fun i => L.getD i 0) = L := by
    have := lstG_list L
    rw [hl] at this
    exact this
  rw [h4] at this
  rw [← this]
  refine lstG_congr fun i _ => ?_
  simp only [Nat.zero_add]
  unfold apG
  rw [byt_get]
theorem rOk_same {B : Blk} {s : ByteArray} {b : Bool} (h1 : rOk B = true) (h2 : B.row 0 = [.v (.string s), .v (.bool b)]) : BlkSame B (rB s b) := by
  simp only [rOk, Bool.and_eq_true, Bool.not_eq_true'] at h1
  obtain ⟨⟨⟨⟨⟨⟨⟨a1, a2⟩, a3⟩, a4⟩, a5⟩, a6⟩, a7⟩, a8⟩ := h1
  have hn := Nat.eq_of_beq_eq_true a5
  exact ⟨Nat.eq_of_beq_eq_true a2, a3, a8, hn, Nat.eq_of_beq_eq_true a6, a4, Nat.eq_of_beq_eq_true a1, a7, fun i hi => by
    have : i = 0 := by omega
    subst this
    exact h2⟩
theorem rapp_spec {Γ : Ctrs} (hΓ : ∀ f g, Γ f = some g → g.ok Try.prog f) {f : FuncId} {fn : Func} (hf : Try.prog.funcs[f]? = some fn) {m : Nat} {F : List SV → Option (Prop × List Int × Bool)} {Λ : List SV → ByteArray → Bool → Nat → Option LoopSpec}
    (h : ∀ rest q L b s b0, F rest = some (q, L, b) → q → s.size ≤ m → vcFn Try.prog Γ (Λ rest s b0) fn (.vp 0 0 :: rest) (heapOf [rB s b0]) 64 (fun y h' => FinE [rB s b0] (.det none (.tup []) [(0, rB (s ++ strOfNums L) (b0 || b))]) y h')) :
    HpSpec Try.prog f (sRApp m F) := hp_spec hm hΓ hf (Λ := fun args bs => match args, bs with
      | _ :: rest, [B] => match B.row 0 with
        | [.v (.string s), .v (.bool b0)] => Λ rest s b0
        | _ => noΛ
      | _, _ => noΛ) fun args bs e hs hp => by
  unfold sRApp at hs
  split at hs <;> try (cases hs; done)
  rename_i rest B
  split at hs <;> try (cases hs; done)
  rename_i q L b s b0 hF hB
  obtain ⟨ha, he⟩ := bif_some hs
  subst he
  obtain ⟨hq, hm⟩ := hp _ rfl
  refine ⟨[rB s b0], ⟨rOk_same ha hB, trivial⟩, ?_⟩
  simp only [hB]
  exact h rest q L b s b0 hF hq hm
theorem RBytes_spec : HpSpec Try.prog 60 (sRApp M0 fRBytes) := rapp_spec noCtrs_ok Try.func60 (Λ := fun rest s b0 => match rest with | [.v (.int _ n), .v (.int _ k)] => ΛRBytes s b0 n k.toNat | _ => noΛ) fun rest q L b s b0 h hq hm => by
  unfold fRBytes at h
  split at h <;> try (cases h; done)
  rename_i n k
  cases h
  obtain ⟨hn, hk0, hk⟩ := hq
  have hm : s.size ≤ 1099511627776 := hm
  obtain ⟨k, rfl⟩ : ∃ m : Nat, k = (m : Int) := ⟨k.toNat, by omega⟩
  rw [Int.toNat_natCast]
  refine Eq.mpr (vcRBytes s b0 n k) ⟨⟨0, Nat.zero_le _, int_mk (by rw [wrap_i64 ⟨by omega, by omega⟩]; omega), rfl, Nat.le_refl _, fun i _ => ?_⟩, fun x hx => sel_of (fun hlt => ?_) fun hge => ?_⟩
  · rw [show beT n k 0 = [] by simp [beT], str_nil, app_emp]
  · have hx : x ≤ k := hx
    have hlt := of_decide_eq_true hlt
    have hlt : x < k := by omega
    have e3 : IntKind.i64.wrap (8 * ((k : Int) - 1 - x)) = 8 * ((k : Int) - 1 - x) := wrap_i64 ⟨by omega, by omega⟩
    have e4 : IntKind.i64.wrap ((k : Int) - 1 - x - 1) = (k : Int) - 1 - x - 1 := wrap_i64 ⟨by omega, by omega⟩
    rw [e3, e4, wrap_u64, wrap_u8]
    refine ⟨by omega, fun _ _ => trivial, ?_, x + 1, ⟨hlt, int_mk (by omega), rfl, Nat.le_refl _, fun i _ => ?_⟩, by omega⟩
    · rw [size_app, size_str, beT_len]; omega
    · rw [strOf_one, str_app2, beT_succ]
      unfold byteAt
      rw [show min (Int.toNat (8 * ((k : Int) - 1 - x) % 18446744073709551616)) 64 = 8 * (k - 1 - x) by omega]
  · have hx : x ≤ k := hx
    have hge := of_decide_eq_false hge
    have hx : x = k := by omega
    subst hx
    exact ⟨trivial, rfl, Nat.le_refl _, fun i _ => by rw [Bool.or_false]; rfl⟩
theorem ΓD0_ok : ∀ f g, ΓD0 f = some g → g.ok Try.prog f := addCtr_ok (addCtr_ok ΓC1_ok (hp_ok Try.func59 (by kernel_rfl) (by kernel_rfl) Word_spec)) (hp_ok Try.func60 (by kernel_rfl) (by kernel_rfl) RBytes_spec)
theorem frameS_nil {s : ByteArray} (h : s.size = 0) : frameS s = .tup [strS emp, .v (.int .i64 7)] := by
  unfold frameS
  rw [h]; rfl
theorem frameS_long {s : ByteArray} (h : 2048 < s.size) : frameS s = .tup [strS emp, .v (.int .i64 6)] := by
  unfold frameS
  rw [Go.SE.beq_false (by omega : s.size ≠ 0), cond_false, blt_true h, cond_true]
theorem frameS_ok {s : ByteArray} (h : s.size ≠ 0) (h2 : ¬ 2048 < s.size) : frameS s = .tup [strS (strOfNums (be (s.size : Int) 4) ++ s), .v (.int .i64 0)] := by
  unfold frameS
  rw [Go.SE.beq_false h, cond_false, blt_false h2, cond_false]
theorem frameS_plain (s : ByteArray) : plain (frameS s) = true := by
  unfold frameS
  cases Nat.beq s.size 0 with
  | true => rfl
  | false =>
    cases Nat.blt 2048 s.size <;> rfl
theorem Frame_spec : PureSpec Try.prog 21 sFrame := vc_spec hm ΓD0_ok Try.func21 (Λ := fun _ => noΛ) fun args p x h hp => by
  unfold sFrame at h
  split at h <;> try (cases h; done)
  rename_i s
  cases h
  have hs : s.size < 4294967296 := hp _ rfl
  refine ⟨rfl, frameS_plain s, Eq.mpr (vcFrame s _) (sel_of (fun h => ?_) fun h => sel_of (fun h2 => ?_) fun h2 => ?_)⟩
  · have h : s.size = 0 := by simpa using h
    rw [frameS_nil h]; rfl
  · have h2 := of_decide_eq_true h2
    rw [frameS_long (by omega)]; rfl
  · have h : s.size ≠ 0 := by simpa using h
    have h2 := of_decide_eq_false h2
    have e : (s.size : Int) % 4294967296 = s.size := by omega
    refine ⟨⟨by omega, by omega⟩, fun c => ⟨⟨by omega, by omega, fun _ _ => trivial⟩, fun c' => ⟨fun _ _ => trivial, ?_⟩⟩⟩
    rw [frameS_ok h (by omega)]
    have := Frame_str s
    simp only [e] at this ⊢
    exact congrArg (fun z => SV.tup [SV.v (.string z), SV.v (.int .i64 0)]) this
end Go.Proofs.Ytjdldadmaaeimaa
end
section
namespace Go.Proofs.Ytjdldadmaaeimaa
open Go.SE Go.RowKit
def iV (n : Int) : SV := .v (.int .i64 n)
def bV (b : Bool) : SV := .v (.bool b)
abbrev zI : SV := .v (.int .i64 0)
abbrev zF : SV := .v (.bool false)
abbrev zS : SV := .v (.slice none 0 0)
def flB (b : Bool) : List Int := [bif b then 1 else 0]
def i8 (n : Int) : List Int := be (n % 18446744073709551616) 8
def c4 (n : Int) : List Int := be (n % 4294967296) 4
def isMin (n : Int) : Bool := n == -9223372036854775808
def numL (v : Int) (f : Bool) : List Int := i8 v ++ flB f
def vecL (xv : Int) (xf : Bool) (yv : Int) (yf : Bool) : List Int := numL xv xf ++ numL yv yf
theorem i8_len (n : Int) : (i8 n).length = 8 := be_len _ _
theorem c4_len (n : Int) : (c4 n).length = 4 := be_len _ _
theorem flB_len (b : Bool) : (flB b).length = 1 := rfl
theorem numL_len (v : Int) (f : Bool) : (numL v f).length = 9 := by simp [numL, i8_len, flB_len]
end Go.Proofs.Ytjdldadmaaeimaa
end
section
namespace Go.Proofs.Ytjdldadmaaeimaa
open Go.SE Go.RowKit
def isNum (r : List SV) : Prop := match r with
  | [.v (.int .i64 v), .v (.bool _)] => I64 v
  | _ => False
def nV (r : List SV) : Int := match r with | [.v (.int _ v), _] => v | _ => 0
def nF (r : List SV) : Bool := match r with | [_, .v (.bool f)] => f | _ => false
def numsL (v : Nat → Int) (f : Nat → Bool) : Nat → List Int
  | 0 => []
  | n + 1 => numsL v f n ++ numL (v n) (f n)
def anyMin (v : Nat → Int) : Nat → Bool
  | 0 => false
  | n + 1 => anyMin v n || isMin (v n)
def numB (e n' : Nat) (v : Nat → Int) (f : Nat → Bool) : Blk := { elem := e, size := 2, rw := false, lock := false, lit := false, flat := true, n := n', row := fun i => [.v (.int .i64 (v i)), .v (.bool (f i))], ext := 0 }
def roOk2 (S : Blk) : Bool := S.flat && !S.rw && !S.dead && Nat.beq S.size 2 && Nat.beq S.ext 0 && !S.whole
def isPair (r : List SV) : Prop := match r with
  | [.v (.int .i64 x), .v (.int .i64 y)] => I64 x ∧ I64 y
  | _ => False
def pX (r : List SV) : Int := match r with | [.v (.int _ x), _] => x | _ => 0
def pY (r : List SV) : Int := match r with | [_, .v (.int _ y)] => y | _ => 0
def spotsL (x y : Nat → Int) : Nat → List Int
  | 0 => []
  | n + 1 => spotsL x y n ++ (i8 (x n) ++ i8 (y n))
def spB (e n' : Nat) (x y : Nat → Int) : Blk := { elem := e, size := 2, rw := false, lock := false, lit := false, flat := true, n := n', row := fun i => [.v (.int .i64 (x i)), .v (.int .i64 (y i))], ext := 0 }
def NB0 : Nat := 1000000000
def sNums (args : List SV) (bs : List Blk) : Option Eff := match args, bs with
  | [.vp 0 0, .sl 2 2 0 n _], [B, D, S] => match wrOf [B, D] with
    | some (.used (some b) n0 g c p) => bif roOk2 S then some (apE (.used (some b) n0 g c p) NB0 (S.n = n ∧ 1 ≤ n ∧ n ≤ 100 ∧ ∀ i, i < n → isNum (S.row i)) (9 * n) (numsL (fun i => nV (S.row i)) (fun i => nF (S.row i)) n) (anyMin (fun i => nV (S.row i)) n)) else none
    | _ => none
  | _, _ => none
structure NX where
  i : Nat
  c : Nat
noncomputable def ΛNums (b : Bool) (n0 : Nat) (g : Nat → Int) (n : Nat) (v : Nat → Int) (f : Nat → Bool) : Nat → Option LoopSpec := addLoopN noΛ Try.f100 0 NX (fun x => x.i ≤ n ∧ (x.i = 0 ∨ n0 + 9 * x.i ≤ x.c)) (fun x => n - x.i) [(8, fun x => .v (.int .i64 x.i))] [(0, fun x => wB (some (b || anyMin v x.i)) false (.sl 40 1 0 (n0 + 9 * x.i) x.c))] [(40, fun x => bG (n0 + 9 * x.i) (apG n0 g (numsL v f x.i)) x.c, inVar 0 0)]
def ΓF0 : Ctrs := addCtr ΓC1 102 (hpCtr true sFlag)
theorem vcNums (b : Bool) (n0 : Nat) (g : Nat→Int) (c n e n' c' : Nat) (v : Nat→Int) (f : Nat→Bool) : (vcFn Try.prog ΓF0 (ΛNums b n0 g n v f) Try.f100 [.vp 0 0,.sl 2 2 0 n c'] (heapOf [wB (some b) false (.sl 1 1 0 n0 c),bG n0 g c,numB e n' v f]) 64 (fun y h' => FinE [wB (some b) false (.sl 1 1 0 n0 c),bG n0 g c,numB e n' v f] (apE (.used (some b) n0 g c True) 0 True (9 * n) (numsL v f n) (anyMin v n)) y h')) =
((∃ x : NX,(((((NX.i x) : Nat) ≤ n)∧(NX.i x = 0 ∨ n0 + 9 * NX.i x ≤ NX.c x))∧((zI = (SV.v (.int .i64 ((↑(NX.i x) : Int)))))∧((((1 : Nat) = 1)∧(((1 : Nat) ≤ 1)∧(((SV.sl 1 1 0 n0 c) = (SV.sl 1 1 0 (n0 + 9 * NX.i x) (NX.c x)))∧((SV.v (.bool b)) = (SV.v (.bool (b||anyMin v (NX.i x))))))))∧(((n0 : Nat) = (n0 + 9 * NX.i x))∧((((NX.c x) : Nat) ≤ c)∧(∀ i : Nat,(((i : Nat) < (n0 + 9 * NX.i x))→([(SV.v (.int .u8 (g i)))] = [(SV.v (.int .u8 (apG n0 g (numsL v f (NX.i x)) i)))])))))))))∧(∀ x : NX,(((((NX.i x) : Nat) ≤ n)∧(NX.i x = 0 ∨ n0 + 9 * NX.i x ≤ NX.c x))→(sel (decide ((↑(NX.i x) : Int) < (↑n : Int))) ((((0 : Int) ≤ ((↑(NX.i x) : Int)))∧((((↑(NX.i x) : Int)) : Int) < ((↑n : Int))))∧((bytesOk (n0 + 9 * NX.i x) (NX.c x) {elem:=5,size:=1,rw:=true,lock:=false,lit:=false,flat:=true,n:=n0 + 9 * NX.i x,row:=fun i => [SV.v (.int .u8 (apG n0 g (numsL v f (NX.i x)) i))],ext:=NX.c x})∧((((bytesOk (n0 + 9 * NX.i x) (NX.c x) {elem:=5,size:=1,rw:=true,lock:=false,lit:=false,flat:=true,n:=n0 + 9 * NX.i x,row:=fun i => [SV.v (.int .u8 ((fun i => SE.byteOf [SV.v (.int .u8 (apG n0 g (numsL v f (NX.i x)) i))]) i))],ext:=NX.c x})∧(((n0 + 9 * NX.i x) : Nat) ≤ M0))∧(I64 (v (0 + Int.toNat (↑(NX.i x) : Int)))))∧(∀ c_1 : Nat,((((bytesOk (n0 + 9 * NX.i x + 8) (n0 + 9 * NX.i x + 8 + c_1) {elem:=5,size:=1,rw:=true,lock:=false,lit:=false,flat:=true,n:=n0 + 9 * NX.i x + 8,row:=fun i => [SV.v (.int .u8 (apG (n0 + 9 * NX.i x) (fun i => SE.byteOf [SV.v (.int .u8 ((fun i => SE.byteOf [SV.v (.int .u8 (apG n0 g (numsL v f (NX.i x)) i))]) i))]) (be (v (0 + Int.toNat (↑(NX.i x) : Int)) % 18446744073709551616) 8) i))],ext:=n0 + 9 * NX.i x + 8 + c_1})∧(((n0 + 9 * NX.i x + 8) : Nat) ≤ M0))∧True)∧(∀ c_2 : Nat,(∃ x' : NX,((((((NX.i x') : Nat) ≤ n)∧(NX.i x' = 0 ∨ n0 + 9 * NX.i x' ≤ NX.c x'))∧(((SV.v (.int .i64 (IntKind.wrap IntKind.i64 ((↑(NX.i x) : Int) + 1)))) = (SV.v (.int .i64 ((↑(NX.i x') : Int)))))∧((((1 : Nat) = 1)∧(((1 : Nat) ≤ 1)∧(((SV.sl 240 1 0 (n0 + 9 * NX.i x + 8 + 1) (n0 + 9 * NX.i x + 8 + 1 + c_2)) = (SV.sl 240 1 0 (n0 + 9 * NX.i x') (NX.c x')))∧((SV.v (.bool (b||anyMin v (NX.i x)||!v (0 + Int.toNat (↑(NX.i x) : Int)) != -9223372036854775808||false||false))) = (SV.v (.bool (b||anyMin v (NX.i x'))))))))∧((((n0 + 9 * NX.i x + 8 + 1) : Nat) = (n0 + 9 * NX.i x'))∧((((NX.c x') : Nat) ≤ (n0 + 9 * NX.i x + 8 + 1 + c_2))∧(∀ i : Nat,(((i : Nat) < (n0 + 9 * NX.i x'))→([(SV.v (.int .u8 (apG (n0 + 9 * NX.i x + 8) (fun i => SE.byteOf [SV.v (.int .u8 (apG (n0 + 9 * NX.i x) (fun i => SE.byteOf [SV.v (.int .u8 ((fun i => SE.byteOf [SV.v (.int .u8 (apG n0 g (numsL v f (NX.i x)) i))]) i))]) (be (v (0 + Int.toNat (↑(NX.i x) : Int)) % 18446744073709551616) 8) i))]) [bif f (0 + Int.toNat (↑(NX.i x) : Int)) then 1 else 0] i)))] = [(SV.v (.int .u8 (apG n0 g (numsL v f (NX.i x')) i)))]))))))))∧(((n - NX.i x') : Nat) < (n - NX.i x)))))))))) (∃ c_1 : Nat,(True∧((((1 : Nat) = 1)∧(((1 : Nat) ≤ 1)∧(((SV.sl 40 1 0 (n0 + 9 * NX.i x) (NX.c x)) = (SV.sl 40 1 0 (n0 + 9 * n) (n0 + 9 * n + c_1)))∧((SV.v (.bool (b||anyMin v (NX.i x)))) = (SV.v (.bool (b||anyMin v n)))))))∧((((n0 + 9 * NX.i x) : Nat) = (n0 + 9 * n))∧((((n0 + 9 * n + c_1) : Nat) ≤ (NX.c x))∧(∀ i : Nat,(((i : Nat) < (n0 + 9 * n))→([(SV.v (.int .u8 (apG n0 g (numsL v f (NX.i x)) i)))] = [(SV.v (.int .u8 (apG n0 g (numsL v f n) i)))])))))))))))) := by kernel_rfl
def fHandle : List SV → Option (Prop × Nat × List Int × Bool)
  | [.agg [.v (.int .i64 x), .v (.int .i64 y)]] => some (I64 x ∧ I64 y, 8, c4 x ++ c4 y, notIn x 2147483647 || notIn y 2147483647)
  | _ => none
def ΓF1 : Ctrs := addCtr (addCtr (addCtr ΓF0 96 (hpCtr true sCount)) 104 (hpCtr true sVersion)) 100 (hpCtr true sNums)
theorem vcHandle (b : Bool) (n0 : Nat) (g : Nat→Int) (c : Nat) (x y : Int) : (vcFn Try.prog ΓF1 noΛ Try.f103 [.vp 0 0,.agg [.v (.int .i64 x),.v (.int .i64 y)]] (heapOf (uB (some b) n0 g c)) 64 (fun y' h' => FinE (uB (some b) n0 g c) (apE (.used (some b) n0 g c True) 0 True 8 (c4 x++c4 y) (notIn x 2147483647||notIn y 2147483647)) y' h')) =
((((bytesOk n0 c {elem:=5,size:=1,rw:=true,lock:=false,lit:=false,flat:=true,n:=n0,row:=fun i => [SV.v (.int .u8 (g i))],ext:=c})∧((n0 : Nat) ≤ M0))∧(I64 x))∧(∀ c_1 : Nat,((((bytesOk (n0 + 4) (n0 + 4 + c_1) {elem:=5,size:=1,rw:=true,lock:=false,lit:=false,flat:=true,n:=n0 + 4,row:=fun i => [SV.v (.int .u8 (apG n0 (fun i => SE.byteOf [SV.v (.int .u8 (g i))]) (be (x % 4294967296) 4) i))],ext:=n0 + 4 + c_1})∧(((n0 + 4) : Nat) ≤ M0))∧(I64 y))∧(∀ c_2 : Nat,(∃ c_3 : Nat,(True∧((((1 : Nat) = 1)∧(((1 : Nat) ≤ 1)∧(((SV.sl 128 1 0 (n0 + 4 + 4) (n0 + 4 + 4 + c_2)) = (SV.sl 128 1 0 (n0 + 8) (n0 + 8 + c_3)))∧((SV.v (.bool (b||notIn x 2147483647||notIn y 2147483647))) = (SV.v (.bool (b||(notIn x 2147483647||notIn y 2147483647))))))))∧((((n0 + 4 + 4) : Nat) = (n0 + 8))∧((((n0 + 8 + c_3) : Nat) ≤ (n0 + 4 + 4 + c_2))∧(∀ i : Nat,(((i : Nat) < (n0 + 8))→([(SV.v (.int .u8 (apG (n0 + 4) (fun i => SE.byteOf [SV.v (.int .u8 (apG n0 (fun i => SE.byteOf [SV.v (.int .u8 (g i))]) (be (x % 4294967296) 4) i))]) (be (y % 4294967296) 4) i)))] = [(SV.v (.int .u8 (apG n0 g (c4 x++c4 y) i)))])))))))))))) := by kernel_rfl
theorem vcVec (b : Bool) (n0 : Nat) (g : Nat→Int) (c : Nat) (xv : Int) (xf : Bool) (yv : Int) (yf : Bool) : (vcFn Try.prog ΓF1 noΛ Try.f99 [.vp 0 0,.agg [.v (.int .i64 xv),.v (.bool xf),.v (.int .i64 yv),.v (.bool yf)]] (heapOf (uB (some b) n0 g c)) 64 (fun y' h' => FinE (uB (some b) n0 g c) (apE (.used (some b) n0 g c True) 0 True 18 (vecL xv xf yv yf) (isMin xv||isMin yv)) y' h')) =
((((bytesOk n0 c {elem:=5,size:=1,rw:=true,lock:=false,lit:=false,flat:=true,n:=n0,row:=fun i => [SV.v (.int .u8 (g i))],ext:=c})∧((n0 : Nat) ≤ NB0))∧(((2 : Nat) = 2)∧(((1 : Nat) ≤ 2)∧(((2 : Nat) ≤ 100)∧(∀ i : Nat,(((i : Nat) < 2)→(isNum [SV.v (.int .i64 (bop (Nat.beq (0 + i) 0) xv yv)),SV.v (.bool (bop (Nat.beq (0 + i) 0) xf yf))])))))))∧(∀ c_1 : Nat,(∃ c_2 : Nat,(True∧((((1 : Nat) = 1)∧(((1 : Nat) ≤ 1)∧(((SV.sl 120 1 0 (n0 + 18) (n0 + 18 + c_1)) = (SV.sl 120 1 0 (n0 + 18) (n0 + 18 + c_2)))∧((SV.v (.bool (b||anyMin (fun i => nV [SV.v (.int .i64 (bop (Nat.beq (0 + i) 0) xv yv)),SV.v (.bool (bop (Nat.beq (0 + i) 0) xf yf))]) 2))) = (SV.v (.bool (b||(isMin xv||isMin yv))))))))∧((((n0 + 18) : Nat) = (n0 + 18))∧((((n0 + 18 + c_2) : Nat) ≤ (n0 + 18 + c_1))∧(∀ i : Nat,(((i : Nat) < (n0 + 18))→([(SV.v (.int .u8 (apG n0 (fun i => SE.byteOf [SV.v (.int .u8 (g i))]) (numsL (fun i => nV [SV.v (.int .i64 (bop (Nat.beq (0 + i) 0) xv yv)),SV.v (.bool (bop (Nat.beq (0 + i) 0) xf yf))]) (fun i => nF [SV.v (.int .i64 (bop (Nat.beq (0 + i) 0) xv yv)),SV.v (.bool (bop (Nat.beq (0 + i) 0) xf yf))]) 2) i)))] = [(SV.v (.int .u8 (apG n0 g (vecL xv xf yv yf) i)))])))))))))) := by kernel_rfl
theorem ΓF0_ok : ∀ f g, ΓF0 f = some g → g.ok Try.prog f := addCtr_ok ΓC1_ok (hp_ok Try.func102 (by kernel_rfl) (by kernel_rfl) Flag_spec)
theorem numsL_len (v : Nat → Int) (f : Nat → Bool) : ∀ k, (numsL v f k).length = 9 * k
  | 0 => rfl
  | k + 1 => by
    show (numsL v f k ++ numL (v k) (f k)).length = _
    rw [List.length_append, numsL_len v f k, numL_len]; omega
theorem nums_row (v : Nat → Int) (f : Nat → Bool) (n0 : Nat) (g : Nat → Int) (k i : Nat) : apG (n0 + 9 * k + 8) (apG (n0 + 9 * k) (apG n0 g (numsL v f k)) (i8 (v k))) (flB (f k)) i = apG n0 g (numsL v f (k + 1)) i := by
  rw [apG_ap (by rw [i8_len]), apG_ap (by rw [numsL_len])]
  rfl
theorem min_ne (a : Int) : (!(a != -9223372036854775808)) = isMin a := by
  unfold isMin bne
  rw [Bool.not_not]
theorem Nums_used (b : Bool) (n0 : Nat) (g : Nat → Int) (c n e n' c' : Nat) (v : Nat → Int) (f : Nat → Bool) (hn0 : n0 ≤ 1000000000) (h1 : 1 ≤ n) (hn : n ≤ 100) (hv : ∀ i, i < n → I64 (v i)) :
    vcFn Try.prog ΓF0 (ΛNums b n0 g n v f) Try.f100 [.vp 0 0, .sl 2 2 0 n c'] (heapOf [wB (some b) false (.sl 1 1 0 n0 c), bG n0 g c, numB e n' v f]) 64 (fun y h' => FinE [wB (some b) false (.sl 1 1 0 n0 c), bG n0 g c, numB e n' v f] (apE (.used (some b) n0 g c True) 0 True (9 * n) (numsL v f n) (anyMin v n)) y h') := by
  refine Eq.mpr (vcNums b n0 g c n e n' c' v f) ⟨⟨⟨0, c⟩, ⟨Nat.zero_le _, .inl rfl⟩, rfl, ⟨rfl, Nat.le_refl _, rfl, by simp [anyMin]⟩, rfl, Nat.le_refl _, fun i hi => congrArg (fun z => [SV.v (.int .u8 z)]) (apG_old hi).symm⟩, fun x ⟨h2, h3⟩ => sel_of (fun hlt => ?_) fun hge => ?_⟩
  · have hlt := of_decide_eq_true hlt
    have hlt : x.i < n := by omega
    have hw : IntKind.i64.wrap ((x.i : Int) + 1) = ((x.i + 1 : Nat) : Int) := wrap_i64 ⟨by omega, by omega⟩
    have hvx := hv x.i hlt
    rw [show 0 + Int.toNat (x.i : Int) = x.i by omega]
    refine ⟨⟨by omega, by omega⟩, bytesOk_bG _ _ _ (by omega), ⟨⟨bytesOk_bG _ _ _ (by omega), by show n0 + 9 * x.i ≤ 1099511627776; omega⟩, hvx⟩, fun c1 => ⟨⟨⟨bytesOk_bG _ _ _ (by omega), by show n0 + 9 * x.i + 8 ≤ 1099511627776; omega⟩, trivial⟩, fun c2 => ⟨⟨x.i + 1, n0 + 9 * x.i + 8 + 1 + c2⟩, ⟨⟨by show x.i + 1 ≤ n; omega, .inr (by show n0 + 9 * (x.i + 1) ≤ n0 + 9 * x.i + 8 + 1 + c2; omega)⟩, int_mk hw, ⟨rfl, Nat.le_refl _, ?_, ?_⟩, ?_, Nat.le_refl _, fun i hi => ?_⟩, by show n - (x.i + 1) < n - x.i; omega⟩⟩⟩
    · show SV.sl _ 1 0 _ _ = SV.sl _ 1 0 (n0 + 9 * (x.i + 1)) _
      rw [show n0 + 9 * (x.i + 1) = n0 + 9 * x.i + 8 + 1 by omega]
    · show SV.v (.bool _) = SV.v (.bool (b || (anyMin v x.i || isMin (v x.i))))
      rw [min_ne, Bool.or_false, Bool.or_false, Bool.or_assoc]
    · show n0 + 9 * x.i + 8 + 1 = n0 + 9 * (x.i + 1)
      omega
    · exact congrArg (fun z => [SV.v (.int .u8 z)]) (nums_row v f n0 g x.i i)
  · have hge := of_decide_eq_false hge
    have hx : x.i = n := by omega
    rw [hx] at h3 ⊢
    have h3 : n0 + 9 * n ≤ x.c := by omega
    have he : n0 + 9 * n + (x.c - (n0 + 9 * n)) = x.c := by omega
    exact ⟨x.c - (n0 + 9 * n), trivial, ⟨rfl, Nat.le_refl _, by rw [he], rfl⟩, rfl, by omega, fun i hi => rfl⟩
theorem isNum_row {r : List SV} (h : isNum r) : r = [.v (.int .i64 (nV r)), .v (.bool (nF r))] ∧ I64 (nV r) := by
  unfold isNum at h
  split at h
  · exact ⟨rfl, h⟩
  · exact h.elim
theorem same_numB {S : Blk} {n : Nat} (h1 : roOk2 S = true) (hn : S.n = n) (h : ∀ i, i < n → isNum (S.row i)) : BlkSame S (numB S.elem n (fun i => nV (S.row i)) (fun i => nF (S.row i))) := by
  simp only [roOk2, Bool.and_eq_true, Bool.not_eq_true'] at h1
  obtain ⟨⟨⟨⟨⟨a1, a2⟩, a3⟩, a4⟩, a5⟩, a6⟩ := h1
  exact ⟨Nat.eq_of_beq_eq_true a4, a2, a1, hn, Nat.eq_of_beq_eq_true a5, a3, rfl, a6, fun i hi => (isNum_row (h i (by omega))).1⟩
theorem Nums_spec : HpSpec Try.prog 100 sNums := hp_spec hm ΓF0_ok Try.func100 (Λ := fun args bs => match args, bs with
    | [_, .sl _ _ _ n _], [B, D, S] => match wrOf [B, D] with
      | some (.used (some b) n0 g _ _) => ΛNums b n0 g n (fun i => nV (S.row i)) (fun i => nF (S.row i))
      | _ => noΛ
    | _, _ => noΛ) fun args bs e hs hp => by
  unfold sNums at hs
  split at hs <;> try (cases hs; done)
  rename_i n c' B D S
  split at hs <;> try (cases hs; done)
  rename_i b n0 g c p hw
  obtain ⟨ha, he⟩ := bif_some hs
  subst he
  obtain ⟨⟨hp, hm⟩, hn, h1, h100, hv⟩ : (p ∧ n0 ≤ NB0) ∧ S.n = n ∧ 1 ≤ n ∧ n ≤ 100 ∧ ∀ i, i < n → isNum (S.row i) := hp
  have hsame := (wrOf_used hw hp).1
  refine ⟨[wB (some b) false (.sl 1 1 0 n0 c), bG n0 g c, numB S.elem n (fun i => nV (S.row i)) (fun i => nF (S.row i))], ⟨hsame.1, hsame.2.1, same_numB ha hn hv, trivial⟩, ?_⟩
  simp only [hw]
  exact Nums_used b n0 g c n S.elem n c' _ _ hm h1 h100 fun i hi => (isNum_row (hv i hi)).2
theorem ΓF1_ok : ∀ f g, ΓF1 f = some g → g.ok Try.prog f := addCtr_ok (addCtr_ok (addCtr_ok ΓF0_ok (hp_ok Try.func96 (by kernel_rfl) (by kernel_rfl) Count_spec)) (hp_ok Try.func104 (by kernel_rfl) (by kernel_rfl) Version_spec)) (hp_ok Try.func100 (by kernel_rfl) (by kernel_rfl) Nums_spec)
theorem Handle_spec : HpSpec Try.prog 103 (sApp {} NB0 fHandle) := app_spec ΓF1_ok Try.func103 (Λ0 := fun _ _ => noΛ) (Λ1 := fun _ _ _ _ _ => noΛ)
  (fun rest q k L b kd h hq ha => by cases kd <;> cases ha)
  (fun rest q k L b kd n0 g c h hq ha hm hn => by
  unfold fHandle at h
  split at h <;> try (cases h; done)
  rename_i x y
  cases kd with
  | none => cases ha
  | some bd =>
    cases h
    have hm : n0 ≤ 1000000000 := hm
    exact Eq.mpr (vcHandle bd n0 g c x y) ⟨⟨⟨bytesOk_bG _ _ _ (by omega), by show n0 ≤ 1099511627776; omega⟩, hq.1⟩, fun c1 => ⟨⟨⟨bytesOk_bG _ _ _ (by omega), by show n0 + 4 ≤ 1099511627776; omega⟩, hq.2⟩, fun c2 => tailU (by omega) (Bool.or_assoc _ _ _) fun i hi => apG_ap (g := g) (L := c4 x) (M := c4 y) (by rw [c4_len]) i⟩⟩)
def fVec : List SV → Option (Prop × Nat × List Int × Bool)
  | [.agg [.v (.int .i64 xv), .v (.bool xf), .v (.int .i64 yv), .v (.bool yf)]] => some (I64 xv ∧ I64 yv, 18, vecL xv xf yv yf, isMin xv || isMin yv)
  | _ => none
theorem two_cases {i : Nat} (h : i < 2) : i = 0 ∨ i = 1 := by omega
theorem Vec_spec : HpSpec Try.prog 99 (sApp {} NB0 fVec) := app_spec ΓF1_ok Try.func99 (Λ0 := fun _ _ => noΛ) (Λ1 := fun _ _ _ _ _ => noΛ)
  (fun rest q k L b kd h hq ha => by cases kd <;> cases ha)
  (fun rest q k L b kd n0 g c h hq ha hm hn => by
  unfold fVec at h
  split at h <;> try (cases h; done)
  rename_i xv xf yv yf
  cases kd with
  | none => cases ha
  | some bd =>
    cases h
    exact Eq.mpr (vcVec bd n0 g c xv xf yv yf) ⟨⟨⟨bytesOk_bG _ _ _ (by omega), hm⟩, rfl, by omega, by omega, fun i hi => by
      rcases two_cases hi with rfl | rfl
      · exact hq.1
      · exact hq.2⟩, fun c1 => tailU rfl rfl fun i hi => rfl⟩)
end Go.Proofs.Ytjdldadmaaeimaa
end
section
namespace Go.Proofs.Ytjdldadmaaeimaa
open Go.SE Go.RowKit
def fPose : List SV → Option (Prop × Nat × List Int × Bool)
  | [.agg [.v (.int .i64 xv), .v (.bool xf), .v (.int .i64 yv), .v (.bool yf), .v (.int .i64 cv), .v (.bool cf), .v (.int .i64 sv), .v (.bool sf)]] => some (I64 xv ∧ I64 yv ∧ I64 cv ∧ I64 sv, 36, vecL xv xf yv yf ++ (numL cv cf ++ numL sv sf), isMin xv || isMin yv || (isMin cv || isMin sv))
  | _ => none
theorem vcPose (b : Bool) (n0 : Nat) (g : Nat→Int) (c : Nat) (xv : Int) (xf : Bool) (yv : Int) (yf : Bool) (cv : Int) (cf : Bool) (sv : Int) (sf : Bool) : (vcFn Try.prog ΓF1 noΛ Try.f98 [.vp 0 0,.agg [.v (.int .i64 xv),.v (.bool xf),.v (.int .i64 yv),.v (.bool yf),.v (.int .i64 cv),.v (.bool cf),.v (.int .i64 sv),.v (.bool sf)]] (heapOf (uB (some b) n0 g c)) 64 (fun y' h' => FinE (uB (some b) n0 g c) (apE (.used (some b) n0 g c True) 0 True 36 (vecL xv xf yv yf++(numL cv cf++numL sv sf)) (isMin xv||isMin yv||(isMin cv||isMin sv))) y' h')) =
((((bytesOk n0 c {elem:=5,size:=1,rw:=true,lock:=false,lit:=false,flat:=true,n:=n0,row:=fun i => [SV.v (.int .u8 (g i))],ext:=c})∧((n0 : Nat) ≤ NB0))∧(((4 : Nat) = 4)∧(((1 : Nat) ≤ 4)∧(((4 : Nat) ≤ 100)∧(∀ i : Nat,(((i : Nat) < 4)→(isNum [SV.v (.int .i64 (bop (Nat.beq (0 + i) 0) xv (bop (Nat.beq (0 + i) 1) yv (bop (Nat.beq (0 + i) 2) cv sv)))),SV.v (.bool (bop (Nat.beq (0 + i) 0) xf (bop (Nat.beq (0 + i) 1) yf (bop (Nat.beq (0 + i) 2) cf sf))))])))))))∧(∀ c_1 : Nat,(∃ c_2 : Nat,(True∧((((1 : Nat) = 1)∧(((1 : Nat) ≤ 1)∧(((SV.sl 184 1 0 (n0 + 36) (n0 + 36 + c_1)) = (SV.sl 184 1 0 (n0 + 36) (n0 + 36 + c_2)))∧((SV.v (.bool (b||anyMin (fun i => nV [SV.v (.int .i64 (bop (Nat.beq (0 + i) 0) xv (bop (Nat.beq (0 + i) 1) yv (bop (Nat.beq (0 + i) 2) cv sv)))),SV.v (.bool (bop (Nat.beq (0 + i) 0) xf (bop (Nat.beq (0 + i) 1) yf (bop (Nat.beq (0 + i) 2) cf sf))))]) 4))) = (SV.v (.bool (b||(isMin xv||isMin yv||(isMin cv||isMin sv)))))))))∧((((n0 + 36) : Nat) = (n0 + 36))∧((((n0 + 36 + c_2) : Nat) ≤ (n0 + 36 + c_1))∧(∀ i : Nat,(((i : Nat) < (n0 + 36))→([(SV.v (.int .u8 (apG n0 (fun i => SE.byteOf [SV.v (.int .u8 (g i))]) (numsL (fun i => nV [SV.v (.int .i64 (bop (Nat.beq (0 + i) 0) xv (bop (Nat.beq (0 + i) 1) yv (bop (Nat.beq (0 + i) 2) cv sv)))),SV.v (.bool (bop (Nat.beq (0 + i) 0) xf (bop (Nat.beq (0 + i) 1) yf (bop (Nat.beq (0 + i) 2) cf sf))))]) (fun i => nF [SV.v (.int .i64 (bop (Nat.beq (0 + i) 0) xv (bop (Nat.beq (0 + i) 1) yv (bop (Nat.beq (0 + i) 2) cv sv)))),SV.v (.bool (bop (Nat.beq (0 + i) 0) xf (bop (Nat.beq (0 + i) 1) yf (bop (Nat.beq (0 + i) 2) cf sf))))]) 4) i)))] = [(SV.v (.int .u8 (apG n0 g (vecL xv xf yv yf++(numL cv cf++numL sv sf)) i)))])))))))))) := by kernel_rfl
def ΓG0 : Ctrs := addCtr (addCtr (addCtr ΓF1 103 (hpCtr true (sApp {} NB0 fHandle))) 99 (hpCtr true (sApp {} NB0 fVec))) 98 (hpCtr true (sApp {} NB0 fPose))
theorem four_cases {i : Nat} (h : i < 4) : i = 0 ∨ i = 1 ∨ i = 2 ∨ i = 3 := by omega
theorem Pose_spec : HpSpec Try.prog 98 (sApp {} NB0 fPose) := app_spec ΓF1_ok Try.func98 (Λ0 := fun _ _ => noΛ) (Λ1 := fun _ _ _ _ _ => noΛ)
  (fun rest q k L b kd h hq ha => by cases kd <;> cases ha)
  (fun rest q k L b kd n0 g c h hq ha hm hn => by
  unfold fPose at h
  split at h <;> try (cases h; done)
  rename_i xv xf yv yf cv cf sv sf
  cases kd with
  | none => cases ha
  | some bd =>
    cases h
    obtain ⟨q1, q2, q3, q4⟩ := hq
    exact Eq.mpr (vcPose bd n0 g c xv xf yv yf cv cf sv sf) ⟨⟨⟨bytesOk_bG _ _ _ (by omega), hm⟩, rfl, by omega, by omega, fun i hi => by
      rcases four_cases hi with rfl | rfl | rfl | rfl
      · exact q1
      · exact q2
      · exact q3
      · exact q4⟩, fun c1 => tailU rfl (by simp [anyMin, nV, bop, Nat.beq, Bool.or_assoc]) fun i hi => by
        congr 1⟩)
theorem spotsL_len (x y : Nat → Int) : ∀ k, (spotsL x y k).length = 16 * k
  | 0 => rfl
  | k + 1 => by
    show (spotsL x y k ++ (i8 (x k) ++ i8 (y k))).length = _
    rw [List.length_append, spotsL_len x y k, List.length_append, i8_len, i8_len]; omega
theorem spots_row (x y : Nat → Int) (n0 : Nat) (g : Nat → Int) (k i : Nat) : apG (n0 + 16 * k + 8) (apG (n0 + 16 * k) (apG n0 g (spotsL x y k)) (i8 (x k))) (i8 (y k)) i = apG n0 g (spotsL x y (k + 1)) i := by
  rw [apG_ap (by rw [i8_len]), apG_ap (by rw [spotsL_len])]
  rfl
theorem isPair_row {r : List SV} (h : isPair r) : r = [.v (.int .i64 (pX r)), .v (.int .i64 (pY r))] ∧ I64 (pX r) ∧ I64 (pY r) := by
  unfold isPair at h
  split at h
  · exact ⟨rfl, h⟩
  · exact h.elim
theorem same_spB {S : Blk} {n : Nat} (h1 : roOk2 S = true) (hn : S.n = n) (h : ∀ i, i < n → isPair (S.row i)) : BlkSame S (spB S.elem n (fun i => pX (S.row i)) (fun i => pY (S.row i))) := by
  simp only [roOk2, Bool.and_eq_true, Bool.not_eq_true'] at h1
  obtain ⟨⟨⟨⟨⟨a1, a2⟩, a3⟩, a4⟩, a5⟩, a6⟩ := h1
  exact ⟨Nat.eq_of_beq_eq_true a4, a2, a1, hn, Nat.eq_of_beq_eq_true a5, a3, rfl, a6, fun i hi => (isPair_row (h i (by omega))).1⟩
end Go.Proofs.Ytjdldadmaaeimaa
end
section
namespace Go.Proofs.Ytjdldadmaaeimaa
open Go.SE Go.RowKit
def rdB (s : ByteArray) (k : Int) : Blk := { elem := 141, size := 2, rw := true, lock := false, lit := true, flat := true, n := 1, row := fun _ => [.v (.string s), .v (.int .i64 k)], ext := 1, whole := true }
def rdOk (b : Blk) : Bool := Nat.beq b.elem 141 && Nat.beq b.size 2 && b.rw && !b.dead && Nat.beq b.n 1 && Nat.beq b.ext 1 && b.whole && b.flat
def sRdG (f : List SV → ByteArray → Int → Option (Prop × SV × Int)) (args : List SV) (bs : List Blk) : Option Eff := match args, bs with
  | .vp 0 0 :: rest, [B] => match B.row 0 with
    | [.v (.string s), .v (.int .i64 k)] => match f rest s k with
      | some (q, x, k') => bif rdOk B then some (.det (some q) x [(0, rdB s k')]) else none
      | none => none
    | _ => none
  | _, _ => none
def rdT (s : ByteArray) (k : Int) : Nat → Int
  | 0 => 0
  | i + 1 => rdT s k i * 256 + ((s.data.toList.getD (k.toNat + i) 0).toNat : Int)
def rdQ (s : ByteArray) (k : Int) (n : Int) : Prop := (0 ≤ k ∧ 0 ≤ n) ∧ (n ≤ 8 ∧ k + n ≤ (s.size : Int)) ∧ s.size ≤ 1099511627776
def fTake : List SV → ByteArray → Int → Option (Prop × SV × Int)
  | [.v (.int .i64 n)], s, k => some (rdQ s k n, .v (.int .u64 (rdT s k n.toNat)), k + n)
  | _, _, _ => none
def fUpto : List SV → ByteArray → Int → Option (Prop × SV × Int)
  | [.v (.int .u64 m), .v (.int .i64 n)], s, k => some (rdQ s k n ∧ rdT s k n.toNat ≤ m ∧ m ≤ 1099511627776, .v (.int .i64 (rdT s k n.toNat)), k + n)
  | _, _, _ => none
def fRdCount : List SV → ByteArray → Int → Option (Prop × SV × Int)
  | [], s, k => some (rdQ s k 4 ∧ rdT s k 4 ≤ 2147483647, .v (.int .i64 (rdT s k 4)), k + 4)
  | _, _, _ => none
def fEnd : List SV → ByteArray → Int → Option (Prop × SV × Int)
  | [], s, k => some (k = (s.size : Int), .tup [], k)
  | _, _, _ => none
def fKind10 : List SV → ByteArray → Int → Option (Prop × SV × Int)
  | [.v (.int .i64 low)], s, k => some (rdQ s k 1 ∧ rdT s k 1 = 10 ∧ low ≤ 10, iV 10, k + 1)
  | _, _, _ => none
def sRNeed : List SV → Option (Option Prop × SV)
  | [.v (.bool b), .v (.int .i64 _)] => some (some (b = true), .tup [])
  | _ => none
noncomputable def ΛTake (s : ByteArray) (k : Int) (n : Nat) : Nat → Option LoopSpec := addLoop noΛ Try.f87 0 Nat (fun i => i ≤ n) (fun i => n - i) [(20, fun i => .v (.int .i64 i)), (5, fun i => .v (.int .u64 (rdT s k i)))] [(0, fun i => rdB s (k + (i : Int)))]
def ΓR0 : Ctrs := addCtr noCtrs 132 (pureCtr sRNeed)
def ΓR1 : Ctrs := addCtr ΓR0 87 (hpCtr true (sRdG fTake))
def ΓR2 : Ctrs := addCtr ΓR1 133 (hpCtr true (sRdG fUpto))
theorem vcRNeed (b : Bool) (e : Int) (R : SV→Prop) : (vcPure Try.prog noCtrs noΛ Try.f132 [.v (.bool b),.v (.int .i64 e)] R) = (sel (!b) False (R (SV.tup []))):=by kernel_rfl
theorem vcRdTake (s : ByteArray) (k : Int) (n : Nat) : (vcFn Try.prog ΓR0 (ΛTake s k n) Try.f87 [.vp 0 0,.v (.int .i64 (n : Int))] (heapOf [rdB s k]) 64 (fun y h' => FinE [rdB s k] (.det none (.v (.int .u64 (rdT s k n))) [(0,rdB s (k + (n : Int)))]) y h')) =
((decide (IntKind.wrap IntKind.i64 ((↑(ByteArray.size s) : Int) - k) ≥ (↑n : Int)) = true)∧((∃ x : Nat,((Nat.le x n)∧(((zI = (SV.v (.int .i64 ((↑x : Int)))))∧((SV.v (.int .u64 0)) = (SV.v (.int .u64 (rdT s k x)))))∧(((1 : Nat) = 1)∧(((1 : Nat) ≤ 1)∧(∀ i : Nat,(((i : Nat) < 1)→([(SV.v (.string s)),(SV.v (.int .i64 k))] = [(SV.v (.string s)),(SV.v (.int .i64 (k + (↑x : Int))))]))))))))∧(∀ x : Nat,((Nat.le x n)→(sel (decide ((↑x : Int) < (↑n : Int))) ((((0 : Int) ≤ (k + (↑x : Int)))∧(((k + (↑x : Int)) : Int) < ((↑(ByteArray.size s) : Int))))∧(∃ x' : Nat,(((Nat.le x' n)∧((((SV.v (.int .i64 (IntKind.wrap IntKind.i64 ((↑x : Int) + 1)))) = (SV.v (.int .i64 ((↑x' : Int)))))∧((SV.v (.int .u64 (bits BinOp.or IntKind.u64 (IntKind.wrap IntKind.u64 (rdT s k x * 256)) (IntKind.wrap IntKind.u64 (↑(UInt8.toNat (List.getD (Array.toList (ByteArray.data s)) (Int.toNat (k + (↑x : Int))) 0)) : Int))))) = (SV.v (.int .u64 (rdT s k x')))))∧(((1 : Nat) = 1)∧(((1 : Nat) ≤ 1)∧(∀ i : Nat,(((i : Nat) < 1)→([(SV.v (.string s)),(SV.v (.int .i64 (IntKind.wrap IntKind.i64 (k + (↑x : Int) + 1))))] = [(SV.v (.string s)),(SV.v (.int .i64 (k + (↑x' : Int))))])))))))∧(((n - x') : Nat) < (n - x))))) (((SV.v (.int .u64 (rdT s k x))) = (SV.v (.int .u64 (rdT s k n))))∧(((1 : Nat) = 1)∧(((1 : Nat) ≤ 1)∧(∀ i : Nat,(((i : Nat) < 1)→([(SV.v (.string s)),(SV.v (.int .i64 (k + (↑x : Int))))] = [(SV.v (.string s)),(SV.v (.int .i64 (k + (↑n : Int))))]))))))))))) := by kernel_rfl
theorem vcRdUpto (s : ByteArray) (k m n : Int) : (vcFn Try.prog ΓR1 noΛ Try.f133 [.vp 0 0,.v (.int .u64 m),.v (.int .i64 n)] (heapOf [rdB s k]) 64 (fun y h' => FinE [rdB s k] (.det none (.v (.int .i64 (rdT s k n.toNat))) [(0,rdB s (k + n))]) y h')) = ((rdQ s k n)∧((decide (rdT s k (Int.toNat n) ≤ m) = true)∧(((SV.v (.int .i64 (IntKind.wrap IntKind.i64 (rdT s k (Int.toNat n))))) = (SV.v (.int .i64 (rdT s k (Int.toNat n)))))∧(((1 : Nat) = 1)∧(((1 : Nat) ≤ 1)∧(∀ i : Nat,(((i : Nat) < 1)→([(SV.v (.string s)),(SV.v (.int .i64 (k + n)))] = [(SV.v (.string s)),(SV.v (.int .i64 (k + n)))])))))))):=by kernel_rfl
theorem vcRdCount (s : ByteArray) (k : Int) : (vcFn Try.prog ΓR2 noΛ Try.f121 [.vp 0 0] (heapOf [rdB s k]) 64 (fun y h' => FinE [rdB s k] (.det none (.v (.int .i64 (rdT s k 4))) [(0,rdB s (k + 4))]) y h')) = (((rdQ s k 4)∧((((rdT s k 4) : Int) ≤ 2147483647)∧((2147483647 : Int) ≤ 1099511627776)))∧(((SV.v (.int .i64 (rdT s k 4))) = (SV.v (.int .i64 (rdT s k 4))))∧(((1 : Nat) = 1)∧(((1 : Nat) ≤ 1)∧(∀ i : Nat,(((i : Nat) < 1)→([(SV.v (.string s)),(SV.v (.int .i64 (k + 4)))] = [(SV.v (.string s)),(SV.v (.int .i64 (k + 4)))]))))))):=by kernel_rfl
theorem vcRdEnd (s : ByteArray) (k : Int) : (vcFn Try.prog ΓR0 noΛ Try.f131 [.vp 0 0] (heapOf [rdB s k]) 64 (fun y h' => FinE [rdB s k] (.det none (.tup []) [(0,rdB s k)]) y h')) = (((k == (↑(ByteArray.size s) : Int)) = true)∧(True∧(((1 : Nat) = 1)∧(((1 : Nat) ≤ 1)∧(∀ i : Nat,(((i : Nat) < 1)→([(SV.v (.string s)),(SV.v (.int .i64 k))] = [(SV.v (.string s)),(SV.v (.int .i64 k))]))))))):=by kernel_rfl
theorem vcKind10 (s : ByteArray) (k low : Int) : (vcFn Try.prog ΓR1 noΛ Try.f120 [.vp 0 0,.v (.int .i64 low)] (heapOf [rdB s k]) 64 (fun y h' => FinE [rdB s k] (.det none (iV 10) [(0,rdB s (k + 1))]) y h')) = ((rdQ s k 1)∧(sel (decide (IntKind.wrap IntKind.i64 (rdT s k 1) ≥ low)) ((decide (IntKind.wrap IntKind.i64 (rdT s k 1) ≤ 10) = true)∧(((SV.v (.int .i64 (IntKind.wrap IntKind.i64 (rdT s k 1)))) = (SV.v (.int .i64 10)))∧(((1 : Nat) = 1)∧(((1 : Nat) ≤ 1)∧(∀ i : Nat,(((i : Nat) < 1)→([(SV.v (.string s)),(SV.v (.int .i64 (k + 1)))] = [(SV.v (.string s)),(SV.v (.int .i64 (k + 1)))]))))))) ((false = true)∧(((SV.v (.int .i64 (IntKind.wrap IntKind.i64 (rdT s k 1)))) = (SV.v (.int .i64 10)))∧(((1 : Nat) = 1)∧(((1 : Nat) ≤ 1)∧(∀ i : Nat,(((i : Nat) < 1)→([(SV.v (.string s)),(SV.v (.int .i64 (k + 1)))] = [(SV.v (.string s)),(SV.v (.int .i64 (k + 1)))]))))))))):=by kernel_rfl
theorem rdOk_same {B : Blk} {s : ByteArray} {k : Int} (h1 : rdOk B = true) (h2 : B.row 0 = [.v (.string s), .v (.int .i64 k)]) : BlkSame B (rdB s k) := by
  simp only [rdOk, Bool.and_eq_true, Bool.not_eq_true'] at h1
  obtain ⟨⟨⟨⟨⟨⟨⟨a1, a2⟩, a3⟩, a4⟩, a5⟩, a6⟩, a7⟩, a8⟩ := h1
  have hn := Nat.eq_of_beq_eq_true a5
  exact ⟨Nat.eq_of_beq_eq_true a2, a3, a8, hn, Nat.eq_of_beq_eq_true a6, a4, Nat.eq_of_beq_eq_true a1, a7, fun i hi => by
    have : i = 0 := by omega
    subst this
    exact h2⟩
theorem rd_spec {Γ : Ctrs} (hΓ : ∀ f g, Γ f = some g → g.ok Try.prog f) {f : FuncId} {fn : Func} (hf : Try.prog.funcs[f]? = some fn) {F : List SV → ByteArray → Int → Option (Prop × SV × Int)} {Λ : List SV → ByteArray → Int → Nat → Option LoopSpec}
    (h : ∀ rest s k q x k', F rest s k = some (q, x, k') → q → vcFn Try.prog Γ (Λ rest s k) fn (.vp 0 0 :: rest) (heapOf [rdB s k]) 64 (fun y h' => FinE [rdB s k] (.det none x [(0, rdB s k')]) y h')) :
    HpSpec Try.prog f (sRdG F) := hp_spec hm hΓ hf (Λ := fun args bs => match args, bs with
      | _ :: rest, [B] => match B.row 0 with
        | [.v (.string s), .v (.int _ k)] => Λ rest s k
        | _ => noΛ
      | _, _ => noΛ) fun args bs e hs hp => by
  unfold sRdG at hs
  split at hs <;> try (cases hs; done)
  rename_i rest B
  split at hs <;> try (cases hs; done)
  rename_i s k hB
  split at hs <;> try (cases hs; done)
  rename_i q x k' hF
  obtain ⟨ha, he⟩ := bif_some hs
  subst he
  refine ⟨[rdB s k], ⟨rdOk_same ha hB, trivial⟩, ?_⟩
  simp only [hB]
  exact h rest s k q x k' hF (hp _ rfl)
theorem RNeed_spec : PureSpec Try.prog 132 sRNeed := vc_spec hm noCtrs_ok Try.func132 (Λ := fun _ => noΛ) fun args p x h hp => by
  unfold sRNeed at h
  split at h <;> try (cases h; done)
  rename_i b e
  cases h
  have hb := hp _ rfl
  subst hb
  refine ⟨rfl, rfl, ?_⟩
  rw [vcRNeed]
  rfl
theorem ΓR0_ok : ∀ f g, ΓR0 f = some g → g.ok Try.prog f := addCtr_ok noCtrs_ok (pure_ok Try.func132 (by kernel_rfl) (by kernel_rfl) RNeed_spec)
theorem rdT_rng (s : ByteArray) (k : Int) : ∀ n : Nat, 0 ≤ rdT s k n ∧ rdT s k n < 256 ^ n
  | 0 => ⟨Int.le_refl _, by show (0 : Int) < 1; omega⟩
  | n + 1 => by
    obtain ⟨h1, h2⟩ := rdT_rng s k n
    have hb := (s.data.toList.getD (k.toNat + n) 0).toNat_lt
    simp only [rdT]
    rw [Int.pow_succ]
    omega
theorem or_byte {a b : Int} (ha : 0 ≤ a) (ha' : a < 72057594037927936) (hb : 0 ≤ b) (hb' : b < 256) : bits .or .u64 (a * 256) b = a * 256 + b := by
  rw [u64_or (a * 256) b (by omega) (by omega) hb (by omega)]
  have h := nat_join 8 (a * 256).toNat b.toNat (by omega) (by omega)
  rw [h]; omega
theorem pow_le8 {x : Int} {n : Nat} (h : x < 256 ^ n) (hn : n ≤ 7) : x < 72057594037927936 := by
  have : (256 : Int) ^ n ≤ 256 ^ 7 := by exact_mod_cast Nat.pow_le_pow_right (by decide) hn
  omega
theorem Take_spec : HpSpec Try.prog 87 (sRdG fTake) := rd_spec ΓR0_ok Try.func87 (Λ := fun rest s k => match rest with | [.v (.int _ n)] => ΛTake s k n.toNat | _ => noΛ) fun rest s k q x k' h hq => by
  unfold fTake at h
  split at h <;> try (cases h; done)
  rename_i n
  cases h
  obtain ⟨⟨hk, hn0⟩, ⟨hn8, hsz⟩, hM⟩ := hq
  obtain ⟨n, rfl⟩ : ∃ m : Nat, n = (m : Int) := ⟨n.toNat, by omega⟩
  rw [Int.toNat_natCast]
  refine Eq.mpr (vcRdTake s k n) ⟨decide_eq_true ?_, ⟨0, Nat.zero_le _, ⟨rfl, rfl⟩, rfl, Nat.le_refl _, fun i hi => by rw [show k + ((0 : Nat) : Int) = k by omega]⟩, fun x hx => sel_of (fun hlt => ?_) fun hge => ?_⟩
  · rw [wrap_i64 ⟨by omega, by omega⟩]; omega
  · have hx : x ≤ n := hx
    have hlt := of_decide_eq_true hlt
    have hlt : x < n := by omega
    obtain ⟨r1, r2⟩ := rdT_rng s k x
    have r3 := pow_le8 r2 (by omega)
    have hb := (s.data.toList.getD (k + (x : Int)).toNat 0).toNat_lt
    have e1 : IntKind.i64.wrap ((x : Int) + 1) = ((x + 1 : Nat) : Int) := wrap_i64 ⟨by omega, by omega⟩
    have e2 : IntKind.i64.wrap (k + (x : Int) + 1) = k + ((x + 1 : Nat) : Int) := by rw [wrap_i64 ⟨by omega, by omega⟩]; omega
    have e3 : IntKind.u64.wrap (rdT s k x * 256) = rdT s k x * 256 := by rw [wrap_u64]; omega
    have e4 : IntKind.u64.wrap ((s.data.toList.getD (k + (x : Int)).toNat 0).toNat : Int) = ((s.data.toList.getD (k + (x : Int)).toNat 0).toNat : Int) := by rw [wrap_u64]; omega
    rw [e1, e2, e3, e4, or_byte r1 r3 (by omega) (by omega)]
    refine ⟨⟨by omega, by omega⟩, x + 1, ⟨hlt, ⟨rfl, ?_⟩, rfl, Nat.le_refl _, fun _ _ => rfl⟩, by omega⟩
    show _ = SV.v (.int .u64 (rdT s k x * 256 + ((s.data.toList.getD (k.toNat + x) 0).toNat : Int)))
    rw [show (k + (x : Int)).toNat = k.toNat + x by omega]
  · have hx : x ≤ n := hx
    have hge := of_decide_eq_false hge
    have hx : x = n := by omega
    subst hx
    exact ⟨rfl, rfl, Nat.le_refl _, fun _ _ => rfl⟩
theorem ΓR1_ok : ∀ f g, ΓR1 f = some g → g.ok Try.prog f := addCtr_ok ΓR0_ok (hp_ok Try.func87 (by kernel_rfl) (by kernel_rfl) Take_spec)
theorem RdUpto_spec : HpSpec Try.prog 133 (sRdG fUpto) := rd_spec ΓR1_ok Try.func133 (Λ := fun _ _ _ => noΛ) fun rest s k q x k' h hq => by
  unfold fUpto at h
  split at h <;> try (cases h; done)
  rename_i m n
  cases h
  obtain ⟨hq, h1, h2⟩ := hq
  rw [vcRdUpto]
  refine ⟨hq, decide_eq_true h1, ?_, rfl, Nat.le_refl _, fun _ _ => rfl⟩
  have := (rdT_rng s k n.toNat).1
  rw [wrap_i64 ⟨by omega, by omega⟩]
theorem ΓR2_ok : ∀ f g, ΓR2 f = some g → g.ok Try.prog f := addCtr_ok ΓR1_ok (hp_ok Try.func133 (by kernel_rfl) (by kernel_rfl) RdUpto_spec)
theorem RdCount_spec : HpSpec Try.prog 121 (sRdG fRdCount) := rd_spec ΓR2_ok Try.func121 (Λ := fun _ _ _ => noΛ) fun rest s k q x k' h hq => by
  unfold fRdCount at h
  split at h <;> try (cases h; done)
  cases h
  rw [vcRdCount]
  exact ⟨⟨hq.1, hq.2, by omega⟩, rfl, rfl, Nat.le_refl _, fun _ _ => rfl⟩
theorem RdEnd_spec : HpSpec Try.prog 131 (sRdG fEnd) := rd_spec ΓR0_ok Try.func131 (Λ := fun _ _ _ => noΛ) fun rest s k q x k' h hq => by
  unfold fEnd at h
  split at h <;> try (cases h; done)
  cases h
  rw [vcRdEnd]
  exact ⟨by rw [hq]; exact beq_self_eq_true _, trivial, rfl, Nat.le_refl _, fun _ _ => rfl⟩
theorem Kind10_spec : HpSpec Try.prog 120 (sRdG fKind10) := rd_spec ΓR1_ok Try.func120 (Λ := fun _ _ _ => noΛ) fun rest s k q x k' h hq => by
  unfold fKind10 at h
  split at h <;> try (cases h; done)
  cases h
  obtain ⟨hq, h1, h2⟩ := hq
  rw [vcKind10, h1]
  exact ⟨hq, sel_of (fun _ => ⟨rfl, rfl, rfl, Nat.le_refl _, fun _ _ => rfl⟩) fun h => by
    have h := of_decide_eq_false h
    rw [wrap_i64 ⟨by omega, by omega⟩] at h
    omega⟩
end Go.Proofs.Ytjdldadmaaeimaa
end
section
namespace Go.Proofs.Ytjdldadmaaeimaa
open Go.SE Go.RowKit
structure Pz where
  bad : Bool
  er : Int
def Pz.seq (a b : Pz) : Pz := ⟨a.bad || b.bad, bif a.bad then a.er else b.er⟩
def pE (e : Int) : SV := .v (.iface 169 (.agg #[.int .i64 e]))
def rdPre (s : ByteArray) (k : Int) : Prop := (0 ≤ k ∧ k ≤ (s.size : Int)) ∧ s.size ≤ 1099511627776
def sTd (F : List SV → ByteArray → Int → Option (Prop × SV × Int)) (args : List SV) (bs : List Blk) : Option Eff := match args, bs with
  | .vp 0 0 :: rest, [B] => match B.row 0 with
    | [.v (.string s), .v (.int .i64 k)] => match F rest s k with
      | some (q, x, k') => bif rdOk B then some (.det (some (rdPre s k ∧ q)) x [(0, rdB s k')]) else none
      | none => none
    | _ => none
  | _, _ => none
def stTd (G : List SV → ByteArray → Int → Pz) (args : List SV) (bs : List Blk) : Bool := match args, bs with
  | _ :: rest, [B] => match B.row 0 with
    | [.v (.string s), .v (.int _ k)] => (G rest s k).bad
    | _ => false
  | _, _ => false
def spTd (F : List SV → ByteArray → Int → Option (Prop × SV × Int)) (G : List SV → ByteArray → Int → Pz) (args : List SV) (bs : List Blk) : Eff := match args, bs with
  | .vp 0 0 :: rest, [B] => match B.row 0 with
    | [.v (.string s), .v (.int .i64 k)] => match F rest s k with
      | some (q, _, _) => .det (some (rdPre s k ∧ q)) (pE (G rest s k).er) [(0, killed (rdB s k))]
      | none => .det none undefS []
    | _ => .det none undefS []
  | _, _ => .det none undefS []
def ctrTd (F : List SV → ByteArray → Int → Option (Prop × SV × Int)) (G : List SV → ByteArray → Int → Pz) : Ctr := hpCtrT true (sTd F) (stTd G) (spTd F G)
def tkP (s : ByteArray) (k n : Int) : Pz := ⟨decide ((s.size : Int) - k < n), 7⟩
def upP (s : ByteArray) (k m n : Int) : Pz := (tkP s k n).seq ⟨decide (m < rdT s k n.toNat), 4⟩
theorem hide_ex {α : Type} (x : α) : ∃ y, y = x := ⟨x, rfl⟩
noncomputable def hide {α : Type} (x : α) : α := Classical.choose (hide_ex x)
theorem hide_eq {α : Type} (x : α) : hide x = x := Classical.choose_spec (hide_ex x)
noncomputable def rdI (s : ByteArray) (k : Int) : Int := hide (IntKind.i64.wrap (rdT s k 8))
def rdF (s : ByteArray) (k : Int) : Bool := rdT s k 1 == 1
noncomputable def nuP (s : ByteArray) (k : Int) : Pz := (tkP s k 8).seq (Pz.seq ⟨rdI s k == -9223372036854775808, 4⟩ (upP s (k + 8) 1 1))
noncomputable def vcP (s : ByteArray) (k : Int) : Pz := (nuP s k).seq (nuP s (k + 8 + 1))
noncomputable def psP (s : ByteArray) (k : Int) : Pz := (vcP s k).seq ((nuP s (k + 8 + 1 + 8 + 1)).seq (nuP s (k + 8 + 1 + 8 + 1 + 8 + 1)))
def spP (s : ByteArray) (k : Int) : Pz := (tkP s k 8).seq (tkP s (k + 8) 8)
def haP (s : ByteArray) (k : Int) : Pz := (upP s k 2147483647 4).seq (upP s (k + 4) 2147483647 4)
noncomputable def nuC (s : ByteArray) (k : Int) : List SV := [.v (.int .i64 (rdI s k)), .v (.bool (rdF s (k + 8)))]
def tTake : List SV → ByteArray → Int → Option (Prop × SV × Int)
  | [.v (.int .i64 n)], s, k => some (0 ≤ n ∧ n ≤ 8, .v (.int .u64 (rdT s k n.toNat)), k + n)
  | _, _, _ => none
def pTake : List SV → ByteArray → Int → Pz
  | [.v (.int .i64 n)], s, k => tkP s k n
  | _, _, _ => ⟨false, 0⟩
def tUpto : List SV → ByteArray → Int → Option (Prop × SV × Int)
  | [.v (.int .u64 m), .v (.int .i64 n)], s, k => some ((0 ≤ n ∧ n ≤ 8) ∧ m ≤ 1099511627776, .v (.int .i64 (rdT s k n.toNat)), k + n)
  | _, _, _ => none
def pUpto : List SV → ByteArray → Int → Pz
  | [.v (.int .u64 m), .v (.int .i64 n)], s, k => upP s k m n
  | _, _, _ => ⟨false, 0⟩
def t0 (f : ByteArray → Int → SV × Int) : List SV → ByteArray → Int → Option (Prop × SV × Int)
  | [], s, k => some (True, (f s k).1, (f s k).2)
  | _, _, _ => none
def p0 (f : ByteArray → Int → Pz) : List SV → ByteArray → Int → Pz
  | [], s, k => f s k
  | _, _, _ => ⟨false, 0⟩
def xCount (s : ByteArray) (k : Int) : SV × Int := (.v (.int .i64 (rdT s k 4)), k + 4)
def xFlag (s : ByteArray) (k : Int) : SV × Int := (.v (.bool (rdF s k)), k + 1)
noncomputable def xInt (s : ByteArray) (k : Int) : SV × Int := (.v (.int .i64 (rdI s k)), k + 8)
def xVer (s : ByteArray) (k : Int) : SV × Int := (.v (.int .i64 (rdT s k 8)), k + 8)
noncomputable def xNum (s : ByteArray) (k : Int) : SV × Int := (.agg (nuC s k), k + 8 + 1)
noncomputable def xVec (s : ByteArray) (k : Int) : SV × Int := (.agg (nuC s k ++ nuC s (k + 8 + 1)), k + 8 + 1 + 8 + 1)
noncomputable def xPose (s : ByteArray) (k : Int) : SV × Int := (.agg (nuC s k ++ (nuC s (k + 8 + 1) ++ (nuC s (k + 8 + 1 + 8 + 1) ++ nuC s (k + 8 + 1 + 8 + 1 + 8 + 1)))), k + 8 + 1 + 8 + 1 + 8 + 1 + 8 + 1)
noncomputable def xSpot (s : ByteArray) (k : Int) : SV × Int := (.agg [.v (.int .i64 (rdI s k)), .v (.int .i64 (rdI s (k + 8)))], k + 8 + 8)
def xHandle (s : ByteArray) (k : Int) : SV × Int := (.agg [.v (.int .i64 (rdT s k 4)), .v (.int .i64 (rdT s (k + 4) 4))], k + 4 + 4)
def pCount (s : ByteArray) (k : Int) : Pz := upP s k 2147483647 4
def pFlag (s : ByteArray) (k : Int) : Pz := upP s k 1 1
def pInt (s : ByteArray) (k : Int) : Pz := tkP s k 8
def pVer (s : ByteArray) (k : Int) : Pz := upP s k 1099511627776 8
def sNdT (args : List SV) (bs : List Blk) : Option Eff := match args, bs with
  | [.v (.bool _), .v (.int .i64 _)], [] => some (.det none (.tup []) [])
  | _, _ => none
def stNdT (args : List SV) (_ : List Blk) : Bool := match args with
  | [.v (.bool b), _] => !b
  | _ => false
def spNdT (args : List SV) (_ : List Blk) : Eff := match args with
  | [_, .v (.int .i64 e)] => .det none (pE e) []
  | _ => .det none undefS []
def ΓT0 : Ctrs := addCtr noCtrs 132 (hpCtrT true sNdT stNdT spNdT)
def ΓT1 : Ctrs := addCtr ΓT0 87 (ctrTd tTake pTake)
def ΓT2 : Ctrs := addCtr ΓT1 133 (ctrTd tUpto pUpto)
noncomputable def ΓT3 : Ctrs := addCtr (addCtr (addCtr (addCtr ΓT2 121 (ctrTd (t0 xCount) (p0 pCount))) 127 (ctrTd (t0 xFlag) (p0 pFlag))) 126 (ctrTd (t0 xInt) (p0 pInt))) 129 (ctrTd (t0 xVer) (p0 pVer))
noncomputable def ΓT4 : Ctrs := addCtr ΓT3 125 (ctrTd (t0 xNum) (p0 nuP))
noncomputable def ΓT5 : Ctrs := addCtr ΓT4 124 (ctrTd (t0 xVec) (p0 vcP))
noncomputable def ΓT6 : Ctrs := addCtr (addCtr (addCtr ΓT5 123 (ctrTd (t0 xPose) (p0 psP))) 130 (ctrTd (t0 xSpot) (p0 spP))) 128 (ctrTd (t0 xHandle) (p0 haP))
theorem vcNdT (b : Bool) (e : Int) : (vcFnP Try.prog noCtrs noΛ Try.f132 [.v (.bool b),.v (.int .i64 e)] (heapOf []) 64 (fun y h' => (!b) = false∧FinE [] (.det none (.tup []) []) y h') (fun y h' => (!b) = true∧FinE [] (.det none (pE e) []) y h')) = (sel (!b) (((!b) = true)∧(((SV.v (Value.iface 169 (Value.agg #[.int .i64 e]))) = (SV.v (Value.iface 169 (Value.agg #[.int .i64 e]))))∧True)) (((!b) = false)∧(True∧True))):=by kernel_rfl
theorem vcTkT (s : ByteArray) (k : Int) (n : Nat) : (vcFnP Try.prog ΓT0 (ΛTake s k n) Try.f87 [.vp 0 0,.v (.int .i64 (n : Int))] (heapOf [rdB s k]) 64 (fun y h' => (tkP s k n).bad = false∧FinE [rdB s k] (.det none (.v (.int .u64 (rdT s k n))) [(0,rdB s (k + (n : Int)))]) y h') (fun y h' => (tkP s k n).bad = true∧FinE [rdB s k] (.det none (pE (tkP s k n).er) [(0,killed (rdB s k))]) y h')) =
(sel (!decide (IntKind.wrap IntKind.i64 ((↑(ByteArray.size s) : Int) - k) ≥ (↑n : Int))) ((Pz.bad (tkP s k (↑n : Int)) = true)∧(((SV.v (Value.iface 169 (Value.agg #[.int .i64 7]))) = (SV.v (Value.iface 169 (Value.agg #[.int .i64 (Pz.er (tkP s k (↑n : Int)))]))))∧True)) ((∃ x : Nat,((Nat.le x n)∧(((zI = (SV.v (.int .i64 ((↑x : Int)))))∧((SV.v (.int .u64 0)) = (SV.v (.int .u64 (rdT s k x)))))∧(((1 : Nat) = 1)∧(((1 : Nat) ≤ 1)∧(∀ i : Nat,(((i : Nat) < 1)→([(SV.v (.string s)),(SV.v (.int .i64 k))] = [(SV.v (.string s)),(SV.v (.int .i64 (k + (↑x : Int))))]))))))))∧(∀ x : Nat,((Nat.le x n)→(sel (decide ((↑x : Int) < (↑n : Int))) ((((0 : Int) ≤ (k + (↑x : Int)))∧(((k + (↑x : Int)) : Int) < ((↑(ByteArray.size s) : Int))))∧(∃ x' : Nat,(((Nat.le x' n)∧((((SV.v (.int .i64 (IntKind.wrap IntKind.i64 ((↑x : Int) + 1)))) = (SV.v (.int .i64 ((↑x' : Int)))))∧((SV.v (.int .u64 (bits BinOp.or IntKind.u64 (IntKind.wrap IntKind.u64 (rdT s k x * 256)) (IntKind.wrap IntKind.u64 (↑(UInt8.toNat (List.getD (Array.toList (ByteArray.data s)) (Int.toNat (k + (↑x : Int))) 0)) : Int))))) = (SV.v (.int .u64 (rdT s k x')))))∧(((1 : Nat) = 1)∧(((1 : Nat) ≤ 1)∧(∀ i : Nat,(((i : Nat) < 1)→([(SV.v (.string s)),(SV.v (.int .i64 (IntKind.wrap IntKind.i64 (k + (↑x : Int) + 1))))] = [(SV.v (.string s)),(SV.v (.int .i64 (k + (↑x' : Int))))])))))))∧(((n - x') : Nat) < (n - x))))) ((Pz.bad (tkP s k (↑n : Int)) = false)∧(((SV.v (.int .u64 (rdT s k x))) = (SV.v (.int .u64 (rdT s k n))))∧(((1 : Nat) = 1)∧(((1 : Nat) ≤ 1)∧(∀ i : Nat,(((i : Nat) < 1)→([(SV.v (.string s)),(SV.v (.int .i64 (k + (↑x : Int))))] = [(SV.v (.string s)),(SV.v (.int .i64 (k + (↑n : Int))))])))))))))))) := by kernel_rfl
theorem vcUpT (s : ByteArray) (k m n : Int) : (vcFnP Try.prog ΓT1 noΛ Try.f133 [.vp 0 0,.v (.int .u64 m),.v (.int .i64 n)] (heapOf [rdB s k]) 64 (fun y h' => (upP s k m n).bad = false∧FinE [rdB s k] (.det none (.v (.int .i64 (rdT s k n.toNat))) [(0,rdB s (k + n))]) y h') (fun y h' => (upP s k m n).bad = true∧FinE [rdB s k] (.det none (pE (upP s k m n).er) [(0,killed (rdB s k))]) y h')) = (sel (Pz.bad (tkP s k n)) (((rdPre s k)∧(((0 : Int) ≤ n)∧((n : Int) ≤ 8)))∧((Pz.bad (upP s k m n) = true)∧(((SV.v (Value.iface 169 (Value.agg #[.int .i64 (Pz.er (pTake [SV.v (.int .i64 n)] s k))]))) = (SV.v (Value.iface 169 (Value.agg #[.int .i64 (Pz.er (upP s k m n))]))))∧True))) (((rdPre s k)∧(((0 : Int) ≤ n)∧((n : Int) ≤ 8)))∧(sel (!decide (rdT s k (Int.toNat n) ≤ m)) ((Pz.bad (upP s k m n) = true)∧(((SV.v (Value.iface 169 (Value.agg #[.int .i64 4]))) = (SV.v (Value.iface 169 (Value.agg #[.int .i64 (Pz.er (upP s k m n))]))))∧True)) ((Pz.bad (upP s k m n) = false)∧(((SV.v (.int .i64 (IntKind.wrap IntKind.i64 (rdT s k (Int.toNat n))))) = (SV.v (.int .i64 (rdT s k (Int.toNat n)))))∧(((1 : Nat) = 1)∧(((1 : Nat) ≤ 1)∧(∀ i : Nat,(((i : Nat) < 1)→([(SV.v (.string s)),(SV.v (.int .i64 (k + n)))] = [(SV.v (.string s)),(SV.v (.int .i64 (k + n)))])))))))))):=by kernel_rfl
theorem vcCountT (s : ByteArray) (k : Int) : (vcFnP Try.prog ΓT2 noΛ Try.f121 [.vp 0 0] (heapOf [rdB s k]) 64 (fun y h' => (pCount s k).bad = false∧FinE [rdB s k] (.det none (xCount s k).1 [(0,rdB s (xCount s k).2)]) y h') (fun y h' => (pCount s k).bad = true∧FinE [rdB s k] (.det none (pE (pCount s k).er) [(0,killed (rdB s k))]) y h')) = (sel (Pz.bad (upP s k 2147483647 4)) (((rdPre s k)∧((((0 : Int) ≤ 4)∧((4 : Int) ≤ 8))∧((2147483647 : Int) ≤ 1099511627776)))∧((Pz.bad (pCount s k) = true)∧(((SV.v (Value.iface 169 (Value.agg #[.int .i64 (Pz.er (pUpto [SV.v (.int .u64 2147483647),SV.v (.int .i64 4)] s k))]))) = (SV.v (Value.iface 169 (Value.agg #[.int .i64 (Pz.er (pCount s k))]))))∧True))) (((rdPre s k)∧((((0 : Int) ≤ 4)∧((4 : Int) ≤ 8))∧((2147483647 : Int) ≤ 1099511627776)))∧((Pz.bad (pCount s k) = false)∧(((SV.v (.int .i64 (rdT s k 4))) = (SV.v (.int .i64 (rdT s k 4))))∧(((1 : Nat) = 1)∧(((1 : Nat) ≤ 1)∧(∀ i : Nat,(((i : Nat) < 1)→([(SV.v (.string s)),(SV.v (.int .i64 (k + 4)))] = [(SV.v (.string s)),(SV.v (.int .i64 (Prod.snd (xCount s k))))]))))))))):=by kernel_rfl
theorem vcFlagT (s : ByteArray) (k : Int) : (vcFnP Try.prog ΓT2 noΛ Try.f127 [.vp 0 0] (heapOf [rdB s k]) 64 (fun y h' => (pFlag s k).bad = false∧FinE [rdB s k] (.det none (xFlag s k).1 [(0,rdB s (xFlag s k).2)]) y h') (fun y h' => (pFlag s k).bad = true∧FinE [rdB s k] (.det none (pE (pFlag s k).er) [(0,killed (rdB s k))]) y h')) = (sel (Pz.bad (upP s k 1 1)) (((rdPre s k)∧((((0 : Int) ≤ 1)∧((1 : Int) ≤ 8))∧((1 : Int) ≤ 1099511627776)))∧((Pz.bad (pFlag s k) = true)∧(((SV.v (Value.iface 169 (Value.agg #[.int .i64 (Pz.er (pUpto [SV.v (.int .u64 1),SV.v (.int .i64 1)] s k))]))) = (SV.v (Value.iface 169 (Value.agg #[.int .i64 (Pz.er (pFlag s k))]))))∧True))) (((rdPre s k)∧((((0 : Int) ≤ 1)∧((1 : Int) ≤ 8))∧((1 : Int) ≤ 1099511627776)))∧((Pz.bad (pFlag s k) = false)∧(((SV.v (.bool (rdT s k 1 == 1))) = (SV.v (.bool (rdF s k))))∧(((1 : Nat) = 1)∧(((1 : Nat) ≤ 1)∧(∀ i : Nat,(((i : Nat) < 1)→([(SV.v (.string s)),(SV.v (.int .i64 (k + 1)))] = [(SV.v (.string s)),(SV.v (.int .i64 (Prod.snd (xFlag s k))))]))))))))):=by kernel_rfl
theorem vcIntT (s : ByteArray) (k : Int) : (vcFnP Try.prog ΓT2 noΛ Try.f126 [.vp 0 0] (heapOf [rdB s k]) 64 (fun y h' => (pInt s k).bad = false∧FinE [rdB s k] (.det none (xInt s k).1 [(0,rdB s (xInt s k).2)]) y h') (fun y h' => (pInt s k).bad = true∧FinE [rdB s k] (.det none (pE (pInt s k).er) [(0,killed (rdB s k))]) y h')) = (sel (Pz.bad (tkP s k 8)) (((rdPre s k)∧(((0 : Int) ≤ 8)∧((8 : Int) ≤ 8)))∧((Pz.bad (pInt s k) = true)∧(((SV.v (Value.iface 169 (Value.agg #[.int .i64 (Pz.er (pTake [SV.v (.int .i64 8)] s k))]))) = (SV.v (Value.iface 169 (Value.agg #[.int .i64 (Pz.er (pInt s k))]))))∧True))) (((rdPre s k)∧(((0 : Int) ≤ 8)∧((8 : Int) ≤ 8)))∧((Pz.bad (pInt s k) = false)∧(((SV.v (.int .i64 (IntKind.wrap IntKind.i64 (rdT s k 8)))) = (SV.v (.int .i64 (rdI s k))))∧(((1 : Nat) = 1)∧(((1 : Nat) ≤ 1)∧(∀ i : Nat,(((i : Nat) < 1)→([(SV.v (.string s)),(SV.v (.int .i64 (k + 8)))] = [(SV.v (.string s)),(SV.v (.int .i64 (Prod.snd (xInt s k))))]))))))))):=by kernel_rfl
theorem vcVerT (s : ByteArray) (k : Int) : (vcFnP Try.prog ΓT2 noΛ Try.f129 [.vp 0 0] (heapOf [rdB s k]) 64 (fun y h' => (pVer s k).bad = false∧FinE [rdB s k] (.det none (xVer s k).1 [(0,rdB s (xVer s k).2)]) y h') (fun y h' => (pVer s k).bad = true∧FinE [rdB s k] (.det none (pE (pVer s k).er) [(0,killed (rdB s k))]) y h')) = (sel (Pz.bad (upP s k 1099511627776 8)) (((rdPre s k)∧((((0 : Int) ≤ 8)∧((8 : Int) ≤ 8))∧((1099511627776 : Int) ≤ 1099511627776)))∧((Pz.bad (pVer s k) = true)∧(((SV.v (Value.iface 169 (Value.agg #[.int .i64 (Pz.er (pUpto [SV.v (.int .u64 1099511627776),SV.v (.int .i64 8)] s k))]))) = (SV.v (Value.iface 169 (Value.agg #[.int .i64 (Pz.er (pVer s k))]))))∧True))) (((rdPre s k)∧((((0 : Int) ≤ 8)∧((8 : Int) ≤ 8))∧((1099511627776 : Int) ≤ 1099511627776)))∧((Pz.bad (pVer s k) = false)∧(((SV.v (.int .i64 (rdT s k 8))) = (SV.v (.int .i64 (rdT s k 8))))∧(((1 : Nat) = 1)∧(((1 : Nat) ≤ 1)∧(∀ i : Nat,(((i : Nat) < 1)→([(SV.v (.string s)),(SV.v (.int .i64 (k + 8)))] = [(SV.v (.string s)),(SV.v (.int .i64 (Prod.snd (xVer s k))))]))))))))):=by kernel_rfl
theorem vcNumT (s : ByteArray) (k : Int) : (vcFnP Try.prog ΓT3 noΛ Try.f125 [.vp 0 0] (heapOf [rdB s k]) 64 (fun y h' => (nuP s k).bad = false∧FinE [rdB s k] (.det none (xNum s k).1 [(0,rdB s (xNum s k).2)]) y h') (fun y h' => (nuP s k).bad = true∧FinE [rdB s k] (.det none (pE (nuP s k).er) [(0,killed (rdB s k))]) y h')) =
(sel (Pz.bad (pInt s k)) (((rdPre s k)∧True)∧((Pz.bad (nuP s k) = true)∧(((SV.v (Value.iface 169 (Value.agg #[.int .i64 (Pz.er (p0 pInt [] s k))]))) = (SV.v (Value.iface 169 (Value.agg #[.int .i64 (Pz.er (nuP s k))]))))∧True))) (((rdPre s k)∧True)∧(sel (!rdI s k != -9223372036854775808) ((Pz.bad (nuP s k) = true)∧(((SV.v (Value.iface 169 (Value.agg #[.int .i64 4]))) = (SV.v (Value.iface 169 (Value.agg #[.int .i64 (Pz.er (nuP s k))]))))∧True)) (sel (Pz.bad (pFlag s (Prod.snd (xInt s k)))) (((rdPre s (Prod.snd (xInt s k)))∧True)∧((Pz.bad (nuP s k) = true)∧(((SV.v (Value.iface 169 (Value.agg #[.int .i64 (Pz.er (p0 pFlag [] s (Prod.snd (xInt s k))))]))) = (SV.v (Value.iface 169 (Value.agg #[.int .i64 (Pz.er (nuP s k))]))))∧True))) (((rdPre s (Prod.snd (xInt s k)))∧True)∧((Pz.bad (nuP s k) = false)∧((((SV.v (.int .i64 (rdI s k))) = (SV.v (.int .i64 (rdI s k))))∧((SV.v (.bool (rdF s (Prod.snd (xInt s k))))) = (SV.v (.bool (rdF s (k + 8))))))∧(((1 : Nat) = 1)∧(((1 : Nat) ≤ 1)∧(∀ i : Nat,(((i : Nat) < 1)→([(SV.v (.string s)),(SV.v (.int .i64 (Prod.snd (xFlag s (Prod.snd (xInt s k))))))] = [(SV.v (.string s)),(SV.v (.int .i64 (Prod.snd (xNum s k))))])))))))))))) := by kernel_rfl
theorem vcVecT (s : ByteArray) (k : Int) : (vcFnP Try.prog ΓT4 noΛ Try.f124 [.vp 0 0] (heapOf [rdB s k]) 64 (fun y h' => (vcP s k).bad = false∧FinE [rdB s k] (.det none (xVec s k).1 [(0,rdB s (xVec s k).2)]) y h') (fun y h' => (vcP s k).bad = true∧FinE [rdB s k] (.det none (pE (vcP s k).er) [(0,killed (rdB s k))]) y h')) =
(sel (Pz.bad (nuP s k)) (((rdPre s k)∧True)∧((Pz.bad (vcP s k) = true)∧(((SV.v (Value.iface 169 (Value.agg #[.int .i64 (Pz.er (p0 nuP [] s k))]))) = (SV.v (Value.iface 169 (Value.agg #[.int .i64 (Pz.er (vcP s k))]))))∧True))) (((rdPre s k)∧True)∧(sel (Pz.bad (nuP s (Prod.snd (xNum s k)))) (((rdPre s (Prod.snd (xNum s k)))∧True)∧((Pz.bad (vcP s k) = true)∧(((SV.v (Value.iface 169 (Value.agg #[.int .i64 (Pz.er (p0 nuP [] s (Prod.snd (xNum s k))))]))) = (SV.v (Value.iface 169 (Value.agg #[.int .i64 (Pz.er (vcP s k))]))))∧True))) (((rdPre s (Prod.snd (xNum s k)))∧True)∧((Pz.bad (vcP s k) = false)∧((((SV.v (.int .i64 (rdI s k))) = (SV.v (.int .i64 (rdI s k))))∧(((SV.v (.bool (rdF s (k + 8)))) = (SV.v (.bool (rdF s (k + 8)))))∧(((SV.v (.int .i64 (rdI s (Prod.snd (xNum s k))))) = (SV.v (.int .i64 (rdI s (k + 8 + 1)))))∧((SV.v (.bool (rdF s (Prod.snd (xNum s k) + 8)))) = (SV.v (.bool (rdF s (k + 8 + 1 + 8))))))))∧(((1 : Nat) = 1)∧(((1 : Nat) ≤ 1)∧(∀ i : Nat,(((i : Nat) < 1)→([(SV.v (.string s)),(SV.v (.int .i64 (Prod.snd (xNum s (Prod.snd (xNum s k))))))] = [(SV.v (.string s)),(SV.v (.int .i64 (Prod.snd (xVec s k))))]))))))))))) := by kernel_rfl
theorem vcPoseT (s : ByteArray) (k : Int) : (vcFnP Try.prog ΓT5 noΛ Try.f123 [.vp 0 0] (heapOf [rdB s k]) 64 (fun y h' => (psP s k).bad = false∧FinE [rdB s k] (.det none (xPose s k).1 [(0,rdB s (xPose s k).2)]) y h') (fun y h' => (psP s k).bad = true∧FinE [rdB s k] (.det none (pE (psP s k).er) [(0,killed (rdB s k))]) y h')) =
(sel (Pz.bad (vcP s k)) (((rdPre s k)∧True)∧((Pz.bad (psP s k) = true)∧(((SV.v (Value.iface 169 (Value.agg #[.int .i64 (Pz.er (p0 vcP [] s k))]))) = (SV.v (Value.iface 169 (Value.agg #[.int .i64 (Pz.er (psP s k))]))))∧True))) (((rdPre s k)∧True)∧(sel (Pz.bad (nuP s (Prod.snd (xVec s k)))) (((rdPre s (Prod.snd (xVec s k)))∧True)∧((Pz.bad (psP s k) = true)∧(((SV.v (Value.iface 169 (Value.agg #[.int .i64 (Pz.er (p0 nuP [] s (Prod.snd (xVec s k))))]))) = (SV.v (Value.iface 169 (Value.agg #[.int .i64 (Pz.er (psP s k))]))))∧True))) (((rdPre s (Prod.snd (xVec s k)))∧True)∧(sel (Pz.bad (nuP s (Prod.snd (xNum s (Prod.snd (xVec s k)))))) (((rdPre s (Prod.snd (xNum s (Prod.snd (xVec s k)))))∧True)∧((Pz.bad (psP s k) = true)∧(((SV.v (Value.iface 169 (Value.agg #[.int .i64 (Pz.er (p0 nuP [] s (Prod.snd (xNum s (Prod.snd (xVec s k))))))]))) = (SV.v (Value.iface 169 (Value.agg #[.int .i64 (Pz.er (psP s k))]))))∧True))) (((rdPre s (Prod.snd (xNum s (Prod.snd (xVec s k)))))∧True)∧((Pz.bad (psP s k) = false)∧((((SV.v (.int .i64 (rdI s k))) = (SV.v (.int .i64 (rdI s k))))∧(((SV.v (.bool (rdF s (k + 8)))) = (SV.v (.bool (rdF s (k + 8)))))∧(((SV.v (.int .i64 (rdI s (k + 8 + 1)))) = (SV.v (.int .i64 (rdI s (k + 8 + 1)))))∧(((SV.v (.bool (rdF s (k + 8 + 1 + 8)))) = (SV.v (.bool (rdF s (k + 8 + 1 + 8)))))∧(((SV.v (.int .i64 (rdI s (Prod.snd (xVec s k))))) = (SV.v (.int .i64 (rdI s (k + 8 + 1 + 8 + 1)))))∧(((SV.v (.bool (rdF s (Prod.snd (xVec s k) + 8)))) = (SV.v (.bool (rdF s (k + 8 + 1 + 8 + 1 + 8)))))∧(((SV.v (.int .i64 (rdI s (Prod.snd (xNum s (Prod.snd (xVec s k))))))) = (SV.v (.int .i64 (rdI s (k + 8 + 1 + 8 + 1 + 8 + 1)))))∧((SV.v (.bool (rdF s (Prod.snd (xNum s (Prod.snd (xVec s k))) + 8)))) = (SV.v (.bool (rdF s (k + 8 + 1 + 8 + 1 + 8 + 1 + 8))))))))))))∧(((1 : Nat) = 1)∧(((1 : Nat) ≤ 1)∧(∀ i : Nat,(((i : Nat) < 1)→([(SV.v (.string s)),(SV.v (.int .i64 (Prod.snd (xNum s (Prod.snd (xNum s (Prod.snd (xVec s k))))))))] = [(SV.v (.string s)),(SV.v (.int .i64 (Prod.snd (xPose s k))))]))))))))))))) := by kernel_rfl
theorem vcSpotT (s : ByteArray) (k : Int) : (vcFnP Try.prog ΓT5 noΛ Try.f130 [.vp 0 0] (heapOf [rdB s k]) 64 (fun y h' => (spP s k).bad = false∧FinE [rdB s k] (.det none (xSpot s k).1 [(0,rdB s (xSpot s k).2)]) y h') (fun y h' => (spP s k).bad = true∧FinE [rdB s k] (.det none (pE (spP s k).er) [(0,killed (rdB s k))]) y h')) =
(sel (Pz.bad (pInt s k)) (((rdPre s k)∧True)∧((Pz.bad (spP s k) = true)∧(((SV.v (Value.iface 169 (Value.agg #[.int .i64 (Pz.er (p0 pInt [] s k))]))) = (SV.v (Value.iface 169 (Value.agg #[.int .i64 (Pz.er (spP s k))]))))∧True))) (((rdPre s k)∧True)∧(sel (Pz.bad (pInt s (Prod.snd (xInt s k)))) (((rdPre s (Prod.snd (xInt s k)))∧True)∧((Pz.bad (spP s k) = true)∧(((SV.v (Value.iface 169 (Value.agg #[.int .i64 (Pz.er (p0 pInt [] s (Prod.snd (xInt s k))))]))) = (SV.v (Value.iface 169 (Value.agg #[.int .i64 (Pz.er (spP s k))]))))∧True))) (((rdPre s (Prod.snd (xInt s k)))∧True)∧((Pz.bad (spP s k) = false)∧((((SV.v (.int .i64 (rdI s k))) = (SV.v (.int .i64 (rdI s k))))∧((SV.v (.int .i64 (rdI s (Prod.snd (xInt s k))))) = (SV.v (.int .i64 (rdI s (k + 8))))))∧(((1 : Nat) = 1)∧(((1 : Nat) ≤ 1)∧(∀ i : Nat,(((i : Nat) < 1)→([(SV.v (.string s)),(SV.v (.int .i64 (Prod.snd (xInt s (Prod.snd (xInt s k))))))] = [(SV.v (.string s)),(SV.v (.int .i64 (Prod.snd (xSpot s k))))]))))))))))) := by kernel_rfl
theorem vcHandleT (s : ByteArray) (k : Int) : (vcFnP Try.prog ΓT5 noΛ Try.f128 [.vp 0 0] (heapOf [rdB s k]) 64 (fun y h' => (haP s k).bad = false∧FinE [rdB s k] (.det none (xHandle s k).1 [(0,rdB s (xHandle s k).2)]) y h') (fun y h' => (haP s k).bad = true∧FinE [rdB s k] (.det none (pE (haP s k).er) [(0,killed (rdB s k))]) y h')) =
(sel (Pz.bad (pCount s k)) (((rdPre s k)∧True)∧((Pz.bad (haP s k) = true)∧(((SV.v (Value.iface 169 (Value.agg #[.int .i64 (Pz.er (p0 pCount [] s k))]))) = (SV.v (Value.iface 169 (Value.agg #[.int .i64 (Pz.er (haP s k))]))))∧True))) (((rdPre s k)∧True)∧(sel (Pz.bad (pCount s (Prod.snd (xCount s k)))) (((rdPre s (Prod.snd (xCount s k)))∧True)∧((Pz.bad (haP s k) = true)∧(((SV.v (Value.iface 169 (Value.agg #[.int .i64 (Pz.er (p0 pCount [] s (Prod.snd (xCount s k))))]))) = (SV.v (Value.iface 169 (Value.agg #[.int .i64 (Pz.er (haP s k))]))))∧True))) (((rdPre s (Prod.snd (xCount s k)))∧True)∧((Pz.bad (haP s k) = false)∧((((SV.v (.int .i64 (rdT s k 4))) = (SV.v (.int .i64 (rdT s k 4))))∧((SV.v (.int .i64 (rdT s (Prod.snd (xCount s k)) 4))) = (SV.v (.int .i64 (rdT s (k + 4) 4)))))∧(((1 : Nat) = 1)∧(((1 : Nat) ≤ 1)∧(∀ i : Nat,(((i : Nat) < 1)→([(SV.v (.string s)),(SV.v (.int .i64 (Prod.snd (xCount s (Prod.snd (xCount s k))))))] = [(SV.v (.string s)),(SV.v (.int .i64 (Prod.snd (xHandle s k))))]))))))))))) := by kernel_rfl
theorem not_dec {p : Prop} [Decidable p] (h : (!decide p) = true) : ¬p := by
  cases hd : decide p with
  | true => rw [hd] at h; cases h
  | false => exact of_decide_eq_false hd
theorem not_dec' {p : Prop} [Decidable p] (h : (!decide p) = false) : p := by
  cases hd : decide p with
  | false => rw [hd] at h; cases h
  | true => exact of_decide_eq_true hd
theorem seq_ok {a b : Pz} (h : a.bad = false) : a.seq b = b := by unfold Pz.seq; rw [h]; rfl
theorem seq_no {a b : Pz} (h : a.bad = true) : (a.seq b).bad = true ∧ a.er = (a.seq b).er := by unfold Pz.seq; rw [h]; exact ⟨rfl, rfl⟩
theorem seq_f {a b : Pz} (h : (a.seq b).bad = false) : a.bad = false ∧ b.bad = false := by
  have h : (a.bad || b.bad) = false := h
  simpa using h
theorem pan {p : Pz} {e : Int} (h : p.bad = true ∧ e = p.er) : (p.bad = true) ∧ ((SV.v (Value.iface 169 (Value.agg #[Value.int IntKind.i64 e])) = SV.v (Value.iface 169 (Value.agg #[Value.int IntKind.i64 p.er]))) ∧ True) := ⟨h.1, by rw [h.2], trivial⟩
theorem tk_f {s : ByteArray} {k n : Int} (h : (tkP s k n).bad = false) : k + n ≤ (s.size : Int) := by
  have := of_decide_eq_false h
  omega
theorem tk_pre {s : ByteArray} {k n : Int} (hp : rdPre s k) (hn : 0 ≤ n) (h : (tkP s k n).bad = false) : rdPre s (k + n) := by
  have := tk_f h
  obtain ⟨⟨h1, h2⟩, h3⟩ := hp
  exact ⟨⟨by omega, by omega⟩, h3⟩
theorem up_pre {s : ByteArray} {k m n : Int} (hp : rdPre s k) (hn : 0 ≤ n) (h : (upP s k m n).bad = false) : rdPre s (k + n) := tk_pre hp hn (seq_f h).1
theorem nu_pre {s : ByteArray} {k : Int} (hp : rdPre s k) (h : (nuP s k).bad = false) : rdPre s (k + 8 + 1) := up_pre (tk_pre hp (by omega) (seq_f h).1) (by omega) (seq_f (seq_f h).2).2
theorem vc_pre {s : ByteArray} {k : Int} (hp : rdPre s k) (h : (vcP s k).bad = false) : rdPre s (k + 8 + 1 + 8 + 1) := nu_pre (nu_pre hp (seq_f h).1) (seq_f h).2
theorem ps_pre {s : ByteArray} {k : Int} (hp : rdPre s k) (h : (psP s k).bad = false) : rdPre s (k + 8 + 1 + 8 + 1 + 8 + 1 + 8 + 1) := nu_pre (nu_pre (vc_pre hp (seq_f h).1) (seq_f (seq_f h).2).1) (seq_f (seq_f h).2).2
theorem sp_pre {s : ByteArray} {k : Int} (hp : rdPre s k) (h : (spP s k).bad = false) : rdPre s (k + 8 + 8) := tk_pre (tk_pre hp (by omega) (seq_f h).1) (by omega) (seq_f h).2
theorem ha_pre {s : ByteArray} {k : Int} (hp : rdPre s k) (h : (haP s k).bad = false) : rdPre s (k + 4 + 4) := up_pre (up_pre hp (by omega) (seq_f h).1) (by omega) (seq_f h).2
theorem td_spec {Γ : Ctrs} (hΓ : ∀ f g, Γ f = some g → g.ok Try.prog f) {f : FuncId} {fn : Func} (hf : Try.prog.funcs[f]? = some fn) {F : List SV → ByteArray → Int → Option (Prop × SV × Int)} {G : List SV → ByteArray → Int → Pz} {Λ : List SV → ByteArray → Int → Nat → Option LoopSpec}
    (h : ∀ rest s k q x k', F rest s k = some (q, x, k') → rdPre s k → q → vcFnP Try.prog Γ (Λ rest s k) fn (.vp 0 0 :: rest) (heapOf [rdB s k]) 64 (fun y h' => (G rest s k).bad = false ∧ FinE [rdB s k] (.det none x [(0, rdB s k')]) y h') (fun y h' => (G rest s k).bad = true ∧ FinE [rdB s k] (.det none (pE (G rest s k).er) [(0, killed (rdB s k))]) y h')) :
    HpSpecT Try.prog f (sTd F) (stTd G) (spTd F G) := hp_specT hm hΓ hf (Λ := fun args bs => match args, bs with
      | _ :: rest, [B] => match B.row 0 with
        | [.v (.string s), .v (.int _ k)] => Λ rest s k
        | _ => noΛ
      | _, _ => noΛ) fun args bs e hs hp => by
  unfold sTd at hs
  split at hs <;> try (cases hs; done)
  rename_i rest B
  split at hs <;> try (cases hs; done)
  rename_i s k hB
  split at hs <;> try (cases hs; done)
  rename_i q x k' hF
  obtain ⟨ha, he⟩ := bif_some hs
  subst he
  have e1 : stTd G (.vp 0 0 :: rest) [B] = (G rest s k).bad := by simp only [stTd, hB]
  have e2 : spTd F G (.vp 0 0 :: rest) [B] = .det (some (rdPre s k ∧ q)) (pE (G rest s k).er) [(0, killed (rdB s k))] := by simp only [spTd, hB, hF]
  rw [e1, e2] at hp
  have hq : rdPre s k ∧ q := by
    cases hb : (G rest s k).bad with
    | true => rw [hb] at hp; exact hp _ rfl
    | false => rw [hb] at hp; exact hp _ rfl
  refine ⟨[rdB s k], ⟨rdOk_same ha hB, trivial⟩, ?_⟩
  rw [e1, e2]
  simp only [hB]
  exact h rest s k q x k' hF hq.1 hq.2
theorem td_ok {f : FuncId} {fn : Func} {F : List SV → ByteArray → Int → Option (Prop × SV × Int)} {G : List SV → ByteArray → Int → Pz} (hf : Try.prog.funcs[f]? = some fn) (hn : (fn.name == "runtime.NumGoroutine") = false) (hb : fn.body.isNone = false) (h : HpSpecT Try.prog f (sTd F) (stTd G) (spTd F G)) : (ctrTd F G).ok Try.prog f := hp_okT hf hn hb h
theorem t0_spec {Γ : Ctrs} (hΓ : ∀ f g, Γ f = some g → g.ok Try.prog f) {f : FuncId} {fn : Func} (hf : Try.prog.funcs[f]? = some fn) {x : ByteArray → Int → SV × Int} {p : ByteArray → Int → Pz} {Λ : ByteArray → Int → Nat → Option LoopSpec}
    (h : ∀ s k, rdPre s k → vcFnP Try.prog Γ (Λ s k) fn [.vp 0 0] (heapOf [rdB s k]) 64 (fun y h' => (p s k).bad = false ∧ FinE [rdB s k] (.det none (x s k).1 [(0, rdB s (x s k).2)]) y h') (fun y h' => (p s k).bad = true ∧ FinE [rdB s k] (.det none (pE (p s k).er) [(0, killed (rdB s k))]) y h')) :
    HpSpecT Try.prog f (sTd (t0 x)) (stTd (p0 p)) (spTd (t0 x) (p0 p)) := td_spec hΓ hf (Λ := fun _ s k => Λ s k) fun rest s k q y k' hF hp hq => by
  unfold t0 at hF
  split at hF <;> try (cases hF; done)
  have hF := Option.some.inj hF
  obtain ⟨_, hF⟩ := Prod.mk.inj hF
  obtain ⟨e1, e2⟩ := Prod.mk.inj hF
  subst e1 e2
  exact h s k hp
theorem NdT_spec : HpSpecT Try.prog 132 sNdT stNdT spNdT := hp_specT hm noCtrs_ok Try.func132 (Λ := fun _ _ => noΛ) fun args bs e hs hp => by
  unfold sNdT at hs
  split at hs <;> try (cases hs; done)
  rename_i b e0
  have he := Option.some.inj hs
  subst he
  refine ⟨[], trivial, ?_⟩
  refine Eq.mpr (vcNdT b e0) (sel_of (fun h => ⟨h, rfl, trivial⟩) fun h => ⟨h, trivial, trivial⟩)
theorem ΓT0_ok : ∀ f g, ΓT0 f = some g → g.ok Try.prog f := addCtr_ok noCtrs_ok (hp_okT Try.func132 (by kernel_rfl) (by kernel_rfl) NdT_spec)
theorem TkT_spec : HpSpecT Try.prog 87 (sTd tTake) (stTd pTake) (spTd tTake pTake) := td_spec ΓT0_ok Try.func87 (Λ := fun rest s k => match rest with | [.v (.int _ n)] => ΛTake s k n.toNat | _ => noΛ) fun rest s k q x k' h hp hq => by
  unfold tTake at h
  split at h <;> try (cases h; done)
  rename_i n
  cases h
  obtain ⟨⟨hk, hk2⟩, hM⟩ := hp
  obtain ⟨hn0, hn8⟩ := hq
  obtain ⟨n, rfl⟩ : ∃ m : Nat, n = (m : Int) := ⟨n.toNat, by omega⟩
  rw [Int.toNat_natCast]
  have ew : IntKind.i64.wrap ((s.size : Int) - k) = (s.size : Int) - k := wrap_i64 ⟨by omega, by omega⟩
  refine Eq.mpr (vcTkT s k n) (sel_of (fun h => ?_) fun h => ?_)
  · have h := not_dec h
    rw [ew] at h
    exact pan ⟨decide_eq_true (by omega), rfl⟩
  have h := not_dec' h
  rw [ew] at h
  have hb : (tkP s k n).bad = false := decide_eq_false (by omega)
  have hsz := tk_f hb
  refine ⟨⟨0, Nat.zero_le _, ⟨rfl, rfl⟩, rfl, Nat.le_refl _, fun i hi => by rw [show k + ((0 : Nat) : Int) = k by omega]⟩, fun x hx => sel_of (fun hlt => ?_) fun hge => ?_⟩
  · have hx : x ≤ n := hx
    have hlt := of_decide_eq_true hlt
    have hlt : x < n := by omega
    obtain ⟨r1, r2⟩ := rdT_rng s k x
    have r3 := pow_le8 r2 (by omega)
    have hb := (s.data.toList.getD (k + (x : Int)).toNat 0).toNat_lt
    have e1 : IntKind.i64.wrap ((x : Int) + 1) = ((x + 1 : Nat) : Int) := wrap_i64 ⟨by omega, by omega⟩
    have e2 : IntKind.i64.wrap (k + (x : Int) + 1) = k + ((x + 1 : Nat) : Int) := by rw [wrap_i64 ⟨by omega, by omega⟩]; omega
    have e3 : IntKind.u64.wrap (rdT s k x * 256) = rdT s k x * 256 := by rw [wrap_u64]; omega
    have e4 : IntKind.u64.wrap ((s.data.toList.getD (k + (x : Int)).toNat 0).toNat : Int) = ((s.data.toList.getD (k + (x : Int)).toNat 0).toNat : Int) := by rw [wrap_u64]; omega
    rw [e1, e2, e3, e4, or_byte r1 r3 (by omega) (by omega)]
    refine ⟨⟨by omega, by omega⟩, x + 1, ⟨hlt, ⟨rfl, ?_⟩, rfl, Nat.le_refl _, fun _ _ => rfl⟩, by omega⟩
    show _ = SV.v (.int .u64 (rdT s k x * 256 + ((s.data.toList.getD (k.toNat + x) 0).toNat : Int)))
    rw [show (k + (x : Int)).toNat = k.toNat + x by omega]
  · have hx : x ≤ n := hx
    have hge := of_decide_eq_false hge
    have hx : x = n := by omega
    subst hx
    exact ⟨hb, rfl, rfl, Nat.le_refl _, fun _ _ => rfl⟩
theorem ΓT1_ok : ∀ f g, ΓT1 f = some g → g.ok Try.prog f := addCtr_ok ΓT0_ok (td_ok Try.func87 (by kernel_rfl) (by kernel_rfl) TkT_spec)
theorem UpT_spec : HpSpecT Try.prog 133 (sTd tUpto) (stTd pUpto) (spTd tUpto pUpto) := td_spec ΓT1_ok Try.func133 (Λ := fun _ _ _ => noΛ) fun rest s k q x k' h hp hq => by
  unfold tUpto at h
  split at h <;> try (cases h; done)
  rename_i m n
  cases h
  obtain ⟨hn, hm⟩ := hq
  refine Eq.mpr (vcUpT s k m n) (sel_of (fun h => ⟨⟨hp, hn⟩, pan (seq_no h)⟩) fun h => ⟨⟨hp, hn⟩, sel_of (fun h2 => ?_) fun h2 => ?_⟩)
  · have h2 := not_dec h2
    refine pan ?_
    unfold upP
    rw [seq_ok h]
    exact ⟨decide_eq_true (by omega), rfl⟩
  · have h2 := not_dec' h2
    refine ⟨?_, ?_, rfl, Nat.le_refl _, fun _ _ => rfl⟩
    · unfold upP
      rw [seq_ok h]
      exact decide_eq_false (by omega)
    · have := (rdT_rng s k n.toNat).1
      rw [wrap_i64 ⟨by omega, by omega⟩]
theorem ΓT2_ok : ∀ f g, ΓT2 f = some g → g.ok Try.prog f := addCtr_ok ΓT1_ok (td_ok Try.func133 (by kernel_rfl) (by kernel_rfl) UpT_spec)
theorem rdI_eq (s : ByteArray) (k : Int) : rdI s k = IntKind.i64.wrap (rdT s k 8) := hide_eq _
theorem CountT_spec : HpSpecT Try.prog 121 (sTd (t0 xCount)) (stTd (p0 pCount)) (spTd (t0 xCount) (p0 pCount)) := t0_spec ΓT2_ok Try.func121 (Λ := fun _ _ => noΛ) fun s k hp =>
  Eq.mpr (vcCountT s k) (sel_of (fun h => ⟨⟨hp, ⟨by omega, by omega⟩, by omega⟩, pan ⟨h, rfl⟩⟩) fun h => ⟨⟨hp, ⟨by omega, by omega⟩, by omega⟩, h, rfl, rfl, Nat.le_refl _, fun _ _ => rfl⟩)
theorem FlagT_spec : HpSpecT Try.prog 127 (sTd (t0 xFlag)) (stTd (p0 pFlag)) (spTd (t0 xFlag) (p0 pFlag)) := t0_spec ΓT2_ok Try.func127 (Λ := fun _ _ => noΛ) fun s k hp =>
  Eq.mpr (vcFlagT s k) (sel_of (fun h => ⟨⟨hp, ⟨by omega, by omega⟩, by omega⟩, pan ⟨h, rfl⟩⟩) fun h => ⟨⟨hp, ⟨by omega, by omega⟩, by omega⟩, h, rfl, rfl, Nat.le_refl _, fun _ _ => rfl⟩)
theorem IntT_spec : HpSpecT Try.prog 126 (sTd (t0 xInt)) (stTd (p0 pInt)) (spTd (t0 xInt) (p0 pInt)) := t0_spec ΓT2_ok Try.func126 (Λ := fun _ _ => noΛ) fun s k hp => by
  refine Eq.mpr (vcIntT s k) (sel_of (fun h => ⟨⟨hp, by omega, by omega⟩, pan ⟨h, rfl⟩⟩) fun h => ⟨⟨hp, by omega, by omega⟩, h, ?_, rfl, Nat.le_refl _, fun _ _ => rfl⟩)
  rw [rdI_eq]
theorem VerT_spec : HpSpecT Try.prog 129 (sTd (t0 xVer)) (stTd (p0 pVer)) (spTd (t0 xVer) (p0 pVer)) := t0_spec ΓT2_ok Try.func129 (Λ := fun _ _ => noΛ) fun s k hp => by
  refine Eq.mpr (vcVerT s k) (sel_of (fun h => ⟨⟨hp, ⟨by omega, by omega⟩, by omega⟩, pan ⟨h, rfl⟩⟩) fun h => ⟨⟨hp, ⟨by omega, by omega⟩, by omega⟩, h, ?_, rfl, Nat.le_refl _, fun _ _ => rfl⟩)
  first | exact rfl | (have := of_decide_eq_false (seq_f h).2; have := (rdT_rng s k 8).1; rw [wrap_i64 ⟨by omega, by omega⟩]; rfl)
theorem ΓT3_ok : ∀ f g, ΓT3 f = some g → g.ok Try.prog f := addCtr_ok (addCtr_ok (addCtr_ok (addCtr_ok ΓT2_ok (td_ok Try.func121 (by kernel_rfl) (by kernel_rfl) CountT_spec)) (td_ok Try.func127 (by kernel_rfl) (by kernel_rfl) FlagT_spec)) (td_ok Try.func126 (by kernel_rfl) (by kernel_rfl) IntT_spec)) (td_ok Try.func129 (by kernel_rfl) (by kernel_rfl) VerT_spec)
theorem NumT_spec : HpSpecT Try.prog 125 (sTd (t0 xNum)) (stTd (p0 nuP)) (spTd (t0 xNum) (p0 nuP)) := t0_spec ΓT3_ok Try.func125 (Λ := fun _ _ => noΛ) fun s k hp => by
  refine Eq.mpr (vcNumT s k) (sel_of (fun h => ⟨⟨hp, trivial⟩, pan (seq_no h)⟩) fun h => ⟨⟨hp, trivial⟩, ?_⟩)
  have h : (tkP s k 8).bad = false := h
  have hp2 : rdPre s (k + 8) := tk_pre hp (by omega) h
  have e1 : nuP s k = Pz.seq ⟨rdI s k == -9223372036854775808, 4⟩ (upP s (k + 8) 1 1) := by unfold nuP; exact seq_ok h
  rw [e1]
  refine sel_of (fun h2 => ?_) fun h2 => ?_
  · have h2 : (rdI s k == -9223372036854775808) = true := by unfold bne at h2; simpa using h2
    exact pan (seq_no h2)
  · have h2 : (rdI s k == -9223372036854775808) = false := by unfold bne at h2; simpa using h2
    rw [seq_ok (a := ⟨rdI s k == -9223372036854775808, 4⟩) h2]
    exact sel_of (fun h3 => ⟨⟨hp2, trivial⟩, pan ⟨h3, rfl⟩⟩) fun h3 => ⟨⟨hp2, trivial⟩, h3, ⟨rfl, rfl⟩, rfl, Nat.le_refl _, fun _ _ => rfl⟩
theorem ΓT4_ok : ∀ f g, ΓT4 f = some g → g.ok Try.prog f := addCtr_ok ΓT3_ok (td_ok Try.func125 (by kernel_rfl) (by kernel_rfl) NumT_spec)
theorem VecT_spec : HpSpecT Try.prog 124 (sTd (t0 xVec)) (stTd (p0 vcP)) (spTd (t0 xVec) (p0 vcP)) := t0_spec ΓT4_ok Try.func124 (Λ := fun _ _ => noΛ) fun s k hp => by
  refine Eq.mpr (vcVecT s k) (sel_of (fun h => ⟨⟨hp, trivial⟩, pan (seq_no h)⟩) fun h => ⟨⟨hp, trivial⟩, ?_⟩)
  have hp2 : rdPre s (k + 8 + 1) := nu_pre hp h
  rw [show vcP s k = nuP s (k + 8 + 1) from seq_ok h]
  exact sel_of (fun h2 => ⟨⟨hp2, trivial⟩, pan ⟨h2, rfl⟩⟩) fun h2 => ⟨⟨hp2, trivial⟩, h2, ⟨rfl, rfl, rfl, rfl⟩, rfl, Nat.le_refl _, fun _ _ => rfl⟩
theorem ΓT5_ok : ∀ f g, ΓT5 f = some g → g.ok Try.prog f := addCtr_ok ΓT4_ok (td_ok Try.func124 (by kernel_rfl) (by kernel_rfl) VecT_spec)
theorem PoseT_spec : HpSpecT Try.prog 123 (sTd (t0 xPose)) (stTd (p0 psP)) (spTd (t0 xPose) (p0 psP)) := t0_spec ΓT5_ok Try.func123 (Λ := fun _ _ => noΛ) fun s k hp => by
  refine Eq.mpr (vcPoseT s k) (sel_of (fun h => ⟨⟨hp, trivial⟩, pan (seq_no h)⟩) fun h => ⟨⟨hp, trivial⟩, ?_⟩)
  have hp2 : rdPre s (k + 8 + 1 + 8 + 1) := vc_pre hp h
  rw [show psP s k = (nuP s (k + 8 + 1 + 8 + 1)).seq (nuP s (k + 8 + 1 + 8 + 1 + 8 + 1)) from seq_ok h]
  refine sel_of (fun h2 => ⟨⟨hp2, trivial⟩, pan (seq_no h2)⟩) fun h2 => ⟨⟨hp2, trivial⟩, ?_⟩
  have hp3 : rdPre s (k + 8 + 1 + 8 + 1 + 8 + 1) := nu_pre hp2 h2
  rw [seq_ok (a := nuP s (k + 8 + 1 + 8 + 1)) h2]
  exact sel_of (fun h3 => ⟨⟨hp3, trivial⟩, pan ⟨h3, rfl⟩⟩) fun h3 => ⟨⟨hp3, trivial⟩, h3, ⟨rfl, rfl, rfl, rfl, rfl, rfl, rfl, rfl⟩, rfl, Nat.le_refl _, fun _ _ => rfl⟩
theorem SpotT_spec : HpSpecT Try.prog 130 (sTd (t0 xSpot)) (stTd (p0 spP)) (spTd (t0 xSpot) (p0 spP)) := t0_spec ΓT5_ok Try.func130 (Λ := fun _ _ => noΛ) fun s k hp => by
  refine Eq.mpr (vcSpotT s k) (sel_of (fun h => ⟨⟨hp, trivial⟩, pan (seq_no h)⟩) fun h => ⟨⟨hp, trivial⟩, ?_⟩)
  have hp2 : rdPre s (k + 8) := tk_pre hp (by omega) h
  rw [show spP s k = tkP s (k + 8) 8 from seq_ok h]
  exact sel_of (fun h2 => ⟨⟨hp2, trivial⟩, pan ⟨h2, rfl⟩⟩) fun h2 => ⟨⟨hp2, trivial⟩, h2, ⟨rfl, rfl⟩, rfl, Nat.le_refl _, fun _ _ => rfl⟩
theorem HandleT_spec : HpSpecT Try.prog 128 (sTd (t0 xHandle)) (stTd (p0 haP)) (spTd (t0 xHandle) (p0 haP)) := t0_spec ΓT5_ok Try.func128 (Λ := fun _ _ => noΛ) fun s k hp => by
  refine Eq.mpr (vcHandleT s k) (sel_of (fun h => ⟨⟨hp, trivial⟩, pan (seq_no h)⟩) fun h => ⟨⟨hp, trivial⟩, ?_⟩)
  have hp2 : rdPre s (k + 4) := up_pre hp (by omega) h
  rw [show haP s k = upP s (k + 4) 2147483647 4 from seq_ok h]
  exact sel_of (fun h2 => ⟨⟨hp2, trivial⟩, pan ⟨h2, rfl⟩⟩) fun h2 => ⟨⟨hp2, trivial⟩, h2, ⟨rfl, rfl⟩, rfl, Nat.le_refl _, fun _ _ => rfl⟩
theorem ΓT6_ok : ∀ f g, ΓT6 f = some g → g.ok Try.prog f := addCtr_ok (addCtr_ok (addCtr_ok ΓT5_ok (td_ok Try.func123 (by kernel_rfl) (by kernel_rfl) PoseT_spec)) (td_ok Try.func130 (by kernel_rfl) (by kernel_rfl) SpotT_spec)) (td_ok Try.func128 (by kernel_rfl) (by kernel_rfl) HandleT_spec)
end Go.Proofs.Ytjdldadmaaeimaa
end
section
namespace Go.Proofs.Ytjdldadmaaeimaa
open Go.SE Go.RowKit
def sAt (a : List SV) (r : SV) (args : List SV) : Option (Option Prop × SV) := some (some (args = a), r)
def zN : List SV := [iV 0, bV false]
def zShape : List SV := [iV 0, iV 0, iV 0, iV 0, nilS]
def zSh : SV := .agg zShape
def relC : SV := .agg ([iV 6, iV 1, iV 0, iV 0, iV 0] ++ zShape ++ (zN ++ zN ++ zN ++ zN) ++ (zN ++ zN) ++ zN ++ [iV 0, bV false] ++ (zN ++ zN) ++ (zN ++ zN) ++ [iV 2] ++ [iV 0, iV 0, iV 0, iV 0] ++ [iV 0, iV 0] ++ [iV 0, iV 0])
def ΛZ (fn : Func) (t : Nat) : Nat → Option LoopSpec := addLoop noΛ fn 0 Nat (fun z => z = 0) (fun z => z) [(t, fun z => .v (.int .i64 z))] []
def relL : List Int := [6] ++ (c4 1 ++ c4 2)
def sCallR (args : List SV) (bs : List Blk) : Option Eff := match args with
  | [.vp 0 0, x] => match wrOf bs with
    | some (.fresh (some b)) => some (apE (.fresh (some b)) 0 (x = relC) 9 relL false)
    | _ => none
  | _ => none
def ΓH0 : Ctrs := addCtr noCtrs 106 (pureCtr (sAt [nilS, nilS] (bV true)))
def ΓH1 : Ctrs := addCtr ΓH0 72 (pureCtr (sAt [zSh, zSh] (bV true)))
theorem vcUsedR (R : SV→Prop) : (vcPure Try.prog noCtrs noΛ Try.f69 [relC] R) = (R (SV.tup [(SV.agg [(SV.v (.int .i64 6)),(SV.v (.int .i64 1)),zI,zI,zI,zI,zI,zI,zI,zS,zI,zF,zI,zF,zI,zF,zI,zF,zI,zF,zI,zF,zI,zF,zI,zF,zI,zF,zI,zF,zI,zF,zI,zF,(SV.v (.int .i64 2)),zI,zI,zI,zI,zI,zI,zI,zI]),(SV.v (.bool true))])):=by kernel_rfl
theorem vcEqZ (R : SV→Prop) : (vcPure Try.prog noCtrs (ΛZ Try.f106 13) Try.f106 [nilS,nilS] R) = ((∃ x : Nat,(((x : Nat) = 0)∧((zI = (SV.v (.int .i64 ((↑x : Int)))))∧True)))∧(∀ x : Nat,(((x : Nat) = 0)→(R (SV.v (.bool true)))))):=by kernel_rfl
theorem vcSameShZ (R : SV→Prop) : (vcPure Try.prog ΓH0 noΛ Try.f72 [zSh,zSh] R) = (([zS,zS] = [zS,zS])∧(R (SV.v (.bool true)))):=by kernel_rfl
theorem vcSameR (R : SV→Prop) : (vcPure Try.prog ΓH1 noΛ Try.f25 [relC,relC] R) = (([(SV.agg [zI,zI,zI,zI,zS]),(SV.agg [zI,zI,zI,zI,zS])] = [(SV.agg [zI,zI,zI,zI,zS]),(SV.agg [zI,zI,zI,zI,zS])])∧(R (SV.v (.bool true)))):=by kernel_rfl
theorem at_spec {Γ : Ctrs} (hΓ : ∀ f g, Γ f = some g → g.ok Try.prog f) {f : FuncId} {fn : Func} (hf : Try.prog.funcs[f]? = some fn) {a : List SV} {r : SV} (ha : plainL a = true) (hr : plain r = true) {Λ : Nat → Option LoopSpec} (h : vcPure Try.prog Γ Λ fn a (· = r)) : PureSpec Try.prog f (sAt a r) :=
  vc_spec hm hΓ hf (Λ := fun _ => Λ) fun args p x hs hp => by
    unfold sAt at hs
    cases hs
    have := hp _ rfl
    subst this
    exact ⟨ha, hr, h⟩
theorem UsedR_spec : PureSpec Try.prog 69 (sAt [relC] (.tup [relC, bV true])) := at_spec noCtrs_ok Try.func69 (by kernel_rfl) (by kernel_rfl) (by rw [vcUsedR]; kernel_rfl)
theorem EqZ_spec : PureSpec Try.prog 106 (sAt [nilS, nilS] (bV true)) := at_spec noCtrs_ok Try.func106 (by kernel_rfl) (by kernel_rfl) (Eq.mpr (vcEqZ _) ⟨⟨0, rfl, rfl, trivial⟩, fun _ _ => rfl⟩)
theorem ΓH0_ok : ∀ f g, ΓH0 f = some g → g.ok Try.prog f := addCtr_ok noCtrs_ok (pure_ok Try.func106 (by kernel_rfl) (by kernel_rfl) EqZ_spec)
theorem SameShZ_spec : PureSpec Try.prog 72 (sAt [zSh, zSh] (bV true)) := at_spec ΓH0_ok Try.func72 (by kernel_rfl) (by kernel_rfl) (Λ := noΛ) (by rw [vcSameShZ]; exact ⟨rfl, rfl⟩)
theorem ΓH1_ok : ∀ f g, ΓH1 f = some g → g.ok Try.prog f := addCtr_ok ΓH0_ok (pure_ok Try.func72 (by kernel_rfl) (by kernel_rfl) SameShZ_spec)
theorem SameR_spec : PureSpec Try.prog 25 (sAt [relC, relC] (bV true)) := at_spec ΓH1_ok Try.func25 (by kernel_rfl) (by kernel_rfl) (Λ := noΛ) (by rw [vcSameR]; exact ⟨rfl, rfl⟩)
end Go.Proofs.Ytjdldadmaaeimaa
end
section
namespace Go.Proofs.Ytjdldadmaaeimaa
open Go.SE Go.RowKit
def sSpots2 (args : List SV) (bs : List Blk) : Option Eff := match args, bs with
  | [.vp 0 0, .sl 2 2 0 n _], [B, D, S] => match wrOf [B, D] with
    | some (.used (some b) n0 g c p) => bif roOk2 S then some (apE (.used (some b) n0 g c p) NB0 ((S.n = n ∧ n < 100 ∧ n0 ≤ c) ∧ ∀ i, i < n → isPair (S.row i)) (16 * n) (spotsL (fun i => pX (S.row i)) (fun i => pY (S.row i)) n) false) else none
    | _ => none
  | _, _ => none
noncomputable def ΛSpots2 (b : Bool) (n0 : Nat) (g : Nat → Int) (n : Nat) (x y : Nat → Int) : Nat → Option LoopSpec := addLoopN noΛ Try.f105 0 NX (fun z => z.i ≤ n ∧ n0 + 16 * z.i ≤ z.c) (fun z => n - z.i) [(8, fun z => .v (.int .i64 z.i))] [(0, fun z => wB (some b) false (.sl 40 1 0 (n0 + 16 * z.i) z.c))] [(40, fun z => bG (n0 + 16 * z.i) (apG n0 g (spotsL x y z.i)) z.c, inVar 0 0)]
theorem vcSpots2 (b : Bool) (n0 : Nat) (g : Nat→Int) (c n e n' c' : Nat) (x y : Nat→Int) : (vcFn Try.prog ΓF1 (ΛSpots2 b n0 g n x y) Try.f105 [.vp 0 0,.sl 2 2 0 n c'] (heapOf [wB (some b) false (.sl 1 1 0 n0 c),bG n0 g c,spB e n' x y]) 64 (fun y' h' => FinE [wB (some b) false (.sl 1 1 0 n0 c),bG n0 g c,spB e n' x y] (apE (.used (some b) n0 g c True) 0 True (16 * n) (spotsL x y n) false) y' h')) =
((∃ x_1 : NX,(((((NX.i x_1) : Nat) ≤ n)∧(((n0 + 16 * NX.i x_1) : Nat) ≤ (NX.c x_1)))∧((zI = (SV.v (.int .i64 ((↑(NX.i x_1) : Int)))))∧((((1 : Nat) = 1)∧(((1 : Nat) ≤ 1)∧(((SV.sl 1 1 0 n0 c) = (SV.sl 1 1 0 (n0 + 16 * NX.i x_1) (NX.c x_1)))∧((SV.v (.bool b)) = (SV.v (.bool b))))))∧(((n0 : Nat) = (n0 + 16 * NX.i x_1))∧((((NX.c x_1) : Nat) ≤ c)∧(∀ i : Nat,(((i : Nat) < (n0 + 16 * NX.i x_1))→([(SV.v (.int .u8 (g i)))] = [(SV.v (.int .u8 (apG n0 g (spotsL x y (NX.i x_1)) i)))])))))))))∧(∀ x_1 : NX,(((((NX.i x_1) : Nat) ≤ n)∧(((n0 + 16 * NX.i x_1) : Nat) ≤ (NX.c x_1)))→(sel (decide ((↑(NX.i x_1) : Int) < (↑n : Int))) ((((0 : Int) ≤ ((↑(NX.i x_1) : Int)))∧((((↑(NX.i x_1) : Int)) : Int) < ((↑n : Int))))∧((((bytesOk (n0 + 16 * NX.i x_1) (NX.c x_1) {elem:=5,size:=1,rw:=true,lock:=false,lit:=false,flat:=true,n:=n0 + 16 * NX.i x_1,row:=fun i => [SV.v (.int .u8 (apG n0 g (spotsL x y (NX.i x_1)) i))],ext:=NX.c x_1})∧(((n0 + 16 * NX.i x_1) : Nat) ≤ M0))∧(I64 (x (0 + Int.toNat (↑(NX.i x_1) : Int)))))∧(∀ c_1 : Nat,((((bytesOk (n0 + 16 * NX.i x_1 + 8) (n0 + 16 * NX.i x_1 + 8 + c_1) {elem:=5,size:=1,rw:=true,lock:=false,lit:=false,flat:=true,n:=n0 + 16 * NX.i x_1 + 8,row:=fun i => [SV.v (.int .u8 (apG (n0 + 16 * NX.i x_1) (fun i => SE.byteOf [SV.v (.int .u8 (apG n0 g (spotsL x y (NX.i x_1)) i))]) (be (x (0 + Int.toNat (↑(NX.i x_1) : Int)) % 18446744073709551616) 8) i))],ext:=n0 + 16 * NX.i x_1 + 8 + c_1})∧(((n0 + 16 * NX.i x_1 + 8) : Nat) ≤ M0))∧(I64 (y (0 + Int.toNat (↑(NX.i x_1) : Int)))))∧(∀ c_2 : Nat,(∃ x' : NX,((((((NX.i x') : Nat) ≤ n)∧(((n0 + 16 * NX.i x') : Nat) ≤ (NX.c x')))∧(((SV.v (.int .i64 (IntKind.wrap IntKind.i64 ((↑(NX.i x_1) : Int) + 1)))) = (SV.v (.int .i64 ((↑(NX.i x') : Int)))))∧((((1 : Nat) = 1)∧(((1 : Nat) ≤ 1)∧(((SV.sl 216 1 0 (n0 + 16 * NX.i x_1 + 8 + 8) (n0 + 16 * NX.i x_1 + 8 + 8 + c_2)) = (SV.sl 216 1 0 (n0 + 16 * NX.i x') (NX.c x')))∧((SV.v (.bool (b||false||false))) = (SV.v (.bool b))))))∧((((n0 + 16 * NX.i x_1 + 8 + 8) : Nat) = (n0 + 16 * NX.i x'))∧((((NX.c x') : Nat) ≤ (n0 + 16 * NX.i x_1 + 8 + 8 + c_2))∧(∀ i : Nat,(((i : Nat) < (n0 + 16 * NX.i x'))→([(SV.v (.int .u8 (apG (n0 + 16 * NX.i x_1 + 8) (fun i => SE.byteOf [SV.v (.int .u8 (apG (n0 + 16 * NX.i x_1) (fun i => SE.byteOf [SV.v (.int .u8 (apG n0 g (spotsL x y (NX.i x_1)) i))]) (be (x (0 + Int.toNat (↑(NX.i x_1) : Int)) % 18446744073709551616) 8) i))]) (be (y (0 + Int.toNat (↑(NX.i x_1) : Int)) % 18446744073709551616) 8) i)))] = [(SV.v (.int .u8 (apG n0 g (spotsL x y (NX.i x')) i)))]))))))))∧(((n - NX.i x') : Nat) < (n - NX.i x_1))))))))) (∃ c_1 : Nat,(True∧((((1 : Nat) = 1)∧(((1 : Nat) ≤ 1)∧(((SV.sl 40 1 0 (n0 + 16 * NX.i x_1) (NX.c x_1)) = (SV.sl 40 1 0 (n0 + 16 * n) (n0 + 16 * n + c_1)))∧((SV.v (.bool b)) = (SV.v (.bool (b||false)))))))∧((((n0 + 16 * NX.i x_1) : Nat) = (n0 + 16 * n))∧((((n0 + 16 * n + c_1) : Nat) ≤ (NX.c x_1))∧(∀ i : Nat,(((i : Nat) < (n0 + 16 * n))→([(SV.v (.int .u8 (apG n0 g (spotsL x y (NX.i x_1)) i)))] = [(SV.v (.int .u8 (apG n0 g (spotsL x y n) i)))])))))))))))) := by kernel_rfl
def shL (k r w h : Int) (n : Nat) (x y : Nat → Int) : List Int := [k % 256] ++ (i8 r ++ (i8 w ++ (i8 h ++ ([(n : Int) % 256] ++ (bif Nat.ble n 8 then spotsL x y n else [])))))
def shN (n : Nat) : Nat := bif Nat.ble n 8 then 26 + 16 * n else 26
def shBad (k : Int) (n : Nat) : Bool := notIn k 255 || notIn (n : Int) 8
def NB1 : Nat := 900000000
def sShape (args : List SV) (bs : List Blk) : Option Eff := match args, bs with
  | [.vp 0 0, .agg [.v (.int .i64 k), .v (.int .i64 r), .v (.int .i64 w), .v (.int .i64 h), .sl 2 2 0 n _]], [B, D, S] => match wrOf [B, D] with
    | some (.used (some b) n0 g c p) => bif roOk2 S then some (apE (.used (some b) n0 g c p) NB1 (((I64 k ∧ I64 r ∧ I64 w ∧ I64 h) ∧ S.n = n ∧ n < 100) ∧ ∀ i, i < n → isPair (S.row i)) (shN n) (shL k r w h n (fun i => pX (S.row i)) (fun i => pY (S.row i))) (shBad k n)) else none
    | _ => none
  | _, _ => none
def ΓSh : Ctrs := addCtr (addCtr ΓF1 118 (hpCtr true sSmall)) 105 (hpCtr true sSpots2)
@[reducible] noncomputable def vcShape_1 (n0 : Nat) (g : Nat→Int) (k : Int) (r : Int) (w : Int) := (fun i => SE.byteOf [SV.v (.int .u8 (apG (n0 + 1 + 8) (fun i => SE.byteOf [SV.v (.int .u8 (apG (n0 + 1) (fun i => SE.byteOf [SV.v (.int .u8 (apG n0 (fun i => SE.byteOf [SV.v (.int .u8 (g i))]) [k % 256] i))]) (be (r % 18446744073709551616) 8) i))]) (be (w % 18446744073709551616) 8) i))])
theorem vcShape (b : Bool) (n0 : Nat) (g : Nat→Int) (c : Nat) (k r w h : Int) (n e n' c' : Nat) (x y : Nat→Int) : (vcFn Try.prog ΓSh noΛ Try.f97 [.vp 0 0,.agg [.v (.int .i64 k),.v (.int .i64 r),.v (.int .i64 w),.v (.int .i64 h),.sl 2 2 0 n c']] (heapOf [wB (some b) false (.sl 1 1 0 n0 c),bG n0 g c,spB e n' x y]) 64 (fun y' h' => FinE [wB (some b) false (.sl 1 1 0 n0 c),bG n0 g c,spB e n' x y] (apE (.used (some b) n0 g c True) 0 True (shN n) (shL k r w h n x y) (shBad k n)) y' h')) =
((((bytesOk n0 c {elem:=5,size:=1,rw:=true,lock:=false,lit:=false,flat:=true,n:=n0,row:=fun i => [SV.v (.int .u8 (g i))],ext:=c})∧((n0 : Nat) ≤ M0))∧(I64 k))∧(∀ c_1 : Nat,((((bytesOk (n0 + 1) (n0 + 1 + c_1) {elem:=5,size:=1,rw:=true,lock:=false,lit:=false,flat:=true,n:=n0 + 1,row:=fun i => [SV.v (.int .u8 (apG n0 (fun i => SE.byteOf [SV.v (.int .u8 (g i))]) [k % 256] i))],ext:=n0 + 1 + c_1})∧(((n0 + 1) : Nat) ≤ M0))∧(I64 r))∧(∀ c_2 : Nat,((((bytesOk (n0 + 1 + 8) (n0 + 1 + 8 + c_2) {elem:=5,size:=1,rw:=true,lock:=false,lit:=false,flat:=true,n:=n0 + 1 + 8,row:=fun i => [SV.v (.int .u8 (apG (n0 + 1) (fun i => SE.byteOf [SV.v (.int .u8 (apG n0 (fun i => SE.byteOf [SV.v (.int .u8 (g i))]) [k % 256] i))]) (be (r % 18446744073709551616) 8) i))],ext:=n0 + 1 + 8 + c_2})∧(((n0 + 1 + 8) : Nat) ≤ M0))∧(I64 w))∧(∀ c_3 : Nat,((((bytesOk (n0 + 1 + 8 + 8) (n0 + 1 + 8 + 8 + c_3) {elem:=5,size:=1,rw:=true,lock:=false,lit:=false,flat:=true,n:=n0 + 1 + 8 + 8,row:=fun i => [SV.v (.int .u8 (apG (n0 + 1 + 8) (fun i => SE.byteOf [SV.v (.int .u8 (apG (n0 + 1) (fun i => SE.byteOf [SV.v (.int .u8 (apG n0 (fun i => SE.byteOf [SV.v (.int .u8 (g i))]) [k % 256] i))]) (be (r % 18446744073709551616) 8) i))]) (be (w % 18446744073709551616) 8) i))],ext:=n0 + 1 + 8 + 8 + c_3})∧(((n0 + 1 + 8 + 8) : Nat) ≤ M0))∧(I64 h))∧(∀ c_4 : Nat,((((bytesOk (n0 + 1 + 8 + 8 + 8) (n0 + 1 + 8 + 8 + 8 + c_4) {elem:=5,size:=1,rw:=true,lock:=false,lit:=false,flat:=true,n:=n0 + 1 + 8 + 8 + 8,row:=fun i => [SV.v (.int .u8 (apG (n0 + 1 + 8 + 8) (vcShape_1 n0 g k r w) (be (h % 18446744073709551616) 8) i))],ext:=n0 + 1 + 8 + 8 + 8 + c_4})∧(((n0 + 1 + 8 + 8 + 8) : Nat) ≤ M0))∧(I64 (↑n : Int)))∧(∀ c_5 : Nat,(sel (decide ((↑n : Int) ≤ 8)) ((((bytesOk (n0 + 1 + 8 + 8 + 8 + 1) (n0 + 1 + 8 + 8 + 8 + 1 + c_5) {elem:=5,size:=1,rw:=true,lock:=false,lit:=false,flat:=true,n:=n0 + 1 + 8 + 8 + 8 + 1,row:=fun i => [SV.v (.int .u8 (apG (n0 + 1 + 8 + 8 + 8) (fun i => SE.byteOf [SV.v (.int .u8 (apG (n0 + 1 + 8 + 8) (vcShape_1 n0 g k r w) (be (h % 18446744073709551616) 8) i))]) [(↑n : Int) % 256] i))],ext:=n0 + 1 + 8 + 8 + 8 + 1 + c_5})∧(((n0 + 1 + 8 + 8 + 8 + 1) : Nat) ≤ NB0))∧((((n : Nat) = n)∧(((n : Nat) < 100)∧(((n0 + 1 + 8 + 8 + 8 + 1) : Nat) ≤ (n0 + 1 + 8 + 8 + 8 + 1 + c_5))))∧(∀ i : Nat,(((i : Nat) < n)→(isPair [SV.v (.int .i64 (x (0 + i))),SV.v (.int .i64 (y (0 + i)))])))))∧(∀ c_6 : Nat,(∃ c_7 : Nat,(True∧((((1 : Nat) = 1)∧(((1 : Nat) ≤ 1)∧(((SV.sl 344 1 0 (n0 + 1 + 8 + 8 + 8 + 1 + 16 * n) (n0 + 1 + 8 + 8 + 8 + 1 + 16 * n + c_6)) = (SV.sl 344 1 0 (n0 + shN n) (n0 + shN n + c_7)))∧((SV.v (.bool (b||notIn k 255||false||false||false||notIn (↑n : Int) 8||false))) = (SV.v (.bool (b||shBad k n)))))))∧((((n0 + 1 + 8 + 8 + 8 + 1 + 16 * n) : Nat) = (n0 + shN n))∧((((n0 + shN n + c_7) : Nat) ≤ (n0 + 1 + 8 + 8 + 8 + 1 + 16 * n + c_6))∧(∀ i : Nat,(((i : Nat) < (n0 + shN n))→([(SV.v (.int .u8 (apG (n0 + 1 + 8 + 8 + 8 + 1) (fun i => SE.byteOf [SV.v (.int .u8 (apG (n0 + 1 + 8 + 8 + 8) (fun i => SE.byteOf [SV.v (.int .u8 (apG (n0 + 1 + 8 + 8) (vcShape_1 n0 g k r w) (be (h % 18446744073709551616) 8) i))]) [(↑n : Int) % 256] i))]) (spotsL (fun i => pX [SV.v (.int .i64 (x (0 + i))),SV.v (.int .i64 (y (0 + i)))]) (fun i => pY [SV.v (.int .i64 (x (0 + i))),SV.v (.int .i64 (y (0 + i)))]) n) i)))] = [(SV.v (.int .u8 (apG n0 g (shL k r w h n x y) i)))])))))))))) (∃ c_6 : Nat,(True∧((((1 : Nat) = 1)∧(((1 : Nat) ≤ 1)∧(((SV.sl 280 1 0 (n0 + 1 + 8 + 8 + 8 + 1) (n0 + 1 + 8 + 8 + 8 + 1 + c_5)) = (SV.sl 280 1 0 (n0 + shN n) (n0 + shN n + c_6)))∧((SV.v (.bool (b||notIn k 255||false||false||false||notIn (↑n : Int) 8))) = (SV.v (.bool (b||shBad k n)))))))∧((((n0 + 1 + 8 + 8 + 8 + 1) : Nat) = (n0 + shN n))∧((((n0 + shN n + c_6) : Nat) ≤ (n0 + 1 + 8 + 8 + 8 + 1 + c_5))∧(∀ i : Nat,(((i : Nat) < (n0 + shN n))→([(SV.v (.int .u8 (apG (n0 + 1 + 8 + 8 + 8) (fun i => SE.byteOf [SV.v (.int .u8 (apG (n0 + 1 + 8 + 8) (vcShape_1 n0 g k r w) (be (h % 18446744073709551616) 8) i))]) [(↑n : Int) % 256] i)))] = [(SV.v (.int .u8 (apG n0 g (shL k r w h n x y) i)))]))))))))))))))))))) := by kernel_rfl
theorem Spots2_used (b : Bool) (n0 : Nat) (g : Nat → Int) (c n e n' c' : Nat) (x y : Nat → Int) (hn0 : n0 ≤ 1000000000) (hm : n < 100) (hnc : n0 ≤ c) (hv : ∀ i, i < n → I64 (x i) ∧ I64 (y i)) :
    vcFn Try.prog ΓF1 (ΛSpots2 b n0 g n x y) Try.f105 [.vp 0 0, .sl 2 2 0 n c'] (heapOf [wB (some b) false (.sl 1 1 0 n0 c), bG n0 g c, spB e n' x y]) 64 (fun y' h' => FinE [wB (some b) false (.sl 1 1 0 n0 c), bG n0 g c, spB e n' x y] (apE (.used (some b) n0 g c True) 0 True (16 * n) (spotsL x y n) false) y' h') := by
  refine Eq.mpr (vcSpots2 b n0 g c n e n' c' x y) ⟨⟨⟨0, c⟩, ⟨Nat.zero_le _, hnc⟩, rfl, ⟨rfl, Nat.le_refl _, rfl, rfl⟩, rfl, Nat.le_refl _, fun i hi => congrArg (fun z => [SV.v (.int .u8 z)]) (apG_old hi).symm⟩, fun z ⟨h2, h3⟩ => sel_of (fun hlt => ?_) fun hge => ?_⟩
  · have hlt := of_decide_eq_true hlt
    have hlt : z.i < n := by omega
    have hw : IntKind.i64.wrap ((z.i : Int) + 1) = ((z.i + 1 : Nat) : Int) := wrap_i64 ⟨by omega, by omega⟩
    have hvx := hv z.i hlt
    rw [show 0 + Int.toNat (z.i : Int) = z.i by omega]
    refine ⟨⟨by omega, by omega⟩, ⟨⟨bytesOk_bG _ _ _ (by omega), by show n0 + 16 * z.i ≤ 1099511627776; omega⟩, hvx.1⟩, fun c1 => ⟨⟨⟨bytesOk_bG _ _ _ (by omega), by show n0 + 16 * z.i + 8 ≤ 1099511627776; omega⟩, hvx.2⟩, fun c2 => ⟨⟨z.i + 1, n0 + 16 * z.i + 8 + 8 + c2⟩, ⟨⟨by show z.i + 1 ≤ n; omega, (by show n0 + 16 * (z.i + 1) ≤ n0 + 16 * z.i + 8 + 8 + c2; omega)⟩, int_mk hw, ⟨rfl, Nat.le_refl _, ?_, ?_⟩, ?_, Nat.le_refl _, fun i hi => ?_⟩, by show n - (z.i + 1) < n - z.i; omega⟩⟩⟩
    · show SV.sl _ 1 0 _ _ = SV.sl _ 1 0 (n0 + 16 * (z.i + 1)) _
      rw [show n0 + 16 * (z.i + 1) = n0 + 16 * z.i + 8 + 8 by omega]
    · rw [Bool.or_false, Bool.or_false]
    · show n0 + 16 * z.i + 8 + 8 = n0 + 16 * (z.i + 1)
      omega
    · exact congrArg (fun z => [SV.v (.int .u8 z)]) (spots_row x y n0 g z.i i)
  · have hge := of_decide_eq_false hge
    have hx : z.i = n := by omega
    rw [hx] at h3 ⊢
    have h3 : n0 + 16 * n ≤ z.c := by omega
    have he : n0 + 16 * n + (z.c - (n0 + 16 * n)) = z.c := by omega
    exact ⟨z.c - (n0 + 16 * n), trivial, ⟨rfl, Nat.le_refl _, by rw [he], by rw [Bool.or_false]⟩, rfl, by omega, fun i hi => rfl⟩
theorem Spots2_spec : HpSpec Try.prog 105 sSpots2 := hp_spec hm ΓF1_ok Try.func105 (Λ := fun args bs => match args, bs with
    | [_, .sl _ _ _ n _], [B, D, S] => match wrOf [B, D] with
      | some (.used (some b) n0 g c _) => ΛSpots2 b n0 g n (fun i => pX (S.row i)) (fun i => pY (S.row i))
      | _ => noΛ
    | _, _ => noΛ) fun args bs e hs hp => by
  unfold sSpots2 at hs
  split at hs
  · rename_i n c' B D S
    split at hs
    · rename_i b n0 g c p hw
      obtain ⟨hro, he⟩ := bif_some hs
      subst he
      obtain ⟨⟨hp, hm⟩, ⟨hn, h100, hnc⟩, hv⟩ := hp
      have hsame := (wrOf_used hw hp).1
      refine ⟨[wB (some b) false (.sl 1 1 0 n0 c), bG n0 g c, spB S.elem n (fun i => pX (S.row i)) (fun i => pY (S.row i))], ⟨hsame.1, hsame.2.1, same_spB hro hn hv, trivial⟩, ?_⟩
      simp only [hw]
      exact Spots2_used b n0 g c n S.elem n c' _ _ hm h100 hnc fun i hi => (isPair_row (hv i hi)).2
    · cases hs
  · cases hs
theorem ΓSh_ok : ∀ f g, ΓSh f = some g → g.ok Try.prog f := addCtr_ok (addCtr_ok ΓF1_ok (hp_ok Try.func118 (by kernel_rfl) (by kernel_rfl) Small_spec)) (hp_ok Try.func105 (by kernel_rfl) (by kernel_rfl) Spots2_spec)
theorem shL_row {n0 : Nat} {g : Nat → Int} {k r w h z : Int} (M : List Int) (i : Nat) : apG (n0 + 1 + 8 + 8 + 8 + 1) (apG (n0 + 1 + 8 + 8 + 8) (apG (n0 + 1 + 8 + 8) (apG (n0 + 1 + 8) (apG (n0 + 1) (apG n0 g [k]) (i8 r)) (i8 w)) (i8 h)) [z]) M i = apG n0 g ([k] ++ (i8 r ++ (i8 w ++ (i8 h ++ ([z] ++ M))))) i := by
  rw [apG_ap (n := n0 + 1 + 8 + 8 + 8) (m := n0 + 1 + 8 + 8 + 8 + 1) (L := [z]) rfl, apG_ap (n := n0 + 1 + 8 + 8) (by rw [i8_len]), apG_ap (n := n0 + 1 + 8) (by rw [i8_len]), apG_ap (n := n0 + 1) (by rw [i8_len]), apG_ap (n := n0) (m := n0 + 1) (L := [k]) rfl]
theorem shL_row0 {n0 : Nat} {g : Nat → Int} {k r w h z : Int} (i : Nat) : apG (n0 + 1 + 8 + 8 + 8) (apG (n0 + 1 + 8 + 8) (apG (n0 + 1 + 8) (apG (n0 + 1) (apG n0 g [k]) (i8 r)) (i8 w)) (i8 h)) [z] i = apG n0 g ([k] ++ (i8 r ++ (i8 w ++ (i8 h ++ ([z] ++ []))))) i := by
  rw [List.append_nil, apG_ap (n := n0 + 1 + 8 + 8) (by rw [i8_len]), apG_ap (n := n0 + 1 + 8) (by rw [i8_len]), apG_ap (n := n0 + 1) (by rw [i8_len]), apG_ap (n := n0) (m := n0 + 1) (L := [k]) rfl]
theorem Shape_spec : HpSpec Try.prog 97 sShape := hp_spec hm ΓSh_ok Try.func97 (Λ := fun _ _ => noΛ) fun args bs e hs hp => by
  unfold sShape at hs
  split at hs
  · rename_i k r w h n c' B D S
    split at hs
    · rename_i b n0 g c p hw
      obtain ⟨hro, he⟩ := bif_some hs
      subst he
      obtain ⟨⟨hp, hm⟩, ⟨⟨hk, hr, hww, hh⟩, hn, h100⟩, hv⟩ := hp
      have hm : n0 ≤ 900000000 := hm
      have hsame := (wrOf_used hw hp).1
      refine ⟨[wB (some b) false (.sl 1 1 0 n0 c), bG n0 g c, spB S.elem n (fun i => pX (S.row i)) (fun i => pY (S.row i))], ⟨hsame.1, hsame.2.1, same_spB hro hn hv, trivial⟩, ?_⟩
      have hvp := fun i hi => isPair_row (hv i hi)
      refine Eq.mpr (vcShape b n0 g c k r w h n S.elem n c' _ _) ?_
      repeat (first | unfold vcShape_1)
      refine ⟨⟨⟨bytesOk_bG _ _ _ (by omega), by show n0 ≤ 1099511627776; omega⟩, hk⟩, fun c1 => ⟨⟨⟨bytesOk_bG _ _ _ (by omega), by show n0 + 1 ≤ 1099511627776; omega⟩, hr⟩, fun c2 => ⟨⟨⟨bytesOk_bG _ _ _ (by omega), by show n0 + 1 + 8 ≤ 1099511627776; omega⟩, hww⟩, fun c3 => ⟨⟨⟨bytesOk_bG _ _ _ (by omega), by show n0 + 1 + 8 + 8 ≤ 1099511627776; omega⟩, hh⟩, fun c4 => ⟨⟨⟨bytesOk_bG _ _ _ (by omega), by show n0 + 1 + 8 + 8 + 8 ≤ 1099511627776; omega⟩, ⟨by omega, by omega⟩⟩, fun c5 => sel_of (fun hle => ?_) fun hgt => ?_⟩⟩⟩⟩⟩
      · have hle := of_decide_eq_true hle
        have hb : Nat.ble n 8 = true := Nat.ble_eq_true_of_le (by omega)
        refine ⟨⟨⟨bytesOk_bG _ _ _ (by omega), by show n0 + 1 + 8 + 8 + 8 + 1 ≤ 1000000000; omega⟩, ⟨rfl, h100, by omega⟩, fun i hi => by
          rw [Nat.zero_add]
          exact (hvp i hi).2⟩, fun c6 => tailU (by unfold shN; rw [hb, cond_true]; omega) ?_ fun i hi => ?_⟩
        · simp only [Bool.or_false, shBad, Bool.or_assoc]
        · unfold shL
          rw [hb, cond_true]
          have := shL_row (n0 := n0) (g := g) (k := k % 256) (r := r) (w := w) (h := h) (z := (n : Int) % 256) (spotsL (fun i => pX (S.row i)) (fun i => pY (S.row i)) n) i
          refine Eq.trans ?_ this
          show apG _ _ (spotsL (fun i => pX (S.row (0 + i))) (fun i => pY (S.row (0 + i))) n) i = _
          simp only [Nat.zero_add]
          rfl
      · have hgt := of_decide_eq_false hgt
        have hb : Nat.ble n 8 = false := by
          cases hc : Nat.ble n 8 with
          | false => rfl
          | true => have := Nat.le_of_ble_eq_true hc; omega
        refine tailU (by unfold shN; rw [hb, cond_false]) ?_ fun i hi => ?_
        · simp only [Bool.or_false, shBad, Bool.or_assoc]
        · unfold shL
          rw [hb, cond_false]
          exact shL_row0 i
    · cases hs
  · cases hs
end Go.Proofs.Ytjdldadmaaeimaa
end
section
namespace Go.Proofs.Ytjdldadmaaeimaa
open Go.SE Go.RowKit
structure ShB where
  k : Int
  r : Int
  w : Int
  h : Int
def shS (s : ShB) (x : SV) : SV := .agg [.v (.int .i64 s.k), .v (.int .i64 s.r), .v (.int .i64 s.w), .v (.int .i64 s.h), x]
def isPI : List SV → Prop
  | [.v (.int .i64 a), .v (.int .i64 b)] => I64 a ∧ I64 b
  | _ => False
def rowsP (g : Nat → Int × Int) : Nat → List SV := fun i => [.v (.int .i64 (g i).1), .v (.int .i64 (g i).2)]
def gi : List SV → Int × Int
  | [.v (.int _ x), .v (.int _ y)] => (x, y)
  | _ => (0, 0)
def okB (b : Blk) : Bool := !b.rw && !b.dead && Nat.beq b.size 2 && b.flat
def rowG (b : Blk) : Nat → Int × Int := fun i => gi (b.row i)
def spPre (n : Nat) (b : Blk) : Prop := okAll isPI (rowsOf b.n b.row) ∧ b.n = n ∧ n < 1099511627776
def spW (n c : Nat) (g : Nat → Int × Int) : Blk := { elem := 47, size := 2, rw := true, lock := false, lit := false, flat := true, n := n, row := rowsP g, ext := c }
def orRo (s1 s2 : List SV → List Ro → Option (Option Prop × SV)) : List SV → List Ro → Option (Option Prop × SV) := fun a b => match s1 a b with
  | some e => some e
  | none => s2 a b
def eqP (p q : Int × Int) : Bool := p.1 == q.1 && p.2 == q.2
def sameP (n : Nat) (g : Nat → Int × Int) (m : Nat) (h : Nat → Int × Int) : Bool := Nat.beq n m && (List.range n).all (fun i => eqP (g i) (h i))
def eqSh (a b : ShB) : Bool := a.k == b.k && (a.r == b.r && (a.w == b.w && a.h == b.h))
def sameS (a : ShB) (n : Nat) (g : Nat → Int × Int) (b : ShB) (m : Nat) (h : Nat → Int × Int) : Bool := eqSh a b && sameP n g m h
def rowsPre (n n' : Nat) (row : Nat → List SV) : Prop := okAll isPI (rowsOf n' row) ∧ n' = n ∧ n < 1099511627776
def sEqual : List SV → List Ro → Option (Option Prop × SV)
  | [.sl 0 2 0 n _, .sl 1 2 0 m _], [⟨2, n', row⟩, ⟨2, m', row'⟩] => some (some (rowsPre n n' row ∧ rowsPre m m' row'), .v (.bool (sameP n (fun i => gi (row i)) m fun i => gi (row' i))))
  | _, _ => none
def sSameS : List SV → List Ro → Option (Option Prop × SV)
  | [.agg [.v (.int .i64 k), .v (.int .i64 r), .v (.int .i64 w), .v (.int .i64 h), .sl 0 2 0 n _], .agg [.v (.int .i64 k2), .v (.int .i64 r2), .v (.int .i64 w2), .v (.int .i64 h2), .sl 1 2 0 m _]], [⟨2, n', row⟩, ⟨2, m', row'⟩] => some (some (rowsPre n n' row ∧ rowsPre m m' row'), .v (.bool (sameS ⟨k, r, w, h⟩ n (fun i => gi (row i)) ⟨k2, r2, w2, h2⟩ m fun i => gi (row' i))))
  | _, _ => none
noncomputable def ΛEqual (fn : Func) (t : Nat) (n : Nat) (g h : Nat → Int × Int) : Nat → Option LoopSpec := addLoop noΛ fn 0 Nat (fun i => i ≤ n ∧ ∀ j, j < i → eqP (g j) (h j) = true) (fun i => n - i) [(t, fun i => .v (.int .i64 i))] []
theorem vcEqual (n n' c m m' d : Nat) (g h : Nat→Int × Int) (R : SV→Prop) : (vcFn Try.prog noCtrs (ΛEqual Try.f106 13 n g h) Try.f106 [.sl 0 2 0 n c,.sl 1 2 0 m d] (roHeap [⟨2,n',rowsP g⟩,⟨2,m',rowsP h⟩]) 64 (fun y _ => R y)) = (sel ((↑n : Int) != (↑m : Int)) (R zF) ((∃ x : Nat,((((x : Nat) ≤ n)∧(∀ j : Nat,(((j : Nat) < x)→(eqP (g j) (h j) = true))))∧((zI = (SV.v (.int .i64 ((↑x : Int)))))∧True)))∧(∀ x : Nat,((((x : Nat) ≤ n)∧(∀ j : Nat,(((j : Nat) < x)→(eqP (g j) (h j) = true))))→(sel (decide ((↑x : Int) < (↑n : Int))) ((((0 : Int) ≤ ((↑x : Int)))∧((((↑x : Int)) : Int) < ((↑n : Int))))∧((((0 : Int) ≤ ((↑x : Int)))∧((((↑x : Int)) : Int) < ((↑m : Int))))∧(sel (!(Prod.fst (g (0 + Int.toNat (↑x : Int))) == Prod.fst (h (0 + Int.toNat (↑x : Int)))&&Prod.snd (g (0 + Int.toNat (↑x : Int))) == Prod.snd (h (0 + Int.toNat (↑x : Int))))) (R zF) (∃ x' : Nat,(((((x' : Nat) ≤ n)∧(∀ j : Nat,(((j : Nat) < x')→(eqP (g j) (h j) = true))))∧(((SV.v (.int .i64 (IntKind.wrap IntKind.i64 ((↑x : Int) + 1)))) = (SV.v (.int .i64 ((↑x' : Int)))))∧True))∧(((n - x') : Nat) < (n - x))))))) (R (SV.v (.bool true)))))))):=by kernel_rfl
def ΓM0 : Ctrs := addCtr noCtrs 106 (roCtr sEqual)
theorem vcSameS (a b : ShB) (n n' c m m' d : Nat) (g h : Nat→Int × Int) (R : SV→Prop) : (vcFn Try.prog ΓM0 noΛ Try.f72 [shS a (.sl 0 2 0 n c),shS b (.sl 1 2 0 m d)] (roHeap [⟨2,n',rowsP g⟩,⟨2,m',rowsP h⟩]) 64 (fun y _ => R y)) = (sel (ShB.k a == ShB.k b&&(ShB.r a == ShB.r b&&(ShB.w a == ShB.w b&&ShB.h a == ShB.h b))) (((rowsPre n n fun y => [SV.v (.int .i64 (Prod.fst (g (0 + y)))),SV.v (.int .i64 (Prod.snd (g (0 + y))))])∧(rowsPre m m fun y => [SV.v (.int .i64 (Prod.fst (h (0 + y)))),SV.v (.int .i64 (Prod.snd (h (0 + y))))]))∧(R (SV.v (.bool (sameP n (fun i => gi [SV.v (.int .i64 (Prod.fst (g (0 + i)))),SV.v (.int .i64 (Prod.snd (g (0 + i))))]) m fun i => gi [SV.v (.int .i64 (Prod.fst (h (0 + i)))),SV.v (.int .i64 (Prod.snd (h (0 + i))))]))))) (R zF)):=by kernel_rfl
section
variable {P : Program} {f : FuncId}
theorem ro_or {s1 s2 : List SV → List Ro → Option (Option Prop × SV)} (h1 : RoSpec P f s1) (h2 : RoSpec P f s2) : RoSpec P f (orRo s1 s2) := fun args bs e hs => by
  unfold roSpec at hs
  cases hr : roOf bs with
  | none => rw [hr] at hs; cases hs
  | some rs =>
    rw [hr] at hs
    simp only [orRo] at hs
    cases h : s1 args rs with
    | some px =>
      rw [h] at hs
      exact h1 args bs e (by unfold roSpec; rw [hr]; simp only [h]; exact hs)
    | none =>
      rw [h] at hs
      exact h2 args bs e (by unfold roSpec; rw [hr]; exact hs)
end
theorem all_lt {n : Nat} {f : Nat → Bool} (h : ∀ j, j < n → f j = true) : (List.range n).all f = true := by
  rw [List.all_eq_true]
  intro i hi
  exact h i (List.mem_range.1 hi)
theorem not_all {n : Nat} {f : Nat → Bool} {k : Nat} (hk : k < n) (h : f k = false) : (List.range n).all f = false := by
  rw [List.all_eq_false]
  exact ⟨k, List.mem_range.2 hk, by simp [h]⟩
theorem isPI_row {r : List SV} (h : isPI r) : r = [.v (.int .i64 (gi r).1), .v (.int .i64 (gi r).2)] ∧ I64 (gi r).1 ∧ I64 (gi r).2 := by
  unfold isPI at h
  split at h
  · exact ⟨rfl, h.1, h.2⟩
  · exact h.elim
theorem gi_rows (g : Nat → Int × Int) : (fun i => gi [SV.v (.int .i64 (g (0 + i)).1), SV.v (.int .i64 (g (0 + i)).2)]) = g := funext fun i => by rw [Nat.zero_add]; rfl
theorem pre_of {n : Nat} {b : Blk} (h : spPre n b) : n < 1099511627776 ∧ ∀ i, i < n → I64 (rowG b i).1 ∧ I64 (rowG b i).2 := by
  obtain ⟨h0, rfl, hn⟩ := h
  exact ⟨hn, fun i hi => (isPI_row (okAll_rows.1 h0 i hi)).2⟩
theorem eqP_no {n m : Nat} {g h : Nat → Int × Int} {i : Nat} (hi : i < n) (e : eqP (g i) (h i) = false) : sameP n g m h = false := by
  unfold sameP
  rw [not_all (f := fun i => eqP (g i) (h i)) hi e, Bool.and_false]
theorem sameP_len {n m : Nat} {g h : Nat → Int × Int} (e : ((n : Int) != (m : Int)) = true) : sameP n g m h = false := by
  have : n ≠ m := fun h => by rw [h] at e; simp at e
  unfold sameP
  rw [Go.SE.beq_false this]; rfl
theorem sameP_all {n m : Nat} {g h : Nat → Int × Int} (e : ((n : Int) != (m : Int)) = false) (hd : ∀ j, j < n → eqP (g j) (h j) = true) : sameP n g m h = true := by
  have e : (n : Int) = (m : Int) := by simpa using e
  obtain rfl : n = m := by omega
  unfold sameP
  rw [Nat.beq_refl, all_lt hd]; rfl
theorem equal_tail {n m : Nat} {g h : Nat → Int × Int} (hn : n < 1099511627776) (hm' : m < 1099511627776) :
    sel ((n : Int) != (m : Int)) (SV.v (.bool false) = .v (.bool (sameP n g m h))) ((∃ x : Nat, (x ≤ n ∧ ∀ j : Nat, j < x → eqP (g j) (h j) = true) ∧ SV.v (.int .i64 0) = .v (.int .i64 x) ∧ True) ∧ ∀ x : Nat, (x ≤ n ∧ ∀ j : Nat, j < x → eqP (g j) (h j) = true) →
      sel (decide ((x : Int) < (n : Int))) ((0 ≤ (x : Int) ∧ (x : Int) < (n : Int)) ∧ (0 ≤ (x : Int) ∧ (x : Int) < (m : Int)) ∧ sel (!((g (0 + Int.toNat (x : Int))).1 == (h (0 + Int.toNat (x : Int))).1 && (g (0 + Int.toNat (x : Int))).2 == (h (0 + Int.toNat (x : Int))).2)) (SV.v (.bool false) = .v (.bool (sameP n g m h)))
        (∃ x' : Nat, ((x' ≤ n ∧ ∀ j : Nat, j < x' → eqP (g j) (h j) = true) ∧ SV.v (.int .i64 (IntKind.i64.wrap ((x : Int) + 1))) = .v (.int .i64 x') ∧ True) ∧ n - x' < n - x)) (SV.v (.bool true) = .v (.bool (sameP n g m h)))) := by
  refine sel_of (fun e => by rw [sameP_len e]) fun e => ⟨⟨0, ⟨Nat.zero_le _, fun j hj => absurd hj (Nat.not_lt_zero _)⟩, rfl, trivial⟩, fun x ⟨hx, hd⟩ => sel_of (fun hlt => ?_) fun hge => ?_⟩
  · have hlt : x < n := by simpa using hlt
    have e' : (n : Int) = (m : Int) := by simpa using e
    rw [Int.toNat_natCast, Nat.zero_add]
    refine ⟨⟨by omega, by omega⟩, ⟨by omega, by omega⟩, sel_of (fun hne => ?_) fun heq => ?_⟩
    · have hne : (!eqP (g x) (h x)) = true := hne
      rw [eqP_no hlt (by simpa using hne)]
    · have heq : (!eqP (g x) (h x)) = false := heq
      refine ⟨x + 1, ⟨⟨hlt, fun j hj => ?_⟩, int_mk (by rw [wrap_i64 ⟨by omega, by omega⟩]; rfl), trivial⟩, by omega⟩
      by_cases e2 : j = x
      · rw [e2]; simpa using heq
      · exact hd j (by omega)
  · have hge : ¬ x < n := by simpa using hge
    obtain rfl : x = n := by omega
    rw [sameP_all e hd]
theorem Equal_spec : RoSpec Try.prog 106 sEqual := ro_spec hm noCtrs_ok Try.func106 (Λ := fun args bs => match args, bs with | [.sl 0 2 0 n _, .sl 1 2 0 m _], [⟨2, _, row⟩, ⟨2, _, row'⟩] => ΛEqual Try.f106 13 n (fun i => gi (row i)) (fun i => gi (row' i)) | _, _ => noΛ) fun args bs p x h hp => by
  unfold sEqual at h
  split at h <;> try (cases h; done)
  rename_i n c m d n' row m' row'
  cases h
  obtain ⟨⟨h0, rfl, hn⟩, k0, rfl, hm'⟩ := hp _ rfl
  have h0 := okAll_rows.1 h0
  have k0 := okAll_rows.1 k0
  refine ⟨rfl, [⟨2, n', rowsP fun i => gi (row i)⟩, ⟨2, m', rowsP fun i => gi (row' i)⟩], ⟨⟨rfl, rfl, fun i hi => (isPI_row (h0 i hi)).1⟩, ⟨rfl, rfl, fun i hi => (isPI_row (k0 i hi)).1⟩, trivial⟩, ?_⟩
  refine Eq.mpr (vcEqual n' n' c m' m' d (fun i => gi (row i)) (fun i => gi (row' i)) _) ?_
  exact equal_tail hn hm'
theorem ΓM0_ok : ∀ f g, ΓM0 f = some g → g.ok Try.prog f := addCtr_ok noCtrs_ok (ro_ok Try.func106 (by kernel_rfl) (by kernel_rfl) Equal_spec)
theorem SameS_spec : RoSpec Try.prog 72 sSameS := ro_spec hm ΓM0_ok Try.func72 (Λ := fun _ _ => noΛ) fun args bs p x h hp => by
  unfold sSameS at h
  split at h <;> try (cases h; done)
  rename_i k r w hh n c k2 r2 w2 h2 m d n' row m' row'
  cases h
  obtain ⟨⟨h0, rfl, hn⟩, k0, rfl, hm'⟩ := hp _ rfl
  have h0 := okAll_rows.1 h0
  have k0 := okAll_rows.1 k0
  refine ⟨rfl, [⟨2, n', rowsP fun i => gi (row i)⟩, ⟨2, m', rowsP fun i => gi (row' i)⟩], ⟨⟨rfl, rfl, fun i hi => (isPI_row (h0 i hi)).1⟩, ⟨rfl, rfl, fun i hi => (isPI_row (k0 i hi)).1⟩, trivial⟩, ?_⟩
  have hg : ∀ i, i < n' → I64 ((fun i => gi (row i)) i).1 ∧ I64 ((fun i => gi (row i)) i).2 := fun i hi => (isPI_row (h0 i hi)).2
  have hh' : ∀ i, i < m' → I64 ((fun i => gi (row' i)) i).1 ∧ I64 ((fun i => gi (row' i)) i).2 := fun i hi => (isPI_row (k0 i hi)).2
  generalize (fun i => gi (row i)) = g at hg ⊢
  generalize (fun i => gi (row' i)) = g' at hh' ⊢
  refine Eq.mpr (vcSameS ⟨k, r, w, hh⟩ ⟨k2, r2, w2, h2⟩ n' n' c m' m' d g g' _) ?_
  rw [gi_rows, gi_rows]
  refine sel_of (fun e => ⟨⟨⟨okAll_rows.2 fun i hi => ?_, rfl, hn⟩, okAll_rows.2 fun i hi => ?_, rfl, hm'⟩, bool_mk ?_⟩) fun e => bool_mk ?_
  · rw [Nat.zero_add]; exact hg i hi
  · rw [Nat.zero_add]; exact hh' i hi
  · unfold sameS eqSh; rw [e]; rfl
  · unfold sameS eqSh; rw [e]; rfl
end Go.Proofs.Ytjdldadmaaeimaa
end
section
namespace Go.Proofs.Ytjdldadmaaeimaa
open Go.SE Go.RowKit
noncomputable def rdSp (s : ByteArray) (k : Int) : Nat → Int × Int := fun i => (rdI s (k + 16 * (i : Int)), rdI s (k + 16 * (i : Int) + 8))
def sptP (s : ByteArray) (k : Int) : Nat → Pz
  | 0 => ⟨false, 0⟩
  | i + 1 => (sptP s k i).seq (spP s (k + 16 * (i : Int)))
def shA (k : Int) : Int := k + 1 + 8 + 8 + 8 + 1
def shC (s : ByteArray) (k : Int) : Nat := (rdT s (k + 1 + 8 + 8 + 8) 1).toNat
def shEnd (s : ByteArray) (k : Int) : Int := shA k + 16 * (shC s k : Int)
def shP (s : ByteArray) (k : Int) : Pz := (upP s k 255 1).seq ((tkP s (k + 1) 8).seq ((tkP s (k + 1 + 8) 8).seq ((tkP s (k + 1 + 8 + 8) 8).seq ((upP s (k + 1 + 8 + 8 + 8) 8 1).seq (sptP s (shA k) (shC s k))))))
noncomputable def shB4 (s : ByteArray) (k : Int) : ShB := ⟨rdT s k 1, rdI s (k + 1), rdI s (k + 1 + 8), rdI s (k + 1 + 8 + 8)⟩
noncomputable def shE (s : ByteArray) (k : Int) : Eff := .nd (rdPre s k) Nat 0 (fun c => shS (shB4 s k) (.sl 1000 2 0 (shC s k) (shC s k + c))) fun c => [(0, rdB s (shEnd s k)), (1000, spW (shC s k) (shC s k + c) (rdSp s (shA k)))]
structure SX where
  i : Nat
  c : Nat
noncomputable def ΛShT (s : ByteArray) (k : Int) : Nat → Option LoopSpec := addPr (addLoopN noΛ Try.f122 0 SX (fun x => x.i ≤ shC s k ∧ (sptP s (shA k) x.i).bad = false ∧ x.i ≤ x.c) (fun x => shC s k - x.i) [(17, fun x => .v (.int .i64 (x.i : Int)))] [(0, fun x => rdB s (shA k + 16 * (x.i : Int))), (64, fun x => varBlk 35 [.v (.int .i64 (shB4 s k).k), .v (.int .i64 (shB4 s k).r), .v (.int .i64 (shB4 s k).w), .v (.int .i64 (shB4 s k).h), .sl 40 2 0 x.i x.c])] [(40, fun x => spW x.i x.c (rdSp s (shA k)), inVar 64 4)]) 7 [(1, fun _ => 64), (3, fun _ => 0)]
def sTe (E : ByteArray → Int → Eff) (args : List SV) (bs : List Blk) : Option Eff := match args, bs with
  | [.vp 0 0], [B] => match B.row 0 with
    | [.v (.string s), .v (.int .i64 k)] => bif rdOk B then some (E s k) else none
    | _ => none
  | _, _ => none
def spTe (G : ByteArray → Int → Pz) (args : List SV) (bs : List Blk) : Eff := match args, bs with
  | [_], [B] => match B.row 0 with
    | [.v (.string s), .v (.int .i64 k)] => .det (some (rdPre s k)) (pE (G s k).er) [(0, killed (rdB s k))]
    | _ => .det none undefS []
  | _, _ => .det none undefS []
def ctrTe (E : ByteArray → Int → Eff) (G : ByteArray → Int → Pz) : Ctr := hpCtrT true (sTe E) (stTd (p0 G)) (spTe G)
def tKind : List SV → ByteArray → Int → Option (Prop × SV × Int)
  | [.v (.int .i64 low)], s, k => some (True, .v (.int .i64 (rdT s k 1)), k + 1)
  | _, _, _ => none
def kiP (s : ByteArray) (k low : Int) : Pz := (tkP s k 1).seq ⟨!(decide (low ≤ rdT s k 1) && decide (rdT s k 1 ≤ 10)), 8⟩
def pKind : List SV → ByteArray → Int → Pz
  | [.v (.int .i64 low)], s, k => kiP s k low
  | _, _, _ => ⟨false, 0⟩
def enP (s : ByteArray) (k : Int) : Pz := ⟨!(k == (s.size : Int)), 6⟩
def xEnd (s : ByteArray) (k : Int) : SV × Int := (.tup [], k)
@[reducible] noncomputable def vcShT_1 (s : ByteArray) (k : Int) (T_ : Prop) : Prop := ((SV.v (.int .i64 (ShB.k (shB4 s k)))) = (SV.v (.int .i64 (ShB.k (shB4 s k)))))∧(((SV.v (.int .i64 (ShB.r (shB4 s k)))) = (SV.v (.int .i64 (ShB.r (shB4 s k)))))∧(((SV.v (.int .i64 (ShB.w (shB4 s k)))) = (SV.v (.int .i64 (ShB.w (shB4 s k)))))∧(((SV.v (.int .i64 (ShB.h (shB4 s k)))) = (SV.v (.int .i64 (ShB.h (shB4 s k)))))∧(T_))))
theorem vcShT (s : ByteArray) (k : Int) : (vcFnP Try.prog ΓT6 (ΛShT s k) Try.f122 [.vp 0 0] (heapOf [rdB s k]) 64 (fun y h' => (shP s k).bad = false∧FinE [rdB s k] (shE s k) y h') (fun y h' => (shP s k).bad = true∧FinE [rdB s k] (.det none (pE (shP s k).er) [(0,killed (rdB s k))]) y h')) =
(sel (Pz.bad (upP s k 255 1)) (((rdPre s k)∧((((0 : Int) ≤ 1)∧((1 : Int) ≤ 8))∧((255 : Int) ≤ 1099511627776)))∧((Pz.bad (shP s k) = true)∧(((SV.v (Value.iface 169 (Value.agg #[.int .i64 (Pz.er (pUpto [SV.v (.int .u64 255),SV.v (.int .i64 1)] s k))]))) = (SV.v (Value.iface 169 (Value.agg #[.int .i64 (Pz.er (shP s k))]))))∧True))) (((rdPre s k)∧((((0 : Int) ≤ 1)∧((1 : Int) ≤ 8))∧((255 : Int) ≤ 1099511627776)))∧(sel (Pz.bad (pInt s (k + 1))) (((rdPre s (k + 1))∧True)∧((Pz.bad (shP s k) = true)∧(((SV.v (Value.iface 169 (Value.agg #[.int .i64 (Pz.er (p0 pInt [] s (k + 1)))]))) = (SV.v (Value.iface 169 (Value.agg #[.int .i64 (Pz.er (shP s k))]))))∧True))) (((rdPre s (k + 1))∧True)∧(sel (Pz.bad (pInt s (Prod.snd (xInt s (k + 1))))) (((rdPre s (Prod.snd (xInt s (k + 1))))∧True)∧((Pz.bad (shP s k) = true)∧(((SV.v (Value.iface 169 (Value.agg #[.int .i64 (Pz.er (p0 pInt [] s (Prod.snd (xInt s (k + 1)))))]))) = (SV.v (Value.iface 169 (Value.agg #[.int .i64 (Pz.er (shP s k))]))))∧True))) (((rdPre s (Prod.snd (xInt s (k + 1))))∧True)∧(sel (Pz.bad (pInt s (Prod.snd (xInt s (Prod.snd (xInt s (k + 1))))))) (((rdPre s (Prod.snd (xInt s (Prod.snd (xInt s (k + 1))))))∧True)∧((Pz.bad (shP s k) = true)∧(((SV.v (Value.iface 169 (Value.agg #[.int .i64 (Pz.er (p0 pInt [] s (Prod.snd (xInt s (Prod.snd (xInt s (k + 1)))))))]))) = (SV.v (Value.iface 169 (Value.agg #[.int .i64 (Pz.er (shP s k))]))))∧True))) (((rdPre s (Prod.snd (xInt s (Prod.snd (xInt s (k + 1))))))∧True)∧(sel (Pz.bad (upP s (Prod.snd (xInt s (Prod.snd (xInt s (Prod.snd (xInt s (k + 1))))))) 8 1)) (((rdPre s (Prod.snd (xInt s (Prod.snd (xInt s (Prod.snd (xInt s (k + 1))))))))∧((((0 : Int) ≤ 1)∧((1 : Int) ≤ 8))∧((8 : Int) ≤ 1099511627776)))∧((Pz.bad (shP s k) = true)∧(((SV.v (Value.iface 169 (Value.agg #[.int .i64 (Pz.er (pUpto [SV.v (.int .u64 8),SV.v (.int .i64 1)] s (Prod.snd (xInt s (Prod.snd (xInt s (Prod.snd (xInt s (k + 1)))))))))]))) = (SV.v (Value.iface 169 (Value.agg #[.int .i64 (Pz.er (shP s k))]))))∧True))) (((rdPre s (Prod.snd (xInt s (Prod.snd (xInt s (Prod.snd (xInt s (k + 1))))))))∧((((0 : Int) ≤ 1)∧((1 : Int) ≤ 8))∧((8 : Int) ≤ 1099511627776)))∧((∃ x : SX,(((((SX.i x) : Nat) ≤ (shC s k))∧((Pz.bad (sptP s (shA k) (SX.i x)) = false)∧(((SX.i x) : Nat) ≤ (SX.c x))))∧((zI = (SV.v (.int .i64 ((↑(SX.i x) : Int)))))∧((((1 : Nat) = 1)∧(((1 : Nat) ≤ 1)∧(∀ i : Nat,(((i : Nat) < 1)→([(SV.v (.string s)),(SV.v (.int .i64 (Prod.snd (xInt s (Prod.snd (xInt s (Prod.snd (xInt s (k + 1)))))) + 1)))] = [(SV.v (.string s)),(SV.v (.int .i64 (shA k + 16 * (↑(SX.i x) : Int))))])))))∧((((1 : Nat) = 1)∧(((1 : Nat) ≤ 1)∧(((SV.v (.int .i64 (rdT s k 1))) = (SV.v (.int .i64 (ShB.k (shB4 s k)))))∧(((SV.v (.int .i64 (rdI s (k + 1)))) = (SV.v (.int .i64 (ShB.r (shB4 s k)))))∧(((SV.v (.int .i64 (rdI s (Prod.snd (xInt s (k + 1)))))) = (SV.v (.int .i64 (ShB.w (shB4 s k)))))∧(((SV.v (.int .i64 (rdI s (Prod.snd (xInt s (Prod.snd (xInt s (k + 1)))))))) = (SV.v (.int .i64 (ShB.h (shB4 s k)))))∧((zS = zS)∧(((0 : Nat) = 0)∧((((SX.i x) : Nat) = 0)∧(((SX.c x) : Nat) = 0))))))))))∧(((((SX.i x) : Nat) = 0)∧((((SX.c x) : Nat) = 0)∧True))∧True))))))∧(∀ x : SX,(((((SX.i x) : Nat) ≤ (shC s k))∧((Pz.bad (sptP s (shA k) (SX.i x)) = false)∧(((SX.i x) : Nat) ≤ (SX.c x))))→(sel (decide ((↑(SX.i x) : Int) < rdT s (Prod.snd (xInt s (Prod.snd (xInt s (Prod.snd (xInt s (k + 1))))))) 1)) (sel (Pz.bad (spP s (shA k + 16 * (↑(SX.i x) : Int)))) (((rdPre s (shA k + 16 * (↑(SX.i x) : Int)))∧True)∧((Pz.bad (shP s k) = true)∧(((SV.v (Value.iface 169 (Value.agg #[.int .i64 (Pz.er (p0 spP [] s (shA k + 16 * (↑(SX.i x) : Int))))]))) = (SV.v (Value.iface 169 (Value.agg #[.int .i64 (Pz.er (shP s k))]))))∧True))) (((rdPre s (shA k + 16 * (↑(SX.i x) : Int)))∧True)∧((((((SX.i x + 1) * 16) : Nat) ≤ 140737488355328)∧((((0 + SX.c x) : Nat) ≤ (SX.c x))∧(∀ y : Nat,(((y : Nat) < 1)→True))))∧(∀ c : Nat,(∃ x' : SX,((((((SX.i x') : Nat) ≤ (shC s k))∧((Pz.bad (sptP s (shA k) (SX.i x')) = false)∧(((SX.i x') : Nat) ≤ (SX.c x'))))∧(((SV.v (.int .i64 (IntKind.wrap IntKind.i64 ((↑(SX.i x) : Int) + 1)))) = (SV.v (.int .i64 ((↑(SX.i x') : Int)))))∧((((1 : Nat) = 1)∧(((1 : Nat) ≤ 1)∧(∀ i : Nat,(((i : Nat) < 1)→([(SV.v (.string s)),(SV.v (.int .i64 (Prod.snd (xSpot s (shA k + 16 * (↑(SX.i x) : Int))))))] = [(SV.v (.string s)),(SV.v (.int .i64 (shA k + 16 * (↑(SX.i x') : Int))))])))))∧((((1 : Nat) = 1)∧(((1 : Nat) ≤ 1)∧(vcShT_1 s k ((SV.sl 272 2 0 (SX.i x + 1) (SX.i x + 1 + c)) = (SV.sl 272 2 0 (SX.i x') (SX.c x'))))))∧((((SX.i x + 1) : Nat) = (SX.i x'))∧((((SX.c x') : Nat) ≤ (SX.i x + 1 + c))∧(∀ i : Nat,(((i : Nat) < (SX.i x'))→([(SV.v (.int .i64 (bop (Nat.blt i (SX.i x)) (Prod.fst (rdSp s (shA k) (0 + i))) (rdI s (shA k + 16 * (↑(SX.i x) : Int)))))),(SV.v (.int .i64 (bop (Nat.blt i (SX.i x)) (Prod.snd (rdSp s (shA k) (0 + i))) (rdI s (shA k + 16 * (↑(SX.i x) : Int) + 8)))))] = [(SV.v (.int .i64 (Prod.fst (rdSp s (shA k) i)))),(SV.v (.int .i64 (Prod.snd (rdSp s (shA k) i))))])))))))))∧(((shC s k - SX.i x') : Nat) < (shC s k - SX.i x)))))))) ((Pz.bad (shP s k) = false)∧(∃ c : Nat,((vcShT_1 s k ((SV.sl 40 2 0 (SX.i x) (SX.c x)) = (SV.sl 40 2 0 (shC s k) (shC s k + c))))∧((((1 : Nat) = 1)∧(((1 : Nat) ≤ 1)∧(∀ i : Nat,(((i : Nat) < 1)→([(SV.v (.string s)),(SV.v (.int .i64 (shA k + 16 * (↑(SX.i x) : Int))))] = [(SV.v (.string s)),(SV.v (.int .i64 (shEnd s k)))])))))∧((((SX.i x) : Nat) = (shC s k))∧((((shC s k + c) : Nat) ≤ (SX.c x))∧(∀ i : Nat,(((i : Nat) < (shC s k))→([(SV.v (.int .i64 (Prod.fst (rdSp s (shA k) i)))),(SV.v (.int .i64 (Prod.snd (rdSp s (shA k) i))))] = [(SV.v (.int .i64 (Prod.fst (rdSp s (shA k) i)))),(SV.v (.int .i64 (Prod.snd (rdSp s (shA k) i))))]))))))))))))))))))))))) := by kernel_rfl
theorem vcKindT (s : ByteArray) (k low : Int) : (vcFnP Try.prog ΓT1 noΛ Try.f120 [.vp 0 0,.v (.int .i64 low)] (heapOf [rdB s k]) 64 (fun y h' => (kiP s k low).bad = false∧FinE [rdB s k] (.det none (.v (.int .i64 (rdT s k 1))) [(0,rdB s (k + 1))]) y h') (fun y h' => (kiP s k low).bad = true∧FinE [rdB s k] (.det none (pE (kiP s k low).er) [(0,killed (rdB s k))]) y h')) =
(sel (Pz.bad (tkP s k 1)) (((rdPre s k)∧(((0 : Int) ≤ 1)∧((1 : Int) ≤ 8)))∧((Pz.bad (kiP s k low) = true)∧(((SV.v (Value.iface 169 (Value.agg #[.int .i64 (Pz.er (pTake [SV.v (.int .i64 1)] s k))]))) = (SV.v (Value.iface 169 (Value.agg #[.int .i64 (Pz.er (kiP s k low))]))))∧True))) (((rdPre s k)∧(((0 : Int) ≤ 1)∧((1 : Int) ≤ 8)))∧(sel (decide (IntKind.wrap IntKind.i64 (rdT s k 1) ≥ low)) (sel (!decide (IntKind.wrap IntKind.i64 (rdT s k 1) ≤ 10)) ((Pz.bad (kiP s k low) = true)∧(((SV.v (Value.iface 169 (Value.agg #[.int .i64 8]))) = (SV.v (Value.iface 169 (Value.agg #[.int .i64 (Pz.er (kiP s k low))]))))∧True)) ((Pz.bad (kiP s k low) = false)∧(((SV.v (.int .i64 (IntKind.wrap IntKind.i64 (rdT s k 1)))) = (SV.v (.int .i64 (rdT s k 1))))∧(((1 : Nat) = 1)∧(((1 : Nat) ≤ 1)∧(∀ i : Nat,(((i : Nat) < 1)→([(SV.v (.string s)),(SV.v (.int .i64 (k + 1)))] = [(SV.v (.string s)),(SV.v (.int .i64 (k + 1)))])))))))) ((Pz.bad (kiP s k low) = true)∧(((SV.v (Value.iface 169 (Value.agg #[.int .i64 8]))) = (SV.v (Value.iface 169 (Value.agg #[.int .i64 (Pz.er (kiP s k low))]))))∧True))))) := by kernel_rfl
theorem vcEndT (s : ByteArray) (k : Int) : (vcFnP Try.prog ΓT0 noΛ Try.f131 [.vp 0 0] (heapOf [rdB s k]) 64 (fun y h' => (enP s k).bad = false∧FinE [rdB s k] (.det none (xEnd s k).1 [(0,rdB s (xEnd s k).2)]) y h') (fun y h' => (enP s k).bad = true∧FinE [rdB s k] (.det none (pE (enP s k).er) [(0,killed (rdB s k))]) y h')) = (sel (!k == (↑(ByteArray.size s) : Int)) ((Pz.bad (enP s k) = true)∧(((SV.v (Value.iface 169 (Value.agg #[.int .i64 6]))) = (SV.v (Value.iface 169 (Value.agg #[.int .i64 (Pz.er (enP s k))]))))∧True)) ((Pz.bad (enP s k) = false)∧(True∧(((1 : Nat) = 1)∧(((1 : Nat) ≤ 1)∧(∀ i : Nat,(((i : Nat) < 1)→([(SV.v (.string s)),(SV.v (.int .i64 k))] = [(SV.v (.string s)),(SV.v (.int .i64 (Prod.snd (xEnd s k))))])))))))):=by kernel_rfl
theorem slT_eq {k s i i' n n' c c' : Nat} (h1 : i = i') (h2 : n = n') (h3 : c = c') : SV.sl k s i n c = SV.sl k s i' n' c' := by subst h1 h2 h3; rfl
theorem te_spec {Γ : Ctrs} (hΓ : ∀ f g, Γ f = some g → g.ok Try.prog f) {f : FuncId} {fn : Func} (hf : Try.prog.funcs[f]? = some fn) {E : ByteArray → Int → Eff} {G : ByteArray → Int → Pz} {Λ : ByteArray → Int → Nat → Option LoopSpec} (hE : ∀ s k, (E s k).asks → rdPre s k)
    (h : ∀ s k, rdPre s k → vcFnP Try.prog Γ (Λ s k) fn [.vp 0 0] (heapOf [rdB s k]) 64 (fun y h' => (G s k).bad = false ∧ FinE [rdB s k] (E s k) y h') (fun y h' => (G s k).bad = true ∧ FinE [rdB s k] (.det none (pE (G s k).er) [(0, killed (rdB s k))]) y h')) :
    HpSpecT Try.prog f (sTe E) (stTd (p0 G)) (spTe G) := hp_specT hm hΓ hf (Λ := fun args bs => match args, bs with
      | _ :: rest, [B] => match B.row 0 with
        | [.v (.string s), .v (.int _ k)] => Λ s k
        | _ => noΛ
      | _, _ => noΛ) fun args bs e hs hp => by
  unfold sTe at hs
  split at hs <;> try (cases hs; done)
  rename_i B
  split at hs <;> try (cases hs; done)
  rename_i s k hB
  obtain ⟨ha, he⟩ := bif_some hs
  subst he
  have e1 : stTd (p0 G) [.vp 0 0] [B] = (G s k).bad := by simp only [stTd, hB]; rfl
  have e2 : spTe G [.vp 0 0] [B] = .det (some (rdPre s k)) (pE (G s k).er) [(0, killed (rdB s k))] := by simp only [spTe, hB]
  rw [e1, e2] at hp
  have hq : rdPre s k := by
    cases hb : (G s k).bad with
    | true => rw [hb] at hp; exact hp _ rfl
    | false => rw [hb] at hp; exact hE s k hp
  refine ⟨[rdB s k], ⟨rdOk_same ha hB, trivial⟩, ?_⟩
  rw [e1, e2]
  simp only [hB]
  exact h s k hq
theorem te_ok {f : FuncId} {fn : Func} {E : ByteArray → Int → Eff} {G : ByteArray → Int → Pz} (hf : Try.prog.funcs[f]? = some fn) (hn : (fn.name == "runtime.NumGoroutine") = false) (hb : fn.body.isNone = false) (h : HpSpecT Try.prog f (sTe E) (stTd (p0 G)) (spTe G)) : (ctrTe E G).ok Try.prog f := hp_okT hf hn hb h
theorem spt_pre {s : ByteArray} {k : Int} (hp : rdPre s k) : ∀ {i : Nat}, (sptP s k i).bad = false → rdPre s (k + 16 * (i : Int))
  | 0, _ => by rw [show k + 16 * ((0 : Nat) : Int) = k by omega]; exact hp
  | i + 1, h => by
    have := sp_pre (spt_pre hp (seq_f h).1) (seq_f h).2
    rw [show k + 16 * ((i + 1 : Nat) : Int) = k + 16 * (i : Int) + 8 + 8 by omega]
    exact this
theorem spt_bad {s : ByteArray} {k : Int} {i : Nat} (h1 : (sptP s k i).bad = false) (h2 : (spP s (k + 16 * (i : Int))).bad = true) : ∀ {n : Nat}, i < n → (sptP s k n).bad = true ∧ (spP s (k + 16 * (i : Int))).er = (sptP s k n).er
  | 0, h => absurd h (Nat.not_lt_zero _)
  | n + 1, h => by
    by_cases hi : i = n
    · subst hi
      unfold sptP
      rw [seq_ok h1]
      exact ⟨h2, rfl⟩
    · have ih := spt_bad h1 h2 (n := n) (by omega)
      unfold sptP
      have := seq_no (b := spP s (k + 16 * (n : Int))) ih.1
      exact ⟨this.1, ih.2.trans this.2⟩
theorem spt_ok {s : ByteArray} {k : Int} {i : Nat} (h1 : (sptP s k i).bad = false) (h2 : (spP s (k + 16 * (i : Int))).bad = false) : (sptP s k (i + 1)).bad = false := by
  unfold sptP
  rw [seq_ok h1]
  exact h2
theorem shC_int (s : ByteArray) (k : Int) : rdT s (k + 1 + 8 + 8 + 8) 1 = (shC s k : Int) := by
  have := (rdT_rng s (k + 1 + 8 + 8 + 8) 1).1
  unfold shC
  omega
theorem sh_parts {s : ByteArray} {k : Int} (h : (shP s k).bad = false) : (upP s k 255 1).bad = false ∧ (tkP s (k + 1) 8).bad = false ∧ (tkP s (k + 1 + 8) 8).bad = false ∧ (tkP s (k + 1 + 8 + 8) 8).bad = false ∧ (upP s (k + 1 + 8 + 8 + 8) 8 1).bad = false ∧ (sptP s (shA k) (shC s k)).bad = false := by
  have h1 := seq_f h
  have h2 := seq_f h1.2
  have h3 := seq_f h2.2
  have h4 := seq_f h3.2
  have h5 := seq_f h4.2
  exact ⟨h1.1, h2.1, h3.1, h4.1, h5.1, h5.2⟩
theorem shC_le {s : ByteArray} {k : Int} (h : (upP s (k + 1 + 8 + 8 + 8) 8 1).bad = false) : shC s k ≤ 8 := by
  have := of_decide_eq_false (seq_f h).2
  have e := shC_int s k
  have : ¬ (8 : Int) < rdT s (k + 1 + 8 + 8 + 8) 1 := this
  omega
theorem sh_pre {s : ByteArray} {k : Int} (hp : rdPre s k) (h : (shP s k).bad = false) : rdPre s (shEnd s k) := by
  obtain ⟨h1, h2, h3, h4, h5, h6⟩ := sh_parts h
  have p1 := up_pre hp (by omega) h1
  have p2 := tk_pre p1 (by omega) h2
  have p3 := tk_pre p2 (by omega) h3
  have p4 := tk_pre p3 (by omega) h4
  have p5 := up_pre p4 (by omega) h5
  exact spt_pre p5 h6
theorem ShT_spec : HpSpecT Try.prog 122 (sTe shE) (stTd (p0 shP)) (spTe shP) := te_spec ΓT6_ok Try.func122 (Λ := ΛShT) (fun s k h => h) fun s k hp => by
  have h_vc := vcShT s k
  repeat (first | unfold vcShT_1 at h_vc)
  refine Eq.mpr h_vc (sel_of (fun h => ⟨⟨hp, ⟨by omega, by omega⟩, by omega⟩, pan (seq_no h)⟩) fun h1 => ⟨⟨hp, ⟨by omega, by omega⟩, by omega⟩, ?_⟩)
  have p1 : rdPre s (k + 1) := up_pre hp (by omega) h1
  have e1 := seq_ok (b := (tkP s (k + 1) 8).seq ((tkP s (k + 1 + 8) 8).seq ((tkP s (k + 1 + 8 + 8) 8).seq ((upP s (k + 1 + 8 + 8 + 8) 8 1).seq (sptP s (shA k) (shC s k)))))) h1
  rw [show shP s k = _ from e1]
  refine sel_of (fun h => ⟨⟨p1, trivial⟩, pan (seq_no h)⟩) fun h2 => ⟨⟨p1, trivial⟩, ?_⟩
  have h2 : (tkP s (k + 1) 8).bad = false := h2
  have p2 : rdPre s (k + 1 + 8) := tk_pre p1 (by omega) h2
  rw [seq_ok h2]
  refine sel_of (fun h => ⟨⟨p2, trivial⟩, pan (seq_no h)⟩) fun h3 => ⟨⟨p2, trivial⟩, ?_⟩
  have h3 : (tkP s (k + 1 + 8) 8).bad = false := h3
  have p3 : rdPre s (k + 1 + 8 + 8) := tk_pre p2 (by omega) h3
  rw [seq_ok h3]
  refine sel_of (fun h => ⟨⟨p3, trivial⟩, pan (seq_no h)⟩) fun h4 => ⟨⟨p3, trivial⟩, ?_⟩
  have h4 : (tkP s (k + 1 + 8 + 8) 8).bad = false := h4
  have p4 : rdPre s (k + 1 + 8 + 8 + 8) := tk_pre p3 (by omega) h4
  rw [seq_ok h4]
  refine sel_of (fun h => ⟨⟨p4, ⟨by omega, by omega⟩, by omega⟩, pan (seq_no h)⟩) fun h5 => ⟨⟨p4, ⟨by omega, by omega⟩, by omega⟩, ?_⟩
  have h5 : (upP s (k + 1 + 8 + 8 + 8) 8 1).bad = false := h5
  have p5 : rdPre s (shA k) := up_pre p4 (by omega) h5
  rw [seq_ok h5]
  have hC := shC_int s k
  have hC8 := shC_le h5
  refine ⟨⟨⟨0, 0⟩, ⟨Nat.zero_le _, rfl, Nat.le_refl _⟩, rfl, ⟨rfl, Nat.le_refl _, fun i _ => ?_⟩, ⟨rfl, Nat.le_refl _, rfl, rfl, rfl, rfl, rfl, rfl, rfl, rfl⟩, ⟨rfl, rfl, trivial⟩, trivial⟩, fun x hx => sel_of (fun hlt => ?_) fun hge => ?_⟩
  · show [SV.v (.string s), SV.v (.int .i64 (shA k))] = [SV.v (.string s), SV.v (.int .i64 (shA k + 16 * ((0 : Nat) : Int)))]
    rw [show shA k + 16 * ((0 : Nat) : Int) = shA k by omega]
  · obtain ⟨hx1, hx2, hx3⟩ := hx
    have hlt := of_decide_eq_true hlt
    have hlt : (x.i : Int) < rdT s (k + 1 + 8 + 8 + 8) 1 := hlt
    have hlt : x.i < shC s k := by omega
    have p6 := spt_pre p5 hx2
    refine sel_of (fun h => ⟨⟨p6, trivial⟩, pan (spt_bad hx2 h hlt)⟩) fun h6 => ⟨⟨p6, trivial⟩, ⟨by omega, by omega, fun _ _ => trivial⟩, fun c => ⟨⟨x.i + 1, x.i + 1 + c⟩, ⟨⟨hlt, spt_ok hx2 h6, by show x.i + 1 ≤ x.i + 1 + c; omega⟩, int_mk (wrap_i64 ⟨by omega, by omega⟩), ⟨rfl, Nat.le_refl _, fun i _ => ?_⟩, ⟨rfl, Nat.le_refl _, rfl, rfl, rfl, rfl, rfl⟩, rfl, Nat.le_refl _, fun i hi => ?_⟩, by show shC s k - (x.i + 1) < shC s k - x.i; omega⟩⟩
    · show [SV.v (.string s), SV.v (.int .i64 (shA k + 16 * (x.i : Int) + 8 + 8))] = [SV.v (.string s), SV.v (.int .i64 (shA k + 16 * ((x.i + 1 : Nat) : Int)))]
      rw [show shA k + 16 * ((x.i + 1 : Nat) : Int) = shA k + 16 * (x.i : Int) + 8 + 8 by omega]
    · have hi : i < x.i + 1 := hi
      by_cases hik : i < x.i
      · rw [blt_true hik, Nat.zero_add]
        rfl
      · have hik : i = x.i := by omega
        subst hik
        rw [blt_false (Nat.lt_irrefl _)]
        rfl
  · obtain ⟨hx1, hx2, hx3⟩ := hx
    have hge := of_decide_eq_false hge
    have hge : ¬ (x.i : Int) < rdT s (k + 1 + 8 + 8 + 8) 1 := hge
    have hn : x.i = shC s k := by omega
    rw [hn] at hx2 hx3 ⊢
    refine ⟨hx2, x.c - shC s k, ⟨rfl, rfl, rfl, rfl, slT_eq rfl rfl (by omega)⟩, ⟨rfl, Nat.le_refl _, fun _ _ => rfl⟩, rfl, by omega, fun _ _ => rfl⟩
theorem KindT_spec : HpSpecT Try.prog 120 (sTd tKind) (stTd pKind) (spTd tKind pKind) := td_spec ΓT1_ok Try.func120 (Λ := fun _ _ _ => noΛ) fun rest s k q x k' h hp hq => by
  unfold tKind at h
  split at h <;> try (cases h; done)
  rename_i low
  cases h
  have hr := rdT_rng s k 1
  have hw : IntKind.i64.wrap (rdT s k 1) = rdT s k 1 := by
    have h2 : rdT s k 1 < 256 := hr.2
    exact wrap_i64 ⟨by omega, by omega⟩
  refine Eq.mpr (vcKindT s k low) (sel_of (fun h => ⟨⟨hp, by omega, by omega⟩, pan (seq_no h)⟩) fun h => ⟨⟨hp, by omega, by omega⟩, ?_⟩)
  unfold kiP
  rw [seq_ok h, hw]
  refine sel_of (fun h2 => sel_of (fun h3 => pan ⟨?_, rfl⟩) fun h3 => ⟨?_, rfl, rfl, Nat.le_refl _, fun _ _ => rfl⟩) fun h2 => pan ⟨?_, rfl⟩
  · have h3 := not_dec h3
    show (!(_ && decide (rdT s k 1 ≤ 10))) = true
    rw [decide_eq_false h3, Bool.and_false]; rfl
  · have h3 := not_dec' h3
    have h2 := of_decide_eq_true h2
    show (!(decide (low ≤ rdT s k 1) && decide (rdT s k 1 ≤ 10))) = false
    rw [decide_eq_true h3, decide_eq_true h2]; rfl
  · have h2 := of_decide_eq_false h2
    show (!(decide (low ≤ rdT s k 1) && _)) = true
    rw [decide_eq_false h2]; rfl
theorem EndT_spec : HpSpecT Try.prog 131 (sTd (t0 xEnd)) (stTd (p0 enP)) (spTd (t0 xEnd) (p0 enP)) := t0_spec ΓT0_ok Try.func131 (Λ := fun _ _ => noΛ) fun s k hp =>
  Eq.mpr (vcEndT s k) (sel_of (fun h => pan ⟨h, rfl⟩) fun h => ⟨h, trivial, rfl, Nat.le_refl _, fun _ _ => rfl⟩)
end Go.Proofs.Ytjdldadmaaeimaa
end
