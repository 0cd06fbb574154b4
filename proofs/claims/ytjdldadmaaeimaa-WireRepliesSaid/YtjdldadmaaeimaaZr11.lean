/-
  What the proof uses, part 11.
-/
import Derived.Deep.Slices
import Derived.Deep.Fields
import Derived.Test.YtjdldadmaaeimaaZr10

section
set_option maxRecDepth 100000
set_option linter.unusedVariables false
set_option linter.unusedSimpArgs false
namespace Go.Proofs.Ytjdldadmaaeimaa
open Go.ChangeShapes Go.WideShapes Go.ChangeAt Go.RowKit Go.SE Go.Deep

section
variable {H : Type} {enc : TypeId × Value → H}
def listD (ls : List SE.Loc) : Dict := fun k => ls[k]?
theorem list_rep {W : World} {ls : List SE.Loc} {bs : List Ro} (h : ∀ (k : Nat) (b : Ro), bs[k]? = some b → ∃ l, ls[k]? = some l ∧ Live (listD ls) b.blk W l) : HRep (listD ls) (heapOf (bs.map Ro.blk)) W := by
  refine ⟨fun k b' hk => ?_, fun k k' r b' h1 h2 hk hrw => ?_⟩
  · simp only [heapOf, List.getElem?_map] at hk
    cases hb : bs[k]? with
    | none => rw [hb] at hk; cases hk
    | some b =>
      rw [hb] at hk
      cases hk
      obtain ⟨l, h1, h2⟩ := h k b hb
      exact ⟨l, h1, fun _ => h2⟩
  · simp only [heapOf, List.getElem?_map] at hk
    cases hb : bs[k]? with
    | none => rw [hb] at hk; cases hk
    | some b => rw [hb] at hk; cases hk; cases hrw
theorem roOf_map : ∀ bs : List Ro, roOf (bs.map Ro.blk) = some bs
  | [] => rfl
  | b :: bs => by
    simp only [List.map_cons, roOf, roOf_map bs]
    rfl
theorem ro_calls {f : FuncId} {spec : List SV → List Ro → Option (Option Prop × SV)} (h : RoSpec Try.prog f spec) {args : List SV} {vs : List Value} {ls : List SE.Loc} {bs : List Ro} {W : World} (ha : absL (listD ls) args vs)
    (hl : ∀ (k : Nat) (b : Ro), bs[k]? = some b → ∃ l, ls[k]? = some l ∧ Live (listD ls) b.blk W l) (hn : ls.length = bs.length) (hb : bs.length ≤ 1000) {p : Prop} (hs : spec args bs = some (some p, .v (.bool true))) (hp : p) :
    Calls Try.prog f vs.toArray W fun e W' => e = .returned (.bool true) ∧ Below W.heap.size W W' := by
  have hs' : roSpec spec args (bs.map Ro.blk) = some (.det (some p) (.v (.bool true)) []) := by
    unfold roSpec
    rw [roOf_map]
    show (match spec args bs with | some (p, x) => some (Eff.det p x []) | none => none) = _
    rw [hs]
  refine (h _ _ _ hs' (fun q hq => by cases hq; exact hp) (listD ls) W vs ha (list_rep hl) (fun k hk => ?_) (by simpa using hb)).mono fun e W' ⟨r, x, u, δ', h1, h2, _, h4, h5⟩ => ?_
  · simp only [heapOf, List.getElem?_map, Option.map_eq_none_iff, List.getElem?_eq_none_iff] at hk
    simp only [listD, List.getElem?_eq_none_iff]
    omega
  · obtain ⟨rfl, rfl⟩ := h2
    simp only [absV] at h4
    subst h4
    refine ⟨h1, h5.wrel.os, h5.wrel.tape, h5.wrel.output, h5.wrel.size, fun k hk => h5.wrel.block k hk ?_⟩
    rintro ⟨k', b, hb, hrw, _⟩
    simp only [heapOf, List.getElem?_map] at hb
    cases hb' : bs[k']? with
    | none => rw [hb'] at hb; cases hb
    | some b => rw [hb'] at hb; cases hb; cases hrw
theorem cell_at {W : World} {a : Addr} {v : Value} (h : W.cell? a = some v) : a.spot = none ∧ ∃ c e fz, W.heap[a.block]? = some (.cells c e fz) ∧ c[a.off]? = some v := by
  unfold World.cell? at h
  split at h
  · rename_i c e fz hc
    split at h
    · cases h
    · rename_i hs
      exact ⟨by simpa using hs, c, e, fz, hc, h⟩
  · cases h
theorem add_flat (g o n : Nat) : (⟨g, o, none⟩ : Addr).add n = ⟨g, o + n, none⟩ := by
  unfold Addr.add
  split
  · rename_i h; subst h; rfl
  · rfl
theorem nameless_map : ∀ xs : List Value, namelessL (xs.map SV.v) = true
  | [] => rfl
  | x :: xs => by simp only [List.map_cons, namelessL, nameless, nameless_map xs, Bool.and_self]
theorem rows_open {W : World} {ts te : TypeId} {k fuel : Nat} {cs : List Value} {y : DataW H × List MemPlace} (hk : 0 < k) (hu : Try.prog.underlying ts = some (.slice te)) (hc : Try.prog.cellsOf te = k) {Q : List Value → Prop}
    (hQ : ∀ fuel cs y, DataW.trod enc Try.prog W 0 (fun _ => true) true fuel te cs = some y → Q cs) (h : DataW.trod enc Try.prog W 0 (fun _ => true) true fuel ts cs = some y) :
    ∃ (n c : Nat) (row : Nat → List SV) (l : SE.Loc) (v : Value), cs = [v] ∧ (∀ δ kk, δ kk = some l → absV δ (.sl kk k 0 n c) v ∧ Live δ (Ro.blk ⟨k, n, row⟩) W l) ∧ n ≤ c ∧ ∀ i, i < n → ∃ xs, row i = xs.map SV.v ∧ Q xs := by
  have nil : ∀ v, v = Value.slice none 0 0 → ∀ δ kk, δ kk = some (⟨0, k, 0, 0, true⟩ : SE.Loc) → absV δ (.sl kk k 0 0 0) v ∧ Live δ (Ro.blk ⟨k, 0, fun _ => []⟩) W ⟨0, k, 0, 0, true⟩ := by
    rintro v rfl δ kk hd
    simp only [absV]
    exact ⟨⟨_, hd, rfl, Nat.le_refl _, (.inr ⟨trivial, trivial, _, rfl⟩)⟩, ⟨rfl, rfl, fun _ => ⟨rfl, rfl⟩, fun hh => by cases hh⟩⟩
  rcases open_slice hu h with ⟨h1, _⟩ | ⟨a, len, cap, m, n, D, Pl, h1, _, hle, _, hm, _, hi⟩
  · exact ⟨0, 0, fun _ => [], ⟨0, k, 0, 0, true⟩, _, h1, nil _ rfl, Nat.le_refl _, fun i hi => absurd hi (Nat.not_lt_zero _)⟩
  · rw [if_pos rfl] at hm
    subst hm
    rw [hc] at hi
    rcases Nat.eq_zero_or_pos m with h0 | h0
    · subst h0
      obtain rfl : len = 0 := by omega
      refine ⟨0, 0, fun _ => [], ⟨0, k, 0, 0, true⟩, _, h1, ?_, Nat.le_refl _, fun i hi => absurd hi (Nat.not_lt_zero _)⟩
      intro δ kk hd
      simp only [absV]
      exact ⟨⟨_, hd, rfl, Nat.le_refl _, (.inr ⟨trivial, trivial, _, rfl⟩)⟩, ⟨rfl, rfl, fun _ => ⟨rfl, rfl⟩, fun hh => by cases hh⟩⟩
    · have cells : ∀ i, i < m → ∃ xs : List Value, xs.length = k ∧ Q xs ∧ ∀ j, j < k → W.cell? ((a.add (i * k)).add j) = xs[j]? := by
        intro i him
        obtain ⟨cs', h1, h2⟩ := hi i him
        obtain ⟨_, hlen, hc⟩ := World.cells?_some h1
        exact ⟨cs', hlen, hQ _ _ _ h2, hc⟩
      obtain ⟨xs0, hl0, _, k0⟩ := cells 0 h0
      have k0 := k0 0 hk
      rw [List.getElem?_eq_getElem (by omega)] at k0
      obtain ⟨g, o, sp⟩ := a
      obtain ⟨hs, c, e, fz, hh, ho⟩ := cell_at k0
      obtain rfl : sp = none := by cases sp with | none => rfl | some q => simp [Addr.add] at hs
      rw [add_flat, add_flat] at hh ho
      have hh : W.heap[g]? = some (.cells c e fz) := hh
      have ho : c[o + 0 * k + 0]? = some xs0[0] := ho
      have at1 : ∀ i, i < m → ∃ xs : List Value, xs.length = k ∧ Q xs ∧ ∀ j, j < k → c[o + i * k + j]? = xs[j]? := by
        intro i him
        obtain ⟨xs, hl, hq, g0⟩ := cells i him
        refine ⟨xs, hl, hq, fun j hj => ?_⟩
        have g0 := g0 j hj
        rw [List.getElem?_eq_getElem (by omega)] at g0 ⊢
        rw [add_flat, add_flat] at g0
        obtain ⟨_, c', e', fz', hh', ho'⟩ := cell_at g0
        have hh' : W.heap[g]? = some (.cells c' e' fz') := hh'
        rw [hh] at hh'
        cases hh'
        exact ho'
      have hsz : o ≤ c.size := by
        have := (Array.getElem?_eq_some_iff.1 ho).1
        omega
      let row : Nat → List SV := fun i => ((List.range k).map fun j => (c[o + i * k + j]?).getD undef).map SV.v
      have hrow : ∀ i, i < m → ∃ xs : List Value, xs.length = k ∧ Q xs ∧ row i = xs.map SV.v ∧ ∀ j, j < k → c[o + i * k + j]? = xs[j]? := by
        intro i him
        obtain ⟨xs, hl, hq, g0⟩ := at1 i him
        refine ⟨xs, hl, hq, ?_, g0⟩
        show ((List.range k).map fun j => (c[o + i * k + j]?).getD undef).map SV.v = _
        congr 1
        apply List.ext_getElem
        · simp [hl]
        · intro j h1 h2
          simp only [List.length_map, List.length_range] at h1
          simp only [List.getElem_map, List.getElem_range, g0 j h1]
          rw [List.getElem?_eq_getElem h2]; rfl
      refine ⟨len, m, row, ⟨g, k, o, len, false⟩, _, h1, fun δ kk hd => ⟨?_, ?_⟩, hle, fun i hi => ?_⟩
      · simp only [absV]
        exact ⟨_, hd, rfl, by show 0 + len ≤ len; omega, .inl ⟨rfl, by simp⟩⟩
      · refine ⟨rfl, rfl, (fun hh => by cases hh), fun _ => ⟨c, e, fz, hh, (fun hh => by cases hh), (fun _ i hi => ?_), (fun hh => absurd rfl hh), by show o + 0 * k ≤ c.size; omega, (fun hh => by cases hh), fun i hi => ?_⟩⟩
        · exact nameless_map _
        · obtain ⟨xs, hl, hq, hr, g0⟩ := hrow i (Nat.lt_of_lt_of_le hi hle)
          refine ⟨?_, fun j y hj => ?_⟩
          · show (row i).length = k
            rw [hr, List.length_map, hl]
          · have hj : (row i)[j]? = some y := hj
            rw [hr, List.getElem?_map] at hj
            cases hx : xs[j]? with
            | none => rw [hx] at hj; cases hj
            | some x =>
              rw [hx] at hj
              cases hj
              have hjk : j < k := by
                have := (List.getElem?_eq_some_iff.1 hx).1
                omega
              exact ⟨x, by show c[o + i * k + j]? = _; rw [g0 j hjk, hx], by simp only [absV]⟩
      · obtain ⟨xs, hl, hq, hr, g0⟩ := hrow i (Nat.lt_of_lt_of_le hi hle)
        exact ⟨xs, hr, hq⟩
end
end Go.Proofs.Ytjdldadmaaeimaa
end

section
set_option maxRecDepth 100000
namespace Go.Proofs.Ytjdldadmaaeimaa
open Go.SE Go.RowKit

theorem hm : Try.prog.follows .mixedOrders = true := by kernel_rfl

def noΛ : Nat → Option LoopSpec := fun _ => none
end Go.Proofs.Ytjdldadmaaeimaa
end

section
set_option maxRecDepth 100000
set_option linter.unusedSimpArgs false
set_option linter.unusedVariables false
namespace Go.Proofs.Ytjdldadmaaeimaa
open Go.SE Go.RowKit

def nmA : List ByteArray := [⟨#[115, 112, 97, 119, 110]⟩, ⟨#[100, 101, 115, 116, 114, 111, 121]⟩, ⟨#[112, 117, 115, 104]⟩, ⟨#[103, 114, 97, 98]⟩, ⟨#[100, 114, 97, 103]⟩, ⟨#[114, 101, 108, 101, 97, 115, 101]⟩, ⟨#[108, 111, 111, 107]⟩, ⟨#[110, 101, 97, 114]⟩, ⟨#[114, 97, 121]⟩, ⟨#[99, 111, 117, 110, 116]⟩]
def emp : ByteArray := ⟨#[]⟩
def nmG (i : Nat) : ByteArray := nmA.getD i emp
def nameK (k : Int) : ByteArray := bif decide (1 ≤ k) && decide (k ≤ 10) then nmG (k.toNat - 1) else emp
def kindFrom (s : ByteArray) : List ByteArray → Int → Int
  | [], _ => 0
  | x :: rest, i => bif x == s then i else kindFrom s rest (i + 1)
def kindS (s : ByteArray) : Int := kindFrom s nmA 1

def strS (s : ByteArray) : SV := .v (.string s)
def sNames : List SV → Option (Option Prop × SV)
  | [] => some (none, .agg (nmA.map strS))
  | _ => none
def sName : List SV → Option (Option Prop × SV)
  | [.v (.int .i64 k)] => some (some (-9223372036854775808 ≤ k ∧ k < 9223372036854775808), strS (nameK k))
  | _ => none
def sKind : List SV → Option (Option Prop × SV)
  | [.v (.string s)] => some (none, .v (.int .i64 (kindS s)))
  | _ => none
def nmB : Blk := { elem := 9, size := 1, rw := true, lock := false, lit := false, flat := true, n := 11, row := fun i => [strS ((emp :: nmA).getD i emp)], ext := 11 }
def sRNames : List SV → List Blk → Option Eff
  | [], [] => some (.det none (.sl 1000 1 0 11 11) [(1000, nmB)])
  | _, _ => none
def ΓW0 : Ctrs := addCtr (addCtr noCtrs 57 (pureCtr sNames)) 58 (hpCtr true sRNames)
theorem vcNames (R : SV→Prop) : (vcPure Try.prog noCtrs noΛ Try.f57 [] R) = (R (SV.agg [(SV.v (.string ({data:=#[115,112,97,119,110]}))),(SV.v (.string ({data:=#[100,101,115,116,114,111,121]}))),(SV.v (.string ({data:=#[112,117,115,104]}))),(SV.v (.string ({data:=#[103,114,97,98]}))),(SV.v (.string ({data:=#[100,114,97,103]}))),(SV.v (.string ({data:=#[114,101,108,101,97,115,101]}))),(SV.v (.string ({data:=#[108,111,111,107]}))),(SV.v (.string ({data:=#[110,101,97,114]}))),(SV.v (.string ({data:=#[114,97,121]}))),(SV.v (.string ({data:=#[99,111,117,110,116]})))])):=by kernel_rfl
theorem vcRNames : (vcFn Try.prog noCtrs noΛ Try.f58 [] (heapOf []) 64 (fun y h' => FinE [] (.det none (.sl 1000 1 0 11 11) [(1000,nmB)]) y h')) = (((SV.sl 72 1 0 11 11) = (SV.sl 72 1 0 11 11))∧(((11 : Nat) = 11)∧(((11 : Nat) ≤ 11)∧(∀ i : Nat,(((i : Nat) < 11)→([(SV.v (.string (bop (Nat.beq i 0) {data:=#[]} (bop (Nat.beq i 1) {data:=#[115,112,97,119,110]} (bop (Nat.beq i 2) {data:=#[100,101,115,116,114,111,121]} (bop (Nat.beq i 3) {data:=#[112,117,115,104]} (bop (Nat.beq i 4) {data:=#[103,114,97,98]} (bop (Nat.beq i 5) {data:=#[100,114,97,103]} (bop (Nat.beq i 6) {data:=#[114,101,108,101,97,115,101]} (bop (Nat.beq i 7) {data:=#[108,111,111,107]} (bop (Nat.beq i 8) {data:=#[110,101,97,114]} (bop (Nat.beq i 9) {data:=#[114,97,121]} {data:=#[99,111,117,110,116]}))))))))))))] = [(SV.v (.string (List.getD (emp :: nmA) i emp)))])))))):=by kernel_rfl
noncomputable def ΛName (k : Int) : Nat → Option LoopSpec := addLoop noΛ Try.f16 0 Nat (fun i => i ≤ 10 ∧ ∀ j : Nat, j < i → (j : Int) + 1 ≠ k) (fun i => 10 - i) [(6, fun i => .v (.int .i64 i))] []
theorem vcName (k : Int) (R : SV→Prop) : (vcPure Try.prog ΓW0 (ΛName k) Try.f16 [.v (.int .i64 k)] R) = ((∃ x : Nat,((((x : Nat) ≤ 10)∧(∀ j : Nat,(((j : Nat) < x)→((((↑j : Int) + 1) : Int) ≠ k))))∧(((SV.v (.int .i64 0)) = (SV.v (.int .i64 ((↑x : Int)))))∧True)))∧(∀ x : Nat,((((x : Nat) ≤ 10)∧(∀ j : Nat,(((j : Nat) < x)→((((↑j : Int) + 1) : Int) ≠ k))))→(sel (decide ((↑x : Int) < 10)) ((((0 : Int) ≤ ((↑x : Int)))∧((((↑x : Int)) : Int) < 10))∧(sel (IntKind.wrap IntKind.i64 ((↑x : Int) + 1) == k) (R (SV.v (.string (bop (Nat.beq (Int.toNat (↑x : Int)) 0) {data:=#[115,112,97,119,110]} (bop (Nat.beq (Int.toNat (↑x : Int)) 1) {data:=#[100,101,115,116,114,111,121]} (bop (Nat.beq (Int.toNat (↑x : Int)) 2) {data:=#[112,117,115,104]} (bop (Nat.beq (Int.toNat (↑x : Int)) 3) {data:=#[103,114,97,98]} (bop (Nat.beq (Int.toNat (↑x : Int)) 4) {data:=#[100,114,97,103]} (bop (Nat.beq (Int.toNat (↑x : Int)) 5) {data:=#[114,101,108,101,97,115,101]} (bop (Nat.beq (Int.toNat (↑x : Int)) 6) {data:=#[108,111,111,107]} (bop (Nat.beq (Int.toNat (↑x : Int)) 7) {data:=#[110,101,97,114]} (bop (Nat.beq (Int.toNat (↑x : Int)) 8) {data:=#[114,97,121]} {data:=#[99,111,117,110,116]})))))))))))) (∃ x' : Nat,(((((x' : Nat) ≤ 10)∧(∀ j : Nat,(((j : Nat) < x')→((((↑j : Int) + 1) : Int) ≠ k))))∧(((SV.v (.int .i64 (IntKind.wrap IntKind.i64 ((↑x : Int) + 1)))) = (SV.v (.int .i64 ((↑x' : Int)))))∧True))∧(((10 - x') : Nat) < (10 - x)))))) (R (SV.v (.string ({data:=#[]})))))))):=by kernel_rfl
noncomputable def ΛKind (s : ByteArray) : Nat → Option LoopSpec := addLoop noΛ Try.f18 0 Nat (fun i => i ≤ 10 ∧ ∀ j, j < i → (nmG j == s) = false) (fun i => 10 - i) [(6, fun i => .v (.int .i64 i))] []
theorem vcKind (s : ByteArray) (R : SV→Prop) : (vcPure Try.prog ΓW0 (ΛKind s) Try.f18 [.v (.string s)] R) = ((∃ x : Nat,((((x : Nat) ≤ 10)∧(∀ j : Nat,(((j : Nat) < x)→((nmG j == s) = false))))∧(((SV.v (.int .i64 0)) = (SV.v (.int .i64 ((↑x : Int)))))∧True)))∧(∀ x : Nat,((((x : Nat) ≤ 10)∧(∀ j : Nat,(((j : Nat) < x)→((nmG j == s) = false))))→(sel (decide ((↑x : Int) < 10)) ((((0 : Int) ≤ ((↑x : Int)))∧((((↑x : Int)) : Int) < 10))∧(sel (bop (Nat.beq (Int.toNat (↑x : Int)) 0) {data:=#[115,112,97,119,110]} (bop (Nat.beq (Int.toNat (↑x : Int)) 1) {data:=#[100,101,115,116,114,111,121]} (bop (Nat.beq (Int.toNat (↑x : Int)) 2) {data:=#[112,117,115,104]} (bop (Nat.beq (Int.toNat (↑x : Int)) 3) {data:=#[103,114,97,98]} (bop (Nat.beq (Int.toNat (↑x : Int)) 4) {data:=#[100,114,97,103]} (bop (Nat.beq (Int.toNat (↑x : Int)) 5) {data:=#[114,101,108,101,97,115,101]} (bop (Nat.beq (Int.toNat (↑x : Int)) 6) {data:=#[108,111,111,107]} (bop (Nat.beq (Int.toNat (↑x : Int)) 7) {data:=#[110,101,97,114]} (bop (Nat.beq (Int.toNat (↑x : Int)) 8) {data:=#[114,97,121]} {data:=#[99,111,117,110,116]})))))))) == s) (R (SV.v (.int .i64 (IntKind.wrap IntKind.i64 ((↑x : Int) + 1))))) (∃ x' : Nat,(((((x' : Nat) ≤ 10)∧(∀ j : Nat,(((j : Nat) < x')→((nmG j == s) = false))))∧(((SV.v (.int .i64 (IntKind.wrap IntKind.i64 ((↑x : Int) + 1)))) = (SV.v (.int .i64 ((↑x' : Int)))))∧True))∧(((10 - x') : Nat) < (10 - x)))))) (R (SV.v (.int .i64 0))))))):=by kernel_rfl
def pk (x : Nat) : ByteArray := (bop (Nat.beq x 0) ⟨#[115, 112, 97, 119, 110]⟩ (bop (Nat.beq x 1) ⟨#[100, 101, 115, 116, 114, 111, 121]⟩ (bop (Nat.beq x 2) ⟨#[112, 117, 115, 104]⟩ (bop (Nat.beq x 3) ⟨#[103, 114, 97, 98]⟩ (bop (Nat.beq x 4) ⟨#[100, 114, 97, 103]⟩ (bop (Nat.beq x 5) ⟨#[114, 101, 108, 101, 97, 115, 101]⟩ (bop (Nat.beq x 6) ⟨#[108, 111, 111, 107]⟩ (bop (Nat.beq x 7) ⟨#[110, 101, 97, 114]⟩ (bop (Nat.beq x 8) ⟨#[114, 97, 121]⟩ ⟨#[99, 111, 117, 110, 116]⟩)))))))))
theorem pick_nm {x : Nat} (h : x < 10) : pk x = nmG x := by
  have : x = 0 ∨ x = 1 ∨ x = 2 ∨ x = 3 ∨ x = 4 ∨ x = 5 ∨ x = 6 ∨ x = 7 ∨ x = 8 ∨ x = 9 := by omega
  rcases this with rfl | rfl | rfl | rfl | rfl | rfl | rfl | rfl | rfl | rfl <;> rfl
def pk1 (x : Nat) : ByteArray := (bop (Nat.beq x 0) ⟨#[]⟩ (bop (Nat.beq x 1) ⟨#[115, 112, 97, 119, 110]⟩ (bop (Nat.beq x 2) ⟨#[100, 101, 115, 116, 114, 111, 121]⟩ (bop (Nat.beq x 3) ⟨#[112, 117, 115, 104]⟩ (bop (Nat.beq x 4) ⟨#[103, 114, 97, 98]⟩ (bop (Nat.beq x 5) ⟨#[100, 114, 97, 103]⟩ (bop (Nat.beq x 6) ⟨#[114, 101, 108, 101, 97, 115, 101]⟩ (bop (Nat.beq x 7) ⟨#[108, 111, 111, 107]⟩ (bop (Nat.beq x 8) ⟨#[110, 101, 97, 114]⟩ (bop (Nat.beq x 9) ⟨#[114, 97, 121]⟩ ⟨#[99, 111, 117, 110, 116]⟩))))))))))
theorem pick_nm1 {x : Nat} (h : x < 11) : pk1 x = (emp :: nmA).getD x emp := by
  have : x = 0 ∨ x = 1 ∨ x = 2 ∨ x = 3 ∨ x = 4 ∨ x = 5 ∨ x = 6 ∨ x = 7 ∨ x = 8 ∨ x = 9 ∨ x = 10 := by omega
  rcases this with rfl | rfl | rfl | rfl | rfl | rfl | rfl | rfl | rfl | rfl | rfl <;> rfl
theorem kindFrom_get {s : ByteArray} : ∀ {l : List ByteArray} {x : Nat} (i : Int), x < l.length → (∀ j, j < x → (l.getD j emp == s) = false) → (l.getD x emp == s) = true → kindFrom s l i = i + x
  | [], x, i, h, _, _ => by simp at h
  | b :: l, 0, i, _, _, h => by
    have h : (b == s) = true := by simpa using h
    simp [kindFrom, h]
  | b :: l, x + 1, i, hx, hn, h => by
    have h0 : (b == s) = false := by simpa using hn 0 (by omega)
    have := kindFrom_get (s := s) (l := l) (x := x) (i + 1) (by simpa using hx) (fun j hj => by simpa using hn (j + 1) (by omega)) (by simpa using h)
    simp only [kindFrom, h0, cond_false, this]
    omega
theorem kindFrom_none {s : ByteArray} : ∀ {l : List ByteArray} (i : Int), (∀ j, j < l.length → (l.getD j emp == s) = false) → kindFrom s l i = 0
  | [], i, _ => rfl
  | b :: l, i, hn => by
    have h0 : (b == s) = false := by simpa using hn 0 (by simp)
    simp only [kindFrom, h0, cond_false]
    exact kindFrom_none (i + 1) fun j hj => by simpa using hn (j + 1) (by simpa using hj)
theorem Names_spec : PureSpec Try.prog 57 sNames := vc_spec hm noCtrs_ok Try.func57 (Λ := fun _ => noΛ) fun args p x h hp => by
  unfold sNames at h
  split at h <;> try (cases h; done)
  cases h
  refine ⟨rfl, rfl, ?_⟩
  exact Eq.mpr (vcNames _) rfl
theorem RNames_spec : HpSpec Try.prog 58 sRNames := hp_spec hm noCtrs_ok Try.func58 (Λ := fun _ _ => noΛ) fun args bs e hs hp => by
  unfold sRNames at hs
  split at hs <;> try (cases hs; done)
  cases hs
  refine ⟨[], trivial, Eq.mpr vcRNames ?_⟩
  refine ⟨rfl, rfl, Nat.le_refl _, fun i hi => ?_⟩
  exact congrArg (fun b => [SV.v (.string b)]) (pick_nm1 hi)
theorem ΓW0_ok : ∀ f g, ΓW0 f = some g → g.ok Try.prog f := addCtr_ok (addCtr_ok noCtrs_ok (pure_ok Try.func57 (by kernel_rfl) (by kernel_rfl) Names_spec)) (hp_ok Try.func58 (by kernel_rfl) (by kernel_rfl) RNames_spec)
theorem nameK_in {k : Int} {x : Nat} (hx : x < 10) (h : (x : Int) + 1 = k) : nameK k = nmG x := by
  subst h
  unfold nameK
  rw [show (decide (1 ≤ (x : Int) + 1) && decide ((x : Int) + 1 ≤ 10)) = true by simp; omega, cond_true, show ((x : Int) + 1).toNat - 1 = x by omega]
theorem nameK_out {k : Int} (h : k < 1 ∨ 10 < k) : nameK k = emp := by
  unfold nameK
  rw [show (decide (1 ≤ k) && decide (k ≤ 10)) = false by simp; omega]
  rfl
theorem Name_spec : PureSpec Try.prog 16 sName := vc_spec hm ΓW0_ok Try.func16 (Λ := fun args => match args with | [.v (.int _ k)] => ΛName k | _ => noΛ) fun args p x h hp => by
  unfold sName at h
  split at h <;> try (cases h; done)
  rename_i k
  cases h
  have hk := hp _ rfl
  refine ⟨rfl, rfl, ?_⟩
  refine Eq.mpr (vcName k _) ⟨⟨0, ⟨by omega, fun j hj => by omega⟩, rfl, trivial⟩, fun x ⟨hx, hn⟩ => sel_of (fun hlt => ?_) fun hge => ?_⟩
  · have hlt : x < 10 := by have := of_decide_eq_true hlt; omega
    have hw : IntKind.i64.wrap ((x : Int) + 1) = x + 1 := wrap_i64 ⟨by omega, by omega⟩
    rw [hw]
    refine ⟨⟨by omega, by omega⟩, sel_of (fun he => ?_) fun he => ?_⟩
    · have he : (x : Int) + 1 = k := by simpa using he
      rw [nameK_in hlt he]
      exact congrArg (fun b => SV.v (.string b)) (pick_nm (x := Int.toNat (x : Int)) (by omega))
    · have he : (x : Int) + 1 ≠ k := by simpa using he
      refine ⟨x + 1, ⟨⟨hlt, fun j hj => ?_⟩, rfl, trivial⟩, by omega⟩
      by_cases h : j = x
      · rw [h]; exact he
      · exact hn j (by omega)
  · have hge : ¬ x < 10 := by have := of_decide_eq_false hge; omega
    rw [nameK_out]
    · rfl
    · have : x = 10 := by omega
      subst this
      by_cases h : 1 ≤ k ∧ k ≤ 10
      · exact absurd (show ((k.toNat - 1 : Nat) : Int) + 1 = k by omega) (hn (k.toNat - 1) (by omega))
      · omega
theorem Kind_spec : PureSpec Try.prog 18 sKind := vc_spec hm ΓW0_ok Try.func18 (Λ := fun args => match args with | [.v (.string s)] => ΛKind s | _ => noΛ) fun args p x h hp => by
  unfold sKind at h
  split at h <;> try (cases h; done)
  rename_i s
  cases h
  refine ⟨rfl, rfl, ?_⟩
  refine Eq.mpr (vcKind s _) ⟨⟨0, ⟨by omega, fun j hj => by omega⟩, rfl, trivial⟩, fun x ⟨hx, hn⟩ => sel_of (fun hlt => ?_) fun hge => ?_⟩
  · have hlt : x < 10 := by have := of_decide_eq_true hlt; omega
    have hw : IntKind.i64.wrap ((x : Int) + 1) = x + 1 := wrap_i64 ⟨by omega, by omega⟩
    rw [hw]
    have hp : pk (Int.toNat (x : Int)) = nmG x := pick_nm hlt
    refine ⟨⟨by omega, by omega⟩, sel_of (fun he => ?_) fun he => ?_⟩
    · have he : (pk (Int.toNat (x : Int)) == s) = true := he
      rw [hp] at he
      rw [show kindS s = 1 + (x : Int) from kindFrom_get (l := nmA) 1 hlt hn he, Int.add_comm]
    · have he : (pk (Int.toNat (x : Int)) == s) = false := he
      rw [hp] at he
      refine ⟨x + 1, ⟨⟨hlt, fun j hj => ?_⟩, rfl, trivial⟩, by omega⟩
      by_cases h : j = x
      · rw [h]; exact he
      · exact hn j (by omega)
  · have hge : ¬ x < 10 := by have := of_decide_eq_false hge; omega
    have : x = 10 := by omega
    subst this
    rw [show kindS s = 0 from kindFrom_none (l := nmA) 1 hn]
end Go.Proofs.Ytjdldadmaaeimaa
end

section
set_option maxRecDepth 100000
set_option linter.unusedSimpArgs false
set_option linter.unusedVariables false
namespace Go.Proofs.Ytjdldadmaaeimaa
open Go.SE Go.RowKit

def bG (n : Nat) (g : Nat → Int) (c : Nat) : Blk := { elem := 5, size := 1, rw := true, lock := false, lit := false, flat := true, n := n, row := fun i => [.v (.int .u8 (g i))], ext := c }
def bOk (b : Blk) : Bool := Nat.beq b.elem 5 && Nat.beq b.size 1 && b.rw && !b.dead && b.flat && !b.whole
def nilS : SV := .v (.slice none 0 0)
def wB (k : Option Bool) (fl : Bool) (a : SV) : Blk := match k with
  | none => { elem := 106, size := 1, rw := true, lock := false, lit := true, flat := fl, n := 1, row := fun _ => [a], ext := 1, whole := true }
  | some b => { elem := 127, size := 2, rw := true, lock := false, lit := true, flat := fl, n := 1, row := fun _ => [a, .v (.bool b)], ext := 1, whole := true }
def wOk (k : Option Bool) (fl : Bool) (b : Blk) : Bool := match k with
  | none => Nat.beq b.elem 106 && Nat.beq b.size 1 && b.rw && !b.dead && Nat.beq b.n 1 && Nat.beq b.ext 1 && b.whole && (b.flat == fl)
  | some _ => Nat.beq b.elem 127 && Nat.beq b.size 2 && b.rw && !b.dead && Nat.beq b.n 1 && Nat.beq b.ext 1 && b.whole && (b.flat == fl)
inductive WrS where
  | fresh (k : Option Bool)
  | used (k : Option Bool) (n : Nat) (g : Nat → Int) (c : Nat) (p : Prop)
def bytesOk (n c : Nat) (D : Blk) : Prop := D.n = n ∧ D.ext = c ∧ n < 70368744177664 ∧ ∀ i, i < n → isByte (D.row i)
def wrOf : List Blk → Option WrS
  | [B] => match B.row 0 with
    | [.v (.slice none 0 0)] => bif wOk none true B then some (.fresh none) else none
    | [.v (.slice none 0 0), .v (.bool b)] => bif wOk (some b) true B then some (.fresh (some b)) else none
    | _ => none
  | [B, D] => match B.row 0 with
    | [.sl 1 1 0 n c] => bif wOk none false B && bOk D then some (.used none n (fun i => SE.byteOf (D.row i)) c (bytesOk n c D)) else none
    | [.sl 1 1 0 n c, .v (.bool b)] => bif wOk (some b) false B && bOk D then some (.used (some b) n (fun i => SE.byteOf (D.row i)) c (bytesOk n c D)) else none
    | _ => none
  | _ => none
def orK (k : Option Bool) (b : Bool) : Option Bool := match k with
  | none => none
  | some x => some (x || b)
def apG (n : Nat) (g : Nat → Int) (L : List Int) : Nat → Int := fun i => bop (Nat.blt i n) (g i) (L.getD (i - n) 0)
def apE (w : WrS) (m : Nat) (q : Prop) (k : Nat) (L : List Int) (b : Bool) : Eff := match w with
  | .fresh kd => .nd q Nat 0 (fun _ => .tup []) fun c' => [(0, wB (orK kd b) false (.sl 1000 1 0 k (k + c'))), (1000, bG k (fun i => L.getD i 0) (k + c'))]
  | .used kd n g c p => .nd ((p ∧ n ≤ m) ∧ q) Nat 0 (fun _ => .tup []) fun c' => [(0, wB (orK kd b) false (.sl 1000 1 0 (n + k) (n + k + c'))), (1, killed (bG n g c)), (1000, bG (n + k) (apG n g L) (n + k + c'))]
def byteAt (n : Int) (k j : Nat) : Int := n / 2 ^ (8 * (k - 1 - j)) % 256
def beT (n : Int) (k i : Nat) : List Int := (List.range i).map (byteAt n k)
def be (n : Int) (k : Nat) : List Int := beT n k k
def kOk (k : Int) : Prop := k = 4 ∨ k = 8
def sPut (args : List SV) (bs : List Blk) : Option Eff := match args with
  | [.vp 0 0, .v (.int .u64 n), .v (.int .i64 k)] => match wrOf bs with
    | some w => some (apE w 1099511627776 (U64 n ∧ kOk k) k.toNat (be n k.toNat) false)
    | none => none
  | _ => none
structure PX where
  i : Nat
  c : Nat
noncomputable def ΛPut (kd : Option Bool) (n0 : Nat) (g : Nat → Int) (n : Int) (k : Nat) : Nat → Option LoopSpec := addLoopN noΛ Try.f94 0 PX (fun x => x.i ≤ k ∧ (x.i = 0 ∨ n0 + x.i ≤ x.c)) (fun x => k - x.i) [(8, fun x => .v (.int .i64 x.i))] [(0, fun x => wB kd false (.sl 40 1 0 (n0 + x.i) x.c))] [(40, fun x => bG (n0 + x.i) (apG n0 g (beT n k x.i)) x.c, inVar 0 0)]
theorem vcPut0 (n : Int) (k : Nat) : (vcFn Try.prog noCtrs (ΛPut none 0 (fun _ => 0) n k) Try.f94 [.vp 0 0,.v (.int .u64 n),.v (.int .i64 (k : Int))] (heapOf [wB none true nilS]) 64 (fun y h' => FinE [wB none true nilS] (apE (.fresh none) 0 True k (be n k) false) y h')) = ((∃ x : PX,(((((PX.i x) : Nat) ≤ k)∧(PX.i x = 0 ∨ 0 + PX.i x ≤ PX.c x))∧(((SV.v (.int .i64 0)) = (SV.v (.int .i64 ((↑(PX.i x) : Int)))))∧((((1 : Nat) = 1)∧(((1 : Nat) ≤ 1)∧(((SV.v (Value.slice none 0 0)) = (SV.v (Value.slice none 0 0)))∧(((0 : Nat) = 0)∧((((0 + PX.i x) : Nat) = 0)∧(((PX.c x) : Nat) = 0))))))∧(((((0 + PX.i x) : Nat) = 0)∧((((PX.c x) : Nat) = 0)∧True))∧True)))))∧(∀ x : PX,(((((PX.i x) : Nat) ≤ k)∧(PX.i x = 0 ∨ 0 + PX.i x ≤ PX.c x))→(sel (decide ((↑(PX.i x) : Int) < (↑k : Int))) (((0 : Int) ≤ (IntKind.wrap IntKind.u64 (IntKind.wrap IntKind.i64 (8 * IntKind.wrap IntKind.i64 (IntKind.wrap IntKind.i64 ((↑k : Int) - 1) - (↑(PX.i x) : Int))))))∧((((((0 + PX.i x + 1) * 1) : Nat) ≤ 140737488355328)∧((((0 + PX.c x) : Nat) ≤ (PX.c x))∧(∀ y : Nat,(((y : Nat) < 1)→True))))∧(∀ c : Nat,(∃ x' : PX,((((((PX.i x') : Nat) ≤ k)∧(PX.i x' = 0 ∨ 0 + PX.i x' ≤ PX.c x'))∧(((SV.v (.int .i64 (IntKind.wrap IntKind.i64 ((↑(PX.i x) : Int) + 1)))) = (SV.v (.int .i64 ((↑(PX.i x') : Int)))))∧((((1 : Nat) = 1)∧(((1 : Nat) ≤ 1)∧((SV.sl 224 1 0 (0 + PX.i x + 1) (0 + PX.i x + 1 + c)) = (SV.sl 224 1 0 (0 + PX.i x') (PX.c x')))))∧((((0 + PX.i x + 1) : Nat) = (0 + PX.i x'))∧((((PX.c x') : Nat) ≤ (0 + PX.i x + 1 + c))∧(∀ i : Nat,(((i : Nat) < (0 + PX.i x'))→([(SV.v (.int .u8 (bop (Nat.blt i (0 + PX.i x)) (apG 0 (fun x => 0) (beT n k (PX.i x)) (0 + i)) (IntKind.wrap IntKind.u8 (n / 2 ^ min (Int.toNat (IntKind.wrap IntKind.u64 (IntKind.wrap IntKind.i64 (8 * IntKind.wrap IntKind.i64 (IntKind.wrap IntKind.i64 ((↑k : Int) - 1) - (↑(PX.i x) : Int)))))) 64)))))] = [(SV.v (.int .u8 (apG 0 (fun x => 0) (beT n k (PX.i x')) i)))]))))))))∧(((k - PX.i x') : Nat) < (k - PX.i x))))))) (∃ c : Nat,(True∧((((1 : Nat) = 1)∧(((1 : Nat) ≤ 1)∧((SV.sl 40 1 0 (0 + PX.i x) (PX.c x)) = (SV.sl 40 1 0 k (k + c)))))∧((((0 + PX.i x) : Nat) = k)∧((((k + c) : Nat) ≤ (PX.c x))∧(∀ i : Nat,(((i : Nat) < k)→([(SV.v (.int .u8 (apG 0 (fun x => 0) (beT n k (PX.i x)) i)))] = [(SV.v (.int .u8 (List.getD (be n k) i 0)))])))))))))))):=by kernel_rfl
theorem vcPut2 (n0 : Nat) (g : Nat→Int) (c : Nat) (n : Int) (k : Nat) : (vcFn Try.prog noCtrs (ΛPut none n0 g n k) Try.f94 [.vp 0 0,.v (.int .u64 n),.v (.int .i64 (k : Int))] (heapOf [wB none false (.sl 1 1 0 n0 c),bG n0 g c]) 64 (fun y h' => FinE [wB none false (.sl 1 1 0 n0 c),bG n0 g c] (apE (.used none n0 g c True) 0 True k (be n k) false) y h')) = ((∃ x : PX,(((((PX.i x) : Nat) ≤ k)∧(PX.i x = 0 ∨ n0 + PX.i x ≤ PX.c x))∧(((SV.v (.int .i64 0)) = (SV.v (.int .i64 ((↑(PX.i x) : Int)))))∧((((1 : Nat) = 1)∧(((1 : Nat) ≤ 1)∧((SV.sl 1 1 0 n0 c) = (SV.sl 1 1 0 (n0 + PX.i x) (PX.c x)))))∧(((n0 : Nat) = (n0 + PX.i x))∧((((PX.c x) : Nat) ≤ c)∧(∀ i : Nat,(((i : Nat) < (n0 + PX.i x))→([(SV.v (.int .u8 (g i)))] = [(SV.v (.int .u8 (apG n0 g (beT n k (PX.i x)) i)))])))))))))∧(∀ x : PX,(((((PX.i x) : Nat) ≤ k)∧(PX.i x = 0 ∨ n0 + PX.i x ≤ PX.c x))→(sel (decide ((↑(PX.i x) : Int) < (↑k : Int))) (((0 : Int) ≤ (IntKind.wrap IntKind.u64 (IntKind.wrap IntKind.i64 (8 * IntKind.wrap IntKind.i64 (IntKind.wrap IntKind.i64 ((↑k : Int) - 1) - (↑(PX.i x) : Int))))))∧((((((n0 + PX.i x + 1) * 1) : Nat) ≤ 140737488355328)∧((((0 + PX.c x) : Nat) ≤ (PX.c x))∧(∀ y : Nat,(((y : Nat) < 1)→True))))∧(∀ c_1 : Nat,(∃ x' : PX,((((((PX.i x') : Nat) ≤ k)∧(PX.i x' = 0 ∨ n0 + PX.i x' ≤ PX.c x'))∧(((SV.v (.int .i64 (IntKind.wrap IntKind.i64 ((↑(PX.i x) : Int) + 1)))) = (SV.v (.int .i64 ((↑(PX.i x') : Int)))))∧((((1 : Nat) = 1)∧(((1 : Nat) ≤ 1)∧((SV.sl 224 1 0 (n0 + PX.i x + 1) (n0 + PX.i x + 1 + c_1)) = (SV.sl 224 1 0 (n0 + PX.i x') (PX.c x')))))∧((((n0 + PX.i x + 1) : Nat) = (n0 + PX.i x'))∧((((PX.c x') : Nat) ≤ (n0 + PX.i x + 1 + c_1))∧(∀ i : Nat,(((i : Nat) < (n0 + PX.i x'))→([(SV.v (.int .u8 (bop (Nat.blt i (n0 + PX.i x)) (apG n0 g (beT n k (PX.i x)) (0 + i)) (IntKind.wrap IntKind.u8 (n / 2 ^ min (Int.toNat (IntKind.wrap IntKind.u64 (IntKind.wrap IntKind.i64 (8 * IntKind.wrap IntKind.i64 (IntKind.wrap IntKind.i64 ((↑k : Int) - 1) - (↑(PX.i x) : Int)))))) 64)))))] = [(SV.v (.int .u8 (apG n0 g (beT n k (PX.i x')) i)))]))))))))∧(((k - PX.i x') : Nat) < (k - PX.i x))))))) (∃ c_1 : Nat,(True∧((((1 : Nat) = 1)∧(((1 : Nat) ≤ 1)∧((SV.sl 40 1 0 (n0 + PX.i x) (PX.c x)) = (SV.sl 40 1 0 (n0 + k) (n0 + k + c_1)))))∧((((n0 + PX.i x) : Nat) = (n0 + k))∧((((n0 + k + c_1) : Nat) ≤ (PX.c x))∧(∀ i : Nat,(((i : Nat) < (n0 + k))→([(SV.v (.int .u8 (apG n0 g (beT n k (PX.i x)) i)))] = [(SV.v (.int .u8 (apG n0 g (be n k) i)))])))))))))))):=by kernel_rfl
theorem vcPut3 (b : Bool) (n : Int) (k : Nat) : (vcFn Try.prog noCtrs (ΛPut (some b) 0 (fun _ => 0) n k) Try.f94 [.vp 0 0,.v (.int .u64 n),.v (.int .i64 (k : Int))] (heapOf [wB (some b) true nilS]) 64 (fun y h' => FinE [wB (some b) true nilS] (apE (.fresh (some b)) 0 True k (be n k) false) y h')) = ((∃ x : PX,(((((PX.i x) : Nat) ≤ k)∧(PX.i x = 0 ∨ 0 + PX.i x ≤ PX.c x))∧(((SV.v (.int .i64 0)) = (SV.v (.int .i64 ((↑(PX.i x) : Int)))))∧((((1 : Nat) = 1)∧(((1 : Nat) ≤ 1)∧((((SV.v (Value.slice none 0 0)) = (SV.v (Value.slice none 0 0)))∧(((0 : Nat) = 0)∧((((0 + PX.i x) : Nat) = 0)∧(((PX.c x) : Nat) = 0))))∧((SV.v (.bool b)) = (SV.v (.bool b))))))∧(((((0 + PX.i x) : Nat) = 0)∧((((PX.c x) : Nat) = 0)∧True))∧True)))))∧(∀ x : PX,(((((PX.i x) : Nat) ≤ k)∧(PX.i x = 0 ∨ 0 + PX.i x ≤ PX.c x))→(sel (decide ((↑(PX.i x) : Int) < (↑k : Int))) (((0 : Int) ≤ (IntKind.wrap IntKind.u64 (IntKind.wrap IntKind.i64 (8 * IntKind.wrap IntKind.i64 (IntKind.wrap IntKind.i64 ((↑k : Int) - 1) - (↑(PX.i x) : Int))))))∧((((((0 + PX.i x + 1) * 1) : Nat) ≤ 140737488355328)∧((((0 + PX.c x) : Nat) ≤ (PX.c x))∧(∀ y : Nat,(((y : Nat) < 1)→True))))∧(∀ c : Nat,(∃ x' : PX,((((((PX.i x') : Nat) ≤ k)∧(PX.i x' = 0 ∨ 0 + PX.i x' ≤ PX.c x'))∧(((SV.v (.int .i64 (IntKind.wrap IntKind.i64 ((↑(PX.i x) : Int) + 1)))) = (SV.v (.int .i64 ((↑(PX.i x') : Int)))))∧((((1 : Nat) = 1)∧(((1 : Nat) ≤ 1)∧(((SV.sl 224 1 0 (0 + PX.i x + 1) (0 + PX.i x + 1 + c)) = (SV.sl 224 1 0 (0 + PX.i x') (PX.c x')))∧((SV.v (.bool b)) = (SV.v (.bool b))))))∧((((0 + PX.i x + 1) : Nat) = (0 + PX.i x'))∧((((PX.c x') : Nat) ≤ (0 + PX.i x + 1 + c))∧(∀ i : Nat,(((i : Nat) < (0 + PX.i x'))→([(SV.v (.int .u8 (bop (Nat.blt i (0 + PX.i x)) (apG 0 (fun x => 0) (beT n k (PX.i x)) (0 + i)) (IntKind.wrap IntKind.u8 (n / 2 ^ min (Int.toNat (IntKind.wrap IntKind.u64 (IntKind.wrap IntKind.i64 (8 * IntKind.wrap IntKind.i64 (IntKind.wrap IntKind.i64 ((↑k : Int) - 1) - (↑(PX.i x) : Int)))))) 64)))))] = [(SV.v (.int .u8 (apG 0 (fun x => 0) (beT n k (PX.i x')) i)))]))))))))∧(((k - PX.i x') : Nat) < (k - PX.i x))))))) (∃ c : Nat,(True∧((((1 : Nat) = 1)∧(((1 : Nat) ≤ 1)∧(((SV.sl 40 1 0 (0 + PX.i x) (PX.c x)) = (SV.sl 40 1 0 k (k + c)))∧((SV.v (.bool b)) = (SV.v (.bool (b||false)))))))∧((((0 + PX.i x) : Nat) = k)∧((((k + c) : Nat) ≤ (PX.c x))∧(∀ i : Nat,(((i : Nat) < k)→([(SV.v (.int .u8 (apG 0 (fun x => 0) (beT n k (PX.i x)) i)))] = [(SV.v (.int .u8 (List.getD (be n k) i 0)))])))))))))))):=by kernel_rfl
theorem vcPut1 (b : Bool) (n0 : Nat) (g : Nat→Int) (c : Nat) (n : Int) (k : Nat) : (vcFn Try.prog noCtrs (ΛPut (some b) n0 g n k) Try.f94 [.vp 0 0,.v (.int .u64 n),.v (.int .i64 (k : Int))] (heapOf [wB (some b) false (.sl 1 1 0 n0 c),bG n0 g c]) 64 (fun y h' => FinE [wB (some b) false (.sl 1 1 0 n0 c),bG n0 g c] (apE (.used (some b) n0 g c True) 0 True k (be n k) false) y h')) = ((∃ x : PX,(((((PX.i x) : Nat) ≤ k)∧(PX.i x = 0 ∨ n0 + PX.i x ≤ PX.c x))∧(((SV.v (.int .i64 0)) = (SV.v (.int .i64 ((↑(PX.i x) : Int)))))∧((((1 : Nat) = 1)∧(((1 : Nat) ≤ 1)∧(((SV.sl 1 1 0 n0 c) = (SV.sl 1 1 0 (n0 + PX.i x) (PX.c x)))∧((SV.v (.bool b)) = (SV.v (.bool b))))))∧(((n0 : Nat) = (n0 + PX.i x))∧((((PX.c x) : Nat) ≤ c)∧(∀ i : Nat,(((i : Nat) < (n0 + PX.i x))→([(SV.v (.int .u8 (g i)))] = [(SV.v (.int .u8 (apG n0 g (beT n k (PX.i x)) i)))])))))))))∧(∀ x : PX,(((((PX.i x) : Nat) ≤ k)∧(PX.i x = 0 ∨ n0 + PX.i x ≤ PX.c x))→(sel (decide ((↑(PX.i x) : Int) < (↑k : Int))) (((0 : Int) ≤ (IntKind.wrap IntKind.u64 (IntKind.wrap IntKind.i64 (8 * IntKind.wrap IntKind.i64 (IntKind.wrap IntKind.i64 ((↑k : Int) - 1) - (↑(PX.i x) : Int))))))∧((((((n0 + PX.i x + 1) * 1) : Nat) ≤ 140737488355328)∧((((0 + PX.c x) : Nat) ≤ (PX.c x))∧(∀ y : Nat,(((y : Nat) < 1)→True))))∧(∀ c_1 : Nat,(∃ x' : PX,((((((PX.i x') : Nat) ≤ k)∧(PX.i x' = 0 ∨ n0 + PX.i x' ≤ PX.c x'))∧(((SV.v (.int .i64 (IntKind.wrap IntKind.i64 ((↑(PX.i x) : Int) + 1)))) = (SV.v (.int .i64 ((↑(PX.i x') : Int)))))∧((((1 : Nat) = 1)∧(((1 : Nat) ≤ 1)∧(((SV.sl 224 1 0 (n0 + PX.i x + 1) (n0 + PX.i x + 1 + c_1)) = (SV.sl 224 1 0 (n0 + PX.i x') (PX.c x')))∧((SV.v (.bool b)) = (SV.v (.bool b))))))∧((((n0 + PX.i x + 1) : Nat) = (n0 + PX.i x'))∧((((PX.c x') : Nat) ≤ (n0 + PX.i x + 1 + c_1))∧(∀ i : Nat,(((i : Nat) < (n0 + PX.i x'))→([(SV.v (.int .u8 (bop (Nat.blt i (n0 + PX.i x)) (apG n0 g (beT n k (PX.i x)) (0 + i)) (IntKind.wrap IntKind.u8 (n / 2 ^ min (Int.toNat (IntKind.wrap IntKind.u64 (IntKind.wrap IntKind.i64 (8 * IntKind.wrap IntKind.i64 (IntKind.wrap IntKind.i64 ((↑k : Int) - 1) - (↑(PX.i x) : Int)))))) 64)))))] = [(SV.v (.int .u8 (apG n0 g (beT n k (PX.i x')) i)))]))))))))∧(((k - PX.i x') : Nat) < (k - PX.i x))))))) (∃ c_1 : Nat,(True∧((((1 : Nat) = 1)∧(((1 : Nat) ≤ 1)∧(((SV.sl 40 1 0 (n0 + PX.i x) (PX.c x)) = (SV.sl 40 1 0 (n0 + k) (n0 + k + c_1)))∧((SV.v (.bool b)) = (SV.v (.bool (b||false)))))))∧((((n0 + PX.i x) : Nat) = (n0 + k))∧((((n0 + k + c_1) : Nat) ≤ (PX.c x))∧(∀ i : Nat,(((i : Nat) < (n0 + k))→([(SV.v (.int .u8 (apG n0 g (beT n k (PX.i x)) i)))] = [(SV.v (.int .u8 (apG n0 g (be n k) i)))])))))))))))):=by kernel_rfl
theorem isByte_row {r : List SV} (h : isByte r) : r = [.v (.int .u8 (SE.byteOf r))] := by
  unfold isByte at h
  split at h
  · rfl
  · exact h.elim
theorem same_bG {n c : Nat} {D : Blk} (h1 : bOk D = true) (h2 : bytesOk n c D) : BlkSame D (bG n (fun i => SE.byteOf (D.row i)) c) := by
  simp only [bOk, Bool.and_eq_true, Bool.not_eq_true'] at h1
  obtain ⟨⟨⟨⟨⟨a1, a2⟩, a3⟩, a4⟩, a5⟩, a6⟩ := h1
  obtain ⟨b1, b2, _, b4⟩ := h2
  exact ⟨Nat.eq_of_beq_eq_true a2, a3, a5, b1, b2, a4, Nat.eq_of_beq_eq_true a1, a6, fun i hi => isByte_row (b4 i (by omega))⟩
def wRow (k : Option Bool) (a : SV) : List SV := match k with
  | none => [a]
  | some b => [a, .v (.bool b)]
theorem same_wB {k : Option Bool} {fl : Bool} {a : SV} {B : Blk} (h1 : wOk k fl B = true) (h2 : B.row 0 = wRow k a) : BlkSame B (wB k fl a) := by
  cases k with
  | none =>
    simp only [wOk, Bool.and_eq_true, Bool.not_eq_true', beq_iff_eq] at h1
    obtain ⟨⟨⟨⟨⟨⟨⟨a1, a2⟩, a3⟩, a4⟩, a5⟩, a6⟩, a7⟩, a8⟩ := h1
    have hn := Nat.eq_of_beq_eq_true a5
    exact ⟨Nat.eq_of_beq_eq_true a2, a3, a8, hn, Nat.eq_of_beq_eq_true a6, a4, Nat.eq_of_beq_eq_true a1, a7, fun i hi => by
      have : i = 0 := by omega
      subst this
      exact h2⟩
  | some b =>
    simp only [wOk, Bool.and_eq_true, Bool.not_eq_true', beq_iff_eq] at h1
    obtain ⟨⟨⟨⟨⟨⟨⟨a1, a2⟩, a3⟩, a4⟩, a5⟩, a6⟩, a7⟩, a8⟩ := h1
    have hn := Nat.eq_of_beq_eq_true a5
    exact ⟨Nat.eq_of_beq_eq_true a2, a3, a8, hn, Nat.eq_of_beq_eq_true a6, a4, Nat.eq_of_beq_eq_true a1, a7, fun i hi => by
      have : i = 0 := by omega
      subst this
      exact h2⟩
theorem bif_some {b : Bool} {α : Type _} {x y : α} (h : (bif b then some x else none) = some y) : b = true ∧ x = y := by
  cases b with
  | true => cases h; exact ⟨rfl, rfl⟩
  | false => cases h
theorem wrOf_fresh {bs : List Blk} {k : Option Bool} (h : wrOf bs = some (.fresh k)) : blksSame bs [wB k true nilS] := by
  unfold wrOf at h
  split at h
  · rename_i B
    split at h <;> try (cases h; done)
    · rename_i hB
      obtain ⟨h1, h2⟩ := bif_some h
      cases h2
      exact ⟨same_wB h1 hB, trivial⟩
    · rename_i b hB
      obtain ⟨h1, h2⟩ := bif_some h
      cases h2
      exact ⟨same_wB h1 hB, trivial⟩
  · split at h <;> try (cases h; done)
    all_goals
      obtain ⟨_, h2⟩ := bif_some h
      cases h2
  · cases h
theorem wrOf_used {bs : List Blk} {k : Option Bool} {n : Nat} {g : Nat → Int} {c : Nat} {p : Prop} (h : wrOf bs = some (.used k n g c p)) (hp : p) : blksSame bs [wB k false (.sl 1 1 0 n c), bG n g c] ∧ n < 70368744177664 := by
  unfold wrOf at h
  split at h
  · split at h <;> try (cases h; done)
    all_goals
      obtain ⟨_, h2⟩ := bif_some h
      cases h2
  · rename_i B D
    split at h <;> try (cases h; done)
    · rename_i n c' hB
      obtain ⟨h1, h2⟩ := bif_some h
      cases h2
      rw [Bool.and_eq_true] at h1
      exact ⟨⟨same_wB h1.1 hB, same_bG h1.2 hp, trivial⟩, hp.2.2.1⟩
    · rename_i n c' b hB
      obtain ⟨h1, h2⟩ := bif_some h
      cases h2
      rw [Bool.and_eq_true] at h1
      exact ⟨⟨same_wB h1.1 hB, same_bG h1.2 hp, trivial⟩, hp.2.2.1⟩
  · cases h
theorem beT_succ (n : Int) (k i : Nat) : beT n k (i + 1) = beT n k i ++ [byteAt n k i] := by
  simp [beT, List.range_succ]
theorem beT_len (n : Int) (k i : Nat) : (beT n k i).length = i := by simp [beT]
theorem be_len (n : Int) (k : Nat) : (be n k).length = k := beT_len n k k
theorem blt_true {i m : Nat} (h : i < m) : Nat.blt i m = true := Nat.ble_eq_true_of_le h
theorem blt_false {i m : Nat} (h : ¬ i < m) : Nat.blt i m = false := by
  cases hb : Nat.blt i m with
  | false => rfl
  | true => exact absurd (Nat.le_of_ble_eq_true hb) h
theorem apG_old {n : Nat} {g : Nat → Int} {L : List Int} {i : Nat} (h : i < n) : apG n g L i = g i := by
  unfold apG; rw [blt_true h]; rfl
theorem apG_new {n : Nat} {g : Nat → Int} {L : List Int} {i : Nat} (h : ¬ i < n) : apG n g L i = L.getD (i - n) 0 := by
  unfold apG; rw [blt_false h]; rfl
theorem apG_ap {n m : Nat} {g : Nat → Int} {L M : List Int} (hm : m = n + L.length) (i : Nat) : apG m (apG n g L) M i = apG n g (L ++ M) i := by
  subst hm
  by_cases h : i < n
  · rw [apG_old (by omega), apG_old h, apG_old h]
  · rw [apG_new h]
    by_cases h2 : i < n + L.length
    · rw [apG_old h2, apG_new h]
      simp [List.getD, List.getElem?_append_left (show i - n < L.length by omega)]
    · rw [apG_new h2]
      simp [List.getD, List.getElem?_append_right (show L.length ≤ i - n by omega), Nat.sub_sub]
theorem put_byte {n : Int} {k i : Nat} (hk : k ≤ 8) (hi : i < k) : 0 ≤ IntKind.u64.wrap (IntKind.i64.wrap (8 * IntKind.i64.wrap (IntKind.i64.wrap ((k : Int) - 1) - (i : Int)))) ∧ IntKind.u8.wrap (n / 2 ^ min (Int.toNat (IntKind.u64.wrap (IntKind.i64.wrap (8 * IntKind.i64.wrap (IntKind.i64.wrap ((k : Int) - 1) - (i : Int)))))) 64) = byteAt n k i := by
  have e1 : IntKind.i64.wrap ((k : Int) - 1) = (k : Int) - 1 := wrap_i64 ⟨by omega, by omega⟩
  have e2 : IntKind.i64.wrap ((k : Int) - 1 - i) = (k : Int) - 1 - i := wrap_i64 ⟨by omega, by omega⟩
  have e3 : IntKind.i64.wrap (8 * ((k : Int) - 1 - i)) = 8 * ((k : Int) - 1 - i) := wrap_i64 ⟨by omega, by omega⟩
  rw [e1, e2, e3, wrap_u64, wrap_u8]
  refine ⟨by omega, ?_⟩
  unfold byteAt
  rw [show min (Int.toNat (8 * ((k : Int) - 1 - i) % 18446744073709551616)) 64 = 8 * (k - 1 - i) by omega]
theorem put_next (n0 : Nat) (g : Nat → Int) (n : Int) (k x i : Nat) (b : Int) (hi : i < n0 + (x + 1)) (hb : b = byteAt n k x) : bop (Nat.blt i (n0 + x)) (apG n0 g (beT n k x) (0 + i)) b = apG n0 g (beT n k (x + 1)) i := by
  rw [beT_succ, ← apG_ap (m := n0 + x) (by rw [beT_len]), hb, Nat.zero_add]
  by_cases h : i < n0 + x
  · rw [blt_true h, apG_old (n := n0 + x) h]; rfl
  · rw [blt_false h, apG_new h, show i - (n0 + x) = 0 by omega]; rfl
theorem Put_used (kd : Option Bool) (n0 : Nat) (g : Nat → Int) (c : Nat) (n : Int) (k : Nat) (hl : n0 ≤ 1099511627776) (hk : k ≤ 8) (h1 : 1 ≤ k) :
    vcFn Try.prog noCtrs (ΛPut kd n0 g n k) Try.f94 [.vp 0 0, .v (.int .u64 n), .v (.int .i64 (k : Int))] (heapOf [wB kd false (.sl 1 1 0 n0 c), bG n0 g c]) 64 (fun y h' => FinE [wB kd false (.sl 1 1 0 n0 c), bG n0 g c] (apE (.used kd n0 g c True) 0 True k (be n k) false) y h') := by
  cases kd with
  | none =>
    refine Eq.mpr (vcPut2 n0 g c n k) ⟨⟨⟨0, c⟩, ⟨Nat.zero_le _, .inl rfl⟩, rfl, ⟨rfl, Nat.le_refl _, rfl⟩, rfl, Nat.le_refl _, fun i hi => congrArg (fun z => [SV.v (.int .u8 z)]) (apG_old hi).symm⟩, fun x ⟨h2, h3⟩ => sel_of (fun hlt => ?_) fun hge => ?_⟩
    · have hlt := of_decide_eq_true hlt
      have hb := put_byte (n := n) hk (show x.i < k by omega)
      have hw : IntKind.i64.wrap ((x.i : Int) + 1) = ((x.i + 1 : Nat) : Int) := wrap_i64 ⟨by omega, by omega⟩
      refine ⟨hb.1, ⟨by omega, by omega, fun _ _ => trivial⟩, fun c' => ⟨⟨x.i + 1, n0 + x.i + 1 + c'⟩, ⟨⟨by show x.i + 1 ≤ k; omega, .inr (by show n0 + (x.i + 1) ≤ n0 + x.i + 1 + c'; omega)⟩, int_mk hw, ⟨rfl, Nat.le_refl _, rfl⟩, rfl, Nat.le_refl _, fun i hi => ?_⟩, by show k - (x.i + 1) < k - x.i; omega⟩⟩
      exact congrArg (fun z => [SV.v (.int .u8 z)]) (put_next n0 g n k x.i i _ hi hb.2)
    · have hge := of_decide_eq_false hge
      have hx : x.i = k := by omega
      rw [hx] at h3 ⊢
      have h3 : n0 + k ≤ x.c := by omega
      have he : n0 + k + (x.c - (n0 + k)) = x.c := by omega
      refine ⟨x.c - (n0 + k), trivial, ⟨rfl, Nat.le_refl _, by rw [he]⟩, rfl, by omega, fun i hi => rfl⟩
  | some b =>
    refine Eq.mpr (vcPut1 b n0 g c n k) ⟨⟨⟨0, c⟩, ⟨Nat.zero_le _, .inl rfl⟩, rfl, ⟨rfl, Nat.le_refl _, rfl, rfl⟩, rfl, Nat.le_refl _, fun i hi => congrArg (fun z => [SV.v (.int .u8 z)]) (apG_old hi).symm⟩, fun x ⟨h2, h3⟩ => sel_of (fun hlt => ?_) fun hge => ?_⟩
    · have hlt := of_decide_eq_true hlt
      have hb := put_byte (n := n) hk (show x.i < k by omega)
      have hw : IntKind.i64.wrap ((x.i : Int) + 1) = ((x.i + 1 : Nat) : Int) := wrap_i64 ⟨by omega, by omega⟩
      refine ⟨hb.1, ⟨by omega, by omega, fun _ _ => trivial⟩, fun c' => ⟨⟨x.i + 1, n0 + x.i + 1 + c'⟩, ⟨⟨by show x.i + 1 ≤ k; omega, .inr (by show n0 + (x.i + 1) ≤ n0 + x.i + 1 + c'; omega)⟩, int_mk hw, ⟨rfl, Nat.le_refl _, rfl, rfl⟩, rfl, Nat.le_refl _, fun i hi => ?_⟩, by show k - (x.i + 1) < k - x.i; omega⟩⟩
      exact congrArg (fun z => [SV.v (.int .u8 z)]) (put_next n0 g n k x.i i _ hi hb.2)
    · have hge := of_decide_eq_false hge
      have hx : x.i = k := by omega
      rw [hx] at h3 ⊢
      have h3 : n0 + k ≤ x.c := by omega
      have he : n0 + k + (x.c - (n0 + k)) = x.c := by omega
      refine ⟨x.c - (n0 + k), trivial, ⟨rfl, Nat.le_refl _, by rw [he], by rw [Bool.or_false]⟩, rfl, by omega, fun i hi => rfl⟩
theorem Put_fresh (kd : Option Bool) (n : Int) (k : Nat) (hk : k ≤ 8) (h1 : 1 ≤ k) :
    vcFn Try.prog noCtrs (ΛPut kd 0 (fun _ => 0) n k) Try.f94 [.vp 0 0, .v (.int .u64 n), .v (.int .i64 (k : Int))] (heapOf [wB kd true nilS]) 64 (fun y h' => FinE [wB kd true nilS] (apE (.fresh kd) 0 True k (be n k) false) y h') := by
  cases kd with
  | none =>
    refine Eq.mpr (vcPut0 n k) ⟨⟨⟨0, 0⟩, ⟨Nat.zero_le _, .inl rfl⟩, rfl, ⟨rfl, Nat.le_refl _, rfl, rfl, rfl, rfl⟩, ⟨rfl, rfl, trivial⟩, trivial⟩, fun x ⟨h2, h3⟩ => sel_of (fun hlt => ?_) fun hge => ?_⟩
    · have hlt := of_decide_eq_true hlt
      have hb := put_byte (n := n) hk (show x.i < k by omega)
      have hw : IntKind.i64.wrap ((x.i : Int) + 1) = ((x.i + 1 : Nat) : Int) := wrap_i64 ⟨by omega, by omega⟩
      refine ⟨hb.1, ⟨by omega, by omega, fun _ _ => trivial⟩, fun c' => ⟨⟨x.i + 1, 0 + x.i + 1 + c'⟩, ⟨⟨by show x.i + 1 ≤ k; omega, .inr (by show 0 + (x.i + 1) ≤ 0 + x.i + 1 + c'; omega)⟩, int_mk hw, ⟨rfl, Nat.le_refl _, rfl⟩, rfl, Nat.le_refl _, fun i hi => ?_⟩, by show k - (x.i + 1) < k - x.i; omega⟩⟩
      exact congrArg (fun z => [SV.v (.int .u8 z)]) (put_next 0 (fun _ => 0) n k x.i i _ hi hb.2)
    · have hge := of_decide_eq_false hge
      have hx : x.i = k := by omega
      rw [hx] at h3 ⊢
      have h3 : 0 + k ≤ x.c := by omega
      have he : k + (x.c - k) = x.c := by omega
      refine ⟨x.c - k, trivial, ⟨rfl, Nat.le_refl _, by rw [he, Nat.zero_add]⟩, Nat.zero_add k, by omega, fun i hi => ?_⟩
      exact congrArg (fun z => [SV.v (.int .u8 z)]) (apG_new (n := 0) (Nat.not_lt_zero i))
  | some b =>
    refine Eq.mpr (vcPut3 b n k) ⟨⟨⟨0, 0⟩, ⟨Nat.zero_le _, .inl rfl⟩, rfl, ⟨rfl, Nat.le_refl _, ⟨rfl, rfl, rfl, rfl⟩, rfl⟩, ⟨rfl, rfl, trivial⟩, trivial⟩, fun x ⟨h2, h3⟩ => sel_of (fun hlt => ?_) fun hge => ?_⟩
    · have hlt := of_decide_eq_true hlt
      have hb := put_byte (n := n) hk (show x.i < k by omega)
      have hw : IntKind.i64.wrap ((x.i : Int) + 1) = ((x.i + 1 : Nat) : Int) := wrap_i64 ⟨by omega, by omega⟩
      refine ⟨hb.1, ⟨by omega, by omega, fun _ _ => trivial⟩, fun c' => ⟨⟨x.i + 1, 0 + x.i + 1 + c'⟩, ⟨⟨by show x.i + 1 ≤ k; omega, .inr (by show 0 + (x.i + 1) ≤ 0 + x.i + 1 + c'; omega)⟩, int_mk hw, ⟨rfl, Nat.le_refl _, rfl, rfl⟩, rfl, Nat.le_refl _, fun i hi => ?_⟩, by show k - (x.i + 1) < k - x.i; omega⟩⟩
      exact congrArg (fun z => [SV.v (.int .u8 z)]) (put_next 0 (fun _ => 0) n k x.i i _ hi hb.2)
    · have hge := of_decide_eq_false hge
      have hx : x.i = k := by omega
      rw [hx] at h3 ⊢
      have h3 : 0 + k ≤ x.c := by omega
      have he : k + (x.c - k) = x.c := by omega
      refine ⟨x.c - k, trivial, ⟨rfl, Nat.le_refl _, by rw [he, Nat.zero_add], by rw [Bool.or_false]⟩, Nat.zero_add k, by omega, fun i hi => ?_⟩
      exact congrArg (fun z => [SV.v (.int .u8 z)]) (apG_new (n := 0) (Nat.not_lt_zero i))
theorem Put_spec : HpSpec Try.prog 94 sPut := hp_spec hm noCtrs_ok Try.func94 (Λ := fun args bs => match args, wrOf bs with | [_, .v (.int _ n), .v (.int _ k)], some (.fresh kd) => ΛPut kd 0 (fun _ => 0) n k.toNat | [_, .v (.int _ n), .v (.int _ k)], some (.used kd n0 g _ _) => ΛPut kd n0 g n k.toNat | _, _ => noΛ) fun args bs e hs hp => by
  unfold sPut at hs
  split at hs <;> try (cases hs; done)
  rename_i n k
  split at hs <;> try (cases hs; done)
  rename_i w hw
  cases hs
  cases w with
  | fresh kd =>
    obtain ⟨hn, hk⟩ : U64 n ∧ (k = 4 ∨ k = 8) := hp
    refine ⟨_, wrOf_fresh hw, ?_⟩
    rw [hw]
    obtain ⟨m, rfl⟩ : ∃ m : Nat, k = (m : Int) := ⟨k.toNat, by omega⟩
    exact Put_fresh kd n m (by omega) (by omega)
  | used kd n0 g c p =>
    obtain ⟨⟨hp, hl⟩, hn, hk⟩ : (p ∧ n0 ≤ 1099511627776) ∧ U64 n ∧ (k = 4 ∨ k = 8) := hp
    refine ⟨_, (wrOf_used hw hp).1, ?_⟩
    rw [hw]
    obtain ⟨m, rfl⟩ : ∃ m : Nat, k = (m : Int) := ⟨k.toNat, by omega⟩
    exact Put_used kd n0 g c n m hl (by omega) (by omega)
end Go.Proofs.Ytjdldadmaaeimaa
end

section
set_option maxRecDepth 100000
set_option linter.unusedSimpArgs false
set_option linter.unusedVariables false
namespace Go.Proofs.Ytjdldadmaaeimaa
open Go.SE Go.RowKit

structure Arms where
  fb : Bool := false
  fw : Bool := false
  ub : Bool := false
  uw : Bool := true
def Arms.has (a : Arms) : WrS → Bool
  | .fresh none => a.fb
  | .fresh (some _) => a.fw
  | .used none _ _ _ _ => a.ub
  | .used (some _) _ _ _ _ => a.uw
def sApp (a : Arms) (m : Nat) (f : List SV → Option (Prop × Nat × List Int × Bool)) (args : List SV) (bs : List Blk) : Option Eff := match args with
  | .vp 0 0 :: rest => match f rest with
    | some (q, k, L, b) => match wrOf bs with
      | some w => bif a.has w then some (apE w m q k L b) else none
      | none => none
    | none => none
  | _ => none
def fB (k : Option Bool) : List Blk := [wB k true nilS]
def uB (k : Option Bool) (n : Nat) (g : Nat → Int) (c : Nat) : List Blk := [wB k false (.sl 1 1 0 n c), bG n g c]
def sNeed (args : List SV) (bs : List Blk) : Option Eff := match args with
  | [.vp 0 0, .v (.bool ok)] => match wrOf bs with
    | some (.fresh (some b)) => some (.det none (.tup []) [(0, wB (some (b || !ok)) true nilS)])
    | some (.used (some b) n g c p) => some (.det (some p) (.tup []) [(0, wB (some (b || !ok)) false (.sl 1 1 0 n c)), (1, bG n g c)])
    | _ => none
  | _ => none
def fOctet : List SV → Option (Prop × Nat × List Int × Bool)
  | [.v (.int .i64 n)] => some (I64 n, 1, [n % 256], false)
  | _ => none
def fWord : List SV → Option (Prop × Nat × List Int × Bool)
  | [.v (.int .i64 n)] => some (I64 n, 4, be (n % 4294967296) 4, false)
  | _ => none
def fInteger : List SV → Option (Prop × Nat × List Int × Bool)
  | [.v (.int .i64 n)] => some (I64 n, 8, be (n % 18446744073709551616) 8, false)
  | _ => none
def fFlag : List SV → Option (Prop × Nat × List Int × Bool)
  | [.v (.bool b)] => some (True, 1, [bif b then 1 else 0], false)
  | _ => none
def notIn (n most : Int) : Bool := !(decide (0 ≤ n) && decide (n ≤ most))
def fSmall : List SV → Option (Prop × Nat × List Int × Bool)
  | [.v (.int .i64 n), .v (.int .i64 most)] => some (I64 n, 1, [n % 256], notIn n most)
  | _ => none
def fCount : List SV → Option (Prop × Nat × List Int × Bool)
  | [.v (.int .i64 n)] => some (I64 n, 4, be (n % 4294967296) 4, notIn n 2147483647)
  | _ => none
def fVersion : List SV → Option (Prop × Nat × List Int × Bool)
  | [.v (.int .i64 n)] => some (I64 n, 8, be (n % 18446744073709551616) 8, notIn n 1099511627776)
  | _ => none
def M0 : Nat := 1099511627776
def aOctet : Arms := { fw := true }
def aWord : Arms := { fb := true }
def sOctet := sApp aOctet M0 fOctet
def sWord := sApp aWord M0 fWord
def sInteger := sApp {} M0 fInteger
def sFlag := sApp {} M0 fFlag
def sSmall := sApp aOctet M0 fSmall
def sCount := sApp {} M0 fCount
def sVersion := sApp {} M0 fVersion
def ΓC0 : Ctrs := addCtr noCtrs 94 (hpCtr true sPut)
def ΓC1 : Ctrs := addCtr (addCtr (addCtr (addCtr ΓC0 95 (hpCtr true sOctet)) 59 (hpCtr true sWord)) 101 (hpCtr true sInteger)) 134 (hpCtr true sNeed)
theorem vcOctet0 (b : Bool) (n : Int) : (vcFn Try.prog noCtrs noΛ Try.f95 [.vp 0 0,.v (.int .i64 n)] (heapOf (fB (some b))) 64 (fun y h' => FinE (fB (some b)) (apE (.fresh (some b)) 0 True 1 [n % 256] false) y h')) = (((1 : Nat) ≤ 140737488355328)∧(∀ c : Nat,(∃ c_1 : Nat,(True∧((((1 : Nat) = 1)∧(((1 : Nat) ≤ 1)∧(((SV.sl 128 1 0 1 (1 + c)) = (SV.sl 128 1 0 1 (1 + c_1)))∧((SV.v (.bool b)) = (SV.v (.bool (b||false)))))))∧(((1 : Nat) = 1)∧((((1 + c_1) : Nat) ≤ (1 + c))∧(∀ i : Nat,(((i : Nat) < 1)→([(SV.v (.int .u8 (IntKind.wrap IntKind.u8 n)))] = [(SV.v (.int .u8 (List.getD [n % 256] i 0)))])))))))))):=by kernel_rfl
theorem vcOctet1 (b : Bool) (n0 : Nat) (g : Nat→Int) (c : Nat) (n : Int) : (vcFn Try.prog noCtrs noΛ Try.f95 [.vp 0 0,.v (.int .i64 n)] (heapOf (uB (some b) n0 g c)) 64 (fun y h' => FinE (uB (some b) n0 g c) (apE (.used (some b) n0 g c True) 0 True 1 [n % 256] false) y h')) = ((((((n0 + 1) * 1) : Nat) ≤ 140737488355328)∧((((0 + c) : Nat) ≤ c)∧(∀ y : Nat,(((y : Nat) < 1)→True))))∧(∀ c_1 : Nat,(∃ c_2 : Nat,(True∧((((1 : Nat) = 1)∧(((1 : Nat) ≤ 1)∧(((SV.sl 128 1 0 (n0 + 1) (n0 + 1 + c_1)) = (SV.sl 128 1 0 (n0 + 1) (n0 + 1 + c_2)))∧((SV.v (.bool b)) = (SV.v (.bool (b||false)))))))∧((((n0 + 1) : Nat) = (n0 + 1))∧((((n0 + 1 + c_2) : Nat) ≤ (n0 + 1 + c_1))∧(∀ i : Nat,(((i : Nat) < (n0 + 1))→([(SV.v (.int .u8 (bop (Nat.blt i n0) (g (0 + i)) (IntKind.wrap IntKind.u8 n))))] = [(SV.v (.int .u8 (apG n0 g [n % 256] i)))])))))))))):=by kernel_rfl
theorem vcWord0 (n : Int) : (vcFn Try.prog ΓC0 noΛ Try.f59 [.vp 0 0,.v (.int .i64 n)] (heapOf (fB none)) 64 (fun y h' => FinE (fB none) (apE (.fresh none) 0 True 4 (be (n % 4294967296) 4) false) y h')) = (((U64 (IntKind.wrap IntKind.u64 (IntKind.wrap IntKind.u32 n)))∧(kOk 4))∧(∀ c : Nat,(∃ c_1 : Nat,(True∧((((1 : Nat) = 1)∧(((1 : Nat) ≤ 1)∧((SV.sl 96 1 0 4 (4 + c)) = (SV.sl 96 1 0 4 (4 + c_1)))))∧(((4 : Nat) = 4)∧((((4 + c_1) : Nat) ≤ (4 + c))∧(∀ i : Nat,(((i : Nat) < 4)→([(SV.v (.int .u8 (List.getD (be (IntKind.wrap IntKind.u64 (IntKind.wrap IntKind.u32 n)) 4) i 0)))] = [(SV.v (.int .u8 (List.getD (be (n % 4294967296) 4) i 0)))])))))))))):=by kernel_rfl
theorem vcWord1 (b : Bool) (n0 : Nat) (g : Nat→Int) (c : Nat) (n : Int) : (vcFn Try.prog ΓC0 noΛ Try.f59 [.vp 0 0,.v (.int .i64 n)] (heapOf (uB (some b) n0 g c)) 64 (fun y h' => FinE (uB (some b) n0 g c) (apE (.used (some b) n0 g c True) 0 True 4 (be (n % 4294967296) 4) false) y h')) = ((((bytesOk n0 c {elem:=5,size:=1,rw:=true,lock:=false,lit:=false,flat:=true,n:=n0,row:=fun i => [SV.v (.int .u8 (g i))],ext:=c})∧((n0 : Nat) ≤ 1099511627776))∧((U64 (IntKind.wrap IntKind.u64 (IntKind.wrap IntKind.u32 n)))∧(kOk 4)))∧(∀ c_1 : Nat,(∃ c_2 : Nat,(True∧((((1 : Nat) = 1)∧(((1 : Nat) ≤ 1)∧(((SV.sl 96 1 0 (n0 + 4) (n0 + 4 + c_1)) = (SV.sl 96 1 0 (n0 + 4) (n0 + 4 + c_2)))∧((SV.v (.bool (b||false))) = (SV.v (.bool (b||false)))))))∧((((n0 + 4) : Nat) = (n0 + 4))∧((((n0 + 4 + c_2) : Nat) ≤ (n0 + 4 + c_1))∧(∀ i : Nat,(((i : Nat) < (n0 + 4))→([(SV.v (.int .u8 (apG n0 (fun i => SE.byteOf [SV.v (.int .u8 (g i))]) (be (IntKind.wrap IntKind.u64 (IntKind.wrap IntKind.u32 n)) 4) i)))] = [(SV.v (.int .u8 (apG n0 g (be (n % 4294967296) 4) i)))])))))))))):=by kernel_rfl
theorem vcInteger1 (b : Bool) (n0 : Nat) (g : Nat→Int) (c : Nat) (n : Int) : (vcFn Try.prog ΓC0 noΛ Try.f101 [.vp 0 0,.v (.int .i64 n)] (heapOf (uB (some b) n0 g c)) 64 (fun y h' => FinE (uB (some b) n0 g c) (apE (.used (some b) n0 g c True) 0 True 8 (be (n % 18446744073709551616) 8) false) y h')) = ((((bytesOk n0 c {elem:=5,size:=1,rw:=true,lock:=false,lit:=false,flat:=true,n:=n0,row:=fun i => [SV.v (.int .u8 (g i))],ext:=c})∧((n0 : Nat) ≤ 1099511627776))∧((U64 (IntKind.wrap IntKind.u64 n))∧(kOk 8)))∧(∀ c_1 : Nat,(∃ c_2 : Nat,(True∧((((1 : Nat) = 1)∧(((1 : Nat) ≤ 1)∧(((SV.sl 88 1 0 (n0 + 8) (n0 + 8 + c_1)) = (SV.sl 88 1 0 (n0 + 8) (n0 + 8 + c_2)))∧((SV.v (.bool (b||false))) = (SV.v (.bool (b||false)))))))∧((((n0 + 8) : Nat) = (n0 + 8))∧((((n0 + 8 + c_2) : Nat) ≤ (n0 + 8 + c_1))∧(∀ i : Nat,(((i : Nat) < (n0 + 8))→([(SV.v (.int .u8 (apG n0 (fun i => SE.byteOf [SV.v (.int .u8 (g i))]) (be (IntKind.wrap IntKind.u64 n) 8) i)))] = [(SV.v (.int .u8 (apG n0 g (be (n % 18446744073709551616) 8) i)))])))))))))):=by kernel_rfl
theorem vcNeed0 (b ok : Bool) : (vcFn Try.prog noCtrs noΛ Try.f134 [.vp 0 0,.v (.bool ok)] (heapOf (fB (some b))) 64 (fun y h' => FinE (fB (some b)) (.det none (.tup []) [(0,wB (some (b||!ok)) true nilS)]) y h')) = (sel (!ok) (True∧(((1 : Nat) = 1)∧(((1 : Nat) ≤ 1)∧(∀ i : Nat,(((i : Nat) < 1)→([(SV.v (Value.slice none 0 0)),(SV.v (.bool true))] = [(SV.v (Value.slice none 0 0)),(SV.v (.bool (b||!ok)))])))))) (True∧(((1 : Nat) = 1)∧(((1 : Nat) ≤ 1)∧(∀ i : Nat,(((i : Nat) < 1)→([(SV.v (Value.slice none 0 0)),(SV.v (.bool b))] = [(SV.v (Value.slice none 0 0)),(SV.v (.bool (b||!ok)))]))))))):=by kernel_rfl
theorem vcNeed1 (b ok : Bool) (n0 : Nat) (g : Nat→Int) (c : Nat) : (vcFn Try.prog noCtrs noΛ Try.f134 [.vp 0 0,.v (.bool ok)] (heapOf (uB (some b) n0 g c)) 64 (fun y h' => FinE (uB (some b) n0 g c) (.det none (.tup []) [(0,wB (some (b||!ok)) false (.sl 1 1 0 n0 c)),(1,bG n0 g c)]) y h')) = (sel (!ok) (True∧((((1 : Nat) = 1)∧(((1 : Nat) ≤ 1)∧(((SV.sl 1 1 0 n0 c) = (SV.sl 1 1 0 n0 c))∧((SV.v (.bool true)) = (SV.v (.bool (b||!ok)))))))∧(((n0 : Nat) = n0)∧(((c : Nat) ≤ c)∧(∀ i : Nat,(((i : Nat) < n0)→([(SV.v (.int .u8 (g i)))] = [(SV.v (.int .u8 (g i)))]))))))) (True∧((((1 : Nat) = 1)∧(((1 : Nat) ≤ 1)∧(((SV.sl 1 1 0 n0 c) = (SV.sl 1 1 0 n0 c))∧((SV.v (.bool b)) = (SV.v (.bool (b||!ok)))))))∧(((n0 : Nat) = n0)∧(((c : Nat) ≤ c)∧(∀ i : Nat,(((i : Nat) < n0)→([(SV.v (.int .u8 (g i)))] = [(SV.v (.int .u8 (g i)))])))))))):=by kernel_rfl
theorem vcFlag1 (b : Bool) (n0 : Nat) (g : Nat→Int) (c : Nat) (x : Bool) : (vcFn Try.prog ΓC1 noΛ Try.f102 [.vp 0 0,.v (.bool x)] (heapOf (uB (some b) n0 g c)) 64 (fun y h' => FinE (uB (some b) n0 g c) (apE (.used (some b) n0 g c True) 0 True 1 [bif x then 1 else 0] false) y h')) = (sel x ((((bytesOk n0 c {elem:=5,size:=1,rw:=true,lock:=false,lit:=false,flat:=true,n:=n0,row:=fun i => [SV.v (.int .u8 (g i))],ext:=c})∧((n0 : Nat) ≤ M0))∧(I64 1))∧(∀ c_1 : Nat,(∃ c_2 : Nat,(True∧((((1 : Nat) = 1)∧(((1 : Nat) ≤ 1)∧(((SV.sl 120 1 0 (n0 + 1) (n0 + 1 + c_1)) = (SV.sl 120 1 0 (n0 + 1) (n0 + 1 + c_2)))∧((SV.v (.bool (b||false))) = (SV.v (.bool (b||false)))))))∧((((n0 + 1) : Nat) = (n0 + 1))∧((((n0 + 1 + c_2) : Nat) ≤ (n0 + 1 + c_1))∧(∀ i : Nat,(((i : Nat) < (n0 + 1))→([(SV.v (.int .u8 (apG n0 (fun i => SE.byteOf [SV.v (.int .u8 (g i))]) [1] i)))] = [(SV.v (.int .u8 (apG n0 g [bif x then 1 else 0] i)))])))))))))) ((((bytesOk n0 c {elem:=5,size:=1,rw:=true,lock:=false,lit:=false,flat:=true,n:=n0,row:=fun i => [SV.v (.int .u8 (g i))],ext:=c})∧((n0 : Nat) ≤ M0))∧(I64 0))∧(∀ c_1 : Nat,(∃ c_2 : Nat,(True∧((((1 : Nat) = 1)∧(((1 : Nat) ≤ 1)∧(((SV.sl 120 1 0 (n0 + 1) (n0 + 1 + c_1)) = (SV.sl 120 1 0 (n0 + 1) (n0 + 1 + c_2)))∧((SV.v (.bool (b||false))) = (SV.v (.bool (b||false)))))))∧((((n0 + 1) : Nat) = (n0 + 1))∧((((n0 + 1 + c_2) : Nat) ≤ (n0 + 1 + c_1))∧(∀ i : Nat,(((i : Nat) < (n0 + 1))→([(SV.v (.int .u8 (apG n0 (fun i => SE.byteOf [SV.v (.int .u8 (g i))]) [0] i)))] = [(SV.v (.int .u8 (apG n0 g [bif x then 1 else 0] i)))]))))))))))):=by kernel_rfl
theorem vcSmall0 (b : Bool) (n most : Int) : (vcFn Try.prog ΓC1 noΛ Try.f118 [.vp 0 0,.v (.int .i64 n),.v (.int .i64 most)] (heapOf (fB (some b))) 64 (fun y h' => FinE (fB (some b)) (apE (.fresh (some b)) 0 True 1 [n % 256] (notIn n most)) y h')) = (sel (decide (n ≥ 0)) ((I64 n)∧(∀ c : Nat,(∃ c_1 : Nat,(True∧((((1 : Nat) = 1)∧(((1 : Nat) ≤ 1)∧(((SV.sl 168 1 0 1 (1 + c)) = (SV.sl 168 1 0 1 (1 + c_1)))∧((SV.v (.bool (b||!decide (n ≤ most)||false))) = (SV.v (.bool (b||notIn n most)))))))∧(((1 : Nat) = 1)∧((((1 + c_1) : Nat) ≤ (1 + c))∧(∀ i : Nat,(((i : Nat) < 1)→([(SV.v (.int .u8 (List.getD [n % 256] i 0)))] = [(SV.v (.int .u8 (List.getD [n % 256] i 0)))])))))))))) ((I64 n)∧(∀ c : Nat,(∃ c_1 : Nat,(True∧((((1 : Nat) = 1)∧(((1 : Nat) ≤ 1)∧(((SV.sl 168 1 0 1 (1 + c)) = (SV.sl 168 1 0 1 (1 + c_1)))∧((SV.v (.bool (b||true||false))) = (SV.v (.bool (b||notIn n most)))))))∧(((1 : Nat) = 1)∧((((1 + c_1) : Nat) ≤ (1 + c))∧(∀ i : Nat,(((i : Nat) < 1)→([(SV.v (.int .u8 (List.getD [n % 256] i 0)))] = [(SV.v (.int .u8 (List.getD [n % 256] i 0)))]))))))))))):=by kernel_rfl
theorem vcSmall1 (b : Bool) (n0 : Nat) (g : Nat→Int) (c : Nat) (n most : Int) : (vcFn Try.prog ΓC1 noΛ Try.f118 [.vp 0 0,.v (.int .i64 n),.v (.int .i64 most)] (heapOf (uB (some b) n0 g c)) 64 (fun y h' => FinE (uB (some b) n0 g c) (apE (.used (some b) n0 g c True) 0 True 1 [n % 256] (notIn n most)) y h')) = (sel (decide (n ≥ 0)) ((bytesOk n0 c {elem:=5,size:=1,rw:=true,lock:=false,lit:=false,flat:=true,n:=n0,row:=fun i => [SV.v (.int .u8 (g i))],ext:=c})∧((((bytesOk n0 c {elem:=5,size:=1,rw:=true,lock:=false,lit:=false,flat:=true,n:=n0,row:=fun i => [SV.v (.int .u8 ((fun i => SE.byteOf [SV.v (.int .u8 (g i))]) i))],ext:=c})∧((n0 : Nat) ≤ M0))∧(I64 n))∧(∀ c_1 : Nat,(∃ c_2 : Nat,(True∧((((1 : Nat) = 1)∧(((1 : Nat) ≤ 1)∧(((SV.sl 168 1 0 (n0 + 1) (n0 + 1 + c_1)) = (SV.sl 168 1 0 (n0 + 1) (n0 + 1 + c_2)))∧((SV.v (.bool (b||!decide (n ≤ most)||false))) = (SV.v (.bool (b||notIn n most)))))))∧((((n0 + 1) : Nat) = (n0 + 1))∧((((n0 + 1 + c_2) : Nat) ≤ (n0 + 1 + c_1))∧(∀ i : Nat,(((i : Nat) < (n0 + 1))→([(SV.v (.int .u8 (apG n0 (fun i => SE.byteOf [SV.v (.int .u8 ((fun i => SE.byteOf [SV.v (.int .u8 (g i))]) i))]) [n % 256] i)))] = [(SV.v (.int .u8 (apG n0 g [n % 256] i)))]))))))))))) ((bytesOk n0 c {elem:=5,size:=1,rw:=true,lock:=false,lit:=false,flat:=true,n:=n0,row:=fun i => [SV.v (.int .u8 (g i))],ext:=c})∧((((bytesOk n0 c {elem:=5,size:=1,rw:=true,lock:=false,lit:=false,flat:=true,n:=n0,row:=fun i => [SV.v (.int .u8 ((fun i => SE.byteOf [SV.v (.int .u8 (g i))]) i))],ext:=c})∧((n0 : Nat) ≤ M0))∧(I64 n))∧(∀ c_1 : Nat,(∃ c_2 : Nat,(True∧((((1 : Nat) = 1)∧(((1 : Nat) ≤ 1)∧(((SV.sl 168 1 0 (n0 + 1) (n0 + 1 + c_1)) = (SV.sl 168 1 0 (n0 + 1) (n0 + 1 + c_2)))∧((SV.v (.bool (b||true||false))) = (SV.v (.bool (b||notIn n most)))))))∧((((n0 + 1) : Nat) = (n0 + 1))∧((((n0 + 1 + c_2) : Nat) ≤ (n0 + 1 + c_1))∧(∀ i : Nat,(((i : Nat) < (n0 + 1))→([(SV.v (.int .u8 (apG n0 (fun i => SE.byteOf [SV.v (.int .u8 ((fun i => SE.byteOf [SV.v (.int .u8 (g i))]) i))]) [n % 256] i)))] = [(SV.v (.int .u8 (apG n0 g [n % 256] i)))])))))))))))):=by kernel_rfl
theorem vcCount1 (b : Bool) (n0 : Nat) (g : Nat→Int) (c : Nat) (n : Int) : (vcFn Try.prog ΓC1 noΛ Try.f96 [.vp 0 0,.v (.int .i64 n)] (heapOf (uB (some b) n0 g c)) 64 (fun y h' => FinE (uB (some b) n0 g c) (apE (.used (some b) n0 g c True) 0 True 4 (be (n % 4294967296) 4) (notIn n 2147483647)) y h')) = (sel (decide (n ≥ 0)) ((bytesOk n0 c {elem:=5,size:=1,rw:=true,lock:=false,lit:=false,flat:=true,n:=n0,row:=fun i => [SV.v (.int .u8 (g i))],ext:=c})∧((((bytesOk n0 c {elem:=5,size:=1,rw:=true,lock:=false,lit:=false,flat:=true,n:=n0,row:=fun i => [SV.v (.int .u8 ((fun i => SE.byteOf [SV.v (.int .u8 (g i))]) i))],ext:=c})∧((n0 : Nat) ≤ M0))∧(I64 n))∧(∀ c_1 : Nat,(∃ c_2 : Nat,(True∧((((1 : Nat) = 1)∧(((1 : Nat) ≤ 1)∧(((SV.sl 160 1 0 (n0 + 4) (n0 + 4 + c_1)) = (SV.sl 160 1 0 (n0 + 4) (n0 + 4 + c_2)))∧((SV.v (.bool (b||!decide (n ≤ 2147483647)||false))) = (SV.v (.bool (b||notIn n 2147483647)))))))∧((((n0 + 4) : Nat) = (n0 + 4))∧((((n0 + 4 + c_2) : Nat) ≤ (n0 + 4 + c_1))∧(∀ i : Nat,(((i : Nat) < (n0 + 4))→([(SV.v (.int .u8 (apG n0 (fun i => SE.byteOf [SV.v (.int .u8 ((fun i => SE.byteOf [SV.v (.int .u8 (g i))]) i))]) (be (n % 4294967296) 4) i)))] = [(SV.v (.int .u8 (apG n0 g (be (n % 4294967296) 4) i)))]))))))))))) ((bytesOk n0 c {elem:=5,size:=1,rw:=true,lock:=false,lit:=false,flat:=true,n:=n0,row:=fun i => [SV.v (.int .u8 (g i))],ext:=c})∧((((bytesOk n0 c {elem:=5,size:=1,rw:=true,lock:=false,lit:=false,flat:=true,n:=n0,row:=fun i => [SV.v (.int .u8 ((fun i => SE.byteOf [SV.v (.int .u8 (g i))]) i))],ext:=c})∧((n0 : Nat) ≤ M0))∧(I64 n))∧(∀ c_1 : Nat,(∃ c_2 : Nat,(True∧((((1 : Nat) = 1)∧(((1 : Nat) ≤ 1)∧(((SV.sl 160 1 0 (n0 + 4) (n0 + 4 + c_1)) = (SV.sl 160 1 0 (n0 + 4) (n0 + 4 + c_2)))∧((SV.v (.bool (b||true||false))) = (SV.v (.bool (b||notIn n 2147483647)))))))∧((((n0 + 4) : Nat) = (n0 + 4))∧((((n0 + 4 + c_2) : Nat) ≤ (n0 + 4 + c_1))∧(∀ i : Nat,(((i : Nat) < (n0 + 4))→([(SV.v (.int .u8 (apG n0 (fun i => SE.byteOf [SV.v (.int .u8 ((fun i => SE.byteOf [SV.v (.int .u8 (g i))]) i))]) (be (n % 4294967296) 4) i)))] = [(SV.v (.int .u8 (apG n0 g (be (n % 4294967296) 4) i)))])))))))))))):=by kernel_rfl
theorem vcVersion1 (b : Bool) (n0 : Nat) (g : Nat→Int) (c : Nat) (n : Int) : (vcFn Try.prog ΓC1 noΛ Try.f104 [.vp 0 0,.v (.int .i64 n)] (heapOf (uB (some b) n0 g c)) 64 (fun y h' => FinE (uB (some b) n0 g c) (apE (.used (some b) n0 g c True) 0 True 8 (be (n % 18446744073709551616) 8) (notIn n 1099511627776)) y h')) = (sel (decide (n ≥ 0)) ((bytesOk n0 c {elem:=5,size:=1,rw:=true,lock:=false,lit:=false,flat:=true,n:=n0,row:=fun i => [SV.v (.int .u8 (g i))],ext:=c})∧((((bytesOk n0 c {elem:=5,size:=1,rw:=true,lock:=false,lit:=false,flat:=true,n:=n0,row:=fun i => [SV.v (.int .u8 ((fun i => SE.byteOf [SV.v (.int .u8 (g i))]) i))],ext:=c})∧((n0 : Nat) ≤ M0))∧(I64 n))∧(∀ c_1 : Nat,(∃ c_2 : Nat,(True∧((((1 : Nat) = 1)∧(((1 : Nat) ≤ 1)∧(((SV.sl 160 1 0 (n0 + 8) (n0 + 8 + c_1)) = (SV.sl 160 1 0 (n0 + 8) (n0 + 8 + c_2)))∧((SV.v (.bool (b||!decide (n ≤ 1099511627776)||false))) = (SV.v (.bool (b||notIn n 1099511627776)))))))∧((((n0 + 8) : Nat) = (n0 + 8))∧((((n0 + 8 + c_2) : Nat) ≤ (n0 + 8 + c_1))∧(∀ i : Nat,(((i : Nat) < (n0 + 8))→([(SV.v (.int .u8 (apG n0 (fun i => SE.byteOf [SV.v (.int .u8 ((fun i => SE.byteOf [SV.v (.int .u8 (g i))]) i))]) (be (n % 18446744073709551616) 8) i)))] = [(SV.v (.int .u8 (apG n0 g (be (n % 18446744073709551616) 8) i)))]))))))))))) ((bytesOk n0 c {elem:=5,size:=1,rw:=true,lock:=false,lit:=false,flat:=true,n:=n0,row:=fun i => [SV.v (.int .u8 (g i))],ext:=c})∧((((bytesOk n0 c {elem:=5,size:=1,rw:=true,lock:=false,lit:=false,flat:=true,n:=n0,row:=fun i => [SV.v (.int .u8 ((fun i => SE.byteOf [SV.v (.int .u8 (g i))]) i))],ext:=c})∧((n0 : Nat) ≤ M0))∧(I64 n))∧(∀ c_1 : Nat,(∃ c_2 : Nat,(True∧((((1 : Nat) = 1)∧(((1 : Nat) ≤ 1)∧(((SV.sl 160 1 0 (n0 + 8) (n0 + 8 + c_1)) = (SV.sl 160 1 0 (n0 + 8) (n0 + 8 + c_2)))∧((SV.v (.bool (b||true||false))) = (SV.v (.bool (b||notIn n 1099511627776)))))))∧((((n0 + 8) : Nat) = (n0 + 8))∧((((n0 + 8 + c_2) : Nat) ≤ (n0 + 8 + c_1))∧(∀ i : Nat,(((i : Nat) < (n0 + 8))→([(SV.v (.int .u8 (apG n0 (fun i => SE.byteOf [SV.v (.int .u8 ((fun i => SE.byteOf [SV.v (.int .u8 (g i))]) i))]) (be (n % 18446744073709551616) 8) i)))] = [(SV.v (.int .u8 (apG n0 g (be (n % 18446744073709551616) 8) i)))])))))))))))):=by kernel_rfl
theorem app_spec {Γ : Ctrs} (hΓ : ∀ f g, Γ f = some g → g.ok Try.prog f) {f : FuncId} {fn : Func} (hf : Try.prog.funcs[f]? = some fn) {a : Arms} {m : Nat} {F : List SV → Option (Prop × Nat × List Int × Bool)} {Λ0 : List SV → Option Bool → Nat → Option LoopSpec} {Λ1 : List SV → Option Bool → Nat → (Nat → Int) → Nat → Nat → Option LoopSpec}
    (h0 : ∀ rest q k L b kd, F rest = some (q, k, L, b) → q → a.has (.fresh kd) = true → vcFn Try.prog Γ (Λ0 rest kd) fn (.vp 0 0 :: rest) (heapOf (fB kd)) 64 (fun y h' => FinE (fB kd) (apE (.fresh kd) 0 True k L b) y h'))
    (h1 : ∀ rest q k L b kd n g c, F rest = some (q, k, L, b) → q → a.has (.used kd n g c True) = true → n ≤ m → n < 70368744177664 → vcFn Try.prog Γ (Λ1 rest kd n g c) fn (.vp 0 0 :: rest) (heapOf (uB kd n g c)) 64 (fun y h' => FinE (uB kd n g c) (apE (.used kd n g c True) 0 True k L b) y h')) :
    HpSpec Try.prog f (sApp a m F) := hp_spec hm hΓ hf (Λ := fun args bs => match args with
      | _ :: rest => match wrOf bs with
        | some (.fresh kd) => Λ0 rest kd
        | some (.used kd n g c _) => Λ1 rest kd n g c
        | none => noΛ
      | _ => noΛ) fun args bs e hs hp => by
  unfold sApp at hs
  split at hs <;> try (cases hs; done)
  rename_i rest
  split at hs <;> try (cases hs; done)
  rename_i q k L b hF
  split at hs <;> try (cases hs; done)
  rename_i w hw
  obtain ⟨ha, he⟩ := bif_some hs
  subst he
  cases w with
  | fresh kd =>
    refine ⟨_, wrOf_fresh hw, ?_⟩
    simp only [hw]
    exact h0 rest q k L b kd hF hp ha
  | used kd n g c p =>
    obtain ⟨⟨hp, hl⟩, hq⟩ : (p ∧ n ≤ m) ∧ q := hp
    refine ⟨_, (wrOf_used hw hp).1, ?_⟩
    simp only [hw]
    refine h1 rest q k L b kd n g c hF hq ?_ hl (wrOf_used hw hp).2
    cases kd <;> exact ha
theorem bytesOk_bG (n : Nat) (g : Nat → Int) (c : Nat) (h : n < 70368744177664) : bytesOk n c { elem := 5, size := 1, rw := true, lock := false, lit := false, flat := true, n := n, row := fun i => [SV.v (.int .u8 (g i))], ext := c } :=
  ⟨rfl, rfl, h, fun _ _ => trivial⟩
theorem u8_one (x : Int) (i : Nat) (hi : i < 1) : [SV.v (.int .u8 x)] = [SV.v (.int .u8 ([x].getD i 0))] := by
  have : i = 0 := by omega
  subst this; rfl
theorem tailU {a N M c : Nat} {b b' : Bool} {G G' : Nat → Int} (hN : N = M) (hb : b = b') (hG : ∀ i, i < M → G i = G' i) : ∃ c', True ∧ ((1 = 1 ∧ 1 ≤ 1 ∧ SV.sl a 1 0 N (N + c) = SV.sl a 1 0 M (M + c') ∧ SV.v (.bool b) = SV.v (.bool b')) ∧ N = M ∧ M + c' ≤ N + c ∧ ∀ i, i < M → [SV.v (.int .u8 (G i))] = [SV.v (.int .u8 (G' i))]) := by
  subst hN; subst hb
  exact ⟨c, trivial, ⟨rfl, Nat.le_refl _, rfl, rfl⟩, rfl, Nat.le_refl _, fun i hi => by rw [hG i hi]⟩
theorem tailN {a N M c : Nat} {G G' : Nat → Int} (hN : N = M) (hG : ∀ i, i < M → G i = G' i) : ∃ c', True ∧ ((1 = 1 ∧ 1 ≤ 1 ∧ SV.sl a 1 0 N (N + c) = SV.sl a 1 0 M (M + c')) ∧ N = M ∧ M + c' ≤ N + c ∧ ∀ i, i < M → [SV.v (.int .u8 (G i))] = [SV.v (.int .u8 (G' i))]) := by
  subst hN
  exact ⟨c, trivial, ⟨rfl, Nat.le_refl _, rfl⟩, rfl, Nat.le_refl _, fun i hi => by rw [hG i hi]⟩
theorem ap_one (n0 : Nat) (g : Nat → Int) (x y : Int) (hxy : x = y) (i : Nat) (hi : i < n0 + 1) : bop (Nat.blt i n0) (g (0 + i)) x = apG n0 g [y] i := by
  subst hxy
  rw [Nat.zero_add]
  by_cases h : i < n0
  · rw [blt_true h, apG_old h]; rfl
  · rw [blt_false h, apG_new h, show i - n0 = 0 by omega]; rfl
theorem u8_of (n : Int) : IntKind.u8.wrap n = n % 256 := wrap_u8 n
theorem w4_of (n : Int) : IntKind.u64.wrap (IntKind.u32.wrap n) = n % 4294967296 := by rw [wrap_u64, wrap_u32]; omega
theorem Octet_spec : HpSpec Try.prog 95 sOctet := app_spec noCtrs_ok Try.func95 (Λ0 := fun _ _ => noΛ) (Λ1 := fun _ _ _ _ _ => noΛ)
  (fun rest q k L b kd h hq ha => by
  unfold fOctet at h
  split at h <;> try (cases h; done)
  cases kd with
  | none => cases ha
  | some bd =>
    rename_i n
    cases h
    exact Eq.mpr (vcOctet0 bd n) ⟨by omega, fun c' => tailU rfl (Bool.or_false _).symm fun i hi => by
      have : i = 0 := by omega
      subst this
      exact u8_of n⟩)
  (fun rest q k L b kd n0 g c h hq ha hm hn => by
  unfold fOctet at h
  split at h <;> try (cases h; done)
  cases kd with
  | none => cases ha
  | some bd =>
    rename_i n
    cases h
    have hm : n0 ≤ 1099511627776 := hm
    exact Eq.mpr (vcOctet1 bd n0 g c n) ⟨⟨by omega, by omega, fun _ _ => trivial⟩, fun c' => tailU rfl (Bool.or_false _).symm fun i hi => ap_one n0 g _ _ (u8_of n) i hi⟩)
theorem ΓC0_ok : ∀ f g, ΓC0 f = some g → g.ok Try.prog f := addCtr_ok noCtrs_ok (hp_ok Try.func94 (by kernel_rfl) (by kernel_rfl) Put_spec)
theorem Word_spec : HpSpec Try.prog 59 sWord := app_spec ΓC0_ok Try.func59 (Λ0 := fun _ _ => noΛ) (Λ1 := fun _ _ _ _ _ => noΛ)
  (fun rest q k L b kd h hq ha => by
  unfold fWord at h
  split at h <;> try (cases h; done)
  cases kd with
  | none => 
    rename_i n
    cases h
    refine Eq.mpr (vcWord0 n) ?_
    rw [w4_of]
    exact ⟨⟨⟨by omega, by omega⟩, .inl rfl⟩, fun c' => tailN rfl fun i hi => rfl⟩
  | some bd => cases ha)
  (fun rest q k L b kd n0 g c h hq ha hm hn => by
  unfold fWord at h
  split at h <;> try (cases h; done)
  cases kd with
  | none => cases ha
  | some bd => 
    rename_i n
    cases h
    refine Eq.mpr (vcWord1 bd n0 g c n) ?_
    rw [w4_of]
    exact ⟨⟨⟨bytesOk_bG n0 g c hn, hm⟩, ⟨by omega, by omega⟩, .inl rfl⟩, fun c' => tailU rfl rfl fun i hi => rfl⟩)
theorem Integer_spec : HpSpec Try.prog 101 sInteger := app_spec ΓC0_ok Try.func101 (Λ0 := fun _ _ => noΛ) (Λ1 := fun _ _ _ _ _ => noΛ)
  (fun rest q k L b kd h hq ha => by
  unfold fInteger at h
  split at h <;> try (cases h; done)
  cases kd with
  | none => cases ha
  | some bd => cases ha)
  (fun rest q k L b kd n0 g c h hq ha hm hn => by
  unfold fInteger at h
  split at h <;> try (cases h; done)
  cases kd with
  | none => cases ha
  | some bd => 
    rename_i n
    cases h
    refine Eq.mpr (vcInteger1 bd n0 g c n) ?_
    rw [wrap_u64]
    exact ⟨⟨⟨bytesOk_bG n0 g c hn, hm⟩, ⟨by omega, by omega⟩, .inr rfl⟩, fun c' => tailU rfl rfl fun i hi => rfl⟩)
theorem Need_spec : HpSpec Try.prog 134 sNeed := hp_spec hm noCtrs_ok Try.func134 (Λ := fun _ _ => noΛ) fun args bs e hs hp => by
  unfold sNeed at hs
  split at hs <;> try (cases hs; done)
  rename_i ok
  split at hs <;> try (cases hs; done)
  · rename_i b hw
    cases hs
    refine ⟨_, wrOf_fresh hw, Eq.mpr (vcNeed0 b ok) (sel_of (fun h => ?_) fun h => ?_)⟩
    · rw [h, Bool.or_true]; exact ⟨trivial, rfl, Nat.le_refl _, fun _ _ => rfl⟩
    · rw [h, Bool.or_false]; exact ⟨trivial, rfl, Nat.le_refl _, fun _ _ => rfl⟩
  · rename_i b n0 g c p hw
    cases hs
    refine ⟨_, (wrOf_used hw (hp _ rfl)).1, Eq.mpr (vcNeed1 b ok n0 g c) (sel_of (fun h => ?_) fun h => ?_)⟩
    · rw [h, Bool.or_true]; exact ⟨trivial, ⟨rfl, Nat.le_refl _, rfl, rfl⟩, rfl, Nat.le_refl _, fun _ _ => rfl⟩
    · rw [h, Bool.or_false]; exact ⟨trivial, ⟨rfl, Nat.le_refl _, rfl, rfl⟩, rfl, Nat.le_refl _, fun _ _ => rfl⟩
theorem ΓC1_ok : ∀ f g, ΓC1 f = some g → g.ok Try.prog f := addCtr_ok (addCtr_ok (addCtr_ok (addCtr_ok ΓC0_ok (hp_ok Try.func95 (by kernel_rfl) (by kernel_rfl) Octet_spec)) (hp_ok Try.func59 (by kernel_rfl) (by kernel_rfl) Word_spec)) (hp_ok Try.func101 (by kernel_rfl) (by kernel_rfl) Integer_spec)) (hp_ok Try.func134 (by kernel_rfl) (by kernel_rfl) Need_spec)
theorem Flag_spec : HpSpec Try.prog 102 sFlag := app_spec ΓC1_ok Try.func102 (Λ0 := fun _ _ => noΛ) (Λ1 := fun _ _ _ _ _ => noΛ)
  (fun rest q k L b kd h hq ha => by
  unfold fFlag at h
  split at h <;> try (cases h; done)
  cases kd with
  | none => cases ha
  | some bd => cases ha)
  (fun rest q k L b kd n0 g c h hq ha hm hn => by
  unfold fFlag at h
  split at h <;> try (cases h; done)
  cases kd with
  | none => cases ha
  | some bd => 
    rename_i x
    cases h
    refine Eq.mpr (vcFlag1 bd n0 g c x) (sel_of (fun h => ?_) fun h => ?_)
    · rw [h]; exact ⟨⟨⟨bytesOk_bG n0 g c hn, hm⟩, ⟨by omega, by omega⟩⟩, fun c' => tailU rfl rfl fun i hi => rfl⟩
    · rw [h]; exact ⟨⟨⟨bytesOk_bG n0 g c hn, hm⟩, ⟨by omega, by omega⟩⟩, fun c' => tailU rfl rfl fun i hi => rfl⟩)
theorem notIn_lo {n most : Int} (h : decide (n ≥ 0) = true) (b : Bool) : (b || !decide (n ≤ most) || false) = (b || notIn n most) := by
  unfold notIn
  rw [show decide (0 ≤ n) = true from h, Bool.true_and, Bool.or_false]
theorem notIn_no {n most : Int} (h : decide (n ≥ 0) = false) (b : Bool) : (b || true || false) = (b || notIn n most) := by
  unfold notIn
  rw [show decide (0 ≤ n) = false from h]; simp
theorem Small_spec : HpSpec Try.prog 118 sSmall := app_spec ΓC1_ok Try.func118 (Λ0 := fun _ _ => noΛ) (Λ1 := fun _ _ _ _ _ => noΛ)
  (fun rest q k L b kd h hq ha => by
  unfold fSmall at h
  split at h <;> try (cases h; done)
  cases kd with
  | none => cases ha
  | some bd => 
    rename_i n most
    cases h
    refine Eq.mpr (vcSmall0 bd n most) (sel_of (fun h => ?_) fun h => ?_)
    · exact ⟨hq, fun c' => tailU rfl (notIn_lo h bd) fun i hi => rfl⟩
    · exact ⟨hq, fun c' => tailU rfl (notIn_no h bd) fun i hi => rfl⟩)
  (fun rest q k L b kd n0 g c h hq ha hm hn => by
  unfold fSmall at h
  split at h <;> try (cases h; done)
  cases kd with
  | none => cases ha
  | some bd => 
    rename_i n most
    cases h
    refine Eq.mpr (vcSmall1 bd n0 g c n most) (sel_of (fun h => ?_) fun h => ?_)
    · exact ⟨bytesOk_bG n0 g c hn, ⟨⟨bytesOk_bG n0 g c hn, hm⟩, hq⟩, fun c' => tailU rfl (notIn_lo h bd) fun i hi => rfl⟩
    · exact ⟨bytesOk_bG n0 g c hn, ⟨⟨bytesOk_bG n0 g c hn, hm⟩, hq⟩, fun c' => tailU rfl (notIn_no h bd) fun i hi => rfl⟩)
theorem Count_spec : HpSpec Try.prog 96 sCount := app_spec ΓC1_ok Try.func96 (Λ0 := fun _ _ => noΛ) (Λ1 := fun _ _ _ _ _ => noΛ)
  (fun rest q k L b kd h hq ha => by
  unfold fCount at h
  split at h <;> try (cases h; done)
  cases kd with
  | none => cases ha
  | some bd => cases ha)
  (fun rest q k L b kd n0 g c h hq ha hm hn => by
  unfold fCount at h
  split at h <;> try (cases h; done)
  cases kd with
  | none => cases ha
  | some bd => 
    rename_i n
    cases h
    refine Eq.mpr (vcCount1 bd n0 g c n) (sel_of (fun h => ?_) fun h => ?_)
    · exact ⟨bytesOk_bG n0 g c hn, ⟨⟨bytesOk_bG n0 g c hn, hm⟩, hq⟩, fun c' => tailU rfl (notIn_lo h bd) fun i hi => rfl⟩
    · exact ⟨bytesOk_bG n0 g c hn, ⟨⟨bytesOk_bG n0 g c hn, hm⟩, hq⟩, fun c' => tailU rfl (notIn_no h bd) fun i hi => rfl⟩)
theorem Version_spec : HpSpec Try.prog 104 sVersion := app_spec ΓC1_ok Try.func104 (Λ0 := fun _ _ => noΛ) (Λ1 := fun _ _ _ _ _ => noΛ)
  (fun rest q k L b kd h hq ha => by
  unfold fVersion at h
  split at h <;> try (cases h; done)
  cases kd with
  | none => cases ha
  | some bd => cases ha)
  (fun rest q k L b kd n0 g c h hq ha hm hn => by
  unfold fVersion at h
  split at h <;> try (cases h; done)
  cases kd with
  | none => cases ha
  | some bd => 
    rename_i n
    cases h
    refine Eq.mpr (vcVersion1 bd n0 g c n) (sel_of (fun h => ?_) fun h => ?_)
    · exact ⟨bytesOk_bG n0 g c hn, ⟨⟨bytesOk_bG n0 g c hn, hm⟩, hq⟩, fun c' => tailU rfl (notIn_lo h bd) fun i hi => rfl⟩
    · exact ⟨bytesOk_bG n0 g c hn, ⟨⟨bytesOk_bG n0 g c hn, hm⟩, hq⟩, fun c' => tailU rfl (notIn_no h bd) fun i hi => rfl⟩)
end Go.Proofs.Ytjdldadmaaeimaa
end

section
set_option maxRecDepth 100000
set_option linter.unusedSimpArgs false
set_option linter.unusedVariables false
namespace Go.Proofs.Ytjdldadmaaeimaa
open Go.SE Go.RowKit

def byt (s : ByteArray) : List Int := s.data.toList.map fun b => (b.toNat : Int)
theorem byt_len (s : ByteArray) : (byt s).length = s.size := by unfold byt; rw [List.length_map]; exact Array.length_toList
theorem byt_inj {s t : ByteArray} (h : byt s = byt t) : s = t := by
  have e : ∀ l m : List UInt8, l.map (fun b => (b.toNat : Int)) = m.map (fun b => (b.toNat : Int)) → l = m := by
    intro l
    induction l with
    | nil => intro m hm; cases m with | nil => rfl | cons _ _ => simp at hm
    | cons a l ih =>
      intro m hm
      cases m with
      | nil => simp at hm
      | cons b m =>
        simp only [List.map_cons, List.cons.injEq] at hm
        rw [ih m hm.2, UInt8.toNat_inj.1 (by omega : a.toNat = b.toNat)]
  obtain ⟨⟨l⟩⟩ := s
  obtain ⟨⟨m⟩⟩ := t
  rw [e l m h]
theorem byt_str {l : List Int} (h : ∀ x ∈ l, 0 ≤ x ∧ x < 256) : byt (strOfNums l) = l := by
  unfold byt strOfNums
  simp only [List.map_map]
  conv => rhs; rw [← List.map_id l]
  refine List.map_congr_left fun x hx => ?_
  obtain ⟨h0, h1⟩ := h x hx
  simp only [Function.comp, id_eq, UInt8.toNat_ofNat']
  omega
theorem byt_range (s : ByteArray) : ∀ x ∈ byt s, 0 ≤ x ∧ x < 256 := fun x hx => by
  unfold byt at hx
  obtain ⟨b, _, rfl⟩ := List.mem_map.1 hx
  have := b.toNat_lt
  omega
theorem str_byt (s : ByteArray) : strOfNums (byt s) = s := byt_inj (byt_str (byt_range s))
theorem byt_get (s : ByteArray) (i : Nat) : ((s.data.toList.getD i 0).toNat : Int) = (byt s).getD i 0 := by
  unfold byt
  simp only [List.getD, List.getElem?_map]
  cases s.data.toList[i]? <;> rfl
theorem str_append (l r : List Int) : strOfNums l ++ strOfNums r = strOfNums (l ++ r) := by
  unfold strOfNums
  apply ByteArray.ext
  rw [ByteArray.data_append]
  simp

theorem size_str (l : List Int) : (strOfNums l).size = l.length := by simp [strOfNums, ByteArray.size]
theorem str_nil : strOfNums [] = emp := rfl
theorem app_emp (s : ByteArray) : s ++ emp = s := by
  apply ByteArray.ext
  rw [ByteArray.data_append]
  simp [emp]
theorem emp_app (s : ByteArray) : emp ++ s = s := by
  apply ByteArray.ext
  rw [ByteArray.data_append]
  simp [emp]
theorem app_assoc (s t u : ByteArray) : s ++ t ++ u = s ++ (t ++ u) := by
  apply ByteArray.ext
  simp [ByteArray.data_append]
theorem str_app2 (s : ByteArray) (l r : List Int) : s ++ strOfNums l ++ strOfNums r = s ++ strOfNums (l ++ r) := by rw [app_assoc, str_append]
theorem size_app (s t : ByteArray) : (s ++ t).size = s.size + t.size := by simp
def lstG (n : Nat) (g : Nat → Int) : List Int := (List.range n).map g
theorem lstG_len (n : Nat) (g : Nat → Int) : (lstG n g).length = n := by simp [lstG]
theorem lstG_congr {n : Nat} {g h : Nat → Int} (e : ∀ i, i < n → g i = h i) : lstG n g = lstG n h := by
  unfold lstG
  exact List.map_congr_left fun i hi => e i (List.mem_range.1 hi)
theorem lstG_ap (n : Nat) (g : Nat → Int) (L : List Int) : lstG (n + L.length) (apG n g L) = lstG n g ++ L := by
  apply List.ext_getElem
  · simp [lstG_len]
  · intro i h1 h2
    rw [lstG_len] at h1
    simp only [lstG, List.getElem_map, List.getElem_range]
    by_cases h : i < n
    · rw [apG_old h, List.getElem_append_left (by simpa using h)]
      simp
    · rw [apG_new h, List.getElem_append_right (by simpa using h)]
      simp [List.getD, show i - n < L.length by omega]
theorem lstG_list (L : List Int) : lstG L.length (fun i => L.getD i 0) = L := by
  apply List.ext_getElem
  · simp [lstG_len]
  · intro i h1 h2
    simp [lstG, List.getD, h2]
theorem strOf_lst (n : Nat) (g : Nat → Int) : (strOf n fun i => [SV.v (.int .u8 (g i))]) = strOfNums (lstG n g) := by
  rw [strOf_eq]
  congr 1
  unfold bytesOf lstG
  rw [List.range_eq_range']
  rfl
theorem strOf_one (x : Int) : (strOf 1 fun _ => [SV.v (.int .u8 x)]) = strOfNums [x] := by rw [strOf_eq]; rfl
end Go.Proofs.Ytjdldadmaaeimaa
end

section
set_option maxRecDepth 100000
set_option linter.unusedSimpArgs false
set_option linter.unusedVariables false
namespace Go.Proofs.Ytjdldadmaaeimaa
open Go.SE Go.RowKit

def frameS (s : ByteArray) : SV := bif Nat.beq s.size 0 then .tup [strS emp, .v (.int .i64 7)] else bif Nat.blt 2048 s.size then .tup [strS emp, .v (.int .i64 6)] else .tup [strS (strOfNums (be (s.size : Int) 4) ++ s), .v (.int .i64 0)]
def sFrame : List SV → Option (Option Prop × SV)
  | [.v (.string s)] => some (some (s.size < 4294967296), frameS s)
  | _ => none
def rB (s : ByteArray) (b : Bool) : Blk := { elem := 109, size := 2, rw := true, lock := false, lit := true, flat := true, n := 1, row := fun _ => [.v (.string s), .v (.bool b)], ext := 1, whole := true }
def rOk (b : Blk) : Bool := Nat.beq b.elem 109 && Nat.beq b.size 2 && b.rw && !b.dead && Nat.beq b.n 1 && Nat.beq b.ext 1 && b.whole && b.flat
def sRApp (m : Nat) (f : List SV → Option (Prop × List Int × Bool)) (args : List SV) (bs : List Blk) : Option Eff := match args, bs with
  | .vp 0 0 :: rest, [B] => match f rest, B.row 0 with
    | some (q, L, b), [.v (.string s), .v (.bool b0)] => bif rOk B then some (.det (some (q ∧ s.size ≤ m)) (.tup []) [(0, rB (s ++ strOfNums L) (b0 || b))]) else none
    | _, _ => none
  | _, _ => none
def fRBytes : List SV → Option (Prop × List Int × Bool)
  | [.v (.int .u64 n), .v (.int .i64 k)] => some (U64 n ∧ 0 ≤ k ∧ k ≤ 8, be n k.toNat, false)
  | _ => none
noncomputable def ΛRBytes (s : ByteArray) (b : Bool) (n : Int) (k : Nat) : Nat → Option LoopSpec := addLoop noΛ Try.f60 0 Nat (fun i => i ≤ k) (fun i => k - i) [(6, fun i => .v (.int .i64 ((k : Int) - 1 - i)))] [(0, fun i => rB (s ++ strOfNums (beT n k i)) b)]
def ΓD0 : Ctrs := addCtr (addCtr ΓC1 59 (hpCtr true sWord)) 60 (hpCtr true (sRApp M0 fRBytes))
theorem vcFrame (s : ByteArray) (R : SV→Prop) : (vcPure Try.prog ΓD0 noΛ Try.f21 [.v (.string s)] R) = (sel ((↑(ByteArray.size s) : Int) == 0) (R (SV.tup [(SV.v (.string ({data:=#[]}))),(SV.v (.int .i64 7))])) (sel (decide ((↑(ByteArray.size s) : Int) > 2048)) (R (SV.tup [(SV.v (.string ({data:=#[]}))),(SV.v (.int .i64 6))])) ((I64 (↑(ByteArray.size s) : Int))∧(∀ c : Nat,((((((4 + ByteArray.size s) * 1) : Nat) ≤ 140737488355328)∧((((0 + (4 + c)) : Nat) ≤ (4 + c))∧(∀ y : Nat,(((y : Nat) < (ByteArray.size s))→True))))∧(∀ c_1 : Nat,((∀ y : Nat,(((y : Nat) < (4 + ByteArray.size s))→True))∧(R (SV.tup [(SV.v (.string (strOf (4 + ByteArray.size s) fun y => [SV.v (.int .u8 (bop (Nat.blt (0 + y) 4) ((fun i => List.getD (be ((↑(ByteArray.size s) : Int) % 4294967296) 4) i 0) (0 + (0 + y))) (↑(UInt8.toNat (List.getD (Array.toList (ByteArray.data s)) (0 + y - 4) 0)) : Int)))]))),(SV.v (.int .i64 0))]))))))))):=by kernel_rfl
theorem vcRBytes (s : ByteArray) (b : Bool) (n : Int) (k : Nat) : (vcFn Try.prog noCtrs (ΛRBytes s b n k) Try.f60 [.vp 0 0,.v (.int .u64 n),.v (.int .i64 (k : Int))] (heapOf [rB s b]) 64 (fun y h' => FinE [rB s b] (.det none (.tup []) [(0,rB (s++strOfNums (be n k)) (b||false))]) y h')) = ((∃ x : Nat,((Nat.le x k)∧(((SV.v (.int .i64 (IntKind.wrap IntKind.i64 ((↑k : Int) - 1)))) = (SV.v (.int .i64 ((↑k : Int) - 1 - (↑x : Int)))))∧(((1 : Nat) = 1)∧(((1 : Nat) ≤ 1)∧(∀ i : Nat,(((i : Nat) < 1)→([(SV.v (.string s)),(SV.v (.bool b))] = [(SV.v (.string (s++strOfNums (beT n k x)))),(SV.v (.bool b))]))))))))∧(∀ x : Nat,((Nat.le x k)→(sel (decide ((↑k : Int) - 1 - (↑x : Int) ≥ 0)) (((0 : Int) ≤ (IntKind.wrap IntKind.u64 (IntKind.wrap IntKind.i64 (8 * ((↑k : Int) - 1 - (↑x : Int))))))∧((∀ y : Nat,(((y : Nat) < 1)→True))∧(((((↑(ByteArray.size (s++strOfNums (beT n k x)) + 1) : Int)) : Int) ≤ 9223372036854775807)∧(∃ x' : Nat,(((Nat.le x' k)∧(((SV.v (.int .i64 (IntKind.wrap IntKind.i64 ((↑k : Int) - 1 - (↑x : Int) - 1)))) = (SV.v (.int .i64 ((↑k : Int) - 1 - (↑x' : Int)))))∧(((1 : Nat) = 1)∧(((1 : Nat) ≤ 1)∧(∀ i : Nat,(((i : Nat) < 1)→([(SV.v (.string (s++strOfNums (beT n k x)++strOf 1 fun y => [SV.v (.int .u8 (IntKind.wrap IntKind.u8 (n / 2 ^ min (Int.toNat (IntKind.wrap IntKind.u64 (IntKind.wrap IntKind.i64 (8 * ((↑k : Int) - 1 - (↑x : Int)))))) 64)))]))),(SV.v (.bool b))] = [(SV.v (.string (s++strOfNums (beT n k x')))),(SV.v (.bool b))])))))))∧(((k - x') : Nat) < (k - x))))))) (True∧(((1 : Nat) = 1)∧(((1 : Nat) ≤ 1)∧(∀ i : Nat,(((i : Nat) < 1)→([(SV.v (.string (s++strOfNums (beT n k x)))),(SV.v (.bool b))] = [(SV.v (.string (s++strOfNums (be n k)))),(SV.v (.bool (b||false)))])))))))))):=by kernel_rfl
theorem Frame_str (s : ByteArray) : (strOf (4 + s.size) fun y => [SV.v (.int .u8 (bop (Nat.blt (0 + y) 4) ((be ((s.size : Int) % 4294967296) 4).getD (0 + (0 + y)) 0) ((s.data.toList.getD (0 + y - 4) 0).toNat : Int)))]) = strOfNums (be ((s.size : Int) % 4294967296) 4) ++ s := by
  have hl : (be ((s.size : Int) % 4294967296) 4).length = 4 := be_len _ _
  generalize be ((s.size : Int) % 4294967296) 4 = L at hl ⊢
  have hs : strOfNums L ++ s = strOfNums (L ++ byt s) := by rw [← str_append, str_byt]
  rw [hs, strOf_lst]
  congr 1
  have := lstG_ap 4 (fun i => L.getD i 0) (byt s)
  rw [byt_len] at this
  have h4 : lstG 4 (fun i => L.getD i 0) = L := by
    have := lstG_list L
    rw [hl] at this
    exact this
  rw [h4] at this
  rw [← this]
  refine lstG_congr fun i _ => ?_
  simp only [Nat.zero_add]
  unfold apG
  rw [byt_get]
theorem rOk_same {B : Blk} {s : ByteArray} {b : Bool} (h1 : rOk B = true) (h2 : B.row 0 = [.v (.string s), .v (.bool b)]) : BlkSame B (rB s b) := by
  simp only [rOk, Bool.and_eq_true, Bool.not_eq_true'] at h1
  obtain ⟨⟨⟨⟨⟨⟨⟨a1, a2⟩, a3⟩, a4⟩, a5⟩, a6⟩, a7⟩, a8⟩ := h1
  have hn := Nat.eq_of_beq_eq_true a5
  exact ⟨Nat.eq_of_beq_eq_true a2, a3, a8, hn, Nat.eq_of_beq_eq_true a6, a4, Nat.eq_of_beq_eq_true a1, a7, fun i hi => by
    have : i = 0 := by omega
    subst this
    exact h2⟩
theorem rapp_spec {Γ : Ctrs} (hΓ : ∀ f g, Γ f = some g → g.ok Try.prog f) {f : FuncId} {fn : Func} (hf : Try.prog.funcs[f]? = some fn) {m : Nat} {F : List SV → Option (Prop × List Int × Bool)} {Λ : List SV → ByteArray → Bool → Nat → Option LoopSpec}
    (h : ∀ rest q L b s b0, F rest = some (q, L, b) → q → s.size ≤ m → vcFn Try.prog Γ (Λ rest s b0) fn (.vp 0 0 :: rest) (heapOf [rB s b0]) 64 (fun y h' => FinE [rB s b0] (.det none (.tup []) [(0, rB (s ++ strOfNums L) (b0 || b))]) y h')) :
    HpSpec Try.prog f (sRApp m F) := hp_spec hm hΓ hf (Λ := fun args bs => match args, bs with
      | _ :: rest, [B] => match B.row 0 with
        | [.v (.string s), .v (.bool b0)] => Λ rest s b0
        | _ => noΛ
      | _, _ => noΛ) fun args bs e hs hp => by
  unfold sRApp at hs
  split at hs <;> try (cases hs; done)
  rename_i rest B
  split at hs <;> try (cases hs; done)
  rename_i q L b s b0 hF hB
  obtain ⟨ha, he⟩ := bif_some hs
  subst he
  obtain ⟨hq, hm⟩ := hp _ rfl
  refine ⟨[rB s b0], ⟨rOk_same ha hB, trivial⟩, ?_⟩
  simp only [hB]
  exact h rest q L b s b0 hF hq hm
theorem RBytes_spec : HpSpec Try.prog 60 (sRApp M0 fRBytes) := rapp_spec noCtrs_ok Try.func60 (Λ := fun rest s b0 => match rest with | [.v (.int _ n), .v (.int _ k)] => ΛRBytes s b0 n k.toNat | _ => noΛ) fun rest q L b s b0 h hq hm => by
  unfold fRBytes at h
  split at h <;> try (cases h; done)
  rename_i n k
  cases h
  obtain ⟨hn, hk0, hk⟩ := hq
  have hm : s.size ≤ 1099511627776 := hm
  obtain ⟨k, rfl⟩ : ∃ m : Nat, k = (m : Int) := ⟨k.toNat, by omega⟩
  rw [Int.toNat_natCast]
  refine Eq.mpr (vcRBytes s b0 n k) ⟨⟨0, Nat.zero_le _, int_mk (by rw [wrap_i64 ⟨by omega, by omega⟩]; omega), rfl, Nat.le_refl _, fun i _ => ?_⟩, fun x hx => sel_of (fun hlt => ?_) fun hge => ?_⟩
  · rw [show beT n k 0 = [] by simp [beT], str_nil, app_emp]
  · have hx : x ≤ k := hx
    have hlt := of_decide_eq_true hlt
    have hlt : x < k := by omega
    have e3 : IntKind.i64.wrap (8 * ((k : Int) - 1 - x)) = 8 * ((k : Int) - 1 - x) := wrap_i64 ⟨by omega, by omega⟩
    have e4 : IntKind.i64.wrap ((k : Int) - 1 - x - 1) = (k : Int) - 1 - x - 1 := wrap_i64 ⟨by omega, by omega⟩
    rw [e3, e4, wrap_u64, wrap_u8]
    refine ⟨by omega, fun _ _ => trivial, ?_, x + 1, ⟨hlt, int_mk (by omega), rfl, Nat.le_refl _, fun i _ => ?_⟩, by omega⟩
    · rw [size_app, size_str, beT_len]; omega
    · rw [strOf_one, str_app2, beT_succ]
      unfold byteAt
      rw [show min (Int.toNat (8 * ((k : Int) - 1 - x) % 18446744073709551616)) 64 = 8 * (k - 1 - x) by omega]
  · have hx : x ≤ k := hx
    have hge := of_decide_eq_false hge
    have hx : x = k := by omega
    subst hx
    exact ⟨trivial, rfl, Nat.le_refl _, fun i _ => by rw [Bool.or_false]; rfl⟩
theorem ΓD0_ok : ∀ f g, ΓD0 f = some g → g.ok Try.prog f := addCtr_ok (addCtr_ok ΓC1_ok (hp_ok Try.func59 (by kernel_rfl) (by kernel_rfl) Word_spec)) (hp_ok Try.func60 (by kernel_rfl) (by kernel_rfl) RBytes_spec)
theorem frameS_nil {s : ByteArray} (h : s.size = 0) : frameS s = .tup [strS emp, .v (.int .i64 7)] := by
  unfold frameS
  rw [h]; rfl
theorem frameS_long {s : ByteArray} (h : 2048 < s.size) : frameS s = .tup [strS emp, .v (.int .i64 6)] := by
  unfold frameS
  rw [Go.SE.beq_false (by omega : s.size ≠ 0), cond_false, blt_true h, cond_true]
theorem frameS_ok {s : ByteArray} (h : s.size ≠ 0) (h2 : ¬ 2048 < s.size) : frameS s = .tup [strS (strOfNums (be (s.size : Int) 4) ++ s), .v (.int .i64 0)] := by
  unfold frameS
  rw [Go.SE.beq_false h, cond_false, blt_false h2, cond_false]
theorem frameS_plain (s : ByteArray) : plain (frameS s) = true := by
  unfold frameS
  cases Nat.beq s.size 0 with
  | true => rfl
  | false =>
    cases Nat.blt 2048 s.size <;> rfl
theorem Frame_spec : PureSpec Try.prog 21 sFrame := vc_spec hm ΓD0_ok Try.func21 (Λ := fun _ => noΛ) fun args p x h hp => by
  unfold sFrame at h
  split at h <;> try (cases h; done)
  rename_i s
  cases h
  have hs : s.size < 4294967296 := hp _ rfl
  refine ⟨rfl, frameS_plain s, Eq.mpr (vcFrame s _) (sel_of (fun h => ?_) fun h => sel_of (fun h2 => ?_) fun h2 => ?_)⟩
  · have h : s.size = 0 := by simpa using h
    rw [frameS_nil h]; rfl
  · have h2 := of_decide_eq_true h2
    rw [frameS_long (by omega)]; rfl
  · have h : s.size ≠ 0 := by simpa using h
    have h2 := of_decide_eq_false h2
    have e : (s.size : Int) % 4294967296 = s.size := by omega
    refine ⟨⟨by omega, by omega⟩, fun c => ⟨⟨by omega, by omega, fun _ _ => trivial⟩, fun c' => ⟨fun _ _ => trivial, ?_⟩⟩⟩
    rw [frameS_ok h (by omega)]
    have := Frame_str s
    simp only [e] at this ⊢
    exact congrArg (fun z => SV.tup [SV.v (.string z), SV.v (.int .i64 0)]) this
end Go.Proofs.Ytjdldadmaaeimaa
end

section
set_option maxRecDepth 100000
set_option linter.unusedSimpArgs false
set_option linter.unusedVariables false
namespace Go.Proofs.Ytjdldadmaaeimaa
open Go.SE Go.RowKit

def iV (n : Int) : SV := .v (.int .i64 n)
def bV (b : Bool) : SV := .v (.bool b)
def flB (b : Bool) : List Int := [bif b then 1 else 0]
def i8 (n : Int) : List Int := be (n % 18446744073709551616) 8
def c4 (n : Int) : List Int := be (n % 4294967296) 4
def isMin (n : Int) : Bool := n == -9223372036854775808
def fRSmall : List SV → Option (Prop × List Int × Bool)
  | [.v (.int .i64 n), .v (.int .i64 most), .v (.int .i64 k)] => some (I64 n ∧ 0 ≤ k ∧ k ≤ 8, be (n % 18446744073709551616) k.toNat, notIn n most)
  | _ => none
def fRCount : List SV → Option (Prop × List Int × Bool)
  | [.v (.int .i64 n)] => some (I64 n, c4 n, notIn n 2147483647)
  | _ => none
def fRInteger : List SV → Option (Prop × List Int × Bool)
  | [.v (.int .i64 n)] => some (I64 n, i8 n, false)
  | _ => none
def fRVersion : List SV → Option (Prop × List Int × Bool)
  | [.v (.int .i64 n)] => some (I64 n, i8 n, notIn n 1099511627776)
  | _ => none
def fRFlag : List SV → Option (Prop × List Int × Bool)
  | [.v (.bool b)] => some (True, flB b, false)
  | _ => none
def numL (v : Int) (f : Bool) : List Int := i8 v ++ flB f
def fRNum : List SV → Option (Prop × List Int × Bool)
  | [.agg [.v (.int .i64 v), .v (.bool f)]] => some (I64 v, numL v f, isMin v)
  | _ => none
def vecL (xv : Int) (xf : Bool) (yv : Int) (yf : Bool) : List Int := numL xv xf ++ numL yv yf
def fRVec : List SV → Option (Prop × List Int × Bool)
  | [.agg [.v (.int .i64 xv), .v (.bool xf), .v (.int .i64 yv), .v (.bool yf)]] => some (I64 xv ∧ I64 yv, vecL xv xf yv yf, isMin xv || isMin yv)
  | _ => none
def fRPose : List SV → Option (Prop × List Int × Bool)
  | [.agg [.v (.int .i64 xv), .v (.bool xf), .v (.int .i64 yv), .v (.bool yf), .v (.int .i64 cv), .v (.bool cf), .v (.int .i64 sv), .v (.bool sf)]] => some (I64 xv ∧ I64 yv ∧ I64 cv ∧ I64 sv, vecL xv xf yv yf ++ (numL cv cf ++ numL sv sf), isMin xv || isMin yv || (isMin cv || isMin sv))
  | _ => none
def fRSpot : List SV → Option (Prop × List Int × Bool)
  | [.agg [.v (.int .i64 x), .v (.int .i64 y)]] => some (I64 x ∧ I64 y, i8 x ++ i8 y, false)
  | _ => none
def fRHandle : List SV → Option (Prop × List Int × Bool)
  | [.agg [.v (.int .i64 x), .v (.int .i64 y)]] => some (I64 x ∧ I64 y, c4 x ++ c4 y, notIn x 2147483647 || notIn y 2147483647)
  | _ => none
def ΓE0 : Ctrs := addCtr noCtrs 60 (hpCtr true (sRApp M0 fRBytes))
def ΓE1 : Ctrs := addCtr (addCtr (addCtr ΓE0 107 (hpCtr true (sRApp M0 fRSmall))) 113 (hpCtr true (sRApp M0 fRInteger))) 114 (hpCtr true (sRApp M0 fRFlag))
def ΓE2 : Ctrs := addCtr (addCtr (addCtr ΓE1 112 (hpCtr true (sRApp 1000000000 fRNum))) 108 (hpCtr true (sRApp M0 fRCount))) 116 (hpCtr true (sRApp M0 fRVersion))
def ΓE3 : Ctrs := addCtr ΓE2 111 (hpCtr true (sRApp 900000000 fRVec))
theorem vcRSmall (s : ByteArray) (b : Bool) (n most k : Int) : (vcFn Try.prog ΓE0 noΛ Try.f107 [.vp 0 0,.v (.int .i64 n),.v (.int .i64 most),.v (.int .i64 k)] (heapOf [rB s b]) 64 (fun y h' => FinE [rB s b] (.det none (.tup []) [(0,rB (s++strOfNums (be (n % 18446744073709551616) k.toNat)) (b||notIn n most))]) y h')) = (sel (decide (n < 0)) ((((U64 (IntKind.wrap IntKind.u64 n))∧(((0 : Int) ≤ k)∧((k : Int) ≤ 8)))∧(((ByteArray.size s) : Nat) ≤ M0))∧(True∧(((1 : Nat) = 1)∧(((1 : Nat) ≤ 1)∧(∀ i : Nat,(((i : Nat) < 1)→([(SV.v (.string (s++strOfNums (be (IntKind.wrap IntKind.u64 n) (Int.toNat k))))),(SV.v (.bool true))] = [(SV.v (.string (s++strOfNums (be (n % 18446744073709551616) (Int.toNat k))))),(SV.v (.bool (b||notIn n most)))]))))))) (sel (decide (n > most)) ((((U64 (IntKind.wrap IntKind.u64 n))∧(((0 : Int) ≤ k)∧((k : Int) ≤ 8)))∧(((ByteArray.size s) : Nat) ≤ M0))∧(True∧(((1 : Nat) = 1)∧(((1 : Nat) ≤ 1)∧(∀ i : Nat,(((i : Nat) < 1)→([(SV.v (.string (s++strOfNums (be (IntKind.wrap IntKind.u64 n) (Int.toNat k))))),(SV.v (.bool true))] = [(SV.v (.string (s++strOfNums (be (n % 18446744073709551616) (Int.toNat k))))),(SV.v (.bool (b||notIn n most)))]))))))) ((((U64 (IntKind.wrap IntKind.u64 n))∧(((0 : Int) ≤ k)∧((k : Int) ≤ 8)))∧(((ByteArray.size s) : Nat) ≤ M0))∧(True∧(((1 : Nat) = 1)∧(((1 : Nat) ≤ 1)∧(∀ i : Nat,(((i : Nat) < 1)→([(SV.v (.string (s++strOfNums (be (IntKind.wrap IntKind.u64 n) (Int.toNat k))))),(SV.v (.bool (b||false)))] = [(SV.v (.string (s++strOfNums (be (n % 18446744073709551616) (Int.toNat k))))),(SV.v (.bool (b||notIn n most)))]))))))))):=by kernel_rfl
theorem vcRCount (s : ByteArray) (b : Bool) (n : Int) : (vcFn Try.prog ΓE1 noΛ Try.f108 [.vp 0 0,.v (.int .i64 n)] (heapOf [rB s b]) 64 (fun y h' => FinE [rB s b] (.det none (.tup []) [(0,rB (s++strOfNums (c4 n)) (b||notIn n 2147483647))]) y h')) = ((((I64 n)∧(((0 : Int) ≤ 4)∧((4 : Int) ≤ 8)))∧(((ByteArray.size s) : Nat) ≤ M0))∧(True∧(((1 : Nat) = 1)∧(((1 : Nat) ≤ 1)∧(∀ i : Nat,(((i : Nat) < 1)→([(SV.v (.string (s++strOfNums (be (n % 18446744073709551616) 4)))),(SV.v (.bool (b||notIn n 2147483647)))] = [(SV.v (.string (s++strOfNums (c4 n)))),(SV.v (.bool (b||notIn n 2147483647)))]))))))):=by kernel_rfl
theorem vcRInteger (s : ByteArray) (b : Bool) (n : Int) : (vcFn Try.prog ΓE0 noΛ Try.f113 [.vp 0 0,.v (.int .i64 n)] (heapOf [rB s b]) 64 (fun y h' => FinE [rB s b] (.det none (.tup []) [(0,rB (s++strOfNums (i8 n)) (b||false))]) y h')) = ((((U64 (IntKind.wrap IntKind.u64 n))∧(((0 : Int) ≤ 8)∧((8 : Int) ≤ 8)))∧(((ByteArray.size s) : Nat) ≤ M0))∧(True∧(((1 : Nat) = 1)∧(((1 : Nat) ≤ 1)∧(∀ i : Nat,(((i : Nat) < 1)→([(SV.v (.string (s++strOfNums (be (IntKind.wrap IntKind.u64 n) 8)))),(SV.v (.bool (b||false)))] = [(SV.v (.string (s++strOfNums (i8 n)))),(SV.v (.bool (b||false)))]))))))):=by kernel_rfl
theorem vcRFlag (s : ByteArray) (b f : Bool) : (vcFn Try.prog ΓE0 noΛ Try.f114 [.vp 0 0,.v (.bool f)] (heapOf [rB s b]) 64 (fun y h' => FinE [rB s b] (.det none (.tup []) [(0,rB (s++strOfNums (flB f)) (b||false))]) y h')) = (sel f ((((U64 1)∧(((0 : Int) ≤ 1)∧((1 : Int) ≤ 8)))∧(((ByteArray.size s) : Nat) ≤ M0))∧(True∧(((1 : Nat) = 1)∧(((1 : Nat) ≤ 1)∧(∀ i : Nat,(((i : Nat) < 1)→([(SV.v (.string (s++strOfNums (be 1 1)))),(SV.v (.bool (b||false)))] = [(SV.v (.string (s++strOfNums (flB f)))),(SV.v (.bool (b||false)))]))))))) ((((U64 0)∧(((0 : Int) ≤ 1)∧((1 : Int) ≤ 8)))∧(((ByteArray.size s) : Nat) ≤ M0))∧(True∧(((1 : Nat) = 1)∧(((1 : Nat) ≤ 1)∧(∀ i : Nat,(((i : Nat) < 1)→([(SV.v (.string (s++strOfNums (be 0 1)))),(SV.v (.bool (b||false)))] = [(SV.v (.string (s++strOfNums (flB f)))),(SV.v (.bool (b||false)))])))))))):=by kernel_rfl
theorem vcRVersion (s : ByteArray) (b : Bool) (n : Int) : (vcFn Try.prog ΓE1 noΛ Try.f116 [.vp 0 0,.v (.int .i64 n)] (heapOf [rB s b]) 64 (fun y h' => FinE [rB s b] (.det none (.tup []) [(0,rB (s++strOfNums (i8 n)) (b||notIn n 1099511627776))]) y h')) = (sel (decide (n < 0)) (((I64 n)∧(((ByteArray.size s) : Nat) ≤ M0))∧(True∧(((1 : Nat) = 1)∧(((1 : Nat) ≤ 1)∧(∀ i : Nat,(((i : Nat) < 1)→([(SV.v (.string (s++strOfNums (i8 n)))),(SV.v (.bool true))] = [(SV.v (.string (s++strOfNums (i8 n)))),(SV.v (.bool (b||notIn n 1099511627776)))]))))))) (sel (decide (n > 1099511627776)) (((I64 n)∧(((ByteArray.size s) : Nat) ≤ M0))∧(True∧(((1 : Nat) = 1)∧(((1 : Nat) ≤ 1)∧(∀ i : Nat,(((i : Nat) < 1)→([(SV.v (.string (s++strOfNums (i8 n)))),(SV.v (.bool true))] = [(SV.v (.string (s++strOfNums (i8 n)))),(SV.v (.bool (b||notIn n 1099511627776)))]))))))) (((I64 n)∧(((ByteArray.size s) : Nat) ≤ M0))∧(True∧(((1 : Nat) = 1)∧(((1 : Nat) ≤ 1)∧(∀ i : Nat,(((i : Nat) < 1)→([(SV.v (.string (s++strOfNums (i8 n)))),(SV.v (.bool (b||false)))] = [(SV.v (.string (s++strOfNums (i8 n)))),(SV.v (.bool (b||notIn n 1099511627776)))]))))))))):=by kernel_rfl
theorem vcRNum (s : ByteArray) (b : Bool) (v : Int) (f : Bool) : (vcFn Try.prog ΓE1 noΛ Try.f112 [.vp 0 0,.agg [.v (.int .i64 v),.v (.bool f)]] (heapOf [rB s b]) 64 (fun y h' => FinE [rB s b] (.det none (.tup []) [(0,rB (s++strOfNums (numL v f)) (b||isMin v))]) y h')) = (sel (v == -9223372036854775808) (((I64 v)∧(((ByteArray.size s) : Nat) ≤ M0))∧((True∧(((ByteArray.size (s++strOfNums (i8 v))) : Nat) ≤ M0))∧(True∧(((1 : Nat) = 1)∧(((1 : Nat) ≤ 1)∧(∀ i : Nat,(((i : Nat) < 1)→([(SV.v (.string (s++strOfNums (i8 v)++strOfNums (flB f)))),(SV.v (.bool true))] = [(SV.v (.string (s++strOfNums (numL v f)))),(SV.v (.bool (b||isMin v)))])))))))) (((I64 v)∧(((ByteArray.size s) : Nat) ≤ M0))∧((True∧(((ByteArray.size (s++strOfNums (i8 v))) : Nat) ≤ M0))∧(True∧(((1 : Nat) = 1)∧(((1 : Nat) ≤ 1)∧(∀ i : Nat,(((i : Nat) < 1)→([(SV.v (.string (s++strOfNums (i8 v)++strOfNums (flB f)))),(SV.v (.bool (b||false||false)))] = [(SV.v (.string (s++strOfNums (numL v f)))),(SV.v (.bool (b||isMin v)))]))))))))):=by kernel_rfl
theorem vcRVec (s : ByteArray) (b : Bool) (xv : Int) (xf : Bool) (yv : Int) (yf : Bool) : (vcFn Try.prog ΓE2 noΛ Try.f111 [.vp 0 0,.agg [.v (.int .i64 xv),.v (.bool xf),.v (.int .i64 yv),.v (.bool yf)]] (heapOf [rB s b]) 64 (fun y h' => FinE [rB s b] (.det none (.tup []) [(0,rB (s++strOfNums (vecL xv xf yv yf)) (b||(isMin xv||isMin yv)))]) y h')) = (((I64 xv)∧(((ByteArray.size s) : Nat) ≤ 1000000000))∧(((I64 yv)∧(((ByteArray.size (s++strOfNums (numL xv xf))) : Nat) ≤ 1000000000))∧(True∧(((1 : Nat) = 1)∧(((1 : Nat) ≤ 1)∧(∀ i : Nat,(((i : Nat) < 1)→([(SV.v (.string (s++strOfNums (numL xv xf)++strOfNums (numL yv yf)))),(SV.v (.bool (b||isMin xv||isMin yv)))] = [(SV.v (.string (s++strOfNums (vecL xv xf yv yf)))),(SV.v (.bool (b||(isMin xv||isMin yv))))])))))))):=by kernel_rfl
theorem vcRPose (s : ByteArray) (b : Bool) (xv : Int) (xf : Bool) (yv : Int) (yf : Bool) (cv : Int) (cf : Bool) (sv : Int) (sf : Bool) : (vcFn Try.prog ΓE3 noΛ Try.f110 [.vp 0 0,.agg [.v (.int .i64 xv),.v (.bool xf),.v (.int .i64 yv),.v (.bool yf),.v (.int .i64 cv),.v (.bool cf),.v (.int .i64 sv),.v (.bool sf)]] (heapOf [rB s b]) 64 (fun y h' => FinE [rB s b] (.det none (.tup []) [(0,rB (s++strOfNums (vecL xv xf yv yf++(numL cv cf++numL sv sf))) (b||(isMin xv||isMin yv||(isMin cv||isMin sv))))]) y h')) = ((((I64 xv)∧(I64 yv))∧(((ByteArray.size s) : Nat) ≤ 900000000))∧(((I64 cv)∧(((ByteArray.size (s++strOfNums (vecL xv xf yv yf))) : Nat) ≤ 1000000000))∧(((I64 sv)∧(((ByteArray.size (s++strOfNums (vecL xv xf yv yf)++strOfNums (numL cv cf))) : Nat) ≤ 1000000000))∧(True∧(((1 : Nat) = 1)∧(((1 : Nat) ≤ 1)∧(∀ i : Nat,(((i : Nat) < 1)→([(SV.v (.string (s++strOfNums (vecL xv xf yv yf)++strOfNums (numL cv cf)++strOfNums (numL sv sf)))),(SV.v (.bool (b||(isMin xv||isMin yv)||isMin cv||isMin sv)))] = [(SV.v (.string (s++strOfNums (vecL xv xf yv yf++(numL cv cf++numL sv sf))))),(SV.v (.bool (b||(isMin xv||isMin yv||(isMin cv||isMin sv)))))]))))))))):=by kernel_rfl
theorem vcRSpot (s : ByteArray) (b : Bool) (x y : Int) : (vcFn Try.prog ΓE1 noΛ Try.f117 [.vp 0 0,.agg [.v (.int .i64 x),.v (.int .i64 y)]] (heapOf [rB s b]) 64 (fun y' h' => FinE [rB s b] (.det none (.tup []) [(0,rB (s++strOfNums (i8 x++i8 y)) (b||false))]) y' h')) = (((I64 x)∧(((ByteArray.size s) : Nat) ≤ M0))∧(((I64 y)∧(((ByteArray.size (s++strOfNums (i8 x))) : Nat) ≤ M0))∧(True∧(((1 : Nat) = 1)∧(((1 : Nat) ≤ 1)∧(∀ i : Nat,(((i : Nat) < 1)→([(SV.v (.string (s++strOfNums (i8 x)++strOfNums (i8 y)))),(SV.v (.bool (b||false||false)))] = [(SV.v (.string (s++strOfNums (i8 x++i8 y)))),(SV.v (.bool (b||false)))])))))))):=by kernel_rfl
theorem vcRHandle (s : ByteArray) (b : Bool) (x y : Int) : (vcFn Try.prog ΓE2 noΛ Try.f115 [.vp 0 0,.agg [.v (.int .i64 x),.v (.int .i64 y)]] (heapOf [rB s b]) 64 (fun y' h' => FinE [rB s b] (.det none (.tup []) [(0,rB (s++strOfNums (c4 x++c4 y)) (b||(notIn x 2147483647||notIn y 2147483647)))]) y' h')) = (((I64 x)∧(((ByteArray.size s) : Nat) ≤ M0))∧(((I64 y)∧(((ByteArray.size (s++strOfNums (c4 x))) : Nat) ≤ M0))∧(True∧(((1 : Nat) = 1)∧(((1 : Nat) ≤ 1)∧(∀ i : Nat,(((i : Nat) < 1)→([(SV.v (.string (s++strOfNums (c4 x)++strOfNums (c4 y)))),(SV.v (.bool (b||notIn x 2147483647||notIn y 2147483647)))] = [(SV.v (.string (s++strOfNums (c4 x++c4 y)))),(SV.v (.bool (b||(notIn x 2147483647||notIn y 2147483647))))])))))))):=by kernel_rfl
theorem ΓE0_ok : ∀ f g, ΓE0 f = some g → g.ok Try.prog f := addCtr_ok noCtrs_ok (hp_ok Try.func60 (by kernel_rfl) (by kernel_rfl) RBytes_spec)
theorem tailR {s s' : ByteArray} {b b' : Bool} (hs : s = s') (hb : b = b') : True ∧ (1 = 1 ∧ 1 ≤ 1 ∧ ∀ i : Nat, i < 1 → [SV.v (.string s), SV.v (.bool b)] = [SV.v (.string s'), SV.v (.bool b')]) := by
  subst hs; subst hb
  exact ⟨trivial, rfl, Nat.le_refl _, fun _ _ => rfl⟩
theorem u64_mod {n : Int} : U64 (n % 18446744073709551616) := ⟨by omega, by omega⟩
theorem notIn_neg {n most : Int} (h : decide (n < 0) = true) (b : Bool) : true = (b || notIn n most) := by
  have h := of_decide_eq_true h
  unfold notIn
  rw [show decide (0 ≤ n) = false by simp; omega]; simp
theorem notIn_big {n most : Int} (h : decide (n > most) = true) (b : Bool) : true = (b || notIn n most) := by
  have h := of_decide_eq_true h
  unfold notIn
  rw [show decide (n ≤ most) = false by simp; omega]; simp
theorem notIn_ok {n most : Int} (h0 : decide (n < 0) = false) (h : decide (n > most) = false) (b : Bool) : (b || false) = (b || notIn n most) := by
  have h0 := of_decide_eq_false h0
  have h := of_decide_eq_false h
  unfold notIn
  rw [show decide (n ≤ most) = true by simp; omega, show decide (0 ≤ n) = true by simp; omega]; rfl
theorem be_four (n : Int) : be (n % 18446744073709551616) 4 = c4 n := by
  unfold c4 be beT
  refine List.map_congr_left fun j hj => ?_
  have hj := List.mem_range.1 hj
  have : j = 0 ∨ j = 1 ∨ j = 2 ∨ j = 3 := by omega
  unfold byteAt
  rcases this with rfl | rfl | rfl | rfl <;> simp <;> omega
theorem be_one (n : Int) : be (n % 18446744073709551616) 1 = [n % 256] := by
  simp [be, beT, byteAt]
theorem i8_len (n : Int) : (i8 n).length = 8 := be_len _ _
theorem c4_len (n : Int) : (c4 n).length = 4 := be_len _ _
theorem flB_len (b : Bool) : (flB b).length = 1 := rfl
theorem numL_len (v : Int) (f : Bool) : (numL v f).length = 9 := by simp [numL, i8_len, flB_len]
theorem vecL_len (xv : Int) (xf : Bool) (yv : Int) (yf : Bool) : (vecL xv xf yv yf).length = 18 := by simp [vecL, numL_len]
theorem RSmall_spec : HpSpec Try.prog 107 (sRApp M0 fRSmall) := rapp_spec ΓE0_ok Try.func107 (Λ := fun _ _ _ => noΛ) fun rest q L b s b0 h hq hm => by
  unfold fRSmall at h
  split at h <;> try (cases h; done)
  rename_i n most k
  cases h
  refine Eq.mpr (vcRSmall s b0 n most k) ?_
  obtain ⟨h1, h2, h3⟩ := hq
  rw [wrap_u64]
  refine sel_of (fun h => ?_) fun h => sel_of (fun h' => ?_) fun h' => ?_
  · exact ⟨⟨⟨u64_mod, h2, h3⟩, hm⟩, tailR rfl (notIn_neg h b0)⟩
  · exact ⟨⟨⟨u64_mod, h2, h3⟩, hm⟩, tailR rfl (notIn_big h' b0)⟩
  · exact ⟨⟨⟨u64_mod, h2, h3⟩, hm⟩, tailR rfl (notIn_ok h h' b0)⟩
theorem RInteger_spec : HpSpec Try.prog 113 (sRApp M0 fRInteger) := rapp_spec ΓE0_ok Try.func113 (Λ := fun _ _ _ => noΛ) fun rest q L b s b0 h hq hm => by
  unfold fRInteger at h
  split at h <;> try (cases h; done)
  rename_i n
  cases h
  refine Eq.mpr (vcRInteger s b0 n) ?_
  rw [wrap_u64]
  exact ⟨⟨⟨u64_mod, by omega, by omega⟩, hm⟩, tailR rfl rfl⟩
theorem RFlag_spec : HpSpec Try.prog 114 (sRApp M0 fRFlag) := rapp_spec ΓE0_ok Try.func114 (Λ := fun _ _ _ => noΛ) fun rest q L b s b0 h hq hm => by
  unfold fRFlag at h
  split at h <;> try (cases h; done)
  rename_i f
  cases h
  refine Eq.mpr (vcRFlag s b0 f) ?_
  refine sel_of (fun h => ?_) fun h => ?_
  · rw [h]; exact ⟨⟨⟨⟨by omega, by omega⟩, by omega, by omega⟩, hm⟩, tailR rfl rfl⟩
  · rw [h]; exact ⟨⟨⟨⟨by omega, by omega⟩, by omega, by omega⟩, hm⟩, tailR rfl rfl⟩
theorem ΓE1_ok : ∀ f g, ΓE1 f = some g → g.ok Try.prog f := addCtr_ok (addCtr_ok (addCtr_ok ΓE0_ok (hp_ok Try.func107 (by kernel_rfl) (by kernel_rfl) RSmall_spec)) (hp_ok Try.func113 (by kernel_rfl) (by kernel_rfl) RInteger_spec)) (hp_ok Try.func114 (by kernel_rfl) (by kernel_rfl) RFlag_spec)
theorem RCount_spec : HpSpec Try.prog 108 (sRApp M0 fRCount) := rapp_spec ΓE1_ok Try.func108 (Λ := fun _ _ _ => noΛ) fun rest q L b s b0 h hq hm => by
  unfold fRCount at h
  split at h <;> try (cases h; done)
  rename_i n
  cases h
  refine Eq.mpr (vcRCount s b0 n) ?_
  exact ⟨⟨⟨hq, by omega, by omega⟩, hm⟩, tailR (by rw [be_four]) rfl⟩
theorem RVersion_spec : HpSpec Try.prog 116 (sRApp M0 fRVersion) := rapp_spec ΓE1_ok Try.func116 (Λ := fun _ _ _ => noΛ) fun rest q L b s b0 h hq hm => by
  unfold fRVersion at h
  split at h <;> try (cases h; done)
  rename_i n
  cases h
  refine Eq.mpr (vcRVersion s b0 n) ?_
  refine sel_of (fun h => ?_) fun h => sel_of (fun h' => ?_) fun h' => ?_
  · exact ⟨⟨hq, hm⟩, tailR rfl (notIn_neg h b0)⟩
  · exact ⟨⟨hq, hm⟩, tailR rfl (notIn_big h' b0)⟩
  · exact ⟨⟨hq, hm⟩, tailR rfl (notIn_ok h h' b0)⟩
theorem M0_of {n m : Nat} (h : n ≤ m) (hm : m ≤ 1099511627776) : n ≤ M0 := Nat.le_trans h hm
theorem size_st (s : ByteArray) (L : List Int) : (s ++ strOfNums L).size = s.size + L.length := by rw [size_app, size_str]
theorem RNum_spec : HpSpec Try.prog 112 (sRApp 1000000000 fRNum) := rapp_spec ΓE1_ok Try.func112 (Λ := fun _ _ _ => noΛ) fun rest q L b s b0 h hq hm => by
  unfold fRNum at h
  split at h <;> try (cases h; done)
  rename_i v f
  cases h
  refine Eq.mpr (vcRNum s b0 v f) ?_
  have hs : (s ++ strOfNums (i8 v)).size ≤ M0 := by rw [size_st, i8_len]; show s.size + 8 ≤ 1099511627776; omega
  refine sel_of (fun h => ?_) fun h => ?_
  · exact ⟨⟨hq, M0_of hm (by omega)⟩, ⟨trivial, hs⟩, tailR (str_app2 _ _ _) (by rw [show isMin v = true from h, Bool.or_true])⟩
  · exact ⟨⟨hq, M0_of hm (by omega)⟩, ⟨trivial, hs⟩, tailR (str_app2 _ _ _) (by rw [show isMin v = false from h]; simp)⟩
theorem ΓE2_ok : ∀ f g, ΓE2 f = some g → g.ok Try.prog f := addCtr_ok (addCtr_ok (addCtr_ok ΓE1_ok (hp_ok Try.func112 (by kernel_rfl) (by kernel_rfl) RNum_spec)) (hp_ok Try.func108 (by kernel_rfl) (by kernel_rfl) RCount_spec)) (hp_ok Try.func116 (by kernel_rfl) (by kernel_rfl) RVersion_spec)
theorem RVec_spec : HpSpec Try.prog 111 (sRApp 900000000 fRVec) := rapp_spec ΓE2_ok Try.func111 (Λ := fun _ _ _ => noΛ) fun rest q L b s b0 h hq hm => by
  unfold fRVec at h
  split at h <;> try (cases h; done)
  rename_i xv xf yv yf
  cases h
  refine Eq.mpr (vcRVec s b0 xv xf yv yf) ?_
  exact ⟨⟨hq.1, by omega⟩, ⟨hq.2, by rw [size_st, numL_len]; omega⟩, tailR (str_app2 _ _ _) (Bool.or_assoc _ _ _)⟩
theorem ΓE3_ok : ∀ f g, ΓE3 f = some g → g.ok Try.prog f := addCtr_ok ΓE2_ok (hp_ok Try.func111 (by kernel_rfl) (by kernel_rfl) RVec_spec)
theorem RPose_spec : HpSpec Try.prog 110 (sRApp 800000000 fRPose) := rapp_spec ΓE3_ok Try.func110 (Λ := fun _ _ _ => noΛ) fun rest q L b s b0 h hq hm => by
  unfold fRPose at h
  split at h <;> try (cases h; done)
  rename_i xv xf yv yf cv cf sv sf
  cases h
  refine Eq.mpr (vcRPose s b0 xv xf yv yf cv cf sv sf) ?_
  obtain ⟨h1, h2, h3, h4⟩ := hq
  exact ⟨⟨⟨h1, h2⟩, by omega⟩, ⟨h3, by rw [size_st, vecL_len]; omega⟩, ⟨h4, by rw [size_st, size_st, vecL_len, numL_len]; omega⟩, tailR (by rw [str_app2, str_app2]) (by simp only [Bool.or_assoc])⟩
theorem RSpot_spec : HpSpec Try.prog 117 (sRApp 1000000000 fRSpot) := rapp_spec ΓE1_ok Try.func117 (Λ := fun _ _ _ => noΛ) fun rest q L b s b0 h hq hm => by
  unfold fRSpot at h
  split at h <;> try (cases h; done)
  rename_i x y
  cases h
  refine Eq.mpr (vcRSpot s b0 x y) ?_
  have hs : (s ++ strOfNums (i8 x)).size ≤ M0 := by rw [size_st, i8_len]; show s.size + 8 ≤ 1099511627776; omega
  exact ⟨⟨hq.1, M0_of hm (by omega)⟩, ⟨hq.2, hs⟩, tailR (str_app2 _ _ _) (by simp)⟩
theorem RHandle_spec : HpSpec Try.prog 115 (sRApp 1000000000 fRHandle) := rapp_spec ΓE2_ok Try.func115 (Λ := fun _ _ _ => noΛ) fun rest q L b s b0 h hq hm => by
  unfold fRHandle at h
  split at h <;> try (cases h; done)
  rename_i x y
  cases h
  refine Eq.mpr (vcRHandle s b0 x y) ?_
  have hs : (s ++ strOfNums (c4 x)).size ≤ M0 := by rw [size_st, c4_len]; show s.size + 4 ≤ 1099511627776; omega
  exact ⟨⟨hq.1, M0_of hm (by omega)⟩, ⟨hq.2, hs⟩, tailR (str_app2 _ _ _) (Bool.or_assoc _ _ _)⟩
end Go.Proofs.Ytjdldadmaaeimaa
end

section
set_option maxRecDepth 100000
set_option linter.unusedSimpArgs false
set_option linter.unusedVariables false
namespace Go.Proofs.Ytjdldadmaaeimaa
open Go.SE Go.RowKit

def isNum (r : List SV) : Prop := match r with
  | [.v (.int .i64 v), .v (.bool _)] => I64 v
  | _ => False
def nV (r : List SV) : Int := match r with | [.v (.int _ v), _] => v | _ => 0
def nF (r : List SV) : Bool := match r with | [_, .v (.bool f)] => f | _ => false
def numsL (v : Nat → Int) (f : Nat → Bool) : Nat → List Int
  | 0 => []
  | n + 1 => numsL v f n ++ numL (v n) (f n)
def anyMin (v : Nat → Int) : Nat → Bool
  | 0 => false
  | n + 1 => anyMin v n || isMin (v n)
def numB (e n' : Nat) (v : Nat → Int) (f : Nat → Bool) : Blk := { elem := e, size := 2, rw := false, lock := false, lit := false, flat := true, n := n', row := fun i => [.v (.int .i64 (v i)), .v (.bool (f i))], ext := 0 }
def roOk2 (S : Blk) : Bool := S.flat && !S.rw && !S.dead && Nat.beq S.size 2 && Nat.beq S.ext 0 && !S.whole
def isPair (r : List SV) : Prop := match r with
  | [.v (.int .i64 x), .v (.int .i64 y)] => I64 x ∧ I64 y
  | _ => False
def pX (r : List SV) : Int := match r with | [.v (.int _ x), _] => x | _ => 0
def pY (r : List SV) : Int := match r with | [_, .v (.int _ y)] => y | _ => 0
def spotsL (x y : Nat → Int) : Nat → List Int
  | 0 => []
  | n + 1 => spotsL x y n ++ (i8 (x n) ++ i8 (y n))
def spB (e n' : Nat) (x y : Nat → Int) : Blk := { elem := e, size := 2, rw := false, lock := false, lit := false, flat := true, n := n', row := fun i => [.v (.int .i64 (x i)), .v (.int .i64 (y i))], ext := 0 }
def NB0 : Nat := 1000000000
def sNums (args : List SV) (bs : List Blk) : Option Eff := match args, bs with
  | [.vp 0 0, .sl 2 2 0 n _], [B, D, S] => match wrOf [B, D] with
    | some (.used (some b) n0 g c p) => bif roOk2 S then some (apE (.used (some b) n0 g c p) NB0 (S.n = n ∧ 1 ≤ n ∧ n ≤ 100 ∧ ∀ i, i < n → isNum (S.row i)) (9 * n) (numsL (fun i => nV (S.row i)) (fun i => nF (S.row i)) n) (anyMin (fun i => nV (S.row i)) n)) else none
    | _ => none
  | _, _ => none
structure NX where
  i : Nat
  c : Nat
noncomputable def ΛNums (b : Bool) (n0 : Nat) (g : Nat → Int) (n : Nat) (v : Nat → Int) (f : Nat → Bool) : Nat → Option LoopSpec := addLoopN noΛ Try.f100 0 NX (fun x => x.i ≤ n ∧ (x.i = 0 ∨ n0 + 9 * x.i ≤ x.c)) (fun x => n - x.i) [(8, fun x => .v (.int .i64 x.i))] [(0, fun x => wB (some (b || anyMin v x.i)) false (.sl 40 1 0 (n0 + 9 * x.i) x.c))] [(40, fun x => bG (n0 + 9 * x.i) (apG n0 g (numsL v f x.i)) x.c, inVar 0 0)]
def ΓF0 : Ctrs := addCtr ΓC1 102 (hpCtr true sFlag)
theorem vcNums (b : Bool) (n0 : Nat) (g : Nat→Int) (c n e n' c' : Nat) (v : Nat→Int) (f : Nat→Bool) : (vcFn Try.prog ΓF0 (ΛNums b n0 g n v f) Try.f100 [.vp 0 0,.sl 2 2 0 n c'] (heapOf [wB (some b) false (.sl 1 1 0 n0 c),bG n0 g c,numB e n' v f]) 64 (fun y h' => FinE [wB (some b) false (.sl 1 1 0 n0 c),bG n0 g c,numB e n' v f] (apE (.used (some b) n0 g c True) 0 True (9 * n) (numsL v f n) (anyMin v n)) y h')) = ((∃ x : NX,(((((NX.i x) : Nat) ≤ n)∧(NX.i x = 0 ∨ n0 + 9 * NX.i x ≤ NX.c x))∧(((SV.v (.int .i64 0)) = (SV.v (.int .i64 ((↑(NX.i x) : Int)))))∧((((1 : Nat) = 1)∧(((1 : Nat) ≤ 1)∧(((SV.sl 1 1 0 n0 c) = (SV.sl 1 1 0 (n0 + 9 * NX.i x) (NX.c x)))∧((SV.v (.bool b)) = (SV.v (.bool (b||anyMin v (NX.i x))))))))∧(((n0 : Nat) = (n0 + 9 * NX.i x))∧((((NX.c x) : Nat) ≤ c)∧(∀ i : Nat,(((i : Nat) < (n0 + 9 * NX.i x))→([(SV.v (.int .u8 (g i)))] = [(SV.v (.int .u8 (apG n0 g (numsL v f (NX.i x)) i)))])))))))))∧(∀ x : NX,(((((NX.i x) : Nat) ≤ n)∧(NX.i x = 0 ∨ n0 + 9 * NX.i x ≤ NX.c x))→(sel (decide ((↑(NX.i x) : Int) < (↑n : Int))) ((((0 : Int) ≤ ((↑(NX.i x) : Int)))∧((((↑(NX.i x) : Int)) : Int) < ((↑n : Int))))∧((bytesOk (n0 + 9 * NX.i x) (NX.c x) {elem:=5,size:=1,rw:=true,lock:=false,lit:=false,flat:=true,n:=n0 + 9 * NX.i x,row:=fun i => [SV.v (.int .u8 (apG n0 g (numsL v f (NX.i x)) i))],ext:=NX.c x})∧((((bytesOk (n0 + 9 * NX.i x) (NX.c x) {elem:=5,size:=1,rw:=true,lock:=false,lit:=false,flat:=true,n:=n0 + 9 * NX.i x,row:=fun i => [SV.v (.int .u8 ((fun i => SE.byteOf [SV.v (.int .u8 (apG n0 g (numsL v f (NX.i x)) i))]) i))],ext:=NX.c x})∧(((n0 + 9 * NX.i x) : Nat) ≤ M0))∧(I64 (v (0 + Int.toNat (↑(NX.i x) : Int)))))∧(∀ c_1 : Nat,((((bytesOk (n0 + 9 * NX.i x + 8) (n0 + 9 * NX.i x + 8 + c_1) {elem:=5,size:=1,rw:=true,lock:=false,lit:=false,flat:=true,n:=n0 + 9 * NX.i x + 8,row:=fun i => [SV.v (.int .u8 (apG (n0 + 9 * NX.i x) (fun i => SE.byteOf [SV.v (.int .u8 ((fun i => SE.byteOf [SV.v (.int .u8 (apG n0 g (numsL v f (NX.i x)) i))]) i))]) (be (v (0 + Int.toNat (↑(NX.i x) : Int)) % 18446744073709551616) 8) i))],ext:=n0 + 9 * NX.i x + 8 + c_1})∧(((n0 + 9 * NX.i x + 8) : Nat) ≤ M0))∧True)∧(∀ c_2 : Nat,(∃ x' : NX,((((((NX.i x') : Nat) ≤ n)∧(NX.i x' = 0 ∨ n0 + 9 * NX.i x' ≤ NX.c x'))∧(((SV.v (.int .i64 (IntKind.wrap IntKind.i64 ((↑(NX.i x) : Int) + 1)))) = (SV.v (.int .i64 ((↑(NX.i x') : Int)))))∧((((1 : Nat) = 1)∧(((1 : Nat) ≤ 1)∧(((SV.sl 240 1 0 (n0 + 9 * NX.i x + 8 + 1) (n0 + 9 * NX.i x + 8 + 1 + c_2)) = (SV.sl 240 1 0 (n0 + 9 * NX.i x') (NX.c x')))∧((SV.v (.bool (b||anyMin v (NX.i x)||!v (0 + Int.toNat (↑(NX.i x) : Int)) != -9223372036854775808||false||false))) = (SV.v (.bool (b||anyMin v (NX.i x'))))))))∧((((n0 + 9 * NX.i x + 8 + 1) : Nat) = (n0 + 9 * NX.i x'))∧((((NX.c x') : Nat) ≤ (n0 + 9 * NX.i x + 8 + 1 + c_2))∧(∀ i : Nat,(((i : Nat) < (n0 + 9 * NX.i x'))→([(SV.v (.int .u8 (apG (n0 + 9 * NX.i x + 8) (fun i => SE.byteOf [SV.v (.int .u8 (apG (n0 + 9 * NX.i x) (fun i => SE.byteOf [SV.v (.int .u8 ((fun i => SE.byteOf [SV.v (.int .u8 (apG n0 g (numsL v f (NX.i x)) i))]) i))]) (be (v (0 + Int.toNat (↑(NX.i x) : Int)) % 18446744073709551616) 8) i))]) [bif f (0 + Int.toNat (↑(NX.i x) : Int)) then 1 else 0] i)))] = [(SV.v (.int .u8 (apG n0 g (numsL v f (NX.i x')) i)))]))))))))∧(((n - NX.i x') : Nat) < (n - NX.i x)))))))))) (∃ c_1 : Nat,(True∧((((1 : Nat) = 1)∧(((1 : Nat) ≤ 1)∧(((SV.sl 40 1 0 (n0 + 9 * NX.i x) (NX.c x)) = (SV.sl 40 1 0 (n0 + 9 * n) (n0 + 9 * n + c_1)))∧((SV.v (.bool (b||anyMin v (NX.i x)))) = (SV.v (.bool (b||anyMin v n)))))))∧((((n0 + 9 * NX.i x) : Nat) = (n0 + 9 * n))∧((((n0 + 9 * n + c_1) : Nat) ≤ (NX.c x))∧(∀ i : Nat,(((i : Nat) < (n0 + 9 * n))→([(SV.v (.int .u8 (apG n0 g (numsL v f (NX.i x)) i)))] = [(SV.v (.int .u8 (apG n0 g (numsL v f n) i)))])))))))))))):=by kernel_rfl
def fHandle : List SV → Option (Prop × Nat × List Int × Bool)
  | [.agg [.v (.int .i64 x), .v (.int .i64 y)]] => some (I64 x ∧ I64 y, 8, c4 x ++ c4 y, notIn x 2147483647 || notIn y 2147483647)
  | _ => none
def ΓF1 : Ctrs := addCtr (addCtr (addCtr ΓF0 96 (hpCtr true sCount)) 104 (hpCtr true sVersion)) 100 (hpCtr true sNums)
theorem vcHandle (b : Bool) (n0 : Nat) (g : Nat→Int) (c : Nat) (x y : Int) : (vcFn Try.prog ΓF1 noΛ Try.f103 [.vp 0 0,.agg [.v (.int .i64 x),.v (.int .i64 y)]] (heapOf (uB (some b) n0 g c)) 64 (fun y' h' => FinE (uB (some b) n0 g c) (apE (.used (some b) n0 g c True) 0 True 8 (c4 x++c4 y) (notIn x 2147483647||notIn y 2147483647)) y' h')) = ((((bytesOk n0 c {elem:=5,size:=1,rw:=true,lock:=false,lit:=false,flat:=true,n:=n0,row:=fun i => [SV.v (.int .u8 (g i))],ext:=c})∧((n0 : Nat) ≤ M0))∧(I64 x))∧(∀ c_1 : Nat,((((bytesOk (n0 + 4) (n0 + 4 + c_1) {elem:=5,size:=1,rw:=true,lock:=false,lit:=false,flat:=true,n:=n0 + 4,row:=fun i => [SV.v (.int .u8 (apG n0 (fun i => SE.byteOf [SV.v (.int .u8 (g i))]) (be (x % 4294967296) 4) i))],ext:=n0 + 4 + c_1})∧(((n0 + 4) : Nat) ≤ M0))∧(I64 y))∧(∀ c_2 : Nat,(∃ c_3 : Nat,(True∧((((1 : Nat) = 1)∧(((1 : Nat) ≤ 1)∧(((SV.sl 128 1 0 (n0 + 4 + 4) (n0 + 4 + 4 + c_2)) = (SV.sl 128 1 0 (n0 + 8) (n0 + 8 + c_3)))∧((SV.v (.bool (b||notIn x 2147483647||notIn y 2147483647))) = (SV.v (.bool (b||(notIn x 2147483647||notIn y 2147483647))))))))∧((((n0 + 4 + 4) : Nat) = (n0 + 8))∧((((n0 + 8 + c_3) : Nat) ≤ (n0 + 4 + 4 + c_2))∧(∀ i : Nat,(((i : Nat) < (n0 + 8))→([(SV.v (.int .u8 (apG (n0 + 4) (fun i => SE.byteOf [SV.v (.int .u8 (apG n0 (fun i => SE.byteOf [SV.v (.int .u8 (g i))]) (be (x % 4294967296) 4) i))]) (be (y % 4294967296) 4) i)))] = [(SV.v (.int .u8 (apG n0 g (c4 x++c4 y) i)))])))))))))))):=by kernel_rfl
theorem vcVec (b : Bool) (n0 : Nat) (g : Nat→Int) (c : Nat) (xv : Int) (xf : Bool) (yv : Int) (yf : Bool) : (vcFn Try.prog ΓF1 noΛ Try.f99 [.vp 0 0,.agg [.v (.int .i64 xv),.v (.bool xf),.v (.int .i64 yv),.v (.bool yf)]] (heapOf (uB (some b) n0 g c)) 64 (fun y' h' => FinE (uB (some b) n0 g c) (apE (.used (some b) n0 g c True) 0 True 18 (vecL xv xf yv yf) (isMin xv||isMin yv)) y' h')) = ((((bytesOk n0 c {elem:=5,size:=1,rw:=true,lock:=false,lit:=false,flat:=true,n:=n0,row:=fun i => [SV.v (.int .u8 (g i))],ext:=c})∧((n0 : Nat) ≤ NB0))∧(((2 : Nat) = 2)∧(((1 : Nat) ≤ 2)∧(((2 : Nat) ≤ 100)∧(∀ i : Nat,(((i : Nat) < 2)→(isNum [SV.v (.int .i64 (bop (Nat.beq (0 + i) 0) xv yv)),SV.v (.bool (bop (Nat.beq (0 + i) 0) xf yf))])))))))∧(∀ c_1 : Nat,(∃ c_2 : Nat,(True∧((((1 : Nat) = 1)∧(((1 : Nat) ≤ 1)∧(((SV.sl 120 1 0 (n0 + 18) (n0 + 18 + c_1)) = (SV.sl 120 1 0 (n0 + 18) (n0 + 18 + c_2)))∧((SV.v (.bool (b||anyMin (fun i => nV [SV.v (.int .i64 (bop (Nat.beq (0 + i) 0) xv yv)),SV.v (.bool (bop (Nat.beq (0 + i) 0) xf yf))]) 2))) = (SV.v (.bool (b||(isMin xv||isMin yv))))))))∧((((n0 + 18) : Nat) = (n0 + 18))∧((((n0 + 18 + c_2) : Nat) ≤ (n0 + 18 + c_1))∧(∀ i : Nat,(((i : Nat) < (n0 + 18))→([(SV.v (.int .u8 (apG n0 (fun i => SE.byteOf [SV.v (.int .u8 (g i))]) (numsL (fun i => nV [SV.v (.int .i64 (bop (Nat.beq (0 + i) 0) xv yv)),SV.v (.bool (bop (Nat.beq (0 + i) 0) xf yf))]) (fun i => nF [SV.v (.int .i64 (bop (Nat.beq (0 + i) 0) xv yv)),SV.v (.bool (bop (Nat.beq (0 + i) 0) xf yf))]) 2) i)))] = [(SV.v (.int .u8 (apG n0 g (vecL xv xf yv yf) i)))])))))))))):=by kernel_rfl
theorem ΓF0_ok : ∀ f g, ΓF0 f = some g → g.ok Try.prog f := addCtr_ok ΓC1_ok (hp_ok Try.func102 (by kernel_rfl) (by kernel_rfl) Flag_spec)
theorem numsL_len (v : Nat → Int) (f : Nat → Bool) : ∀ k, (numsL v f k).length = 9 * k
  | 0 => rfl
  | k + 1 => by
    show (numsL v f k ++ numL (v k) (f k)).length = _
    rw [List.length_append, numsL_len v f k, numL_len]; omega
theorem nums_row (v : Nat → Int) (f : Nat → Bool) (n0 : Nat) (g : Nat → Int) (k i : Nat) : apG (n0 + 9 * k + 8) (apG (n0 + 9 * k) (apG n0 g (numsL v f k)) (i8 (v k))) (flB (f k)) i = apG n0 g (numsL v f (k + 1)) i := by
  rw [apG_ap (by rw [i8_len]), apG_ap (by rw [numsL_len])]
  rfl
theorem min_ne (a : Int) : (!(a != -9223372036854775808)) = isMin a := by
  unfold isMin bne
  rw [Bool.not_not]
theorem Nums_used (b : Bool) (n0 : Nat) (g : Nat → Int) (c n e n' c' : Nat) (v : Nat → Int) (f : Nat → Bool) (hn0 : n0 ≤ 1000000000) (h1 : 1 ≤ n) (hn : n ≤ 100) (hv : ∀ i, i < n → I64 (v i)) :
    vcFn Try.prog ΓF0 (ΛNums b n0 g n v f) Try.f100 [.vp 0 0, .sl 2 2 0 n c'] (heapOf [wB (some b) false (.sl 1 1 0 n0 c), bG n0 g c, numB e n' v f]) 64 (fun y h' => FinE [wB (some b) false (.sl 1 1 0 n0 c), bG n0 g c, numB e n' v f] (apE (.used (some b) n0 g c True) 0 True (9 * n) (numsL v f n) (anyMin v n)) y h') := by
  refine Eq.mpr (vcNums b n0 g c n e n' c' v f) ⟨⟨⟨0, c⟩, ⟨Nat.zero_le _, .inl rfl⟩, rfl, ⟨rfl, Nat.le_refl _, rfl, by simp [anyMin]⟩, rfl, Nat.le_refl _, fun i hi => congrArg (fun z => [SV.v (.int .u8 z)]) (apG_old hi).symm⟩, fun x ⟨h2, h3⟩ => sel_of (fun hlt => ?_) fun hge => ?_⟩
  · have hlt := of_decide_eq_true hlt
    have hlt : x.i < n := by omega
    have hw : IntKind.i64.wrap ((x.i : Int) + 1) = ((x.i + 1 : Nat) : Int) := wrap_i64 ⟨by omega, by omega⟩
    have hvx := hv x.i hlt
    rw [show 0 + Int.toNat (x.i : Int) = x.i by omega]
    refine ⟨⟨by omega, by omega⟩, bytesOk_bG _ _ _ (by omega), ⟨⟨bytesOk_bG _ _ _ (by omega), by show n0 + 9 * x.i ≤ 1099511627776; omega⟩, hvx⟩, fun c1 => ⟨⟨⟨bytesOk_bG _ _ _ (by omega), by show n0 + 9 * x.i + 8 ≤ 1099511627776; omega⟩, trivial⟩, fun c2 => ⟨⟨x.i + 1, n0 + 9 * x.i + 8 + 1 + c2⟩, ⟨⟨by show x.i + 1 ≤ n; omega, .inr (by show n0 + 9 * (x.i + 1) ≤ n0 + 9 * x.i + 8 + 1 + c2; omega)⟩, int_mk hw, ⟨rfl, Nat.le_refl _, ?_, ?_⟩, ?_, Nat.le_refl _, fun i hi => ?_⟩, by show n - (x.i + 1) < n - x.i; omega⟩⟩⟩
    · show SV.sl _ 1 0 _ _ = SV.sl _ 1 0 (n0 + 9 * (x.i + 1)) _
      rw [show n0 + 9 * (x.i + 1) = n0 + 9 * x.i + 8 + 1 by omega]
    · show SV.v (.bool _) = SV.v (.bool (b || (anyMin v x.i || isMin (v x.i))))
      rw [min_ne, Bool.or_false, Bool.or_false, Bool.or_assoc]
    · show n0 + 9 * x.i + 8 + 1 = n0 + 9 * (x.i + 1)
      omega
    · exact congrArg (fun z => [SV.v (.int .u8 z)]) (nums_row v f n0 g x.i i)
  · have hge := of_decide_eq_false hge
    have hx : x.i = n := by omega
    rw [hx] at h3 ⊢
    have h3 : n0 + 9 * n ≤ x.c := by omega
    have he : n0 + 9 * n + (x.c - (n0 + 9 * n)) = x.c := by omega
    exact ⟨x.c - (n0 + 9 * n), trivial, ⟨rfl, Nat.le_refl _, by rw [he], rfl⟩, rfl, by omega, fun i hi => rfl⟩
theorem isNum_row {r : List SV} (h : isNum r) : r = [.v (.int .i64 (nV r)), .v (.bool (nF r))] ∧ I64 (nV r) := by
  unfold isNum at h
  split at h
  · exact ⟨rfl, h⟩
  · exact h.elim
theorem same_numB {S : Blk} {n : Nat} (h1 : roOk2 S = true) (hn : S.n = n) (h : ∀ i, i < n → isNum (S.row i)) : BlkSame S (numB S.elem n (fun i => nV (S.row i)) (fun i => nF (S.row i))) := by
  simp only [roOk2, Bool.and_eq_true, Bool.not_eq_true'] at h1
  obtain ⟨⟨⟨⟨⟨a1, a2⟩, a3⟩, a4⟩, a5⟩, a6⟩ := h1
  exact ⟨Nat.eq_of_beq_eq_true a4, a2, a1, hn, Nat.eq_of_beq_eq_true a5, a3, rfl, a6, fun i hi => (isNum_row (h i (by omega))).1⟩
theorem Nums_spec : HpSpec Try.prog 100 sNums := hp_spec hm ΓF0_ok Try.func100 (Λ := fun args bs => match args, bs with
    | [_, .sl _ _ _ n _], [B, D, S] => match wrOf [B, D] with
      | some (.used (some b) n0 g _ _) => ΛNums b n0 g n (fun i => nV (S.row i)) (fun i => nF (S.row i))
      | _ => noΛ
    | _, _ => noΛ) fun args bs e hs hp => by
  unfold sNums at hs
  split at hs <;> try (cases hs; done)
  rename_i n c' B D S
  split at hs <;> try (cases hs; done)
  rename_i b n0 g c p hw
  obtain ⟨ha, he⟩ := bif_some hs
  subst he
  obtain ⟨⟨hp, hm⟩, hn, h1, h100, hv⟩ : (p ∧ n0 ≤ NB0) ∧ S.n = n ∧ 1 ≤ n ∧ n ≤ 100 ∧ ∀ i, i < n → isNum (S.row i) := hp
  have hsame := (wrOf_used hw hp).1
  refine ⟨[wB (some b) false (.sl 1 1 0 n0 c), bG n0 g c, numB S.elem n (fun i => nV (S.row i)) (fun i => nF (S.row i))], ⟨hsame.1, hsame.2.1, same_numB ha hn hv, trivial⟩, ?_⟩
  simp only [hw]
  exact Nums_used b n0 g c n S.elem n c' _ _ hm h1 h100 fun i hi => (isNum_row (hv i hi)).2
theorem ΓF1_ok : ∀ f g, ΓF1 f = some g → g.ok Try.prog f := addCtr_ok (addCtr_ok (addCtr_ok ΓF0_ok (hp_ok Try.func96 (by kernel_rfl) (by kernel_rfl) Count_spec)) (hp_ok Try.func104 (by kernel_rfl) (by kernel_rfl) Version_spec)) (hp_ok Try.func100 (by kernel_rfl) (by kernel_rfl) Nums_spec)
theorem Handle_spec : HpSpec Try.prog 103 (sApp {} NB0 fHandle) := app_spec ΓF1_ok Try.func103 (Λ0 := fun _ _ => noΛ) (Λ1 := fun _ _ _ _ _ => noΛ)
  (fun rest q k L b kd h hq ha => by cases kd <;> cases ha)
  (fun rest q k L b kd n0 g c h hq ha hm hn => by
  unfold fHandle at h
  split at h <;> try (cases h; done)
  rename_i x y
  cases kd with
  | none => cases ha
  | some bd =>
    cases h
    have hm : n0 ≤ 1000000000 := hm
    exact Eq.mpr (vcHandle bd n0 g c x y) ⟨⟨⟨bytesOk_bG _ _ _ (by omega), by show n0 ≤ 1099511627776; omega⟩, hq.1⟩, fun c1 => ⟨⟨⟨bytesOk_bG _ _ _ (by omega), by show n0 + 4 ≤ 1099511627776; omega⟩, hq.2⟩, fun c2 => tailU (by omega) (Bool.or_assoc _ _ _) fun i hi => apG_ap (g := g) (L := c4 x) (M := c4 y) (by rw [c4_len]) i⟩⟩)
def fVec : List SV → Option (Prop × Nat × List Int × Bool)
  | [.agg [.v (.int .i64 xv), .v (.bool xf), .v (.int .i64 yv), .v (.bool yf)]] => some (I64 xv ∧ I64 yv, 18, vecL xv xf yv yf, isMin xv || isMin yv)
  | _ => none
theorem two_cases {i : Nat} (h : i < 2) : i = 0 ∨ i = 1 := by omega
theorem Vec_spec : HpSpec Try.prog 99 (sApp {} NB0 fVec) := app_spec ΓF1_ok Try.func99 (Λ0 := fun _ _ => noΛ) (Λ1 := fun _ _ _ _ _ => noΛ)
  (fun rest q k L b kd h hq ha => by cases kd <;> cases ha)
  (fun rest q k L b kd n0 g c h hq ha hm hn => by
  unfold fVec at h
  split at h <;> try (cases h; done)
  rename_i xv xf yv yf
  cases kd with
  | none => cases ha
  | some bd =>
    cases h
    exact Eq.mpr (vcVec bd n0 g c xv xf yv yf) ⟨⟨⟨bytesOk_bG _ _ _ (by omega), hm⟩, rfl, by omega, by omega, fun i hi => by
      rcases two_cases hi with rfl | rfl
      · exact hq.1
      · exact hq.2⟩, fun c1 => tailU rfl rfl fun i hi => rfl⟩)
end Go.Proofs.Ytjdldadmaaeimaa
end

section
set_option maxRecDepth 100000
set_option linter.unusedSimpArgs false
set_option linter.unusedVariables false
namespace Go.Proofs.Ytjdldadmaaeimaa
open Go.SE Go.RowKit

def fPose : List SV → Option (Prop × Nat × List Int × Bool)
  | [.agg [.v (.int .i64 xv), .v (.bool xf), .v (.int .i64 yv), .v (.bool yf), .v (.int .i64 cv), .v (.bool cf), .v (.int .i64 sv), .v (.bool sf)]] => some (I64 xv ∧ I64 yv ∧ I64 cv ∧ I64 sv, 36, vecL xv xf yv yf ++ (numL cv cf ++ numL sv sf), isMin xv || isMin yv || (isMin cv || isMin sv))
  | _ => none
theorem vcPose (b : Bool) (n0 : Nat) (g : Nat→Int) (c : Nat) (xv : Int) (xf : Bool) (yv : Int) (yf : Bool) (cv : Int) (cf : Bool) (sv : Int) (sf : Bool) : (vcFn Try.prog ΓF1 noΛ Try.f98 [.vp 0 0,.agg [.v (.int .i64 xv),.v (.bool xf),.v (.int .i64 yv),.v (.bool yf),.v (.int .i64 cv),.v (.bool cf),.v (.int .i64 sv),.v (.bool sf)]] (heapOf (uB (some b) n0 g c)) 64 (fun y' h' => FinE (uB (some b) n0 g c) (apE (.used (some b) n0 g c True) 0 True 36 (vecL xv xf yv yf++(numL cv cf++numL sv sf)) (isMin xv||isMin yv||(isMin cv||isMin sv))) y' h')) = ((((bytesOk n0 c {elem:=5,size:=1,rw:=true,lock:=false,lit:=false,flat:=true,n:=n0,row:=fun i => [SV.v (.int .u8 (g i))],ext:=c})∧((n0 : Nat) ≤ NB0))∧(((4 : Nat) = 4)∧(((1 : Nat) ≤ 4)∧(((4 : Nat) ≤ 100)∧(∀ i : Nat,(((i : Nat) < 4)→(isNum [SV.v (.int .i64 (bop (Nat.beq (0 + i) 0) xv (bop (Nat.beq (0 + i) 1) yv (bop (Nat.beq (0 + i) 2) cv sv)))),SV.v (.bool (bop (Nat.beq (0 + i) 0) xf (bop (Nat.beq (0 + i) 1) yf (bop (Nat.beq (0 + i) 2) cf sf))))])))))))∧(∀ c_1 : Nat,(∃ c_2 : Nat,(True∧((((1 : Nat) = 1)∧(((1 : Nat) ≤ 1)∧(((SV.sl 184 1 0 (n0 + 36) (n0 + 36 + c_1)) = (SV.sl 184 1 0 (n0 + 36) (n0 + 36 + c_2)))∧((SV.v (.bool (b||anyMin (fun i => nV [SV.v (.int .i64 (bop (Nat.beq (0 + i) 0) xv (bop (Nat.beq (0 + i) 1) yv (bop (Nat.beq (0 + i) 2) cv sv)))),SV.v (.bool (bop (Nat.beq (0 + i) 0) xf (bop (Nat.beq (0 + i) 1) yf (bop (Nat.beq (0 + i) 2) cf sf))))]) 4))) = (SV.v (.bool (b||(isMin xv||isMin yv||(isMin cv||isMin sv)))))))))∧((((n0 + 36) : Nat) = (n0 + 36))∧((((n0 + 36 + c_2) : Nat) ≤ (n0 + 36 + c_1))∧(∀ i : Nat,(((i : Nat) < (n0 + 36))→([(SV.v (.int .u8 (apG n0 (fun i => SE.byteOf [SV.v (.int .u8 (g i))]) (numsL (fun i => nV [SV.v (.int .i64 (bop (Nat.beq (0 + i) 0) xv (bop (Nat.beq (0 + i) 1) yv (bop (Nat.beq (0 + i) 2) cv sv)))),SV.v (.bool (bop (Nat.beq (0 + i) 0) xf (bop (Nat.beq (0 + i) 1) yf (bop (Nat.beq (0 + i) 2) cf sf))))]) (fun i => nF [SV.v (.int .i64 (bop (Nat.beq (0 + i) 0) xv (bop (Nat.beq (0 + i) 1) yv (bop (Nat.beq (0 + i) 2) cv sv)))),SV.v (.bool (bop (Nat.beq (0 + i) 0) xf (bop (Nat.beq (0 + i) 1) yf (bop (Nat.beq (0 + i) 2) cf sf))))]) 4) i)))] = [(SV.v (.int .u8 (apG n0 g (vecL xv xf yv yf++(numL cv cf++numL sv sf)) i)))])))))))))):=by kernel_rfl
def ΓG0 : Ctrs := addCtr (addCtr (addCtr ΓF1 103 (hpCtr true (sApp {} NB0 fHandle))) 99 (hpCtr true (sApp {} NB0 fVec))) 98 (hpCtr true (sApp {} NB0 fPose))
theorem four_cases {i : Nat} (h : i < 4) : i = 0 ∨ i = 1 ∨ i = 2 ∨ i = 3 := by omega
theorem Pose_spec : HpSpec Try.prog 98 (sApp {} NB0 fPose) := app_spec ΓF1_ok Try.func98 (Λ0 := fun _ _ => noΛ) (Λ1 := fun _ _ _ _ _ => noΛ)
  (fun rest q k L b kd h hq ha => by cases kd <;> cases ha)
  (fun rest q k L b kd n0 g c h hq ha hm hn => by
  unfold fPose at h
  split at h <;> try (cases h; done)
  rename_i xv xf yv yf cv cf sv sf
  cases kd with
  | none => cases ha
  | some bd =>
    cases h
    obtain ⟨q1, q2, q3, q4⟩ := hq
    exact Eq.mpr (vcPose bd n0 g c xv xf yv yf cv cf sv sf) ⟨⟨⟨bytesOk_bG _ _ _ (by omega), hm⟩, rfl, by omega, by omega, fun i hi => by
      rcases four_cases hi with rfl | rfl | rfl | rfl
      · exact q1
      · exact q2
      · exact q3
      · exact q4⟩, fun c1 => tailU rfl (by simp [anyMin, nV, bop, Nat.beq, Bool.or_assoc]) fun i hi => by
        congr 1⟩)
theorem spotsL_len (x y : Nat → Int) : ∀ k, (spotsL x y k).length = 16 * k
  | 0 => rfl
  | k + 1 => by
    show (spotsL x y k ++ (i8 (x k) ++ i8 (y k))).length = _
    rw [List.length_append, spotsL_len x y k, List.length_append, i8_len, i8_len]; omega
theorem spots_row (x y : Nat → Int) (n0 : Nat) (g : Nat → Int) (k i : Nat) : apG (n0 + 16 * k + 8) (apG (n0 + 16 * k) (apG n0 g (spotsL x y k)) (i8 (x k))) (i8 (y k)) i = apG n0 g (spotsL x y (k + 1)) i := by
  rw [apG_ap (by rw [i8_len]), apG_ap (by rw [spotsL_len])]
  rfl
theorem isPair_row {r : List SV} (h : isPair r) : r = [.v (.int .i64 (pX r)), .v (.int .i64 (pY r))] ∧ I64 (pX r) ∧ I64 (pY r) := by
  unfold isPair at h
  split at h
  · exact ⟨rfl, h⟩
  · exact h.elim
theorem same_spB {S : Blk} {n : Nat} (h1 : roOk2 S = true) (hn : S.n = n) (h : ∀ i, i < n → isPair (S.row i)) : BlkSame S (spB S.elem n (fun i => pX (S.row i)) (fun i => pY (S.row i))) := by
  simp only [roOk2, Bool.and_eq_true, Bool.not_eq_true'] at h1
  obtain ⟨⟨⟨⟨⟨a1, a2⟩, a3⟩, a4⟩, a5⟩, a6⟩ := h1
  exact ⟨Nat.eq_of_beq_eq_true a4, a2, a1, hn, Nat.eq_of_beq_eq_true a5, a3, rfl, a6, fun i hi => (isPair_row (h i (by omega))).1⟩
end Go.Proofs.Ytjdldadmaaeimaa
end

section
set_option maxRecDepth 100000
set_option linter.unusedSimpArgs false
set_option linter.unusedVariables false
namespace Go.Proofs.Ytjdldadmaaeimaa
open Go.SE Go.RowKit

def sAt (a : List SV) (r : SV) (args : List SV) : Option (Option Prop × SV) := some (some (args = a), r)
def zN : List SV := [iV 0, bV false]
def zShape : List SV := [iV 0, iV 0, iV 0, iV 0, nilS]
def zSh : SV := .agg zShape
def relC : SV := .agg ([iV 6, iV 1, iV 0, iV 0, iV 0] ++ zShape ++ (zN ++ zN ++ zN ++ zN) ++ (zN ++ zN) ++ zN ++ [iV 0, bV false] ++ (zN ++ zN) ++ (zN ++ zN) ++ [iV 2] ++ [iV 0, iV 0, iV 0, iV 0] ++ [iV 0, iV 0] ++ [iV 0, iV 0])
def ΛZ (fn : Func) (t : Nat) : Nat → Option LoopSpec := addLoop noΛ fn 0 Nat (fun z => z = 0) (fun z => z) [(t, fun z => .v (.int .i64 z))] []
def sDone (args : List SV) (bs : List Blk) : Option Eff := match args with
  | [.vp 0 0] => match wrOf bs with
    | some (.used (some b) n g c p) => some (.det (some (p ∧ 1 ≤ n ∧ n < 1000000000)) (bif b then .tup [strS emp, iV 3] else .tup [strS (strOfNums (lstG n g)), iV 0]) [(0, wB (some b) false (.sl 1 1 0 n c)), (1, bG n g c)])
    | _ => none
  | _ => none
def relL : List Int := [6] ++ (c4 1 ++ c4 2)
def sCallR (args : List SV) (bs : List Blk) : Option Eff := match args with
  | [.vp 0 0, x] => match wrOf bs with
    | some (.fresh (some b)) => some (apE (.fresh (some b)) 0 (x = relC) 9 relL false)
    | _ => none
  | _ => none
def ΓH0 : Ctrs := addCtr noCtrs 106 (pureCtr (sAt [nilS, nilS] (bV true)))
def ΓH1 : Ctrs := addCtr ΓH0 72 (pureCtr (sAt [zSh, zSh] (bV true)))
theorem vcUsedR (R : SV→Prop) : (vcPure Try.prog noCtrs noΛ Try.f69 [relC] R) = (R (SV.tup [(SV.agg [(SV.v (.int .i64 6)),(SV.v (.int .i64 1)),(SV.v (.int .i64 0)),(SV.v (.int .i64 0)),(SV.v (.int .i64 0)),(SV.v (.int .i64 0)),(SV.v (.int .i64 0)),(SV.v (.int .i64 0)),(SV.v (.int .i64 0)),(SV.v (Value.slice none 0 0)),(SV.v (.int .i64 0)),(SV.v (.bool false)),(SV.v (.int .i64 0)),(SV.v (.bool false)),(SV.v (.int .i64 0)),(SV.v (.bool false)),(SV.v (.int .i64 0)),(SV.v (.bool false)),(SV.v (.int .i64 0)),(SV.v (.bool false)),(SV.v (.int .i64 0)),(SV.v (.bool false)),(SV.v (.int .i64 0)),(SV.v (.bool false)),(SV.v (.int .i64 0)),(SV.v (.bool false)),(SV.v (.int .i64 0)),(SV.v (.bool false)),(SV.v (.int .i64 0)),(SV.v (.bool false)),(SV.v (.int .i64 0)),(SV.v (.bool false)),(SV.v (.int .i64 0)),(SV.v (.bool false)),(SV.v (.int .i64 2)),(SV.v (.int .i64 0)),(SV.v (.int .i64 0)),(SV.v (.int .i64 0)),(SV.v (.int .i64 0)),(SV.v (.int .i64 0)),(SV.v (.int .i64 0)),(SV.v (.int .i64 0)),(SV.v (.int .i64 0))]),(SV.v (.bool true))])):=by kernel_rfl
theorem vcEqZ (R : SV→Prop) : (vcPure Try.prog noCtrs (ΛZ Try.f106 13) Try.f106 [nilS,nilS] R) = ((∃ x : Nat,(((x : Nat) = 0)∧(((SV.v (.int .i64 0)) = (SV.v (.int .i64 ((↑x : Int)))))∧True)))∧(∀ x : Nat,(((x : Nat) = 0)→(R (SV.v (.bool true)))))):=by kernel_rfl
theorem vcSameShZ (R : SV→Prop) : (vcPure Try.prog ΓH0 noΛ Try.f72 [zSh,zSh] R) = (([(SV.v (Value.slice none 0 0)),(SV.v (Value.slice none 0 0))] = [(SV.v (Value.slice none 0 0)),(SV.v (Value.slice none 0 0))])∧(R (SV.v (.bool true)))):=by kernel_rfl
theorem vcSameR (R : SV→Prop) : (vcPure Try.prog ΓH1 noΛ Try.f25 [relC,relC] R) = (([(SV.agg [(SV.v (.int .i64 0)),(SV.v (.int .i64 0)),(SV.v (.int .i64 0)),(SV.v (.int .i64 0)),(SV.v (Value.slice none 0 0))]),(SV.agg [(SV.v (.int .i64 0)),(SV.v (.int .i64 0)),(SV.v (.int .i64 0)),(SV.v (.int .i64 0)),(SV.v (Value.slice none 0 0))])] = [(SV.agg [(SV.v (.int .i64 0)),(SV.v (.int .i64 0)),(SV.v (.int .i64 0)),(SV.v (.int .i64 0)),(SV.v (Value.slice none 0 0))]),(SV.agg [(SV.v (.int .i64 0)),(SV.v (.int .i64 0)),(SV.v (.int .i64 0)),(SV.v (.int .i64 0)),(SV.v (Value.slice none 0 0))])])∧(R (SV.v (.bool true)))):=by kernel_rfl
theorem at_spec {Γ : Ctrs} (hΓ : ∀ f g, Γ f = some g → g.ok Try.prog f) {f : FuncId} {fn : Func} (hf : Try.prog.funcs[f]? = some fn) {a : List SV} {r : SV} (ha : plainL a = true) (hr : plain r = true) {Λ : Nat → Option LoopSpec} (h : vcPure Try.prog Γ Λ fn a (· = r)) : PureSpec Try.prog f (sAt a r) :=
  vc_spec hm hΓ hf (Λ := fun _ => Λ) fun args p x hs hp => by
    unfold sAt at hs
    cases hs
    have := hp _ rfl
    subst this
    exact ⟨ha, hr, h⟩
theorem UsedR_spec : PureSpec Try.prog 69 (sAt [relC] (.tup [relC, bV true])) := at_spec noCtrs_ok Try.func69 (by kernel_rfl) (by kernel_rfl) (by rw [vcUsedR]; kernel_rfl)
theorem EqZ_spec : PureSpec Try.prog 106 (sAt [nilS, nilS] (bV true)) := at_spec noCtrs_ok Try.func106 (by kernel_rfl) (by kernel_rfl) (Eq.mpr (vcEqZ _) ⟨⟨0, rfl, rfl, trivial⟩, fun _ _ => rfl⟩)
theorem ΓH0_ok : ∀ f g, ΓH0 f = some g → g.ok Try.prog f := addCtr_ok noCtrs_ok (pure_ok Try.func106 (by kernel_rfl) (by kernel_rfl) EqZ_spec)
theorem SameShZ_spec : PureSpec Try.prog 72 (sAt [zSh, zSh] (bV true)) := at_spec ΓH0_ok Try.func72 (by kernel_rfl) (by kernel_rfl) (Λ := noΛ) (by rw [vcSameShZ]; exact ⟨rfl, rfl⟩)
theorem ΓH1_ok : ∀ f g, ΓH1 f = some g → g.ok Try.prog f := addCtr_ok ΓH0_ok (pure_ok Try.func72 (by kernel_rfl) (by kernel_rfl) SameShZ_spec)
theorem SameR_spec : PureSpec Try.prog 25 (sAt [relC, relC] (bV true)) := at_spec ΓH1_ok Try.func25 (by kernel_rfl) (by kernel_rfl) (Λ := noΛ) (by rw [vcSameR]; exact ⟨rfl, rfl⟩)
end Go.Proofs.Ytjdldadmaaeimaa
end

section
set_option maxRecDepth 100000
set_option linter.unusedSimpArgs false
set_option linter.unusedVariables false
namespace Go.Proofs.Ytjdldadmaaeimaa
open Go.SE Go.RowKit

def sSpots2 (args : List SV) (bs : List Blk) : Option Eff := match args, bs with
  | [.vp 0 0, .sl 2 2 0 n _], [B, D, S] => match wrOf [B, D] with
    | some (.used (some b) n0 g c p) => bif roOk2 S then some (apE (.used (some b) n0 g c p) NB0 ((S.n = n ∧ n < 100 ∧ n0 ≤ c) ∧ ∀ i, i < n → isPair (S.row i)) (16 * n) (spotsL (fun i => pX (S.row i)) (fun i => pY (S.row i)) n) false) else none
    | _ => none
  | _, _ => none
noncomputable def ΛSpots2 (b : Bool) (n0 : Nat) (g : Nat → Int) (n : Nat) (x y : Nat → Int) : Nat → Option LoopSpec := addLoopN noΛ Try.f105 0 NX (fun z => z.i ≤ n ∧ n0 + 16 * z.i ≤ z.c) (fun z => n - z.i) [(8, fun z => .v (.int .i64 z.i))] [(0, fun z => wB (some b) false (.sl 40 1 0 (n0 + 16 * z.i) z.c))] [(40, fun z => bG (n0 + 16 * z.i) (apG n0 g (spotsL x y z.i)) z.c, inVar 0 0)]
theorem vcSpots2 (b : Bool) (n0 : Nat) (g : Nat→Int) (c n e n' c' : Nat) (x y : Nat→Int) : (vcFn Try.prog ΓF1 (ΛSpots2 b n0 g n x y) Try.f105 [.vp 0 0,.sl 2 2 0 n c'] (heapOf [wB (some b) false (.sl 1 1 0 n0 c),bG n0 g c,spB e n' x y]) 64 (fun y' h' => FinE [wB (some b) false (.sl 1 1 0 n0 c),bG n0 g c,spB e n' x y] (apE (.used (some b) n0 g c True) 0 True (16 * n) (spotsL x y n) false) y' h')) = ((∃ x_1 : NX,(((((NX.i x_1) : Nat) ≤ n)∧(((n0 + 16 * NX.i x_1) : Nat) ≤ (NX.c x_1)))∧(((SV.v (.int .i64 0)) = (SV.v (.int .i64 ((↑(NX.i x_1) : Int)))))∧((((1 : Nat) = 1)∧(((1 : Nat) ≤ 1)∧(((SV.sl 1 1 0 n0 c) = (SV.sl 1 1 0 (n0 + 16 * NX.i x_1) (NX.c x_1)))∧((SV.v (.bool b)) = (SV.v (.bool b))))))∧(((n0 : Nat) = (n0 + 16 * NX.i x_1))∧((((NX.c x_1) : Nat) ≤ c)∧(∀ i : Nat,(((i : Nat) < (n0 + 16 * NX.i x_1))→([(SV.v (.int .u8 (g i)))] = [(SV.v (.int .u8 (apG n0 g (spotsL x y (NX.i x_1)) i)))])))))))))∧(∀ x_1 : NX,(((((NX.i x_1) : Nat) ≤ n)∧(((n0 + 16 * NX.i x_1) : Nat) ≤ (NX.c x_1)))→(sel (decide ((↑(NX.i x_1) : Int) < (↑n : Int))) ((((0 : Int) ≤ ((↑(NX.i x_1) : Int)))∧((((↑(NX.i x_1) : Int)) : Int) < ((↑n : Int))))∧((((bytesOk (n0 + 16 * NX.i x_1) (NX.c x_1) {elem:=5,size:=1,rw:=true,lock:=false,lit:=false,flat:=true,n:=n0 + 16 * NX.i x_1,row:=fun i => [SV.v (.int .u8 (apG n0 g (spotsL x y (NX.i x_1)) i))],ext:=NX.c x_1})∧(((n0 + 16 * NX.i x_1) : Nat) ≤ M0))∧(I64 (x (0 + Int.toNat (↑(NX.i x_1) : Int)))))∧(∀ c_1 : Nat,((((bytesOk (n0 + 16 * NX.i x_1 + 8) (n0 + 16 * NX.i x_1 + 8 + c_1) {elem:=5,size:=1,rw:=true,lock:=false,lit:=false,flat:=true,n:=n0 + 16 * NX.i x_1 + 8,row:=fun i => [SV.v (.int .u8 (apG (n0 + 16 * NX.i x_1) (fun i => SE.byteOf [SV.v (.int .u8 (apG n0 g (spotsL x y (NX.i x_1)) i))]) (be (x (0 + Int.toNat (↑(NX.i x_1) : Int)) % 18446744073709551616) 8) i))],ext:=n0 + 16 * NX.i x_1 + 8 + c_1})∧(((n0 + 16 * NX.i x_1 + 8) : Nat) ≤ M0))∧(I64 (y (0 + Int.toNat (↑(NX.i x_1) : Int)))))∧(∀ c_2 : Nat,(∃ x' : NX,((((((NX.i x') : Nat) ≤ n)∧(((n0 + 16 * NX.i x') : Nat) ≤ (NX.c x')))∧(((SV.v (.int .i64 (IntKind.wrap IntKind.i64 ((↑(NX.i x_1) : Int) + 1)))) = (SV.v (.int .i64 ((↑(NX.i x') : Int)))))∧((((1 : Nat) = 1)∧(((1 : Nat) ≤ 1)∧(((SV.sl 216 1 0 (n0 + 16 * NX.i x_1 + 8 + 8) (n0 + 16 * NX.i x_1 + 8 + 8 + c_2)) = (SV.sl 216 1 0 (n0 + 16 * NX.i x') (NX.c x')))∧((SV.v (.bool (b||false||false))) = (SV.v (.bool b))))))∧((((n0 + 16 * NX.i x_1 + 8 + 8) : Nat) = (n0 + 16 * NX.i x'))∧((((NX.c x') : Nat) ≤ (n0 + 16 * NX.i x_1 + 8 + 8 + c_2))∧(∀ i : Nat,(((i : Nat) < (n0 + 16 * NX.i x'))→([(SV.v (.int .u8 (apG (n0 + 16 * NX.i x_1 + 8) (fun i => SE.byteOf [SV.v (.int .u8 (apG (n0 + 16 * NX.i x_1) (fun i => SE.byteOf [SV.v (.int .u8 (apG n0 g (spotsL x y (NX.i x_1)) i))]) (be (x (0 + Int.toNat (↑(NX.i x_1) : Int)) % 18446744073709551616) 8) i))]) (be (y (0 + Int.toNat (↑(NX.i x_1) : Int)) % 18446744073709551616) 8) i)))] = [(SV.v (.int .u8 (apG n0 g (spotsL x y (NX.i x')) i)))]))))))))∧(((n - NX.i x') : Nat) < (n - NX.i x_1))))))))) (∃ c_1 : Nat,(True∧((((1 : Nat) = 1)∧(((1 : Nat) ≤ 1)∧(((SV.sl 40 1 0 (n0 + 16 * NX.i x_1) (NX.c x_1)) = (SV.sl 40 1 0 (n0 + 16 * n) (n0 + 16 * n + c_1)))∧((SV.v (.bool b)) = (SV.v (.bool (b||false)))))))∧((((n0 + 16 * NX.i x_1) : Nat) = (n0 + 16 * n))∧((((n0 + 16 * n + c_1) : Nat) ≤ (NX.c x_1))∧(∀ i : Nat,(((i : Nat) < (n0 + 16 * n))→([(SV.v (.int .u8 (apG n0 g (spotsL x y (NX.i x_1)) i)))] = [(SV.v (.int .u8 (apG n0 g (spotsL x y n) i)))])))))))))))):=by kernel_rfl
def shL (k r w h : Int) (n : Nat) (x y : Nat → Int) : List Int := [k % 256] ++ (i8 r ++ (i8 w ++ (i8 h ++ ([(n : Int) % 256] ++ (bif Nat.ble n 8 then spotsL x y n else [])))))
def shN (n : Nat) : Nat := bif Nat.ble n 8 then 26 + 16 * n else 26
def shBad (k : Int) (n : Nat) : Bool := notIn k 255 || notIn (n : Int) 8
def NB1 : Nat := 900000000
def sShape (args : List SV) (bs : List Blk) : Option Eff := match args, bs with
  | [.vp 0 0, .agg [.v (.int .i64 k), .v (.int .i64 r), .v (.int .i64 w), .v (.int .i64 h), .sl 2 2 0 n _]], [B, D, S] => match wrOf [B, D] with
    | some (.used (some b) n0 g c p) => bif roOk2 S then some (apE (.used (some b) n0 g c p) NB1 (((I64 k ∧ I64 r ∧ I64 w ∧ I64 h) ∧ S.n = n ∧ n < 100) ∧ ∀ i, i < n → isPair (S.row i)) (shN n) (shL k r w h n (fun i => pX (S.row i)) (fun i => pY (S.row i))) (shBad k n)) else none
    | _ => none
  | _, _ => none
def ΓSh : Ctrs := addCtr (addCtr ΓF1 118 (hpCtr true sSmall)) 105 (hpCtr true sSpots2)
theorem vcShape (b : Bool) (n0 : Nat) (g : Nat→Int) (c : Nat) (k r w h : Int) (n e n' c' : Nat) (x y : Nat→Int) : (vcFn Try.prog ΓSh noΛ Try.f97 [.vp 0 0,.agg [.v (.int .i64 k),.v (.int .i64 r),.v (.int .i64 w),.v (.int .i64 h),.sl 2 2 0 n c']] (heapOf [wB (some b) false (.sl 1 1 0 n0 c),bG n0 g c,spB e n' x y]) 64 (fun y' h' => FinE [wB (some b) false (.sl 1 1 0 n0 c),bG n0 g c,spB e n' x y] (apE (.used (some b) n0 g c True) 0 True (shN n) (shL k r w h n x y) (shBad k n)) y' h')) = ((((bytesOk n0 c {elem:=5,size:=1,rw:=true,lock:=false,lit:=false,flat:=true,n:=n0,row:=fun i => [SV.v (.int .u8 (g i))],ext:=c})∧((n0 : Nat) ≤ M0))∧(I64 k))∧(∀ c_1 : Nat,((((bytesOk (n0 + 1) (n0 + 1 + c_1) {elem:=5,size:=1,rw:=true,lock:=false,lit:=false,flat:=true,n:=n0 + 1,row:=fun i => [SV.v (.int .u8 (apG n0 (fun i => SE.byteOf [SV.v (.int .u8 (g i))]) [k % 256] i))],ext:=n0 + 1 + c_1})∧(((n0 + 1) : Nat) ≤ M0))∧(I64 r))∧(∀ c_2 : Nat,((((bytesOk (n0 + 1 + 8) (n0 + 1 + 8 + c_2) {elem:=5,size:=1,rw:=true,lock:=false,lit:=false,flat:=true,n:=n0 + 1 + 8,row:=fun i => [SV.v (.int .u8 (apG (n0 + 1) (fun i => SE.byteOf [SV.v (.int .u8 (apG n0 (fun i => SE.byteOf [SV.v (.int .u8 (g i))]) [k % 256] i))]) (be (r % 18446744073709551616) 8) i))],ext:=n0 + 1 + 8 + c_2})∧(((n0 + 1 + 8) : Nat) ≤ M0))∧(I64 w))∧(∀ c_3 : Nat,((((bytesOk (n0 + 1 + 8 + 8) (n0 + 1 + 8 + 8 + c_3) {elem:=5,size:=1,rw:=true,lock:=false,lit:=false,flat:=true,n:=n0 + 1 + 8 + 8,row:=fun i => [SV.v (.int .u8 (apG (n0 + 1 + 8) (fun i => SE.byteOf [SV.v (.int .u8 (apG (n0 + 1) (fun i => SE.byteOf [SV.v (.int .u8 (apG n0 (fun i => SE.byteOf [SV.v (.int .u8 (g i))]) [k % 256] i))]) (be (r % 18446744073709551616) 8) i))]) (be (w % 18446744073709551616) 8) i))],ext:=n0 + 1 + 8 + 8 + c_3})∧(((n0 + 1 + 8 + 8) : Nat) ≤ M0))∧(I64 h))∧(∀ c_4 : Nat,((((bytesOk (n0 + 1 + 8 + 8 + 8) (n0 + 1 + 8 + 8 + 8 + c_4) {elem:=5,size:=1,rw:=true,lock:=false,lit:=false,flat:=true,n:=n0 + 1 + 8 + 8 + 8,row:=fun i => [SV.v (.int .u8 (apG (n0 + 1 + 8 + 8) (fun i => SE.byteOf [SV.v (.int .u8 (apG (n0 + 1 + 8) (fun i => SE.byteOf [SV.v (.int .u8 (apG (n0 + 1) (fun i => SE.byteOf [SV.v (.int .u8 (apG n0 (fun i => SE.byteOf [SV.v (.int .u8 (g i))]) [k % 256] i))]) (be (r % 18446744073709551616) 8) i))]) (be (w % 18446744073709551616) 8) i))]) (be (h % 18446744073709551616) 8) i))],ext:=n0 + 1 + 8 + 8 + 8 + c_4})∧(((n0 + 1 + 8 + 8 + 8) : Nat) ≤ M0))∧(I64 (↑n : Int)))∧(∀ c_5 : Nat,(sel (decide ((↑n : Int) ≤ 8)) ((((bytesOk (n0 + 1 + 8 + 8 + 8 + 1) (n0 + 1 + 8 + 8 + 8 + 1 + c_5) {elem:=5,size:=1,rw:=true,lock:=false,lit:=false,flat:=true,n:=n0 + 1 + 8 + 8 + 8 + 1,row:=fun i => [SV.v (.int .u8 (apG (n0 + 1 + 8 + 8 + 8) (fun i => SE.byteOf [SV.v (.int .u8 (apG (n0 + 1 + 8 + 8) (fun i => SE.byteOf [SV.v (.int .u8 (apG (n0 + 1 + 8) (fun i => SE.byteOf [SV.v (.int .u8 (apG (n0 + 1) (fun i => SE.byteOf [SV.v (.int .u8 (apG n0 (fun i => SE.byteOf [SV.v (.int .u8 (g i))]) [k % 256] i))]) (be (r % 18446744073709551616) 8) i))]) (be (w % 18446744073709551616) 8) i))]) (be (h % 18446744073709551616) 8) i))]) [(↑n : Int) % 256] i))],ext:=n0 + 1 + 8 + 8 + 8 + 1 + c_5})∧(((n0 + 1 + 8 + 8 + 8 + 1) : Nat) ≤ NB0))∧((((n : Nat) = n)∧(((n : Nat) < 100)∧(((n0 + 1 + 8 + 8 + 8 + 1) : Nat) ≤ (n0 + 1 + 8 + 8 + 8 + 1 + c_5))))∧(∀ i : Nat,(((i : Nat) < n)→(isPair [SV.v (.int .i64 (x (0 + i))),SV.v (.int .i64 (y (0 + i)))])))))∧(∀ c_6 : Nat,(∃ c_7 : Nat,(True∧((((1 : Nat) = 1)∧(((1 : Nat) ≤ 1)∧(((SV.sl 344 1 0 (n0 + 1 + 8 + 8 + 8 + 1 + 16 * n) (n0 + 1 + 8 + 8 + 8 + 1 + 16 * n + c_6)) = (SV.sl 344 1 0 (n0 + shN n) (n0 + shN n + c_7)))∧((SV.v (.bool (b||notIn k 255||false||false||false||notIn (↑n : Int) 8||false))) = (SV.v (.bool (b||shBad k n)))))))∧((((n0 + 1 + 8 + 8 + 8 + 1 + 16 * n) : Nat) = (n0 + shN n))∧((((n0 + shN n + c_7) : Nat) ≤ (n0 + 1 + 8 + 8 + 8 + 1 + 16 * n + c_6))∧(∀ i : Nat,(((i : Nat) < (n0 + shN n))→([(SV.v (.int .u8 (apG (n0 + 1 + 8 + 8 + 8 + 1) (fun i => SE.byteOf [SV.v (.int .u8 (apG (n0 + 1 + 8 + 8 + 8) (fun i => SE.byteOf [SV.v (.int .u8 (apG (n0 + 1 + 8 + 8) (fun i => SE.byteOf [SV.v (.int .u8 (apG (n0 + 1 + 8) (fun i => SE.byteOf [SV.v (.int .u8 (apG (n0 + 1) (fun i => SE.byteOf [SV.v (.int .u8 (apG n0 (fun i => SE.byteOf [SV.v (.int .u8 (g i))]) [k % 256] i))]) (be (r % 18446744073709551616) 8) i))]) (be (w % 18446744073709551616) 8) i))]) (be (h % 18446744073709551616) 8) i))]) [(↑n : Int) % 256] i))]) (spotsL (fun i => pX [SV.v (.int .i64 (x (0 + i))),SV.v (.int .i64 (y (0 + i)))]) (fun i => pY [SV.v (.int .i64 (x (0 + i))),SV.v (.int .i64 (y (0 + i)))]) n) i)))] = [(SV.v (.int .u8 (apG n0 g (shL k r w h n x y) i)))])))))))))) (∃ c_6 : Nat,(True∧((((1 : Nat) = 1)∧(((1 : Nat) ≤ 1)∧(((SV.sl 280 1 0 (n0 + 1 + 8 + 8 + 8 + 1) (n0 + 1 + 8 + 8 + 8 + 1 + c_5)) = (SV.sl 280 1 0 (n0 + shN n) (n0 + shN n + c_6)))∧((SV.v (.bool (b||notIn k 255||false||false||false||notIn (↑n : Int) 8))) = (SV.v (.bool (b||shBad k n)))))))∧((((n0 + 1 + 8 + 8 + 8 + 1) : Nat) = (n0 + shN n))∧((((n0 + shN n + c_6) : Nat) ≤ (n0 + 1 + 8 + 8 + 8 + 1 + c_5))∧(∀ i : Nat,(((i : Nat) < (n0 + shN n))→([(SV.v (.int .u8 (apG (n0 + 1 + 8 + 8 + 8) (fun i => SE.byteOf [SV.v (.int .u8 (apG (n0 + 1 + 8 + 8) (fun i => SE.byteOf [SV.v (.int .u8 (apG (n0 + 1 + 8) (fun i => SE.byteOf [SV.v (.int .u8 (apG (n0 + 1) (fun i => SE.byteOf [SV.v (.int .u8 (apG n0 (fun i => SE.byteOf [SV.v (.int .u8 (g i))]) [k % 256] i))]) (be (r % 18446744073709551616) 8) i))]) (be (w % 18446744073709551616) 8) i))]) (be (h % 18446744073709551616) 8) i))]) [(↑n : Int) % 256] i)))] = [(SV.v (.int .u8 (apG n0 g (shL k r w h n x y) i)))]))))))))))))))))))):=by kernel_rfl
theorem Spots2_used (b : Bool) (n0 : Nat) (g : Nat → Int) (c n e n' c' : Nat) (x y : Nat → Int) (hn0 : n0 ≤ 1000000000) (hm : n < 100) (hnc : n0 ≤ c) (hv : ∀ i, i < n → I64 (x i) ∧ I64 (y i)) :
    vcFn Try.prog ΓF1 (ΛSpots2 b n0 g n x y) Try.f105 [.vp 0 0, .sl 2 2 0 n c'] (heapOf [wB (some b) false (.sl 1 1 0 n0 c), bG n0 g c, spB e n' x y]) 64 (fun y' h' => FinE [wB (some b) false (.sl 1 1 0 n0 c), bG n0 g c, spB e n' x y] (apE (.used (some b) n0 g c True) 0 True (16 * n) (spotsL x y n) false) y' h') := by
  refine Eq.mpr (vcSpots2 b n0 g c n e n' c' x y) ⟨⟨⟨0, c⟩, ⟨Nat.zero_le _, hnc⟩, rfl, ⟨rfl, Nat.le_refl _, rfl, rfl⟩, rfl, Nat.le_refl _, fun i hi => congrArg (fun z => [SV.v (.int .u8 z)]) (apG_old hi).symm⟩, fun z ⟨h2, h3⟩ => sel_of (fun hlt => ?_) fun hge => ?_⟩
  · have hlt := of_decide_eq_true hlt
    have hlt : z.i < n := by omega
    have hw : IntKind.i64.wrap ((z.i : Int) + 1) = ((z.i + 1 : Nat) : Int) := wrap_i64 ⟨by omega, by omega⟩
    have hvx := hv z.i hlt
    rw [show 0 + Int.toNat (z.i : Int) = z.i by omega]
    refine ⟨⟨by omega, by omega⟩, ⟨⟨bytesOk_bG _ _ _ (by omega), by show n0 + 16 * z.i ≤ 1099511627776; omega⟩, hvx.1⟩, fun c1 => ⟨⟨⟨bytesOk_bG _ _ _ (by omega), by show n0 + 16 * z.i + 8 ≤ 1099511627776; omega⟩, hvx.2⟩, fun c2 => ⟨⟨z.i + 1, n0 + 16 * z.i + 8 + 8 + c2⟩, ⟨⟨by show z.i + 1 ≤ n; omega, (by show n0 + 16 * (z.i + 1) ≤ n0 + 16 * z.i + 8 + 8 + c2; omega)⟩, int_mk hw, ⟨rfl, Nat.le_refl _, ?_, ?_⟩, ?_, Nat.le_refl _, fun i hi => ?_⟩, by show n - (z.i + 1) < n - z.i; omega⟩⟩⟩
    · show SV.sl _ 1 0 _ _ = SV.sl _ 1 0 (n0 + 16 * (z.i + 1)) _
      rw [show n0 + 16 * (z.i + 1) = n0 + 16 * z.i + 8 + 8 by omega]
    · rw [Bool.or_false, Bool.or_false]
    · show n0 + 16 * z.i + 8 + 8 = n0 + 16 * (z.i + 1)
      omega
    · exact congrArg (fun z => [SV.v (.int .u8 z)]) (spots_row x y n0 g z.i i)
  · have hge := of_decide_eq_false hge
    have hx : z.i = n := by omega
    rw [hx] at h3 ⊢
    have h3 : n0 + 16 * n ≤ z.c := by omega
    have he : n0 + 16 * n + (z.c - (n0 + 16 * n)) = z.c := by omega
    exact ⟨z.c - (n0 + 16 * n), trivial, ⟨rfl, Nat.le_refl _, by rw [he], by rw [Bool.or_false]⟩, rfl, by omega, fun i hi => rfl⟩
theorem Spots2_spec : HpSpec Try.prog 105 sSpots2 := hp_spec hm ΓF1_ok Try.func105 (Λ := fun args bs => match args, bs with
    | [_, .sl _ _ _ n _], [B, D, S] => match wrOf [B, D] with
      | some (.used (some b) n0 g c _) => ΛSpots2 b n0 g n (fun i => pX (S.row i)) (fun i => pY (S.row i))
      | _ => noΛ
    | _, _ => noΛ) fun args bs e hs hp => by
  unfold sSpots2 at hs
  split at hs
  · rename_i n c' B D S
    split at hs
    · rename_i b n0 g c p hw
      obtain ⟨hro, he⟩ := bif_some hs
      subst he
      obtain ⟨⟨hp, hm⟩, ⟨hn, h100, hnc⟩, hv⟩ := hp
      have hsame := (wrOf_used hw hp).1
      refine ⟨[wB (some b) false (.sl 1 1 0 n0 c), bG n0 g c, spB S.elem n (fun i => pX (S.row i)) (fun i => pY (S.row i))], ⟨hsame.1, hsame.2.1, same_spB hro hn hv, trivial⟩, ?_⟩
      simp only [hw]
      exact Spots2_used b n0 g c n S.elem n c' _ _ hm h100 hnc fun i hi => (isPair_row (hv i hi)).2
    · cases hs
  · cases hs
theorem ΓSh_ok : ∀ f g, ΓSh f = some g → g.ok Try.prog f := addCtr_ok (addCtr_ok ΓF1_ok (hp_ok Try.func118 (by kernel_rfl) (by kernel_rfl) Small_spec)) (hp_ok Try.func105 (by kernel_rfl) (by kernel_rfl) Spots2_spec)
theorem shL_row {n0 : Nat} {g : Nat → Int} {k r w h z : Int} (M : List Int) (i : Nat) : apG (n0 + 1 + 8 + 8 + 8 + 1) (apG (n0 + 1 + 8 + 8 + 8) (apG (n0 + 1 + 8 + 8) (apG (n0 + 1 + 8) (apG (n0 + 1) (apG n0 g [k]) (i8 r)) (i8 w)) (i8 h)) [z]) M i = apG n0 g ([k] ++ (i8 r ++ (i8 w ++ (i8 h ++ ([z] ++ M))))) i := by
  rw [apG_ap (n := n0 + 1 + 8 + 8 + 8) (m := n0 + 1 + 8 + 8 + 8 + 1) (L := [z]) rfl, apG_ap (n := n0 + 1 + 8 + 8) (by rw [i8_len]), apG_ap (n := n0 + 1 + 8) (by rw [i8_len]), apG_ap (n := n0 + 1) (by rw [i8_len]), apG_ap (n := n0) (m := n0 + 1) (L := [k]) rfl]
theorem shL_row0 {n0 : Nat} {g : Nat → Int} {k r w h z : Int} (i : Nat) : apG (n0 + 1 + 8 + 8 + 8) (apG (n0 + 1 + 8 + 8) (apG (n0 + 1 + 8) (apG (n0 + 1) (apG n0 g [k]) (i8 r)) (i8 w)) (i8 h)) [z] i = apG n0 g ([k] ++ (i8 r ++ (i8 w ++ (i8 h ++ ([z] ++ []))))) i := by
  rw [List.append_nil, apG_ap (n := n0 + 1 + 8 + 8) (by rw [i8_len]), apG_ap (n := n0 + 1 + 8) (by rw [i8_len]), apG_ap (n := n0 + 1) (by rw [i8_len]), apG_ap (n := n0) (m := n0 + 1) (L := [k]) rfl]
theorem Shape_spec : HpSpec Try.prog 97 sShape := hp_spec hm ΓSh_ok Try.func97 (Λ := fun _ _ => noΛ) fun args bs e hs hp => by
  unfold sShape at hs
  split at hs
  · rename_i k r w h n c' B D S
    split at hs
    · rename_i b n0 g c p hw
      obtain ⟨hro, he⟩ := bif_some hs
      subst he
      obtain ⟨⟨hp, hm⟩, ⟨⟨hk, hr, hww, hh⟩, hn, h100⟩, hv⟩ := hp
      have hm : n0 ≤ 900000000 := hm
      have hsame := (wrOf_used hw hp).1
      refine ⟨[wB (some b) false (.sl 1 1 0 n0 c), bG n0 g c, spB S.elem n (fun i => pX (S.row i)) (fun i => pY (S.row i))], ⟨hsame.1, hsame.2.1, same_spB hro hn hv, trivial⟩, ?_⟩
      have hvp := fun i hi => isPair_row (hv i hi)
      refine Eq.mpr (vcShape b n0 g c k r w h n S.elem n c' _ _) ⟨⟨⟨bytesOk_bG _ _ _ (by omega), by show n0 ≤ 1099511627776; omega⟩, hk⟩, fun c1 => ⟨⟨⟨bytesOk_bG _ _ _ (by omega), by show n0 + 1 ≤ 1099511627776; omega⟩, hr⟩, fun c2 => ⟨⟨⟨bytesOk_bG _ _ _ (by omega), by show n0 + 1 + 8 ≤ 1099511627776; omega⟩, hww⟩, fun c3 => ⟨⟨⟨bytesOk_bG _ _ _ (by omega), by show n0 + 1 + 8 + 8 ≤ 1099511627776; omega⟩, hh⟩, fun c4 => ⟨⟨⟨bytesOk_bG _ _ _ (by omega), by show n0 + 1 + 8 + 8 + 8 ≤ 1099511627776; omega⟩, ⟨by omega, by omega⟩⟩, fun c5 => sel_of (fun hle => ?_) fun hgt => ?_⟩⟩⟩⟩⟩
      · have hle := of_decide_eq_true hle
        have hb : Nat.ble n 8 = true := Nat.ble_eq_true_of_le (by omega)
        refine ⟨⟨⟨bytesOk_bG _ _ _ (by omega), by show n0 + 1 + 8 + 8 + 8 + 1 ≤ 1000000000; omega⟩, ⟨rfl, h100, by omega⟩, fun i hi => by
          rw [Nat.zero_add]
          exact (hvp i hi).2⟩, fun c6 => tailU (by unfold shN; rw [hb, cond_true]; omega) ?_ fun i hi => ?_⟩
        · simp only [Bool.or_false, shBad, Bool.or_assoc]
        · unfold shL
          rw [hb, cond_true]
          have := shL_row (n0 := n0) (g := g) (k := k % 256) (r := r) (w := w) (h := h) (z := (n : Int) % 256) (spotsL (fun i => pX (S.row i)) (fun i => pY (S.row i)) n) i
          refine Eq.trans ?_ this
          show apG _ _ (spotsL (fun i => pX (S.row (0 + i))) (fun i => pY (S.row (0 + i))) n) i = _
          simp only [Nat.zero_add]
          rfl
      · have hgt := of_decide_eq_false hgt
        have hb : Nat.ble n 8 = false := by
          cases hc : Nat.ble n 8 with
          | false => rfl
          | true => have := Nat.le_of_ble_eq_true hc; omega
        refine tailU (by unfold shN; rw [hb, cond_false]) ?_ fun i hi => ?_
        · simp only [Bool.or_false, shBad, Bool.or_assoc]
        · unfold shL
          rw [hb, cond_false]
          exact shL_row0 i
    · cases hs
  · cases hs
end Go.Proofs.Ytjdldadmaaeimaa
end

section
set_option maxRecDepth 100000
set_option linter.unusedSimpArgs false
set_option linter.unusedVariables false
namespace Go.Proofs.Ytjdldadmaaeimaa
open Go.SE Go.RowKit

structure CV where
  id : Int
  bs : Int
  bg : Int
  ver : Int
  sk : Int
  sr : Int
  sw : Int
  sh : Int
  p0v : Int
  p0f : Bool
  p1v : Int
  p1f : Bool
  p2v : Int
  p2f : Bool
  p3v : Int
  p3f : Bool
  v0v : Int
  v0f : Bool
  v1v : Int
  v1f : Bool
  w0v : Int
  w0f : Bool
  dn : Int
  mv : Bool
  a0v : Int
  a0f : Bool
  a1v : Int
  a1f : Bool
  t0v : Int
  t0f : Bool
  t1v : Int
  t1f : Bool
  gr : Int
  b0 : Int
  b1 : Int
  b2 : Int
  b3 : Int
  f0 : Int
  f1 : Int
  u0 : Int
  u1 : Int
def ptB (e n : Nat) (x y : Nat → Int) (xt : Nat) (wh : Bool) : Blk := { elem := e, size := 2, rw := false, lock := false, lit := false, flat := true, n := n, row := fun i => [.v (.int .i64 (x i)), .v (.int .i64 (y i))], ext := xt, whole := wh }
end Go.Proofs.Ytjdldadmaaeimaa
end

section
set_option maxRecDepth 100000
set_option linter.unusedSimpArgs false
set_option linter.unusedVariables false
namespace Go.Proofs.Ytjdldadmaaeimaa
open Go.SE Go.RowKit

def hL (a b : Int) : List Int := c4 a ++ c4 b
def hBad (a b : Int) : Bool := notIn a 2147483647 || notIn b 2147483647
def vL (c : CV) : List Int := vecL c.v0v c.v0f c.v1v c.v1f
def atL' (c : CV) : List Int := vecL c.a0v c.a0f c.a1v c.a1f
def toL (c : CV) : List Int := vecL c.t0v c.t0f c.t1v c.t1f
def poL (c : CV) : List Int := vecL c.p0v c.p0f c.p1v c.p1f ++ (numL c.p2v c.p2f ++ numL c.p3v c.p3f)
def caT1 (c : CV) (n : Nat) (x y : Nat → Int) : List Int := shL c.sk c.sr c.sw c.sh n x y ++ (poL c ++ (vL c ++ (numL c.w0v c.w0f ++ (i8 c.dn ++ flB c.mv))))
def caN1 (n : Nat) : Nat := shN n + 72
def caB1 (c : CV) (n : Nat) : Bool := shBad c.sk n || ((isMin c.p0v || isMin c.p1v || (isMin c.p2v || isMin c.p3v)) || ((isMin c.v0v || isMin c.v1v) || isMin c.w0v))
def caT2 (c : CV) (n : Nat) (x y : Nat → Int) : List Int := hL c.bs c.bg ++ i8 c.ver
def caN2 (n : Nat) : Nat := 16
def caB2 (c : CV) (n : Nat) : Bool := hBad c.bs c.bg || notIn c.ver 1099511627776
def caT3 (c : CV) (n : Nat) (x y : Nat → Int) : List Int := hL c.bs c.bg ++ (i8 c.ver ++ (atL' c ++ toL c))
def caN3 (n : Nat) : Nat := 52
def caB3 (c : CV) (n : Nat) : Bool := hBad c.bs c.bg || (notIn c.ver 1099511627776 || ((isMin c.a0v || isMin c.a1v) || (isMin c.t0v || isMin c.t1v)))
def caT4 (c : CV) (n : Nat) (x y : Nat → Int) : List Int := hL c.bs c.bg ++ (i8 c.ver ++ atL' c)
def caN4 (n : Nat) : Nat := 34
def caB4 (c : CV) (n : Nat) : Bool := hBad c.bs c.bg || (notIn c.ver 1099511627776 || (isMin c.a0v || isMin c.a1v))
def caT5 (c : CV) (n : Nat) (x y : Nat → Int) : List Int := c4 c.gr ++ toL c
def caN5 (n : Nat) : Nat := 22
def caB5 (c : CV) (n : Nat) : Bool := notIn c.gr 2147483647 || (isMin c.t0v || isMin c.t1v)
def caT6 (c : CV) (n : Nat) (x y : Nat → Int) : List Int := c4 c.gr
def caN6 (n : Nat) : Nat := 4
def caB6 (c : CV) (n : Nat) : Bool := notIn c.gr 2147483647
def caT7 (c : CV) (n : Nat) (x y : Nat → Int) : List Int := hL c.bs c.bg
def caN7 (n : Nat) : Nat := 8
def caB7 (c : CV) (n : Nat) : Bool := hBad c.bs c.bg
def caT8 (c : CV) (n : Nat) (x y : Nat → Int) : List Int := (i8 c.b0 ++ i8 c.b1) ++ (i8 c.b2 ++ i8 c.b3)
def caN8 (n : Nat) : Nat := 32
def caB8 (c : CV) (n : Nat) : Bool := false
def caT9 (c : CV) (n : Nat) (x y : Nat → Int) : List Int := (i8 c.f0 ++ i8 c.f1) ++ (i8 c.u0 ++ i8 c.u1)
def caN9 (n : Nat) : Nat := 32
def caB9 (c : CV) (n : Nat) : Bool := false
def caT10 (c : CV) (n : Nat) (x y : Nat → Int) : List Int := []
def caN10 (n : Nat) : Nat := 0
def caB10 (c : CV) (n : Nat) : Bool := false
def caL (k : Int) (c : CV) (T : List Int) : List Int := [k % 256] ++ (c4 c.id ++ T)
def caB (c : CV) (b : Bool) : Bool := notIn c.id 2147483647 || b
end Go.Proofs.Ytjdldadmaaeimaa
end

section
set_option maxRecDepth 100000
set_option linter.unusedSimpArgs false
set_option linter.unusedVariables false
namespace Go.Proofs.Ytjdldadmaaeimaa
open Go.SE Go.RowKit

def cvOk (c : CV) : Prop := I64 c.id ∧ I64 c.bs ∧ I64 c.bg ∧ I64 c.ver ∧ I64 c.sk ∧ I64 c.sr ∧ I64 c.sw ∧ I64 c.sh ∧ I64 c.p0v ∧ I64 c.p1v ∧ I64 c.p2v ∧ I64 c.p3v ∧ I64 c.v0v ∧ I64 c.v1v ∧ I64 c.w0v ∧ I64 c.dn ∧ I64 c.a0v ∧ I64 c.a1v ∧ I64 c.t0v ∧ I64 c.t1v ∧ I64 c.gr ∧ I64 c.b0 ∧ I64 c.b1 ∧ I64 c.b2 ∧ I64 c.b3 ∧ I64 c.f0 ∧ I64 c.f1 ∧ I64 c.u0 ∧ I64 c.u1
theorem c4l (n : Int) : (c4 n).length = 4 := be_len _ _
theorem i8l (n : Int) : (i8 n).length = 8 := be_len _ _
theorem hLl (a b : Int) : (hL a b).length = 8 := by unfold hL; rw [List.length_append, c4l, c4l]
theorem numl (v : Int) (f : Bool) : (numL v f).length = 9 := by unfold numL; rw [List.length_append, i8l]; rfl
theorem vecl (a : Int) (f : Bool) (b : Int) (g : Bool) : (vecL a f b g).length = 18 := by unfold vecL; rw [List.length_append, numl, numl]
theorem shLl (k r w h : Int) (n : Nat) (x y : Nat → Int) : (shL k r w h n x y).length = shN n := by
  unfold shL shN
  cases Nat.ble n 8 with
  | true => simp only [cond_true, List.length_append, i8l, spotsL_len, List.length_cons, List.length_nil]; omega
  | false => simp only [cond_false, List.length_append, i8l, List.length_cons, List.length_nil]
theorem shN_le (n : Nat) : shN n ≤ 26 + 16 * n := by
  unfold shN
  cases Nat.ble n 8 with
  | true => exact Nat.le_refl _
  | false => show 26 ≤ _; omega
theorem apG_listQ (x : Int) (M : List Int) (i : Nat) : apG 1 (fun i => ([x] : List Int).getD i 0) M i = ([x] ++ M).getD i 0 := by
  by_cases h1 : i < 1
  · have : i = 0 := by omega
    subst this; rfl
  · obtain ⟨j, rfl⟩ : ∃ j, i = j + 1 := ⟨i - 1, by omega⟩
    rw [apG_new h1, Nat.add_sub_cancel]
    rfl
theorem add_ap {m n : Nat} {L : List Int} {k : Nat} (h : L.length = k) (e : m = n + k) : m = n + L.length := by rw [h]; exact e
end Go.Proofs.Ytjdldadmaaeimaa
end

section
set_option maxRecDepth 100000
set_option linter.unusedSimpArgs false
set_option linter.unusedVariables false
namespace Go.Proofs.Ytjdldadmaaeimaa
open Go.SE Go.RowKit

structure ShB where
  k : Int
  r : Int
  w : Int
  h : Int
def shS (s : ShB) (x : SV) : SV := .agg [.v (.int .i64 s.k), .v (.int .i64 s.r), .v (.int .i64 s.w), .v (.int .i64 s.h), x]
def isPI : List SV → Prop
  | [.v (.int .i64 a), .v (.int .i64 b)] => I64 a ∧ I64 b
  | _ => False
def rowsP (g : Nat → Int × Int) : Nat → List SV := fun i => [.v (.int .i64 (g i).1), .v (.int .i64 (g i).2)]
def gi : List SV → Int × Int
  | [.v (.int _ x), .v (.int _ y)] => (x, y)
  | _ => (0, 0)

def roS (el : Nat) (lo li fl wh : Bool) (n ext : Nat) (row : Nat → List SV) : Blk := { elem := el, size := 2, rw := false, lock := lo, lit := li, flat := fl, n := n, row := row, ext := ext, dead := false, whole := wh }
def okB (b : Blk) : Bool := !b.rw && !b.dead && Nat.beq b.size 2 && b.flat
def rowG (b : Blk) : Nat → Int × Int := fun i => gi (b.row i)
def spPre (n : Nat) (b : Blk) : Prop := okAll isPI (rowsOf b.n b.row) ∧ b.n = n ∧ n < 1099511627776
def spW (n c : Nat) (g : Nat → Int × Int) : Blk := { elem := 47, size := 2, rw := true, lock := false, lit := false, flat := true, n := n, row := rowsP g, ext := c }
def rdS (b : Blk) (n : Nat) (g : Nat → Int × Int) : Blk := roS b.elem b.lock b.lit true b.whole n b.ext (rowsP g)
def orRo (s1 s2 : List SV → List Ro → Option (Option Prop × SV)) : List SV → List Ro → Option (Option Prop × SV) := fun a b => match s1 a b with
  | some e => some e
  | none => s2 a b
def eqP (p q : Int × Int) : Bool := p.1 == q.1 && p.2 == q.2
def sameP (n : Nat) (g : Nat → Int × Int) (m : Nat) (h : Nat → Int × Int) : Bool := Nat.beq n m && (List.range n).all (fun i => eqP (g i) (h i))
def eqSh (a b : ShB) : Bool := a.k == b.k && (a.r == b.r && (a.w == b.w && a.h == b.h))
def sameS (a : ShB) (n : Nat) (g : Nat → Int × Int) (b : ShB) (m : Nat) (h : Nat → Int × Int) : Bool := eqSh a b && sameP n g m h
def rowsPre (n n' : Nat) (row : Nat → List SV) : Prop := okAll isPI (rowsOf n' row) ∧ n' = n ∧ n < 1099511627776
def sEqual : List SV → List Ro → Option (Option Prop × SV)
  | [.sl 0 2 0 n _, .sl 1 2 0 m _], [⟨2, n', row⟩, ⟨2, m', row'⟩] => some (some (rowsPre n n' row ∧ rowsPre m m' row'), .v (.bool (sameP n (fun i => gi (row i)) m fun i => gi (row' i))))
  | _, _ => none
def sSameS : List SV → List Ro → Option (Option Prop × SV)
  | [.agg [.v (.int .i64 k), .v (.int .i64 r), .v (.int .i64 w), .v (.int .i64 h), .sl 0 2 0 n _], .agg [.v (.int .i64 k2), .v (.int .i64 r2), .v (.int .i64 w2), .v (.int .i64 h2), .sl 1 2 0 m _]], [⟨2, n', row⟩, ⟨2, m', row'⟩] => some (some (rowsPre n n' row ∧ rowsPre m m' row'), .v (.bool (sameS ⟨k, r, w, h⟩ n (fun i => gi (row i)) ⟨k2, r2, w2, h2⟩ m fun i => gi (row' i))))
  | _, _ => none
noncomputable def ΛEqual (fn : Func) (t : Nat) (n : Nat) (g h : Nat → Int × Int) : Nat → Option LoopSpec := addLoop noΛ fn 0 Nat (fun i => i ≤ n ∧ ∀ j, j < i → eqP (g j) (h j) = true) (fun i => n - i) [(t, fun i => .v (.int .i64 i))] []
theorem vcEqual (n n' c m m' d : Nat) (g h : Nat→Int × Int) (R : SV→Prop) : (vcFn Try.prog noCtrs (ΛEqual Try.f106 13 n g h) Try.f106 [.sl 0 2 0 n c,.sl 1 2 0 m d] (roHeap [⟨2,n',rowsP g⟩,⟨2,m',rowsP h⟩]) 64 (fun y _ => R y)) = (sel ((↑n : Int) != (↑m : Int)) (R (SV.v (.bool false))) ((∃ x : Nat,((((x : Nat) ≤ n)∧(∀ j : Nat,(((j : Nat) < x)→(eqP (g j) (h j) = true))))∧(((SV.v (.int .i64 0)) = (SV.v (.int .i64 ((↑x : Int)))))∧True)))∧(∀ x : Nat,((((x : Nat) ≤ n)∧(∀ j : Nat,(((j : Nat) < x)→(eqP (g j) (h j) = true))))→(sel (decide ((↑x : Int) < (↑n : Int))) ((((0 : Int) ≤ ((↑x : Int)))∧((((↑x : Int)) : Int) < ((↑n : Int))))∧((((0 : Int) ≤ ((↑x : Int)))∧((((↑x : Int)) : Int) < ((↑m : Int))))∧(sel (!(Prod.fst (g (0 + Int.toNat (↑x : Int))) == Prod.fst (h (0 + Int.toNat (↑x : Int)))&&Prod.snd (g (0 + Int.toNat (↑x : Int))) == Prod.snd (h (0 + Int.toNat (↑x : Int))))) (R (SV.v (.bool false))) (∃ x' : Nat,(((((x' : Nat) ≤ n)∧(∀ j : Nat,(((j : Nat) < x')→(eqP (g j) (h j) = true))))∧(((SV.v (.int .i64 (IntKind.wrap IntKind.i64 ((↑x : Int) + 1)))) = (SV.v (.int .i64 ((↑x' : Int)))))∧True))∧(((n - x') : Nat) < (n - x))))))) (R (SV.v (.bool true)))))))):=by kernel_rfl
def ΓM0 : Ctrs := addCtr noCtrs 106 (roCtr sEqual)
theorem vcSameS (a b : ShB) (n n' c m m' d : Nat) (g h : Nat→Int × Int) (R : SV→Prop) : (vcFn Try.prog ΓM0 noΛ Try.f72 [shS a (.sl 0 2 0 n c),shS b (.sl 1 2 0 m d)] (roHeap [⟨2,n',rowsP g⟩,⟨2,m',rowsP h⟩]) 64 (fun y _ => R y)) = (sel (ShB.k a == ShB.k b&&(ShB.r a == ShB.r b&&(ShB.w a == ShB.w b&&ShB.h a == ShB.h b))) (((rowsPre n n fun y => [SV.v (.int .i64 (Prod.fst (g (0 + y)))),SV.v (.int .i64 (Prod.snd (g (0 + y))))])∧(rowsPre m m fun y => [SV.v (.int .i64 (Prod.fst (h (0 + y)))),SV.v (.int .i64 (Prod.snd (h (0 + y))))]))∧(R (SV.v (.bool (sameP n (fun i => gi [SV.v (.int .i64 (Prod.fst (g (0 + i)))),SV.v (.int .i64 (Prod.snd (g (0 + i))))]) m fun i => gi [SV.v (.int .i64 (Prod.fst (h (0 + i)))),SV.v (.int .i64 (Prod.snd (h (0 + i))))]))))) (R (SV.v (.bool false)))):=by kernel_rfl
theorem vcRSameS (a b : ShB) (n n' c m m' d : Nat) (g h : Nat→Int × Int) (R : SV→Prop) : (vcFn Try.prog noCtrs (ΛEqual Try.f76 5 n g h) Try.f76 [shS a (.sl 0 2 0 n c),shS b (.sl 1 2 0 m d)] (roHeap [⟨2,n',rowsP g⟩,⟨2,m',rowsP h⟩]) 64 (fun y _ => R y)) = (sel (ShB.k a != ShB.k b) (R (SV.v (.bool false))) (sel (ShB.r a != ShB.r b) (R (SV.v (.bool false))) (sel (ShB.w a != ShB.w b) (R (SV.v (.bool false))) (sel (ShB.h a != ShB.h b) (R (SV.v (.bool false))) (sel ((↑n : Int) != (↑m : Int)) (R (SV.v (.bool false))) ((∃ x : Nat,((((x : Nat) ≤ n)∧(∀ j : Nat,(((j : Nat) < x)→(eqP (g j) (h j) = true))))∧(((SV.v (.int .i64 0)) = (SV.v (.int .i64 ((↑x : Int)))))∧True)))∧(∀ x : Nat,((((x : Nat) ≤ n)∧(∀ j : Nat,(((j : Nat) < x)→(eqP (g j) (h j) = true))))→(sel (decide ((↑x : Int) < (↑n : Int))) ((((0 : Int) ≤ ((↑x : Int)))∧((((↑x : Int)) : Int) < ((↑n : Int))))∧((((0 : Int) ≤ ((↑x : Int)))∧((((↑x : Int)) : Int) < ((↑m : Int))))∧(sel (!(Prod.fst (g (0 + Int.toNat (↑x : Int))) == Prod.fst (h (0 + Int.toNat (↑x : Int)))&&Prod.snd (g (0 + Int.toNat (↑x : Int))) == Prod.snd (h (0 + Int.toNat (↑x : Int))))) (R (SV.v (.bool false))) (∃ x' : Nat,(((((x' : Nat) ≤ n)∧(∀ j : Nat,(((j : Nat) < x')→(eqP (g j) (h j) = true))))∧(((SV.v (.int .i64 (IntKind.wrap IntKind.i64 ((↑x : Int) + 1)))) = (SV.v (.int .i64 ((↑x' : Int)))))∧True))∧(((n - x') : Nat) < (n - x))))))) (R (SV.v (.bool true)))))))))))):=by kernel_rfl
def cpyE (s : ShB) (n : Nat) (g : Nat → Int × Int) : Eff := .nd True Nat 0 (fun c => shS s (.sl 1000 2 0 n (n + c))) fun c => [(1000, spW n (n + c) g)]
def sCopyS (args : List SV) (bs : List Blk) : Option Eff := match args, bs with
  | [.agg [.v (.int .i64 k), .v (.int .i64 r), .v (.int .i64 w), .v (.int .i64 h), .sl 0 2 0 n c]], [b] => bif okB b then some (.nd (spPre n b) Nat 0 (fun c => shS ⟨k, r, w, h⟩ (.sl 1000 2 0 n (n + c))) fun c => [(1000, spW n (n + c) (rowG b))]) else none
  | _, _ => none
theorem vcOwnS (s : ShB) (b : Blk) (n c : Nat) (g : Nat→Int × Int) : (vcFn Try.prog noCtrs noΛ Try.f73 [shS s (.sl 0 2 0 n c)] (heapOf [rdS b n g]) 64 (fun y h' => FinE [rdS b n g] (cpyE s n g) y h')) = ((((((0 + n) * 16) : Nat) ≤ 140737488355328)∧(((0 : Nat) ≤ 0)∧(∀ y : Nat,(((y : Nat) < n)→True))))∧(∀ c_1 : Nat,(∃ c_2 : Nat,((((SV.v (.int .i64 (ShB.k s))) = (SV.v (.int .i64 (ShB.k s))))∧(((SV.v (.int .i64 (ShB.r s))) = (SV.v (.int .i64 (ShB.r s))))∧(((SV.v (.int .i64 (ShB.w s))) = (SV.v (.int .i64 (ShB.w s))))∧(((SV.v (.int .i64 (ShB.h s))) = (SV.v (.int .i64 (ShB.h s))))∧((SV.sl 104 2 0 (0 + n) (0 + n + c_1)) = (SV.sl 104 2 0 n (n + c_2)))))))∧((((0 + n) : Nat) = n)∧((((n + c_2) : Nat) ≤ (0 + n + c_1))∧(∀ i : Nat,(((i : Nat) < n)→([(SV.v (.int .i64 (Prod.fst (g (0 + (i - 0)))))),(SV.v (.int .i64 (Prod.snd (g (0 + (i - 0))))))] = [(SV.v (.int .i64 (Prod.fst (g i)))),(SV.v (.int .i64 (Prod.snd (g i))))]))))))))):=by kernel_rfl
section
variable {P : Program} {f : FuncId}
theorem ro_or {s1 s2 : List SV → List Ro → Option (Option Prop × SV)} (h1 : RoSpec P f s1) (h2 : RoSpec P f s2) : RoSpec P f (orRo s1 s2) := fun args bs e hs => by
  unfold roSpec at hs
  cases hr : roOf bs with
  | none => rw [hr] at hs; cases hs
  | some rs =>
    rw [hr] at hs
    simp only [orRo] at hs
    cases h : s1 args rs with
    | some px =>
      rw [h] at hs
      exact h1 args bs e (by unfold roSpec; rw [hr]; simp only [h]; exact hs)
    | none =>
      rw [h] at hs
      exact h2 args bs e (by unfold roSpec; rw [hr]; exact hs)
end
theorem all_lt {n : Nat} {f : Nat → Bool} (h : ∀ j, j < n → f j = true) : (List.range n).all f = true := by
  rw [List.all_eq_true]
  intro i hi
  exact h i (List.mem_range.1 hi)
theorem not_all {n : Nat} {f : Nat → Bool} {k : Nat} (hk : k < n) (h : f k = false) : (List.range n).all f = false := by
  rw [List.all_eq_false]
  exact ⟨k, List.mem_range.2 hk, by simp [h]⟩
theorem isPI_row {r : List SV} (h : isPI r) : r = [.v (.int .i64 (gi r).1), .v (.int .i64 (gi r).2)] ∧ I64 (gi r).1 ∧ I64 (gi r).2 := by
  unfold isPI at h
  split at h
  · exact ⟨rfl, h.1, h.2⟩
  · exact h.elim
theorem gi_rows (g : Nat → Int × Int) : (fun i => gi [SV.v (.int .i64 (g (0 + i)).1), SV.v (.int .i64 (g (0 + i)).2)]) = g := funext fun i => by rw [Nat.zero_add]; rfl
theorem pre_of {n : Nat} {b : Blk} (h : spPre n b) : n < 1099511627776 ∧ ∀ i, i < n → I64 (rowG b i).1 ∧ I64 (rowG b i).2 := by
  obtain ⟨h0, rfl, hn⟩ := h
  exact ⟨hn, fun i hi => (isPI_row (okAll_rows.1 h0 i hi)).2⟩
theorem same_rdS {b : Blk} {n : Nat} (h : okB b = true) (hp : spPre n b) : BlkSame b (rdS b n (rowG b)) := by
  simp only [okB, Bool.and_eq_true, Bool.not_eq_true'] at h
  obtain ⟨⟨⟨a1, a2⟩, a3⟩, a4⟩ := h
  obtain ⟨h0, rfl, hn⟩ := hp
  exact ⟨Nat.eq_of_beq_eq_true a3, a1, a4, rfl, rfl, a2, rfl, rfl, fun i hi => (isPI_row (okAll_rows.1 h0 i hi)).1⟩
theorem eqP_no {n m : Nat} {g h : Nat → Int × Int} {i : Nat} (hi : i < n) (e : eqP (g i) (h i) = false) : sameP n g m h = false := by
  unfold sameP
  rw [not_all (f := fun i => eqP (g i) (h i)) hi e, Bool.and_false]
theorem sameP_len {n m : Nat} {g h : Nat → Int × Int} (e : ((n : Int) != (m : Int)) = true) : sameP n g m h = false := by
  have : n ≠ m := fun h => by rw [h] at e; simp at e
  unfold sameP
  rw [Go.SE.beq_false this]; rfl
theorem sameP_all {n m : Nat} {g h : Nat → Int × Int} (e : ((n : Int) != (m : Int)) = false) (hd : ∀ j, j < n → eqP (g j) (h j) = true) : sameP n g m h = true := by
  have e : (n : Int) = (m : Int) := by simpa using e
  obtain rfl : n = m := by omega
  unfold sameP
  rw [Nat.beq_refl, all_lt hd]; rfl
theorem equal_tail {n m : Nat} {g h : Nat → Int × Int} (hn : n < 1099511627776) (hm' : m < 1099511627776) :
    sel ((n : Int) != (m : Int)) (SV.v (.bool false) = .v (.bool (sameP n g m h))) ((∃ x : Nat, (x ≤ n ∧ ∀ j : Nat, j < x → eqP (g j) (h j) = true) ∧ SV.v (.int .i64 0) = .v (.int .i64 x) ∧ True) ∧ ∀ x : Nat, (x ≤ n ∧ ∀ j : Nat, j < x → eqP (g j) (h j) = true) →
      sel (decide ((x : Int) < (n : Int))) ((0 ≤ (x : Int) ∧ (x : Int) < (n : Int)) ∧ (0 ≤ (x : Int) ∧ (x : Int) < (m : Int)) ∧ sel (!((g (0 + Int.toNat (x : Int))).1 == (h (0 + Int.toNat (x : Int))).1 && (g (0 + Int.toNat (x : Int))).2 == (h (0 + Int.toNat (x : Int))).2)) (SV.v (.bool false) = .v (.bool (sameP n g m h)))
        (∃ x' : Nat, ((x' ≤ n ∧ ∀ j : Nat, j < x' → eqP (g j) (h j) = true) ∧ SV.v (.int .i64 (IntKind.i64.wrap ((x : Int) + 1))) = .v (.int .i64 x') ∧ True) ∧ n - x' < n - x)) (SV.v (.bool true) = .v (.bool (sameP n g m h)))) := by
  refine sel_of (fun e => by rw [sameP_len e]) fun e => ⟨⟨0, ⟨Nat.zero_le _, fun j hj => absurd hj (Nat.not_lt_zero _)⟩, rfl, trivial⟩, fun x ⟨hx, hd⟩ => sel_of (fun hlt => ?_) fun hge => ?_⟩
  · have hlt : x < n := by simpa using hlt
    have e' : (n : Int) = (m : Int) := by simpa using e
    rw [Int.toNat_natCast, Nat.zero_add]
    refine ⟨⟨by omega, by omega⟩, ⟨by omega, by omega⟩, sel_of (fun hne => ?_) fun heq => ?_⟩
    · have hne : (!eqP (g x) (h x)) = true := hne
      rw [eqP_no hlt (by simpa using hne)]
    · have heq : (!eqP (g x) (h x)) = false := heq
      refine ⟨x + 1, ⟨⟨hlt, fun j hj => ?_⟩, int_mk (by rw [wrap_i64 ⟨by omega, by omega⟩]; rfl), trivial⟩, by omega⟩
      by_cases e2 : j = x
      · rw [e2]; simpa using heq
      · exact hd j (by omega)
  · have hge : ¬ x < n := by simpa using hge
    obtain rfl : x = n := by omega
    rw [sameP_all e hd]
theorem Equal_spec : RoSpec Try.prog 106 sEqual := ro_spec hm noCtrs_ok Try.func106 (Λ := fun args bs => match args, bs with | [.sl 0 2 0 n _, .sl 1 2 0 m _], [⟨2, _, row⟩, ⟨2, _, row'⟩] => ΛEqual Try.f106 13 n (fun i => gi (row i)) (fun i => gi (row' i)) | _, _ => noΛ) fun args bs p x h hp => by
  unfold sEqual at h
  split at h <;> try (cases h; done)
  rename_i n c m d n' row m' row'
  cases h
  obtain ⟨⟨h0, rfl, hn⟩, k0, rfl, hm'⟩ := hp _ rfl
  have h0 := okAll_rows.1 h0
  have k0 := okAll_rows.1 k0
  refine ⟨rfl, [⟨2, n', rowsP fun i => gi (row i)⟩, ⟨2, m', rowsP fun i => gi (row' i)⟩], ⟨⟨rfl, rfl, fun i hi => (isPI_row (h0 i hi)).1⟩, ⟨rfl, rfl, fun i hi => (isPI_row (k0 i hi)).1⟩, trivial⟩, ?_⟩
  refine Eq.mpr (vcEqual n' n' c m' m' d (fun i => gi (row i)) (fun i => gi (row' i)) _) ?_
  exact equal_tail hn hm'
theorem ΓM0_ok : ∀ f g, ΓM0 f = some g → g.ok Try.prog f := addCtr_ok noCtrs_ok (ro_ok Try.func106 (by kernel_rfl) (by kernel_rfl) Equal_spec)
theorem SameS_spec : RoSpec Try.prog 72 sSameS := ro_spec hm ΓM0_ok Try.func72 (Λ := fun _ _ => noΛ) fun args bs p x h hp => by
  unfold sSameS at h
  split at h <;> try (cases h; done)
  rename_i k r w hh n c k2 r2 w2 h2 m d n' row m' row'
  cases h
  obtain ⟨⟨h0, rfl, hn⟩, k0, rfl, hm'⟩ := hp _ rfl
  have h0 := okAll_rows.1 h0
  have k0 := okAll_rows.1 k0
  refine ⟨rfl, [⟨2, n', rowsP fun i => gi (row i)⟩, ⟨2, m', rowsP fun i => gi (row' i)⟩], ⟨⟨rfl, rfl, fun i hi => (isPI_row (h0 i hi)).1⟩, ⟨rfl, rfl, fun i hi => (isPI_row (k0 i hi)).1⟩, trivial⟩, ?_⟩
  have hg : ∀ i, i < n' → I64 ((fun i => gi (row i)) i).1 ∧ I64 ((fun i => gi (row i)) i).2 := fun i hi => (isPI_row (h0 i hi)).2
  have hh' : ∀ i, i < m' → I64 ((fun i => gi (row' i)) i).1 ∧ I64 ((fun i => gi (row' i)) i).2 := fun i hi => (isPI_row (k0 i hi)).2
  generalize (fun i => gi (row i)) = g at hg ⊢
  generalize (fun i => gi (row' i)) = g' at hh' ⊢
  refine Eq.mpr (vcSameS ⟨k, r, w, hh⟩ ⟨k2, r2, w2, h2⟩ n' n' c m' m' d g g' _) ?_
  rw [gi_rows, gi_rows]
  refine sel_of (fun e => ⟨⟨⟨okAll_rows.2 fun i hi => ?_, rfl, hn⟩, okAll_rows.2 fun i hi => ?_, rfl, hm'⟩, bool_mk ?_⟩) fun e => bool_mk ?_
  · rw [Nat.zero_add]; exact hg i hi
  · rw [Nat.zero_add]; exact hh' i hi
  · unfold sameS eqSh; rw [e]; rfl
  · unfold sameS eqSh; rw [e]; rfl
theorem RSameS_spec : RoSpec Try.prog 76 sSameS := ro_spec hm noCtrs_ok Try.func76 (Λ := fun args bs => match args, bs with | [.agg [_, _, _, _, .sl 0 2 0 n _], .agg [_, _, _, _, .sl 1 2 0 m _]], [⟨2, _, row⟩, ⟨2, _, row'⟩] => ΛEqual Try.f76 5 n (fun i => gi (row i)) (fun i => gi (row' i)) | _, _ => noΛ) fun args bs p x h hp => by
  unfold sSameS at h
  split at h <;> try (cases h; done)
  rename_i k r w hh n c k2 r2 w2 h2 m d n' row m' row'
  cases h
  obtain ⟨⟨h0, rfl, hn⟩, k0, rfl, hm'⟩ := hp _ rfl
  have h0 := okAll_rows.1 h0
  have k0 := okAll_rows.1 k0
  refine ⟨rfl, [⟨2, n', rowsP fun i => gi (row i)⟩, ⟨2, m', rowsP fun i => gi (row' i)⟩], ⟨⟨rfl, rfl, fun i hi => (isPI_row (h0 i hi)).1⟩, ⟨rfl, rfl, fun i hi => (isPI_row (k0 i hi)).1⟩, trivial⟩, ?_⟩
  refine Eq.mpr (vcRSameS ⟨k, r, w, hh⟩ ⟨k2, r2, w2, h2⟩ n' n' c m' m' d (fun i => gi (row i)) (fun i => gi (row' i)) _) ?_
  have bn : ∀ {a b : Int}, (a != b) = true → (a == b) = false := fun {a b} h => by unfold bne at h; simpa using h
  have by' : ∀ {a b : Int}, (a != b) = false → (a == b) = true := fun {a b} h => by unfold bne at h; simpa using h
  refine sel_of (fun e => bool_mk ?_) fun e1 => sel_of (fun e => bool_mk ?_) fun e2 => sel_of (fun e => bool_mk ?_) fun e3 => sel_of (fun e => bool_mk ?_) fun e4 => ?_
  · unfold sameS eqSh; rw [bn e]; rfl
  · unfold sameS eqSh; rw [by' e1, bn e]; rfl
  · unfold sameS eqSh; rw [by' e1, by' e2, bn e]; rfl
  · unfold sameS eqSh; rw [by' e1, by' e2, by' e3, bn e]; rfl
  · have : sameS ⟨k, r, w, hh⟩ n' (fun i => gi (row i)) ⟨k2, r2, w2, h2⟩ m' (fun i => gi (row' i)) = sameP n' (fun i => gi (row i)) m' (fun i => gi (row' i)) := by unfold sameS eqSh; rw [by' e1, by' e2, by' e3, by' e4]; rfl
    rw [this]
    exact equal_tail hn hm'
theorem OwnS_spec : HpSpec Try.prog 73 sCopyS := hp_spec hm noCtrs_ok Try.func73 (Λ := fun _ _ => noΛ) fun args bs e hs hp => by
  unfold sCopyS at hs
  split at hs <;> try (cases hs; done)
  rename_i k r w hh n c b
  cases hb : okB b with
  | false => rw [hb] at hs; cases hs
  | true =>
  rw [hb] at hs
  cases hs
  have hpre : spPre n b := hp
  obtain ⟨hn, hg⟩ := pre_of hpre
  refine ⟨[rdS b n (rowG b)], ⟨same_rdS hb hpre, trivial⟩, ?_⟩
  refine Eq.mpr (vcOwnS ⟨k, r, w, hh⟩ b n c (rowG b)) ?_
  rw [Nat.zero_add]
  exact ⟨⟨by omega, Nat.le_refl _, fun _ _ => trivial⟩, fun c1 => ⟨c1, ⟨rfl, rfl, rfl, rfl, rfl⟩, rfl, Nat.le_refl _, fun i _ => by show [SV.v (.int .i64 (rowG b (0 + i)).1), SV.v (.int .i64 (rowG b (0 + i)).2)] = _; rw [Nat.zero_add]⟩⟩
end Go.Proofs.Ytjdldadmaaeimaa
end

section
set_option maxRecDepth 100000
set_option linter.unusedVariables false
set_option linter.unusedSimpArgs false
namespace Go.Proofs.Ytjdldadmaaeimaa
open Go.ChangeShapes Go.WideShapes Go.ChangeAt Go.RowKit Go.SE Go.Deep

section
variable {H : Type} {enc : TypeId × Value → H}
theorem dt {cs : List Value} {o k : Nat} {L : List Value} (h : (cs.drop o).take k = L) : cs.drop o = L ++ cs.drop (o + k) := by
  rw [← h, ← List.drop_drop, List.take_append_drop]
theorem c_Handle {W : World} {fuel : Nat} {cs : List Value} {y : DataW H × List MemPlace} (hf : DataW.trod enc Try.prog W 0 (fun _ => true) true fuel 32 cs = some y) :
    ∃ (a0 : Int) (a1 : Int), cs = [.int .i64 a0, .int .i64 a1] ∧ I64 a0 ∧ I64 a1 := by
  obtain ⟨xs, m, _, _, hl, hlen, hf⟩ := DataW.trod_struct Try.underlying32 hf
  match xs, hlen with
  | [y0, y1], _ =>
    obtain ⟨a0, g0, _, w0⟩ := DataW.trod_int (k := .i64) (by kernel_rfl) (hf 0 _ rfl)
    have w0 := wf_i64 w0
    have g0 : (cs.drop 0).take (Try.prog.cellsOf 3) = [.int .i64 a0] := g0
    rw [show Try.prog.cellsOf 3 = 1 by kernel_rfl] at g0
    have k0 : cs.drop 0 = [.int .i64 a0] ++ cs.drop 1 := dt g0
    obtain ⟨a1, g1, _, w1⟩ := DataW.trod_int (k := .i64) (by kernel_rfl) (hf 1 _ rfl)
    have w1 := wf_i64 w1
    have g1 : (cs.drop 1).take (Try.prog.cellsOf 3) = [.int .i64 a1] := g1
    rw [show Try.prog.cellsOf 3 = 1 by kernel_rfl] at g1
    have k1 : cs.drop 1 = [.int .i64 a1] ++ cs.drop 2 := dt g1
    rw [show Try.prog.cellsOf 32 = 2 by kernel_rfl] at hl
    refine ⟨a0, a1, ?_, w0, w1⟩
    show cs.drop 0 = _
    rw [k0, k1, List.drop_eq_nil_of_le (by omega)]
    rfl
theorem c_Spot {W : World} {fuel : Nat} {cs : List Value} {y : DataW H × List MemPlace} (hf : DataW.trod enc Try.prog W 0 (fun _ => true) true fuel 47 cs = some y) :
    ∃ (a0 : Int) (a1 : Int), cs = [.int .i64 a0, .int .i64 a1] ∧ I64 a0 ∧ I64 a1 := by
  obtain ⟨xs, m, _, _, hl, hlen, hf⟩ := DataW.trod_struct Try.underlying47 hf
  match xs, hlen with
  | [y0, y1], _ =>
    obtain ⟨a0, g0, _, w0⟩ := DataW.trod_int (k := .i64) (by kernel_rfl) (hf 0 _ rfl)
    have w0 := wf_i64 w0
    have g0 : (cs.drop 0).take (Try.prog.cellsOf 2) = [.int .i64 a0] := g0
    rw [show Try.prog.cellsOf 2 = 1 by kernel_rfl] at g0
    have k0 : cs.drop 0 = [.int .i64 a0] ++ cs.drop 1 := dt g0
    obtain ⟨a1, g1, _, w1⟩ := DataW.trod_int (k := .i64) (by kernel_rfl) (hf 1 _ rfl)
    have w1 := wf_i64 w1
    have g1 : (cs.drop 1).take (Try.prog.cellsOf 2) = [.int .i64 a1] := g1
    rw [show Try.prog.cellsOf 2 = 1 by kernel_rfl] at g1
    have k1 : cs.drop 1 = [.int .i64 a1] ++ cs.drop 2 := dt g1
    rw [show Try.prog.cellsOf 47 = 2 by kernel_rfl] at hl
    refine ⟨a0, a1, ?_, w0, w1⟩
    show cs.drop 0 = _
    rw [k0, k1, List.drop_eq_nil_of_le (by omega)]
    rfl
theorem c_Num {W : World} {fuel : Nat} {cs : List Value} {y : DataW H × List MemPlace} (hf : DataW.trod enc Try.prog W 0 (fun _ => true) true fuel 37 cs = some y) :
    ∃ (a0 : Int) (f1 : Bool), cs = [.int .i64 a0, .bool f1] ∧ I64 a0 := by
  obtain ⟨xs, m, _, _, hl, hlen, hf⟩ := DataW.trod_struct Try.underlying37 hf
  match xs, hlen with
  | [y0, y1], _ =>
    obtain ⟨a0, g0, _, w0⟩ := DataW.trod_int (k := .i64) (by kernel_rfl) (hf 0 _ rfl)
    have w0 := wf_i64 w0
    have g0 : (cs.drop 0).take (Try.prog.cellsOf 2) = [.int .i64 a0] := g0
    rw [show Try.prog.cellsOf 2 = 1 by kernel_rfl] at g0
    have k0 : cs.drop 0 = [.int .i64 a0] ++ cs.drop 1 := dt g0
    obtain ⟨f1, g1, _⟩ := DataW.trod_bool (by kernel_rfl) (hf 1 _ rfl)
    have g1 : (cs.drop 1).take (Try.prog.cellsOf 4) = [.bool f1] := g1
    rw [show Try.prog.cellsOf 4 = 1 by kernel_rfl] at g1
    have k1 : cs.drop 1 = [.bool f1] ++ cs.drop 2 := dt g1
    rw [show Try.prog.cellsOf 37 = 2 by kernel_rfl] at hl
    refine ⟨a0, f1, ?_, w0⟩
    show cs.drop 0 = _
    rw [k0, k1, List.drop_eq_nil_of_le (by omega)]
    rfl
theorem c_Vec {W : World} {fuel : Nat} {cs : List Value} {y : DataW H × List MemPlace} (hf : DataW.trod enc Try.prog W 0 (fun _ => true) true fuel 39 cs = some y) :
    ∃ (a0 : Int) (f1 : Bool) (a2 : Int) (f3 : Bool), cs = [.int .i64 a0, .bool f1, .int .i64 a2, .bool f3] ∧ I64 a0 ∧ I64 a2 := by
  obtain ⟨xs, m, _, _, hl, hlen, hf⟩ := DataW.trod_struct Try.underlying39 hf
  match xs, hlen with
  | [y0, y1], _ =>
    obtain ⟨a0, f1, g0, w0⟩ := c_Num (hf 0 _ rfl)
    have g0 : (cs.drop 0).take (Try.prog.cellsOf 37) = [.int .i64 a0, .bool f1] := g0
    rw [show Try.prog.cellsOf 37 = 2 by kernel_rfl] at g0
    have k0 : cs.drop 0 = [.int .i64 a0, .bool f1] ++ cs.drop 2 := dt g0
    obtain ⟨a2, f3, g1, w2⟩ := c_Num (hf 1 _ rfl)
    have g1 : (cs.drop 2).take (Try.prog.cellsOf 37) = [.int .i64 a2, .bool f3] := g1
    rw [show Try.prog.cellsOf 37 = 2 by kernel_rfl] at g1
    have k1 : cs.drop 2 = [.int .i64 a2, .bool f3] ++ cs.drop 4 := dt g1
    rw [show Try.prog.cellsOf 39 = 4 by kernel_rfl] at hl
    refine ⟨a0, f1, a2, f3, ?_, w0, w2⟩
    show cs.drop 0 = _
    rw [k0, k1, List.drop_eq_nil_of_le (by omega)]
    rfl
theorem c_Rot {W : World} {fuel : Nat} {cs : List Value} {y : DataW H × List MemPlace} (hf : DataW.trod enc Try.prog W 0 (fun _ => true) true fuel 41 cs = some y) :
    ∃ (a0 : Int) (f1 : Bool) (a2 : Int) (f3 : Bool), cs = [.int .i64 a0, .bool f1, .int .i64 a2, .bool f3] ∧ I64 a0 ∧ I64 a2 := by
  obtain ⟨xs, m, _, _, hl, hlen, hf⟩ := DataW.trod_struct Try.underlying41 hf
  match xs, hlen with
  | [y0, y1], _ =>
    obtain ⟨a0, f1, g0, w0⟩ := c_Num (hf 0 _ rfl)
    have g0 : (cs.drop 0).take (Try.prog.cellsOf 37) = [.int .i64 a0, .bool f1] := g0
    rw [show Try.prog.cellsOf 37 = 2 by kernel_rfl] at g0
    have k0 : cs.drop 0 = [.int .i64 a0, .bool f1] ++ cs.drop 2 := dt g0
    obtain ⟨a2, f3, g1, w2⟩ := c_Num (hf 1 _ rfl)
    have g1 : (cs.drop 2).take (Try.prog.cellsOf 37) = [.int .i64 a2, .bool f3] := g1
    rw [show Try.prog.cellsOf 37 = 2 by kernel_rfl] at g1
    have k1 : cs.drop 2 = [.int .i64 a2, .bool f3] ++ cs.drop 4 := dt g1
    rw [show Try.prog.cellsOf 41 = 4 by kernel_rfl] at hl
    refine ⟨a0, f1, a2, f3, ?_, w0, w2⟩
    show cs.drop 0 = _
    rw [k0, k1, List.drop_eq_nil_of_le (by omega)]
    rfl
theorem c_Pose {W : World} {fuel : Nat} {cs : List Value} {y : DataW H × List MemPlace} (hf : DataW.trod enc Try.prog W 0 (fun _ => true) true fuel 43 cs = some y) :
    ∃ (a0 : Int) (f1 : Bool) (a2 : Int) (f3 : Bool) (a4 : Int) (f5 : Bool) (a6 : Int) (f7 : Bool), cs = [.int .i64 a0, .bool f1, .int .i64 a2, .bool f3, .int .i64 a4, .bool f5, .int .i64 a6, .bool f7] ∧ I64 a0 ∧ I64 a2 ∧ I64 a4 ∧ I64 a6 := by
  obtain ⟨xs, m, _, _, hl, hlen, hf⟩ := DataW.trod_struct Try.underlying43 hf
  match xs, hlen with
  | [y0, y1], _ =>
    obtain ⟨a0, f1, a2, f3, g0, w0, w2⟩ := c_Vec (hf 0 _ rfl)
    have g0 : (cs.drop 0).take (Try.prog.cellsOf 39) = [.int .i64 a0, .bool f1, .int .i64 a2, .bool f3] := g0
    rw [show Try.prog.cellsOf 39 = 4 by kernel_rfl] at g0
    have k0 : cs.drop 0 = [.int .i64 a0, .bool f1, .int .i64 a2, .bool f3] ++ cs.drop 4 := dt g0
    obtain ⟨a4, f5, a6, f7, g1, w4, w6⟩ := c_Rot (hf 1 _ rfl)
    have g1 : (cs.drop 4).take (Try.prog.cellsOf 41) = [.int .i64 a4, .bool f5, .int .i64 a6, .bool f7] := g1
    rw [show Try.prog.cellsOf 41 = 4 by kernel_rfl] at g1
    have k1 : cs.drop 4 = [.int .i64 a4, .bool f5, .int .i64 a6, .bool f7] ++ cs.drop 8 := dt g1
    rw [show Try.prog.cellsOf 43 = 8 by kernel_rfl] at hl
    refine ⟨a0, f1, a2, f3, a4, f5, a6, f7, ?_, w0, w2, w4, w6⟩
    show cs.drop 0 = _
    rw [k0, k1, List.drop_eq_nil_of_le (by omega)]
    rfl
theorem c_sSpot {W : World} {fuel : Nat} {cs : List Value} {y : DataW H × List MemPlace} (hf : DataW.trod enc Try.prog W 0 (fun _ => true) true fuel 33 cs = some y) :
    ∃ (n0 c0 : Nat) (row0 : Nat → List SV) (l0 : SE.Loc) (v0 : Value), cs = [v0] ∧ ((∀ δ kk, δ kk = some l0 → absV δ (.sl kk 2 0 n0 c0) v0 ∧ Live δ (Ro.blk ⟨2, n0, row0⟩) W l0) ∧ ∀ i, i < n0 → isPI (row0 i)) := by
  obtain ⟨n, c, row, l, v, h1, h2, _, h3⟩ := rows_open (k := 2) (Q := fun cs => ∃ (a b : Int), cs = [.int .i64 a, .int .i64 b] ∧ I64 a ∧ I64 b) (by omega) Try.underlying33 (by kernel_rfl) (fun fuel cs y h => c_Spot h) hf
  refine ⟨n, c, row, l, v, h1, h2, fun i hi => ?_⟩
  obtain ⟨xs, hr, a, b, rfl, w1, w2⟩ := h3 i hi
  rw [hr]
  exact ⟨w1, w2⟩
theorem c_sHandle {W : World} {fuel : Nat} {cs : List Value} {y : DataW H × List MemPlace} (hf : DataW.trod enc Try.prog W 0 (fun _ => true) true fuel 60 cs = some y) :
    ∃ (n0 c0 : Nat) (row0 : Nat → List SV) (l0 : SE.Loc) (v0 : Value), cs = [v0] ∧ ((∀ δ kk, δ kk = some l0 → absV δ (.sl kk 2 0 n0 c0) v0 ∧ Live δ (Ro.blk ⟨2, n0, row0⟩) W l0) ∧ ∀ i, i < n0 → isPI (row0 i)) := by
  obtain ⟨n, c, row, l, v, h1, h2, _, h3⟩ := rows_open (k := 2) (Q := fun cs => ∃ (a b : Int), cs = [.int .i64 a, .int .i64 b] ∧ I64 a ∧ I64 b) (by omega) Try.underlying60 (by kernel_rfl) (fun fuel cs y h => c_Handle h) hf
  refine ⟨n, c, row, l, v, h1, h2, fun i hi => ?_⟩
  obtain ⟨xs, hr, a, b, rfl, w1, w2⟩ := h3 i hi
  rw [hr]
  exact ⟨w1, w2⟩
theorem c_Shape {W : World} {fuel : Nat} {cs : List Value} {y : DataW H × List MemPlace} (hf : DataW.trod enc Try.prog W 0 (fun _ => true) true fuel 35 cs = some y) :
    ∃ (a0 : Int) (a1 : Int) (a2 : Int) (a3 : Int) (n4 c4 : Nat) (row4 : Nat → List SV) (l4 : SE.Loc) (v4 : Value), cs = [.int .i64 a0, .int .i64 a1, .int .i64 a2, .int .i64 a3, v4] ∧ I64 a0 ∧ I64 a1 ∧ I64 a2 ∧ I64 a3 ∧ ((∀ δ kk, δ kk = some l4 → absV δ (.sl kk 2 0 n4 c4) v4 ∧ Live δ (Ro.blk ⟨2, n4, row4⟩) W l4) ∧ ∀ i, i < n4 → isPI (row4 i)) := by
  obtain ⟨xs, m, _, _, hl, hlen, hf⟩ := DataW.trod_struct Try.underlying35 hf
  match xs, hlen with
  | [y0, y1, y2, y3, y4], _ =>
    obtain ⟨a0, g0, _, w0⟩ := DataW.trod_int (k := .i64) (by kernel_rfl) (hf 0 _ rfl)
    have w0 := wf_i64 w0
    have g0 : (cs.drop 0).take (Try.prog.cellsOf 3) = [.int .i64 a0] := g0
    rw [show Try.prog.cellsOf 3 = 1 by kernel_rfl] at g0
    have k0 : cs.drop 0 = [.int .i64 a0] ++ cs.drop 1 := dt g0
    obtain ⟨a1, g1, _, w1⟩ := DataW.trod_int (k := .i64) (by kernel_rfl) (hf 1 _ rfl)
    have w1 := wf_i64 w1
    have g1 : (cs.drop 1).take (Try.prog.cellsOf 2) = [.int .i64 a1] := g1
    rw [show Try.prog.cellsOf 2 = 1 by kernel_rfl] at g1
    have k1 : cs.drop 1 = [.int .i64 a1] ++ cs.drop 2 := dt g1
    obtain ⟨a2, g2, _, w2⟩ := DataW.trod_int (k := .i64) (by kernel_rfl) (hf 2 _ rfl)
    have w2 := wf_i64 w2
    have g2 : (cs.drop 2).take (Try.prog.cellsOf 2) = [.int .i64 a2] := g2
    rw [show Try.prog.cellsOf 2 = 1 by kernel_rfl] at g2
    have k2 : cs.drop 2 = [.int .i64 a2] ++ cs.drop 3 := dt g2
    obtain ⟨a3, g3, _, w3⟩ := DataW.trod_int (k := .i64) (by kernel_rfl) (hf 3 _ rfl)
    have w3 := wf_i64 w3
    have g3 : (cs.drop 3).take (Try.prog.cellsOf 2) = [.int .i64 a3] := g3
    rw [show Try.prog.cellsOf 2 = 1 by kernel_rfl] at g3
    have k3 : cs.drop 3 = [.int .i64 a3] ++ cs.drop 4 := dt g3
    obtain ⟨n4, c4, row4, l4, v4, g4, w4⟩ := c_sSpot (hf 4 _ rfl)
    have g4 : (cs.drop 4).take (Try.prog.cellsOf 33) = [v4] := g4
    rw [show Try.prog.cellsOf 33 = 1 by kernel_rfl] at g4
    have k4 : cs.drop 4 = [v4] ++ cs.drop 5 := dt g4
    rw [show Try.prog.cellsOf 35 = 5 by kernel_rfl] at hl
    refine ⟨a0, a1, a2, a3, n4, c4, row4, l4, v4, ?_, w0, w1, w2, w3, w4⟩
    show cs.drop 0 = _
    rw [k0, k1, k2, k3, k4, List.drop_eq_nil_of_le (by omega)]
    rfl
theorem c_Weight {W : World} {fuel : Nat} {cs : List Value} {y : DataW H × List MemPlace} (hf : DataW.trod enc Try.prog W 0 (fun _ => true) true fuel 57 cs = some y) :
    ∃ (a0 : Int) (f1 : Bool) (a2 : Int) (f3 : Bool), cs = [.int .i64 a0, .bool f1, .int .i64 a2, .bool f3] ∧ I64 a0 ∧ I64 a2 := by
  obtain ⟨xs, m, _, _, hl, hlen, hf⟩ := DataW.trod_struct Try.underlying57 hf
  match xs, hlen with
  | [y0, y1], _ =>
    obtain ⟨a0, f1, g0, w0⟩ := c_Num (hf 0 _ rfl)
    have g0 : (cs.drop 0).take (Try.prog.cellsOf 37) = [.int .i64 a0, .bool f1] := g0
    rw [show Try.prog.cellsOf 37 = 2 by kernel_rfl] at g0
    have k0 : cs.drop 0 = [.int .i64 a0, .bool f1] ++ cs.drop 2 := dt g0
    obtain ⟨a2, f3, g1, w2⟩ := c_Num (hf 1 _ rfl)
    have g1 : (cs.drop 2).take (Try.prog.cellsOf 37) = [.int .i64 a2, .bool f3] := g1
    rw [show Try.prog.cellsOf 37 = 2 by kernel_rfl] at g1
    have k1 : cs.drop 2 = [.int .i64 a2, .bool f3] ++ cs.drop 4 := dt g1
    rw [show Try.prog.cellsOf 57 = 4 by kernel_rfl] at hl
    refine ⟨a0, f1, a2, f3, ?_, w0, w2⟩
    show cs.drop 0 = _
    rw [k0, k1, List.drop_eq_nil_of_le (by omega)]
    rfl
theorem c_Body {W : World} {fuel : Nat} {cs : List Value} {y : DataW H × List MemPlace} (hf : DataW.trod enc Try.prog W 0 (fun _ => true) true fuel 59 cs = some y) :
    ∃ (a0 : Int) (a1 : Int) (a2 : Int) (a3 : Int) (n4 c4 : Nat) (row4 : Nat → List SV) (l4 : SE.Loc) (v4 : Value) (a5 : Int) (f6 : Bool) (a7 : Int) (f8 : Bool) (a9 : Int) (f10 : Bool) (a11 : Int) (f12 : Bool) (a13 : Int) (f14 : Bool) (a15 : Int) (f16 : Bool) (a17 : Int) (f18 : Bool) (a19 : Int) (f20 : Bool) (a21 : Int) (f22 : Bool) (a23 : Int) (f24 : Bool) (f25 : Bool) (a26 : Int), cs = [.int .i64 a0, .int .i64 a1, .int .i64 a2, .int .i64 a3, v4, .int .i64 a5, .bool f6, .int .i64 a7, .bool f8, .int .i64 a9, .bool f10, .int .i64 a11, .bool f12, .int .i64 a13, .bool f14, .int .i64 a15, .bool f16, .int .i64 a17, .bool f18, .int .i64 a19, .bool f20, .int .i64 a21, .bool f22, .int .i64 a23, .bool f24, .bool f25, .int .i64 a26] ∧ I64 a0 ∧ I64 a1 ∧ I64 a2 ∧ I64 a3 ∧ ((∀ δ kk, δ kk = some l4 → absV δ (.sl kk 2 0 n4 c4) v4 ∧ Live δ (Ro.blk ⟨2, n4, row4⟩) W l4) ∧ ∀ i, i < n4 → isPI (row4 i)) ∧ I64 a5 ∧ I64 a7 ∧ I64 a9 ∧ I64 a11 ∧ I64 a13 ∧ I64 a15 ∧ I64 a17 ∧ I64 a19 ∧ I64 a21 ∧ I64 a23 ∧ I64 a26 := by
  obtain ⟨xs, m, _, _, hl, hlen, hf⟩ := DataW.trod_struct Try.underlying59 hf
  match xs, hlen with
  | [y0, y1, y2, y3, y4, y5, y6, y7, y8], _ =>
    obtain ⟨a0, a1, a2, a3, n4, c4, row4, l4, v4, g0, w0, w1, w2, w3, w4⟩ := c_Shape (hf 0 _ rfl)
    have g0 : (cs.drop 0).take (Try.prog.cellsOf 35) = [.int .i64 a0, .int .i64 a1, .int .i64 a2, .int .i64 a3, v4] := g0
    rw [show Try.prog.cellsOf 35 = 5 by kernel_rfl] at g0
    have k0 : cs.drop 0 = [.int .i64 a0, .int .i64 a1, .int .i64 a2, .int .i64 a3, v4] ++ cs.drop 5 := dt g0
    obtain ⟨a5, f6, a7, f8, a9, f10, a11, f12, g1, w5, w7, w9, w11⟩ := c_Pose (hf 1 _ rfl)
    have g1 : (cs.drop 5).take (Try.prog.cellsOf 43) = [.int .i64 a5, .bool f6, .int .i64 a7, .bool f8, .int .i64 a9, .bool f10, .int .i64 a11, .bool f12] := g1
    rw [show Try.prog.cellsOf 43 = 8 by kernel_rfl] at g1
    have k1 : cs.drop 5 = [.int .i64 a5, .bool f6, .int .i64 a7, .bool f8, .int .i64 a9, .bool f10, .int .i64 a11, .bool f12] ++ cs.drop 13 := dt g1
    obtain ⟨a13, f14, a15, f16, g2, w13, w15⟩ := c_Vec (hf 2 _ rfl)
    have g2 : (cs.drop 13).take (Try.prog.cellsOf 39) = [.int .i64 a13, .bool f14, .int .i64 a15, .bool f16] := g2
    rw [show Try.prog.cellsOf 39 = 4 by kernel_rfl] at g2
    have k2 : cs.drop 13 = [.int .i64 a13, .bool f14, .int .i64 a15, .bool f16] ++ cs.drop 17 := dt g2
    obtain ⟨a17, f18, g3, w17⟩ := c_Num (hf 3 _ rfl)
    have g3 : (cs.drop 17).take (Try.prog.cellsOf 37) = [.int .i64 a17, .bool f18] := g3
    rw [show Try.prog.cellsOf 37 = 2 by kernel_rfl] at g3
    have k3 : cs.drop 17 = [.int .i64 a17, .bool f18] ++ cs.drop 19 := dt g3
    obtain ⟨a19, f20, a21, f22, g4, w19, w21⟩ := c_Weight (hf 4 _ rfl)
    have g4 : (cs.drop 19).take (Try.prog.cellsOf 57) = [.int .i64 a19, .bool f20, .int .i64 a21, .bool f22] := g4
    rw [show Try.prog.cellsOf 57 = 4 by kernel_rfl] at g4
    have k4 : cs.drop 19 = [.int .i64 a19, .bool f20, .int .i64 a21, .bool f22] ++ cs.drop 23 := dt g4
    obtain ⟨a23, g5, _, w23⟩ := DataW.trod_int (k := .i64) (by kernel_rfl) (hf 5 _ rfl)
    have w23 := wf_i64 w23
    have g5 : (cs.drop 23).take (Try.prog.cellsOf 3) = [.int .i64 a23] := g5
    rw [show Try.prog.cellsOf 3 = 1 by kernel_rfl] at g5
    have k5 : cs.drop 23 = [.int .i64 a23] ++ cs.drop 24 := dt g5
    obtain ⟨f24, g6, _⟩ := DataW.trod_bool (by kernel_rfl) (hf 6 _ rfl)
    have g6 : (cs.drop 24).take (Try.prog.cellsOf 4) = [.bool f24] := g6
    rw [show Try.prog.cellsOf 4 = 1 by kernel_rfl] at g6
    have k6 : cs.drop 24 = [.bool f24] ++ cs.drop 25 := dt g6
    obtain ⟨f25, g7, _⟩ := DataW.trod_bool (by kernel_rfl) (hf 7 _ rfl)
    have g7 : (cs.drop 25).take (Try.prog.cellsOf 4) = [.bool f25] := g7
    rw [show Try.prog.cellsOf 4 = 1 by kernel_rfl] at g7
    have k7 : cs.drop 25 = [.bool f25] ++ cs.drop 26 := dt g7
    obtain ⟨a26, g8, _, w26⟩ := DataW.trod_int (k := .i64) (by kernel_rfl) (hf 8 _ rfl)
    have w26 := wf_i64 w26
    have g8 : (cs.drop 26).take (Try.prog.cellsOf 2) = [.int .i64 a26] := g8
    rw [show Try.prog.cellsOf 2 = 1 by kernel_rfl] at g8
    have k8 : cs.drop 26 = [.int .i64 a26] ++ cs.drop 27 := dt g8
    rw [show Try.prog.cellsOf 59 = 27 by kernel_rfl] at hl
    refine ⟨a0, a1, a2, a3, n4, c4, row4, l4, v4, a5, f6, a7, f8, a9, f10, a11, f12, a13, f14, a15, f16, a17, f18, a19, f20, a21, f22, a23, f24, f25, a26, ?_, w0, w1, w2, w3, w4, w5, w7, w9, w11, w13, w15, w17, w19, w21, w23, w26⟩
    show cs.drop 0 = _
    rw [k0, k1, k2, k3, k4, k5, k6, k7, k8, List.drop_eq_nil_of_le (by omega)]
    rfl
theorem c_Hit {W : World} {fuel : Nat} {cs : List Value} {y : DataW H × List MemPlace} (hf : DataW.trod enc Try.prog W 0 (fun _ => true) true fuel 62 cs = some y) :
    ∃ (f0 : Bool) (a1 : Int) (f2 : Bool) (a3 : Int) (f4 : Bool) (a5 : Int) (f6 : Bool), cs = [.bool f0, .int .i64 a1, .bool f2, .int .i64 a3, .bool f4, .int .i64 a5, .bool f6] ∧ I64 a1 ∧ I64 a3 ∧ I64 a5 := by
  obtain ⟨xs, m, _, _, hl, hlen, hf⟩ := DataW.trod_struct Try.underlying62 hf
  match xs, hlen with
  | [y0, y1, y2], _ =>
    obtain ⟨f0, g0, _⟩ := DataW.trod_bool (by kernel_rfl) (hf 0 _ rfl)
    have g0 : (cs.drop 0).take (Try.prog.cellsOf 4) = [.bool f0] := g0
    rw [show Try.prog.cellsOf 4 = 1 by kernel_rfl] at g0
    have k0 : cs.drop 0 = [.bool f0] ++ cs.drop 1 := dt g0
    obtain ⟨a1, f2, g1, w1⟩ := c_Num (hf 1 _ rfl)
    have g1 : (cs.drop 1).take (Try.prog.cellsOf 37) = [.int .i64 a1, .bool f2] := g1
    rw [show Try.prog.cellsOf 37 = 2 by kernel_rfl] at g1
    have k1 : cs.drop 1 = [.int .i64 a1, .bool f2] ++ cs.drop 3 := dt g1
    obtain ⟨a3, f4, a5, f6, g2, w3, w5⟩ := c_Vec (hf 2 _ rfl)
    have g2 : (cs.drop 3).take (Try.prog.cellsOf 39) = [.int .i64 a3, .bool f4, .int .i64 a5, .bool f6] := g2
    rw [show Try.prog.cellsOf 39 = 4 by kernel_rfl] at g2
    have k2 : cs.drop 3 = [.int .i64 a3, .bool f4, .int .i64 a5, .bool f6] ++ cs.drop 7 := dt g2
    rw [show Try.prog.cellsOf 62 = 7 by kernel_rfl] at hl
    refine ⟨f0, a1, f2, a3, f4, a5, f6, ?_, w1, w3, w5⟩
    show cs.drop 0 = _
    rw [k0, k1, k2, List.drop_eq_nil_of_le (by omega)]
    rfl
theorem c_Reply {W : World} {fuel : Nat} {cs : List Value} {y : DataW H × List MemPlace} (hf : DataW.trod enc Try.prog W 0 (fun _ => true) true fuel 64 cs = some y) :
    ∃ (a0 : Int) (a1 : Int) (a2 : Int) (a3 : Int) (a4 : Int) (a5 : Int) (a6 : Int) (a7 : Int) (a8 : Int) (a9 : Int) (a10 : Int) (n11 c11 : Nat) (row11 : Nat → List SV) (l11 : SE.Loc) (v11 : Value) (a12 : Int) (f13 : Bool) (a14 : Int) (f15 : Bool) (a16 : Int) (f17 : Bool) (a18 : Int) (f19 : Bool) (a20 : Int) (f21 : Bool) (a22 : Int) (f23 : Bool) (a24 : Int) (f25 : Bool) (a26 : Int) (f27 : Bool) (a28 : Int) (f29 : Bool) (a30 : Int) (f31 : Bool) (f32 : Bool) (a33 : Int) (n34 c34 : Nat) (row34 : Nat → List SV) (l34 : SE.Loc) (v34 : Value) (f35 : Bool) (a36 : Int) (f37 : Bool) (a38 : Int) (f39 : Bool) (a40 : Int) (f41 : Bool) (a42 : Int), cs = [.int .i64 a0, .int .i64 a1, .int .i64 a2, .int .i64 a3, .int .i64 a4, .int .i64 a5, .int .i64 a6, .int .i64 a7, .int .i64 a8, .int .i64 a9, .int .i64 a10, v11, .int .i64 a12, .bool f13, .int .i64 a14, .bool f15, .int .i64 a16, .bool f17, .int .i64 a18, .bool f19, .int .i64 a20, .bool f21, .int .i64 a22, .bool f23, .int .i64 a24, .bool f25, .int .i64 a26, .bool f27, .int .i64 a28, .bool f29, .int .i64 a30, .bool f31, .bool f32, .int .i64 a33, v34, .bool f35, .int .i64 a36, .bool f37, .int .i64 a38, .bool f39, .int .i64 a40, .bool f41, .int .i64 a42] ∧ I64 a0 ∧ I64 a1 ∧ I64 a2 ∧ I64 a3 ∧ I64 a4 ∧ I64 a5 ∧ I64 a6 ∧ I64 a7 ∧ I64 a8 ∧ I64 a9 ∧ I64 a10 ∧ ((∀ δ kk, δ kk = some l11 → absV δ (.sl kk 2 0 n11 c11) v11 ∧ Live δ (Ro.blk ⟨2, n11, row11⟩) W l11) ∧ ∀ i, i < n11 → isPI (row11 i)) ∧ I64 a12 ∧ I64 a14 ∧ I64 a16 ∧ I64 a18 ∧ I64 a20 ∧ I64 a22 ∧ I64 a24 ∧ I64 a26 ∧ I64 a28 ∧ I64 a30 ∧ I64 a33 ∧ ((∀ δ kk, δ kk = some l34 → absV δ (.sl kk 2 0 n34 c34) v34 ∧ Live δ (Ro.blk ⟨2, n34, row34⟩) W l34) ∧ ∀ i, i < n34 → isPI (row34 i)) ∧ I64 a36 ∧ I64 a38 ∧ I64 a40 ∧ I64 a42 := by
  obtain ⟨xs, m, _, _, hl, hlen, hf⟩ := DataW.trod_struct Try.underlying64 hf
  match xs, hlen with
  | [y0, y1, y2, y3, y4, y5, y6, y7, y8, y9], _ =>
    obtain ⟨a0, g0, _, w0⟩ := DataW.trod_int (k := .i64) (by kernel_rfl) (hf 0 _ rfl)
    have w0 := wf_i64 w0
    have g0 : (cs.drop 0).take (Try.prog.cellsOf 3) = [.int .i64 a0] := g0
    rw [show Try.prog.cellsOf 3 = 1 by kernel_rfl] at g0
    have k0 : cs.drop 0 = [.int .i64 a0] ++ cs.drop 1 := dt g0
    obtain ⟨a1, g1, _, w1⟩ := DataW.trod_int (k := .i64) (by kernel_rfl) (hf 1 _ rfl)
    have w1 := wf_i64 w1
    have g1 : (cs.drop 1).take (Try.prog.cellsOf 3) = [.int .i64 a1] := g1
    rw [show Try.prog.cellsOf 3 = 1 by kernel_rfl] at g1
    have k1 : cs.drop 1 = [.int .i64 a1] ++ cs.drop 2 := dt g1
    obtain ⟨a2, g2, _, w2⟩ := DataW.trod_int (k := .i64) (by kernel_rfl) (hf 2 _ rfl)
    have w2 := wf_i64 w2
    have g2 : (cs.drop 2).take (Try.prog.cellsOf 26) = [.int .i64 a2] := g2
    rw [show Try.prog.cellsOf 26 = 1 by kernel_rfl] at g2
    have k2 : cs.drop 2 = [.int .i64 a2] ++ cs.drop 3 := dt g2
    obtain ⟨a3, a4, g3, w3, w4⟩ := c_Handle (hf 3 _ rfl)
    have g3 : (cs.drop 3).take (Try.prog.cellsOf 32) = [.int .i64 a3, .int .i64 a4] := g3
    rw [show Try.prog.cellsOf 32 = 2 by kernel_rfl] at g3
    have k3 : cs.drop 3 = [.int .i64 a3, .int .i64 a4] ++ cs.drop 5 := dt g3
    obtain ⟨a5, g4, _, w5⟩ := DataW.trod_int (k := .i64) (by kernel_rfl) (hf 4 _ rfl)
    have w5 := wf_i64 w5
    have g4 : (cs.drop 5).take (Try.prog.cellsOf 2) = [.int .i64 a5] := g4
    rw [show Try.prog.cellsOf 2 = 1 by kernel_rfl] at g4
    have k4 : cs.drop 5 = [.int .i64 a5] ++ cs.drop 6 := dt g4
    obtain ⟨a6, g5, _, w6⟩ := DataW.trod_int (k := .i64) (by kernel_rfl) (hf 5 _ rfl)
    have w6 := wf_i64 w6
    have g5 : (cs.drop 6).take (Try.prog.cellsOf 3) = [.int .i64 a6] := g5
    rw [show Try.prog.cellsOf 3 = 1 by kernel_rfl] at g5
    have k5 : cs.drop 6 = [.int .i64 a6] ++ cs.drop 7 := dt g5
    obtain ⟨a7, a8, a9, a10, n11, c11, row11, l11, v11, a12, f13, a14, f15, a16, f17, a18, f19, a20, f21, a22, f23, a24, f25, a26, f27, a28, f29, a30, f31, f32, a33, g6, w7, w8, w9, w10, w11, w12, w14, w16, w18, w20, w22, w24, w26, w28, w30, w33⟩ := c_Body (hf 6 _ rfl)
    have g6 : (cs.drop 7).take (Try.prog.cellsOf 59) = [.int .i64 a7, .int .i64 a8, .int .i64 a9, .int .i64 a10, v11, .int .i64 a12, .bool f13, .int .i64 a14, .bool f15, .int .i64 a16, .bool f17, .int .i64 a18, .bool f19, .int .i64 a20, .bool f21, .int .i64 a22, .bool f23, .int .i64 a24, .bool f25, .int .i64 a26, .bool f27, .int .i64 a28, .bool f29, .int .i64 a30, .bool f31, .bool f32, .int .i64 a33] := g6
    rw [show Try.prog.cellsOf 59 = 27 by kernel_rfl] at g6
    have k6 : cs.drop 7 = [.int .i64 a7, .int .i64 a8, .int .i64 a9, .int .i64 a10, v11, .int .i64 a12, .bool f13, .int .i64 a14, .bool f15, .int .i64 a16, .bool f17, .int .i64 a18, .bool f19, .int .i64 a20, .bool f21, .int .i64 a22, .bool f23, .int .i64 a24, .bool f25, .int .i64 a26, .bool f27, .int .i64 a28, .bool f29, .int .i64 a30, .bool f31, .bool f32, .int .i64 a33] ++ cs.drop 34 := dt g6
    obtain ⟨n34, c34, row34, l34, v34, g7, w34⟩ := c_sHandle (hf 7 _ rfl)
    have g7 : (cs.drop 34).take (Try.prog.cellsOf 60) = [v34] := g7
    rw [show Try.prog.cellsOf 60 = 1 by kernel_rfl] at g7
    have k7 : cs.drop 34 = [v34] ++ cs.drop 35 := dt g7
    obtain ⟨f35, a36, f37, a38, f39, a40, f41, g8, w36, w38, w40⟩ := c_Hit (hf 8 _ rfl)
    have g8 : (cs.drop 35).take (Try.prog.cellsOf 62) = [.bool f35, .int .i64 a36, .bool f37, .int .i64 a38, .bool f39, .int .i64 a40, .bool f41] := g8
    rw [show Try.prog.cellsOf 62 = 7 by kernel_rfl] at g8
    have k8 : cs.drop 35 = [.bool f35, .int .i64 a36, .bool f37, .int .i64 a38, .bool f39, .int .i64 a40, .bool f41] ++ cs.drop 42 := dt g8
    obtain ⟨a42, g9, _, w42⟩ := DataW.trod_int (k := .i64) (by kernel_rfl) (hf 9 _ rfl)
    have w42 := wf_i64 w42
    have g9 : (cs.drop 42).take (Try.prog.cellsOf 3) = [.int .i64 a42] := g9
    rw [show Try.prog.cellsOf 3 = 1 by kernel_rfl] at g9
    have k9 : cs.drop 42 = [.int .i64 a42] ++ cs.drop 43 := dt g9
    rw [show Try.prog.cellsOf 64 = 43 by kernel_rfl] at hl
    refine ⟨a0, a1, a2, a3, a4, a5, a6, a7, a8, a9, a10, n11, c11, row11, l11, v11, a12, f13, a14, f15, a16, f17, a18, f19, a20, f21, a22, f23, a24, f25, a26, f27, a28, f29, a30, f31, f32, a33, n34, c34, row34, l34, v34, f35, a36, f37, a38, f39, a40, f41, a42, ?_, w0, w1, w2, w3, w4, w5, w6, w7, w8, w9, w10, w11, w12, w14, w16, w18, w20, w22, w24, w26, w28, w30, w33, w34, w36, w38, w40, w42⟩
    show cs.drop 0 = _
    rw [k0, k1, k2, k3, k4, k5, k6, k7, k8, k9, List.drop_eq_nil_of_le (by omega)]
    rfl
end
end Go.Proofs.Ytjdldadmaaeimaa
end

section
set_option maxRecDepth 100000
set_option linter.unusedSimpArgs false
set_option linter.unusedVariables false
namespace Go.Proofs.Ytjdldadmaaeimaa
open Go.SE Go.RowKit

def sEqualN : List SV → List Ro → Option (Option Prop × SV)
  | [.v (.slice none 0 0), .sl 0 2 0 m _], [⟨2, m', row⟩] => some (some (rowsPre m m' row), .v (.bool (Nat.beq m 0)))
  | _, _ => none
def sSameN : List SV → List Ro → Option (Option Prop × SV)
  | [.agg [.v (.int .i64 k), .v (.int .i64 r), .v (.int .i64 w), .v (.int .i64 h), .v (.slice none 0 0)], .agg [.v (.int .i64 k2), .v (.int .i64 r2), .v (.int .i64 w2), .v (.int .i64 h2), .sl 0 2 0 m _]], [⟨2, m', row⟩] => some (some (rowsPre m m' row), .v (.bool (eqSh ⟨k, r, w, h⟩ ⟨k2, r2, w2, h2⟩ && Nat.beq m 0)))
  | _, _ => none
def sRSameN : List SV → List Ro → Option (Option Prop × SV)
  | [.agg [.v (.int .i64 k), .v (.int .i64 r), .v (.int .i64 w), .v (.int .i64 h), .sl 0 2 0 m _], .agg [.v (.int .i64 k2), .v (.int .i64 r2), .v (.int .i64 w2), .v (.int .i64 h2), .v (.slice none 0 0)]], [⟨2, m', row⟩] => some (some (rowsPre m m' row), .v (.bool (eqSh ⟨k, r, w, h⟩ ⟨k2, r2, w2, h2⟩ && Nat.beq m 0)))
  | _, _ => none
theorem vcEqualN (m m' d : Nat) (g : Nat→Int × Int) (R : SV→Prop) : (vcFn Try.prog noCtrs (ΛZ Try.f106 13) Try.f106 [nilS,.sl 0 2 0 m d] (roHeap [⟨2,m',rowsP g⟩]) 64 (fun y _ => R y)) = (sel (0 != (↑m : Int)) (R (SV.v (.bool false))) ((∃ x : Nat,(((x : Nat) = 0)∧(((SV.v (.int .i64 0)) = (SV.v (.int .i64 ((↑x : Int)))))∧True)))∧(∀ x : Nat,(((x : Nat) = 0)→(R (SV.v (.bool true))))))):=by kernel_rfl
def ΓMN : Ctrs := addCtr noCtrs 106 (roCtr sEqualN)
theorem vcSameN (a b : ShB) (m m' d : Nat) (g : Nat→Int × Int) (R : SV→Prop) : (vcFn Try.prog ΓMN noΛ Try.f72 [shS a nilS,shS b (.sl 0 2 0 m d)] (roHeap [⟨2,m',rowsP g⟩]) 64 (fun y _ => R y)) = (sel (ShB.k a == ShB.k b&&(ShB.r a == ShB.r b&&(ShB.w a == ShB.w b&&ShB.h a == ShB.h b))) ((rowsPre m m fun y => [SV.v (.int .i64 (Prod.fst (g (0 + y)))),SV.v (.int .i64 (Prod.snd (g (0 + y))))])∧(R (SV.v (.bool (Nat.beq m 0))))) (R (SV.v (.bool false)))):=by kernel_rfl
theorem vcRSameN (a b : ShB) (m m' d : Nat) (g : Nat→Int × Int) (R : SV→Prop) : (vcFn Try.prog noCtrs (addLoop noΛ Try.f76 0 Nat (fun z => z = 0) (fun z => z) [(5,fun z => .v (.int .i64 z))] []) Try.f76 [shS a (.sl 0 2 0 m d),shS b nilS] (roHeap [⟨2,m',rowsP g⟩]) 64 (fun y _ => R y)) = (sel (ShB.k a != ShB.k b) (R (SV.v (.bool false))) (sel (ShB.r a != ShB.r b) (R (SV.v (.bool false))) (sel (ShB.w a != ShB.w b) (R (SV.v (.bool false))) (sel (ShB.h a != ShB.h b) (R (SV.v (.bool false))) (sel ((↑m : Int) != 0) (R (SV.v (.bool false))) ((∃ x : Nat,(((x : Nat) = 0)∧(((SV.v (.int .i64 0)) = (SV.v (.int .i64 ((↑x : Int)))))∧True)))∧(∀ x : Nat,(((x : Nat) = 0)→(sel (decide ((↑x : Int) < (↑m : Int))) ((((0 : Int) ≤ ((↑x : Int)))∧((((↑x : Int)) : Int) < ((↑m : Int))))∧False) (R (SV.v (.bool true)))))))))))):=by kernel_rfl
theorem beq_zero {m : Nat} (h : ((m : Int) != 0) = true) : Nat.beq m 0 = false := Go.SE.beq_false fun e => by rw [e] at h; cases h
theorem beq_zero' {m : Nat} (h : ((m : Int) != 0) = false) : m = 0 := by simpa using h
theorem EqualN_spec : RoSpec Try.prog 106 sEqualN := ro_spec hm noCtrs_ok Try.func106 (Λ := fun _ _ => ΛZ Try.f106 13) fun args bs p x h hp => by
  unfold sEqualN at h
  split at h <;> try (cases h; done)
  rename_i m d m' row
  cases h
  obtain ⟨h0, rfl, hn⟩ := hp _ rfl
  have h0 := okAll_rows.1 h0
  refine ⟨rfl, [⟨2, m', rowsP fun i => gi (row i)⟩], ⟨⟨rfl, rfl, fun i hi => (isPI_row (h0 i hi)).1⟩, trivial⟩, ?_⟩
  refine Eq.mpr (vcEqualN m' m' d (fun i => gi (row i)) _) (sel_of (fun e => bool_mk ?_) fun e => ⟨⟨0, rfl, rfl, trivial⟩, fun _ _ => bool_mk ?_⟩)
  · refine (Go.SE.beq_false fun e0 => ?_).symm
    rw [e0] at e; cases e
  · have : m' = 0 := by
      have : ((0 : Int) != (m' : Int)) = false := e
      simp at this; omega
    rw [this]; rfl
theorem ΓMN_ok : ∀ f g, ΓMN f = some g → g.ok Try.prog f := addCtr_ok noCtrs_ok (ro_ok Try.func106 (by kernel_rfl) (by kernel_rfl) EqualN_spec)
theorem SameN_spec : RoSpec Try.prog 72 sSameN := ro_spec hm ΓMN_ok Try.func72 (Λ := fun _ _ => noΛ) fun args bs p x h hp => by
  unfold sSameN at h
  split at h <;> try (cases h; done)
  rename_i k r w hh k2 r2 w2 h2 m d m' row
  cases h
  obtain ⟨h0, rfl, hn⟩ := hp _ rfl
  have h0 := okAll_rows.1 h0
  refine ⟨rfl, [⟨2, m', rowsP fun i => gi (row i)⟩], ⟨⟨rfl, rfl, fun i hi => (isPI_row (h0 i hi)).1⟩, trivial⟩, ?_⟩
  refine Eq.mpr (vcSameN ⟨k, r, w, hh⟩ ⟨k2, r2, w2, h2⟩ m' m' d (fun i => gi (row i)) _) (sel_of (fun e => ⟨⟨okAll_rows.2 fun i hi => ?_, rfl, hn⟩, bool_mk ?_⟩) fun e => bool_mk ?_)
  · rw [Nat.zero_add]; exact (isPI_row (h0 i hi)).2
  · unfold eqSh; rw [e]; rfl
  · unfold eqSh; rw [e]; rfl
theorem RSameN_spec : RoSpec Try.prog 76 sRSameN := ro_spec hm noCtrs_ok Try.func76 (Λ := fun _ _ => addLoop noΛ Try.f76 0 Nat (fun z => z = 0) (fun z => z) [(5, fun z => .v (.int .i64 z))] []) fun args bs p x h hp => by
  unfold sRSameN at h
  split at h <;> try (cases h; done)
  rename_i k r w hh m d k2 r2 w2 h2 m' row
  cases h
  obtain ⟨h0, rfl, hn⟩ := hp _ rfl
  have h0 := okAll_rows.1 h0
  refine ⟨rfl, [⟨2, m', rowsP fun i => gi (row i)⟩], ⟨⟨rfl, rfl, fun i hi => (isPI_row (h0 i hi)).1⟩, trivial⟩, ?_⟩
  have bn : ∀ {a b : Int}, (a != b) = true → (a == b) = false := fun {a b} h => by unfold bne at h; simpa using h
  have by' : ∀ {a b : Int}, (a != b) = false → (a == b) = true := fun {a b} h => by unfold bne at h; simpa using h
  refine Eq.mpr (vcRSameN ⟨k, r, w, hh⟩ ⟨k2, r2, w2, h2⟩ m' m' d (fun i => gi (row i)) _) ?_
  refine sel_of (fun e => bool_mk ?_) fun e1 => sel_of (fun e => bool_mk ?_) fun e2 => sel_of (fun e => bool_mk ?_) fun e3 => sel_of (fun e => bool_mk ?_) fun e4 => sel_of (fun e => bool_mk ?_) fun e5 => ⟨⟨0, rfl, rfl, trivial⟩, fun x hx => sel_of (fun hlt => ?_) fun _ => bool_mk ?_⟩
  · unfold eqSh; rw [bn e]; rfl
  · unfold eqSh; rw [by' e1, bn e]; rfl
  · unfold eqSh; rw [by' e1, by' e2, bn e]; rfl
  · unfold eqSh; rw [by' e1, by' e2, by' e3, bn e]; rfl
  · rw [beq_zero e, Bool.and_false]
  · have hlt := of_decide_eq_true hlt
    have := beq_zero' e5
    omega
  · unfold eqSh; rw [by' e1, by' e2, by' e3, by' e4, beq_zero' e5]; rfl
end Go.Proofs.Ytjdldadmaaeimaa
end

section
set_option maxRecDepth 100000
set_option linter.unusedSimpArgs false
set_option linter.unusedVariables false
namespace Go.Proofs.Ytjdldadmaaeimaa
open Go.SE Go.RowKit

end Go.Proofs.Ytjdldadmaaeimaa
end

section
set_option maxRecDepth 100000
set_option linter.unusedSimpArgs false
set_option linter.unusedVariables false
namespace Go.Proofs.Ytjdldadmaaeimaa
open Go.SE Go.RowKit

def tkI {α : Type} (l : List SV) (K : Int → List SV → Option α) : Option α := match l with
  | .v (.int .i64 n) :: rest => K n rest
  | _ => none
def tkB {α : Type} (l : List SV) (K : Bool → List SV → Option α) : Option α := match l with
  | .v (.bool n) :: rest => K n rest
  | _ => none
def tkA {α : Type} (l : List SV) (K : SV → List SV → Option α) : Option α := match l with
  | x :: rest => K x rest
  | _ => none
def tkE {α : Type} (l : List SV) (r : α) : Option α := match l with
  | [] => some r
  | _ => none
def cellsOf (l : List SV) : Option (Int × CV × SV) := tkI l fun x_k l => tkI l fun x_id l => tkI l fun x_bs l => tkI l fun x_bg l => tkI l fun x_ver l => tkI l fun x_sk l => tkI l fun x_sr l => tkI l fun x_sw l => tkI l fun x_sh l => tkA l fun x_P l => tkI l fun x_p0v l => tkB l fun x_p0f l => tkI l fun x_p1v l => tkB l fun x_p1f l => tkI l fun x_p2v l => tkB l fun x_p2f l => tkI l fun x_p3v l => tkB l fun x_p3f l => tkI l fun x_v0v l => tkB l fun x_v0f l => tkI l fun x_v1v l => tkB l fun x_v1f l => tkI l fun x_w0v l => tkB l fun x_w0f l => tkI l fun x_dn l => tkB l fun x_mv l => tkI l fun x_a0v l => tkB l fun x_a0f l => tkI l fun x_a1v l => tkB l fun x_a1f l => tkI l fun x_t0v l => tkB l fun x_t0f l => tkI l fun x_t1v l => tkB l fun x_t1f l => tkI l fun x_gr l => tkI l fun x_b0 l => tkI l fun x_b1 l => tkI l fun x_b2 l => tkI l fun x_b3 l => tkI l fun x_f0 l => tkI l fun x_f1 l => tkI l fun x_u0 l => tkI l fun x_u1 l => tkE l (x_k, ⟨x_id, x_bs, x_bg, x_ver, x_sk, x_sr, x_sw, x_sh, x_p0v, x_p0f, x_p1v, x_p1f, x_p2v, x_p2f, x_p3v, x_p3f, x_v0v, x_v0f, x_v1v, x_v1f, x_w0v, x_w0f, x_dn, x_mv, x_a0v, x_a0f, x_a1v, x_a1f, x_t0v, x_t0f, x_t1v, x_t1f, x_gr, x_b0, x_b1, x_b2, x_b3, x_f0, x_f1, x_u0, x_u1⟩, x_P)
theorem tkI_eq {α : Type} {l : List SV} {K : Int → List SV → Option α} {r : α} (h : tkI l K = some r) : ∃ n rest, l = .v (.int .i64 n) :: rest ∧ K n rest = some r := by
  unfold tkI at h
  split at h
  · exact ⟨_, _, rfl, h⟩
  · cases h
theorem tkB_eq {α : Type} {l : List SV} {K : Bool → List SV → Option α} {r : α} (h : tkB l K = some r) : ∃ n rest, l = .v (.bool n) :: rest ∧ K n rest = some r := by
  unfold tkB at h
  split at h
  · exact ⟨_, _, rfl, h⟩
  · cases h
theorem tkA_eq {α : Type} {l : List SV} {K : SV → List SV → Option α} {r : α} (h : tkA l K = some r) : ∃ x rest, l = x :: rest ∧ K x rest = some r := by
  unfold tkA at h
  split at h
  · exact ⟨_, _, rfl, h⟩
  · cases h
theorem tkE_eq {α : Type} {l : List SV} {x r : α} (h : tkE l x = some r) : l = [] ∧ x = r := by
  unfold tkE at h
  split at h
  · exact ⟨rfl, Option.some.inj h⟩
  · cases h
theorem pre_rows {n : Nat} {g : Nat → Int × Int} (hn : n < 1099511627776) (hg : ∀ i, i < n → I64 (g i).1 ∧ I64 (g i).2) : rowsPre n n fun y => [SV.v (.int .i64 (g (0 + y)).1), SV.v (.int .i64 (g (0 + y)).2)] := ⟨okAll_rows.2 fun i hi => by rw [Nat.zero_add]; exact hg i hi, rfl, hn⟩
end Go.Proofs.Ytjdldadmaaeimaa
end
