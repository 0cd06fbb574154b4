/-
  Contracts: strings.Builder, and the texts of numbers.
-/
import Derived.Test.YtnnmfonapfhcaaaFxE
set_option maxRecDepth 100000
namespace Go.Proofs.Ytnnmfonapfhcaaa
open Go.SE Go.RowKit

/-! ### a block of bytes -/
def bL (l : List Int) (c : Nat) : Blk := { elem := 5, size := 1, rw := true, lock := false, lit := false, flat := true, n := l.length, row := fun i => [.v (.int .u8 (l.getD i 0))], ext := c }
def bOk (b : Blk) : Bool := Nat.beq b.elem 5 && Nat.beq b.size 1 && b.rw && !b.dead && b.flat && !b.whole
def nilS : SV := .v (.slice none 0 0)
/-- A builder's variable. -/
def buB (fl : Bool) (a b : SV) : Blk := { elem := 96, size := 2, rw := true, lock := false, lit := true, flat := fl, n := 1, row := fun _ => [a, b], ext := 1, whole := true }
def buOk (fl : Bool) (b : Blk) : Bool := Nat.beq b.elem 96 && Nat.beq b.size 2 && b.rw && !b.dead && Nat.beq b.n 1 && Nat.beq b.ext 1 && b.whole && (b.flat == fl)

/-- A fresh builder, or one whose bytes lie in block 1. -/
inductive BuS where
  | fresh
  | used (l : List Int) (c : Nat) (p : Prop)
def bytesOk (n c : Nat) (D : Blk) : Prop := D.n = n ∧ D.ext = c ∧ n < 70368744177664 ∧ ∀ i, i < n → isByte (D.row i)
def buOf : List Blk → Option BuS
  | [B] => match B.row 0 with
    | [.v (.pointer none), .v (.slice none 0 0)] => bif buOk true B then some .fresh else none
    | _ => none
  | [B, D] => match B.row 0 with
    | [.vp 0 0, .sl 1 1 0 n c] => bif buOk false B && bOk D then some (.used (bytesOf n D.row) c (bytesOk n c D)) else none
    | _ => none
  | _ => none
def usB (n c : Nat) : Blk := buB false (.vp 0 0) (.sl 1 1 0 n c)
def newB (n c : Nat) : Blk := buB false (.vp 0 0) (.sl 1000 1 0 n c)
def idCtr : Ctr := { writes := false, run := fun args _ _ => match args with | [x] => some (.det none x []) | _ => none }
def sCheck (args : List SV) (bs : List Blk) : Option Eff := match args with
  | [.vp 0 0] => match buOf bs with
    | some .fresh => some (.det none (.tup []) [(0, buB false (.vp 0 0) nilS)])
    | some (.used l c p) => some (.det (some p) (.tup []) [(0, usB l.length c), (1, bL l c)])
    | none => none
  | _ => none
def sWByte (args : List SV) (bs : List Blk) : Option Eff := match args with
  | [.vp 0 0, .v (.int .u8 x)] => match buOf bs with
    | some .fresh => some (.nd True Nat 0 (fun _ => .v .nilIface) fun c' => [(0, newB 1 (1 + c')), (1000, bL [x] (1 + c'))])
    | some (.used l c p) => some (.nd p Nat 0 (fun _ => .v .nilIface) fun c' => [(0, newB (l.length + 1) (l.length + 1 + c')), (1, killed (bL l c)), (1000, bL (l ++ [x]) (l.length + 1 + c'))])
    | none => none
  | _ => none
/-- A block of bytes that is only read. -/
def roB (e : Nat) (l : List Int) : Blk := { elem := e, size := 1, rw := false, lock := false, lit := false, flat := true, n := l.length, row := fun i => [.v (.int .u8 (l.getD i 0))], ext := 0 }
def roOk (S : Blk) : Bool := S.flat && !S.rw && !S.dead && Nat.beq S.size 1 && Nat.beq S.ext 0 && !S.whole
/-- Write: the bytes to be written lie in the last block. -/
def sWrite (args : List SV) (bs : List Blk) : Option Eff := match args, bs with
  | [.vp 0 0, .sl 1 1 0 m _], [B, S] => match buOf [B] with
    | some .fresh => bif roOk S then some (.nd (S.n = m ∧ 0 < m ∧ m < 70368744177664 ∧ ∀ i, i < m → isByte (S.row i)) Nat 0 (fun _ => .tup [.v (.int .i64 m), .v .nilIface]) fun c' => [(0, newB m (m + c')), (1000, bL (bytesOf m S.row) (m + c'))]) else none
    | _ => none
  | [.vp 0 0, .sl 2 1 0 m _], [B, D, S] => match buOf [B, D] with
    | some (.used l c p) => bif roOk S then some (.nd (p ∧ S.n = m ∧ m < 70368744177664 ∧ ∀ i, i < m → isByte (S.row i)) Nat 0 (fun _ => .tup [.v (.int .i64 m), .v .nilIface]) fun c' => [(0, newB (l.length + m) (l.length + m + c')), (1, killed (bL l c)), (1000, bL (l ++ bytesOf m S.row) (l.length + m + c'))]) else none
    | _ => none
  | _, _ => none
def sString (args : List SV) (bs : List Blk) : Option Eff := match args with
  | [.vp 0 0] => match buOf bs with
    | some (.used l c p) => some (.det (some (p ∧ 0 < l.length ∧ l.length ≤ c)) (.v (.string (strOfNums l))) [(0, usB l.length c), (1, killed (bL l c))])
    | _ => none
  | _ => none
def ΓT0 : Ctrs := addCtr ΓC 120 idCtr
def ΓT1 : Ctrs := addCtr ΓT0 116 (hpCtr true sCheck)
def ΓT2 : Ctrs := addCtr (addCtr (addCtr ΓT1 102 (hpCtr true sWByte)) 103 (hpCtr true sWrite)) 105 (hpCtr true sString)
def fB : Blk := buB true (.v (.pointer none)) nilS
theorem vcCheck0  : (vcFn Try.prog ΓT0 noΛ Try.f116 [.vp 0 0] (heapOf [fB]) 64 (fun y h' => FinE [fB] (.det none (.tup []) [(0, buB false (.vp 0 0) nilS)]) y h')) =
(True ∧ (((1 : Nat) = 1) ∧ (((1 : Nat) ≤ 1) ∧ (((SV.vp 0 0) = (SV.vp 0 0)) ∧ ((SV.v (Value.slice none 0 0)) = (SV.v (Value.slice none 0 0))))))) := by kernel_rfl
theorem vcCheck1 (c : Nat) (l : List Int) : (vcFn Try.prog ΓT0 noΛ Try.f116 [.vp 0 0] (heapOf [usB l.length c, bL l c]) 64 (fun y h' => FinE [usB l.length c, bL l c] (.det none (.tup []) [(0, usB l.length c), (1, bL l c)]) y h')) =
(True ∧ ((((1 : Nat) = 1) ∧ (((1 : Nat) ≤ 1) ∧ (((SV.vp 0 0) = (SV.vp 0 0)) ∧ ((SV.sl 1 1 0 (List.length l) c) = (SV.sl 1 1 0 (List.length l) c))))) ∧ ((((List.length l) : Nat) = (List.length l)) ∧ (((c : Nat) ≤ c) ∧ (∀ i : Nat, (((i : Nat) < (List.length l)) → ([(SV.v (Value.int IntKind.u8 (List.getD l i 0)))] = [(SV.v (Value.int IntKind.u8 (List.getD l i 0)))]))))))) := by kernel_rfl
theorem vcWByte0 (x : Int) : (vcFn Try.prog ΓT1 noΛ Try.f102 [.vp 0 0, .v (.int .u8 x)] (heapOf [fB]) 64 (fun y h' => FinE [fB] (.nd True Nat 0 (fun _ => .v .nilIface) fun c' => [(0, newB 1 (1 + c')), (1000, bL [x] (1 + c'))]) y h')) =
(((1 : Nat) ≤ 140737488355328) ∧ (∀ c : Nat, (∃ c_1 : Nat, (((SV.v Value.nilIface) = (SV.v Value.nilIface)) ∧ ((((1 : Nat) = 1) ∧ (((1 : Nat) ≤ 1) ∧ (((SV.vp 0 0) = (SV.vp 0 0)) ∧ ((SV.sl 144 1 0 1 (1 + c)) = (SV.sl 144 1 0 1 (1 + c_1)))))) ∧ (((1 : Nat) = (List.length [x])) ∧ ((((1 + c_1) : Nat) ≤ (1 + c)) ∧ (∀ i : Nat, (((i : Nat) < (List.length [x])) → ([(SV.v (Value.int IntKind.u8 x))] = [(SV.v (Value.int IntKind.u8 (List.getD [x] i 0)))])))))))))) := by kernel_rfl
theorem vcWByte1 (c : Nat) (l : List Int) (x : Int) : (vcFn Try.prog ΓT1 noΛ Try.f102 [.vp 0 0, .v (.int .u8 x)] (heapOf [usB l.length c, bL l c]) 64 (fun y h' => FinE [usB l.length c, bL l c] (.nd True Nat 0 (fun _ => .v .nilIface) fun c' => [(0, newB (l.length + 1) (l.length + 1 + c')), (1, killed (bL l c)), (1000, bL (l ++ [x]) (l.length + 1 + c'))]) y h')) =
((bytesOk (List.length l) c { elem := 5, size := 1, rw := true, lock := false, lit := false, flat := true, n := List.length l, row := fun i => [SV.v (Value.int IntKind.u8 (List.getD l i 0))], ext := c }) ∧ ((((((List.length (bytesOf (List.length l) fun i => [SV.v (Value.int IntKind.u8 (List.getD l i 0))]) + 1) * 1) : Nat) ≤ 140737488355328) ∧ ((((0 + c) : Nat) ≤ c) ∧ (∀ y : Nat, (((y : Nat) < 1) → True)))) ∧ (∀ c_1 : Nat, (∃ c_2 : Nat, (((SV.v Value.nilIface) = (SV.v Value.nilIface)) ∧ ((((1 : Nat) = 1) ∧ (((1 : Nat) ≤ 1) ∧ (((SV.vp 0 0) = (SV.vp 0 0)) ∧ ((SV.sl 144 1 0 (List.length (bytesOf (List.length l) fun i => [SV.v (Value.int IntKind.u8 (List.getD l i 0))]) + 1) (List.length (bytesOf (List.length l) fun i => [SV.v (Value.int IntKind.u8 (List.getD l i 0))]) + 1 + c_1)) = (SV.sl 144 1 0 (List.length l + 1) (List.length l + 1 + c_2)))))) ∧ ((((List.length (bytesOf (List.length l) fun i => [SV.v (Value.int IntKind.u8 (List.getD l i 0))]) + 1) : Nat) = (List.length (l ++ [x]))) ∧ ((((List.length l + 1 + c_2) : Nat) ≤ (List.length (bytesOf (List.length l) fun i => [SV.v (Value.int IntKind.u8 (List.getD l i 0))]) + 1 + c_1)) ∧ (∀ i : Nat, (((i : Nat) < (List.length (l ++ [x]))) → ([(SV.v (Value.int IntKind.u8 (bop (Nat.blt i (List.length (bytesOf (List.length l) fun i => [SV.v (Value.int IntKind.u8 (List.getD l i 0))]))) (List.getD (bytesOf (List.length l) fun i => [SV.v (Value.int IntKind.u8 (List.getD l i 0))]) (0 + i) 0) x)))] = [(SV.v (Value.int IntKind.u8 (List.getD (l ++ [x]) i 0)))]))))))))))) := by kernel_rfl
theorem vcWrite0 (e : Nat) (r : List Int) (c0 : Nat) : (vcFn Try.prog ΓT1 noΛ Try.f103 [.vp 0 0, .sl 1 1 0 r.length c0] (heapOf [fB, roB e r]) 64 (fun y h' => FinE [fB, roB e r] (.nd True Nat 0 (fun _ => .tup [.v (.int .i64 r.length), .v .nilIface]) fun c' => [(0, newB r.length (r.length + c')), (1000, bL r (r.length + c'))]) y h')) =
((((List.length r * 1) : Nat) ≤ 140737488355328) ∧ (∀ c : Nat, (∃ c_1 : Nat, ((((SV.v (Value.int IntKind.i64 ((↑(List.length r) : Int)))) = (SV.v (Value.int IntKind.i64 ((↑(List.length r) : Int))))) ∧ ((SV.v Value.nilIface) = (SV.v Value.nilIface))) ∧ ((((1 : Nat) = 1) ∧ (((1 : Nat) ≤ 1) ∧ (((SV.vp 0 0) = (SV.vp 0 0)) ∧ ((SV.sl 144 1 0 (List.length r) (List.length r + c)) = (SV.sl 144 1 0 (List.length r) (List.length r + c_1)))))) ∧ ((((List.length r) : Nat) = (List.length r)) ∧ ((((List.length r + c_1) : Nat) ≤ (List.length r + c)) ∧ (∀ i : Nat, (((i : Nat) < (List.length r)) → ([(SV.v (Value.int IntKind.u8 (List.getD r (0 + i) 0)))] = [(SV.v (Value.int IntKind.u8 (List.getD r i 0)))])))))))))) := by kernel_rfl
theorem vcWrite1 (e : Nat) (c : Nat) (l r : List Int) (c0 : Nat) : (vcFn Try.prog ΓT1 noΛ Try.f103 [.vp 0 0, .sl 2 1 0 r.length c0] (heapOf [usB l.length c, bL l c, roB e r]) 64 (fun y h' => FinE [usB l.length c, bL l c, roB e r] (.nd True Nat 0 (fun _ => .tup [.v (.int .i64 r.length), .v .nilIface]) fun c' => [(0, newB (l.length + r.length) (l.length + r.length + c')), (1, killed (bL l c)), (1000, bL (l ++ r) (l.length + r.length + c'))]) y h')) =
((bytesOk (List.length l) c { elem := 5, size := 1, rw := true, lock := false, lit := false, flat := true, n := List.length l, row := fun i => [SV.v (Value.int IntKind.u8 (List.getD l i 0))], ext := c }) ∧ ((((((List.length (bytesOf (List.length l) fun i => [SV.v (Value.int IntKind.u8 (List.getD l i 0))]) + List.length r) * 1) : Nat) ≤ 140737488355328) ∧ ((((0 + c) : Nat) ≤ c) ∧ (∀ y : Nat, (((y : Nat) < (List.length r)) → True)))) ∧ (∀ c_1 : Nat, (∃ c_2 : Nat, ((((SV.v (Value.int IntKind.i64 ((↑(List.length r) : Int)))) = (SV.v (Value.int IntKind.i64 ((↑(List.length r) : Int))))) ∧ ((SV.v Value.nilIface) = (SV.v Value.nilIface))) ∧ ((((1 : Nat) = 1) ∧ (((1 : Nat) ≤ 1) ∧ (((SV.vp 0 0) = (SV.vp 0 0)) ∧ ((SV.sl 144 1 0 (List.length (bytesOf (List.length l) fun i => [SV.v (Value.int IntKind.u8 (List.getD l i 0))]) + List.length r) (List.length (bytesOf (List.length l) fun i => [SV.v (Value.int IntKind.u8 (List.getD l i 0))]) + List.length r + c_1)) = (SV.sl 144 1 0 (List.length l + List.length r) (List.length l + List.length r + c_2)))))) ∧ ((((List.length (bytesOf (List.length l) fun i => [SV.v (Value.int IntKind.u8 (List.getD l i 0))]) + List.length r) : Nat) = (List.length (l ++ r))) ∧ ((((List.length l + List.length r + c_2) : Nat) ≤ (List.length (bytesOf (List.length l) fun i => [SV.v (Value.int IntKind.u8 (List.getD l i 0))]) + List.length r + c_1)) ∧ (∀ i : Nat, (((i : Nat) < (List.length (l ++ r))) → ([(SV.v (Value.int IntKind.u8 (bop (Nat.blt i (List.length (bytesOf (List.length l) fun i => [SV.v (Value.int IntKind.u8 (List.getD l i 0))]))) (List.getD (bytesOf (List.length l) fun i => [SV.v (Value.int IntKind.u8 (List.getD l i 0))]) (0 + i) 0) (List.getD r (0 + (i - List.length (bytesOf (List.length l) fun i => [SV.v (Value.int IntKind.u8 (List.getD l i 0))]))) 0))))] = [(SV.v (Value.int IntKind.u8 (List.getD (l ++ r) i 0)))]))))))))))) := by kernel_rfl
theorem vcString (c : Nat) (l : List Int) : (vcFn Try.prog ΓT0 noΛ Try.f105 [.vp 0 0] (heapOf [usB l.length c, bL l c]) 64 (fun y h' => FinE [usB l.length c, bL l c] (.det none (.v (.string (strOfNums l))) [(0, usB l.length c), (1, killed (bL l c))]) y h')) =
((((0 : Nat) < (List.length l)) ∧ (((List.length l) : Nat) ≤ c)) ∧ ((((0 : Int) < ((↑(List.length l) : Int))) ∧ (((((↑(List.length l) : Int)) : Int) ≤ ((↑(List.length l) : Int))) ∧ (((((↑(List.length l) : Int)) : Int) ≤ 4611686018427387904) ∧ (∀ y : Nat, (((y : Nat) < (Int.toNat (↑(List.length l) : Int))) → True))))) ∧ (((SV.v (Value.string (strOf (Int.toNat (↑(List.length l) : Int)) fun i => [SV.v (Value.int IntKind.u8 (List.getD l i 0))]))) = (SV.v (Value.string (strOfNums l)))) ∧ ((((1 : Nat) = 1) ∧ (((1 : Nat) ≤ 1) ∧ (((SV.vp 0 0) = (SV.vp 0 0)) ∧ ((SV.sl 1 1 0 (List.length l) c) = (SV.sl 1 1 0 (List.length l) c))))) ∧ True)))) := by kernel_rfl
theorem bytesOf_bL (l : List Int) : (bytesOf l.length fun i => [SV.v (.int .u8 (l.getD i 0))]) = l := by
  apply List.ext_getElem?
  intro i
  simp only [bytesOf, List.getElem?_map]
  by_cases h : i < l.length
  · rw [List.getElem?_range' h]
    simp [SE.byteOf, List.getD, List.getElem?_eq_getElem h]
  · rw [List.getElem?_eq_none (by simp; omega), List.getElem?_eq_none (by omega)]
    rfl
theorem bytesOf_len (n : Nat) (row : Nat → List SV) : (bytesOf n row).length = n := by simp [bytesOf]
theorem bytesOf_get {n : Nat} {row : Nat → List SV} (hb : ∀ i, i < n → isByte (row i)) (i : Nat) (hi : i < n) : row i = [.v (.int .u8 ((bytesOf n row).getD i 0))] := by
  have h3 := hb i hi
  unfold isByte at h3
  split at h3
  · rename_i k hk
    rw [hk]
    simp [bytesOf, List.getD, List.getElem?_range' hi, SE.byteOf, hk]
  · exact h3.elim
theorem same_bL {n c : Nat} {D : Blk} (h1 : bOk D = true) (h2 : bytesOk n c D) : BlkSame D (bL (bytesOf n D.row) c) := by
  simp only [bOk, Bool.and_eq_true, Bool.not_eq_true'] at h1
  obtain ⟨⟨⟨⟨⟨a1, a2⟩, a3⟩, a4⟩, a5⟩, a6⟩ := h1
  obtain ⟨b1, b2, _, b4⟩ := h2
  exact ⟨Nat.eq_of_beq_eq_true a2, a3, a5, by rw [b1]; exact (bytesOf_len _ _).symm, b2, a4, Nat.eq_of_beq_eq_true a1, a6, fun i hi => bytesOf_get b4 i (by omega)⟩
theorem same_buB {fl : Bool} {a b : SV} {B : Blk} (h1 : buOk fl B = true) (h2 : B.row 0 = [a, b]) : BlkSame B (buB fl a b) := by
  simp only [buOk, Bool.and_eq_true, Bool.not_eq_true', beq_iff_eq] at h1
  obtain ⟨⟨⟨⟨⟨⟨⟨a1, a2⟩, a3⟩, a4⟩, a5⟩, a6⟩, a7⟩, a8⟩ := h1
  have hn := Nat.eq_of_beq_eq_true a5
  exact ⟨Nat.eq_of_beq_eq_true a2, a3, a8, hn, Nat.eq_of_beq_eq_true a6, a4, Nat.eq_of_beq_eq_true a1, a7, fun i hi => by
    have : i = 0 := by omega
    subst this
    exact h2⟩
theorem buOf_fresh {bs : List Blk} (h : buOf bs = some .fresh) : blksSame bs [fB] := by
  unfold buOf at h
  split at h
  · split at h <;> try (cases h; done)
    rename_i B _ hB
    cases hb : buOk true B with
    | false => rw [hb] at h; cases h
    | true => exact ⟨same_buB hb hB, trivial⟩
  · split at h <;> try (cases h; done)
    rename_i B D _ n c hB
    cases hb : (buOk false B && bOk D) with
    | false => rw [hb] at h; cases h
    | true => rw [hb] at h; cases h
  · cases h
theorem buOf_used {bs : List Blk} {l : List Int} {c : Nat} {p : Prop} (h : buOf bs = some (.used l c p)) (hp : p) : blksSame bs [usB l.length c, bL l c] ∧ l.length < 70368744177664 := by
  unfold buOf at h
  split at h
  · split at h <;> try (cases h; done)
    rename_i B _ hB
    cases hb : buOk true B with
    | false => rw [hb] at h; cases h
    | true => rw [hb] at h; cases h
  · split at h <;> try (cases h; done)
    rename_i B D _ n c' hB
    cases hb : (buOk false B && bOk D) with
    | false => rw [hb] at h; cases h
    | true =>
      rw [hb] at h
      cases h
      rw [Bool.and_eq_true] at hb
      rw [bytesOf_len]
      exact ⟨⟨same_buB hb.1 hB, same_bL hb.2 hp, trivial⟩, hp.2.2.1⟩
  · cases h
theorem bytesOk_bL (l : List Int) (c : Nat) (h : l.length < 70368744177664) : bytesOk l.length c { elem := 5, size := 1, rw := true, lock := false, lit := false, flat := true, n := l.length, row := fun i => [SV.v (.int .u8 (l.getD i 0))], ext := c } :=
  ⟨rfl, rfl, h, fun _ _ => trivial⟩
theorem row_join (l r : List Int) (i : Nat) (_ : i < (l ++ r).length) : (bop (Nat.blt i l.length) (l.getD (0 + i) 0) (r.getD (0 + (i - l.length)) 0)) = (l ++ r).getD i 0 := by
  rw [Nat.zero_add, Nat.zero_add]
  by_cases h : i < l.length
  · rw [show Nat.blt i l.length = true from Nat.ble_eq_true_of_le h]
    simp [bop, List.getD, List.getElem?_append_left h]
  · have : Nat.blt i l.length = false := by
      cases hb : Nat.blt i l.length with
      | false => rfl
      | true => exact absurd (Nat.le_of_ble_eq_true hb) h
    rw [this]
    simp [bop, List.getD, List.getElem?_append_right (Nat.le_of_not_lt h)]
theorem same_roB {S : Blk} {m : Nat} (hS : roOk S = true) (h1 : S.n = m) (h2 : ∀ i, i < m → isByte (S.row i)) : BlkSame S (roB S.elem (bytesOf m S.row)) := by
  simp only [roOk, Bool.and_eq_true, Bool.not_eq_true'] at hS
  obtain ⟨⟨⟨⟨⟨a1, a2⟩, a3⟩, a4⟩, a5⟩, a6⟩ := hS
  exact ⟨Nat.eq_of_beq_eq_true a4, a2, a1, by rw [h1]; exact (bytesOf_len _ _).symm, Nat.eq_of_beq_eq_true a5, a3, rfl, a6, fun i hi => bytesOf_get h2 i (by omega)⟩
theorem NoEsc_ok : idCtr.ok Try.prog 120 := by
  intro args h base e he δ w vals ha hr hp _
  simp only [idCtr] at he
  split at he <;> try (cases he; done)
  rename_i x
  cases he
  match vals, ha with
  | [r], ha =>
    simp only [absL, and_true] at ha
    rw [run_callFunc_extern Try.func120 (by kernel_rfl) (by kernel_rfl) (by kernel_rfl) (e := Extern.AbiNoEscape.same) (by kernel_rfl)]
    exact ⟨x, [], δ, ⟨rfl, rfl⟩, ha, Upd.same hr⟩
  | [], ha => simp only [absL] at ha
  | _ :: _ :: _, ha => simp [absL] at ha
theorem ΓT0_ok : ∀ f g, ΓT0 f = some g → g.ok Try.prog f := addCtr_ok ΓC_ok NoEsc_ok
theorem Check_spec : HpSpec Try.prog 116 sCheck := hp_spec hm ΓT0_ok Try.func116 (Λ := fun _ _ => noΛ) fun args bs e hs hp => by
  unfold sCheck at hs
  split at hs <;> try (cases hs; done)
  split at hs <;> try (cases hs; done)
  · rename_i hb
    cases hs
    refine ⟨_, buOf_fresh hb, ?_⟩
    rw [vcCheck0]
    simp
  · rename_i l c p hb
    cases hs
    refine ⟨_, (buOf_used hb (hp _ rfl)).1, ?_⟩
    show vcFn _ _ _ _ _ _ _ (fun y h' => FinE [usB l.length c, bL l c] (.det none (.tup []) [(0, usB l.length c), (1, bL l c)]) y h')
    rw [vcCheck1]
    simp
theorem ΓT1_ok : ∀ f g, ΓT1 f = some g → g.ok Try.prog f := addCtr_ok ΓT0_ok (hp_ok Try.func116 (by kernel_rfl) (by kernel_rfl) Check_spec)
theorem WByte_spec : HpSpec Try.prog 102 sWByte := hp_spec hm ΓT1_ok Try.func102 (Λ := fun _ _ => noΛ) fun args bs e hs hp => by
  unfold sWByte at hs
  split at hs <;> try (cases hs; done)
  rename_i x
  split at hs <;> try (cases hs; done)
  · rename_i hb
    cases hs
    refine ⟨_, buOf_fresh hb, ?_⟩
    rw [vcWByte0]
    refine ⟨by omega, fun c => ⟨c, rfl, ⟨rfl, Nat.le_refl _, rfl, rfl⟩, rfl, Nat.le_refl _, fun i hi => ?_⟩⟩
    have : i = 0 := by simp at hi; omega
    subst this; rfl
  · rename_i l c p hb
    cases hs
    obtain ⟨h1, h2⟩ := buOf_used hb hp
    refine ⟨_, h1, ?_⟩
    show vcFn _ _ _ _ _ _ _ (fun y h' => FinE [usB l.length c, bL l c] (.nd True Nat 0 (fun _ => .v .nilIface) fun c' => [(0, newB (l.length + 1) (l.length + 1 + c')), (1, killed (bL l c)), (1000, bL (l ++ [x]) (l.length + 1 + c'))]) y h')
    rw [vcWByte1, bytesOf_bL]
    refine ⟨bytesOk_bL _ _ h2, ⟨by omega, by omega, fun _ _ => trivial⟩, fun c' => ⟨c', rfl, ⟨rfl, Nat.le_refl _, rfl, rfl⟩, by simp, Nat.le_refl _, fun i hi => ?_⟩⟩
    have := row_join l [x] i hi
    rw [← this]
    have hx : ∀ k, k = 0 → ([x] : List Int).getD (0 + k) 0 = x := fun k hk => by subst hk; rfl
    by_cases hl : i < l.length
    · rw [show Nat.blt i l.length = true from Nat.ble_eq_true_of_le hl]
      rfl
    · rw [hx (i - l.length) (by simp at hi; omega)]
theorem Write_spec : HpSpec Try.prog 103 sWrite := hp_spec hm ΓT1_ok Try.func103 (Λ := fun _ _ => noΛ) fun args bs e hs hp => by
  unfold sWrite at hs
  split at hs <;> try (cases hs; done)
  · rename_i m c0 B S
    split at hs <;> try (cases hs; done)
    rename_i hb
    cases hS : roOk S with
    | false => rw [hS] at hs; cases hs
    | true =>
      rw [hS] at hs
      cases hs
      obtain ⟨p1, p2, p3, p4⟩ := hp
      refine ⟨[fB, roB S.elem (bytesOf m S.row)], ⟨(buOf_fresh hb).1, same_roB hS p1 p4, trivial⟩, ?_⟩
      have e1 := bytesOf_len m S.row
      have key := vcWrite0 S.elem (bytesOf m S.row) c0
      rw [e1] at key
      refine Eq.mpr key ?_
      refine ⟨by omega, fun c => ⟨c, ⟨rfl, rfl⟩, ⟨rfl, Nat.le_refl _, rfl, rfl⟩, rfl, Nat.le_refl _, fun i hi => ?_⟩⟩
      rw [Nat.zero_add]
  · rename_i m c0 B D S
    split at hs <;> try (cases hs; done)
    rename_i l c p hb
    cases hS : roOk S with
    | false => rw [hS] at hs; cases hs
    | true =>
      rw [hS] at hs
      cases hs
      obtain ⟨p0, p1, p3, p4⟩ := hp
      obtain ⟨h1, h2⟩ := buOf_used hb p0
      refine ⟨[usB l.length c, bL l c, roB S.elem (bytesOf m S.row)], ⟨h1.1, h1.2.1, same_roB hS p1 p4, trivial⟩, ?_⟩
      have e1 := bytesOf_len m S.row
      have key := vcWrite1 S.elem c l (bytesOf m S.row) c0
      rw [bytesOf_bL, e1] at key
      refine Eq.mpr key ?_
      refine ⟨bytesOk_bL _ _ h2, ⟨by omega, by omega, fun _ _ => trivial⟩, fun c' => ⟨c', ⟨rfl, rfl⟩, ⟨rfl, Nat.le_refl _, rfl, rfl⟩, by simp [e1], Nat.le_refl _, fun i hi => ?_⟩⟩
      rw [row_join l (bytesOf m S.row) i hi]
theorem String_spec : HpSpec Try.prog 105 sString := hp_spec hm ΓT0_ok Try.func105 (Λ := fun _ _ => noΛ) fun args bs e hs hp => by
  unfold sString at hs
  split at hs <;> try (cases hs; done)
  split at hs <;> try (cases hs; done)
  rename_i l c p hb
  cases hs
  obtain ⟨p0, p1, p2⟩ := hp _ rfl
  obtain ⟨h1, h2⟩ := buOf_used hb p0
  refine ⟨_, h1, ?_⟩
  show vcFn _ _ _ _ _ _ _ (fun y h' => FinE [usB l.length c, bL l c] (.det none (.v (.string (strOfNums l))) [(0, usB l.length c), (1, killed (bL l c))]) y h')
  rw [vcString, strOf_eq, Int.toNat_natCast, bytesOf_bL]
  exact ⟨⟨p1, p2⟩, ⟨by omega, Int.le_refl _, by omega, fun _ _ => trivial⟩, rfl, ⟨rfl, Nat.le_refl _, rfl, rfl⟩, trivial⟩
theorem ΓT2_ok : ∀ f g, ΓT2 f = some g → g.ok Try.prog f := addCtr_ok (addCtr_ok (addCtr_ok ΓT1_ok (hp_ok Try.func102 (by kernel_rfl) (by kernel_rfl) WByte_spec)) (hp_ok Try.func103 (by kernel_rfl) (by kernel_rfl) Write_spec)) (hp_ok Try.func105 (by kernel_rfl) (by kernel_rfl) String_spec)
end Go.Proofs.Ytnnmfonapfhcaaa
