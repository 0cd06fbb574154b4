/-
  Strings as lists of bytes: plain.
-/
import Derived.Test.YtjdldadmaaeimaaWiC
set_option maxRecDepth 100000
set_option linter.unusedSimpArgs false
set_option linter.unusedVariables false
namespace Go.Proofs.Ytjdldadmaaeimaa
open Go.SE Go.RowKit

/-! ### bytes -/
def byt (s : ByteArray) : List Int := s.data.toList.map fun b => (b.toNat : Int)
theorem byt_len (s : ByteArray) : (byt s).length = s.size := by unfold byt; rw [List.length_map]; exact Array.length_toList
theorem byt_inj {s t : ByteArray} (h : byt s = byt t) : s = t := by
  have e : ∀ l m : List UInt8, l.map (fun b => (b.toNat : Int)) = m.map (fun b => (b.toNat : Int)) → l = m := by
    intro l
    induction l with
    | nil => intro m hm; cases m with | nil => rfl | cons _ _ => simp at hm
    | cons a l ih =>
      intro m hm
      cases m with
      | nil => simp at hm
      | cons b m =>
        simp only [List.map_cons, List.cons.injEq] at hm
        rw [ih m hm.2, UInt8.toNat_inj.1 (by omega : a.toNat = b.toNat)]
  obtain ⟨⟨l⟩⟩ := s
  obtain ⟨⟨m⟩⟩ := t
  rw [e l m h]
theorem byt_str {l : List Int} (h : ∀ x ∈ l, 0 ≤ x ∧ x < 256) : byt (strOfNums l) = l := by
  unfold byt strOfNums
  simp only [List.map_map]
  conv => rhs; rw [← List.map_id l]
  refine List.map_congr_left fun x hx => ?_
  obtain ⟨h0, h1⟩ := h x hx
  simp only [Function.comp, id_eq, UInt8.toNat_ofNat']
  omega
theorem byt_range (s : ByteArray) : ∀ x ∈ byt s, 0 ≤ x ∧ x < 256 := fun x hx => by
  unfold byt at hx
  obtain ⟨b, _, rfl⟩ := List.mem_map.1 hx
  have := b.toNat_lt
  omega
theorem str_byt (s : ByteArray) : strOfNums (byt s) = s := byt_inj (byt_str (byt_range s))
theorem byt_get (s : ByteArray) (i : Nat) : ((s.data.toList.getD i 0).toNat : Int) = (byt s).getD i 0 := by
  unfold byt
  simp only [List.getD, List.getElem?_map]
  cases s.data.toList[i]? <;> rfl
theorem byt_extract (s : ByteArray) (a b : Nat) : byt (s.extract a b) = ((byt s).take b).drop a := by
  unfold byt
  rw [ByteArray.data_extract, Array.toList_extract]
  simp [List.extract_eq_take_drop, List.map_take, List.map_drop, List.drop_take]
theorem byt_append (s t : ByteArray) : byt (s ++ t) = byt s ++ byt t := by
  unfold byt
  rw [ByteArray.data_append, Array.toList_append, List.map_append]
theorem str_append (l r : List Int) : strOfNums l ++ strOfNums r = strOfNums (l ++ r) := by
  unfold strOfNums
  apply ByteArray.ext
  rw [ByteArray.data_append]
  simp

theorem ba_beq (a b : ByteArray) : (a == b) = true ↔ a = b := by
  obtain ⟨a⟩ := a
  obtain ⟨b⟩ := b
  show (a == b) = true ↔ _
  rw [beq_iff_eq]
  simp
theorem ba_bne {a b : ByteArray} (h : (a == b) = false) : a ≠ b := fun e => by
  rw [(ba_beq a b).2 e] at h; cases h
theorem size_str (l : List Int) : (strOfNums l).size = l.length := by simp [strOfNums, ByteArray.size]
theorem str_nil : strOfNums [] = emp := rfl
theorem app_emp (s : ByteArray) : s ++ emp = s := by
  apply ByteArray.ext
  rw [ByteArray.data_append]
  simp [emp]
theorem emp_app (s : ByteArray) : emp ++ s = s := by
  apply ByteArray.ext
  rw [ByteArray.data_append]
  simp [emp]
theorem app_assoc (s t u : ByteArray) : s ++ t ++ u = s ++ (t ++ u) := by
  apply ByteArray.ext
  simp [ByteArray.data_append]
theorem str_app2 (s : ByteArray) (l r : List Int) : s ++ strOfNums l ++ strOfNums r = s ++ strOfNums (l ++ r) := by rw [app_assoc, str_append]
theorem size_app (s t : ByteArray) : (s ++ t).size = s.size + t.size := by simp
theorem size_zero {s : ByteArray} (h : s.size = 0) : s = emp := by
  apply ByteArray.ext
  have : s.data.size = 0 := h
  exact Array.eq_empty_of_size_eq_zero this
/-- What n bytes g are, and the bytes L behind them, as lists. -/
def lstG (n : Nat) (g : Nat → Int) : List Int := (List.range n).map g
theorem lstG_len (n : Nat) (g : Nat → Int) : (lstG n g).length = n := by simp [lstG]
theorem lstG_congr {n : Nat} {g h : Nat → Int} (e : ∀ i, i < n → g i = h i) : lstG n g = lstG n h := by
  unfold lstG
  exact List.map_congr_left fun i hi => e i (List.mem_range.1 hi)
theorem lstG_ap (n : Nat) (g : Nat → Int) (L : List Int) : lstG (n + L.length) (apG n g L) = lstG n g ++ L := by
  apply List.ext_getElem
  · simp [lstG_len]
  · intro i h1 h2
    rw [lstG_len] at h1
    simp only [lstG, List.getElem_map, List.getElem_range]
    by_cases h : i < n
    · rw [apG_old h, List.getElem_append_left (by simpa using h)]
      simp
    · rw [apG_new h, List.getElem_append_right (by simpa using h)]
      simp [List.getD, show i - n < L.length by omega]
theorem lstG_list (L : List Int) : lstG L.length (fun i => L.getD i 0) = L := by
  apply List.ext_getElem
  · simp [lstG_len]
  · intro i h1 h2
    simp [lstG, List.getD, h2]
theorem strOf_lst (n : Nat) (g : Nat → Int) : (strOf n fun i => [SV.v (.int .u8 (g i))]) = strOfNums (lstG n g) := by
  rw [strOf_eq]
  congr 1
  unfold bytesOf lstG
  rw [List.range_eq_range']
  rfl
theorem strOf_one (x : Int) : (strOf 1 fun _ => [SV.v (.int .u8 x)]) = strOfNums [x] := by rw [strOf_eq]; rfl
end Go.Proofs.Ytjdldadmaaeimaa
