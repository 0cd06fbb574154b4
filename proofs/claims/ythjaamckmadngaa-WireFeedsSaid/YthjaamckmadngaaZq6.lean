/-
  What the proof uses, part 6.
-/
import Derived.Laws.BytesArg
import Derived.Lib.Builder
import Derived.Test.YthjaamckmadngaaZq5
set_option maxRecDepth 100000
set_option linter.unusedSimpArgs false
set_option linter.unusedVariables false

section
namespace Go.SE
section
variable {P : Program} {δ : Dict} {h : Heap} {w : World}
theorem freeze_heap {r : Nat} {c : Array Value} {e : TypeId} {fz : Nat × Nat} (hb : w.heap[r]? = some (.cells c e fz)) (o n : Nat) :
    ∃ fz', (w.freeze ⟨r, o, none⟩ n).heap[r]? = some (.cells c e fz') ∧ (fz = (0, 0) → c.size ≤ o → thaw c.size fz') ∧ (∀ k, k ≠ r → (w.freeze ⟨r, o, none⟩ n).heap[k]? = w.heap[k]?) ∧ (w.freeze ⟨r, o, none⟩ n).heap.size = w.heap.size ∧
      (w.freeze ⟨r, o, none⟩ n).os = w.os ∧ (w.freeze ⟨r, o, none⟩ n).tape = w.tape ∧ (w.freeze ⟨r, o, none⟩ n).output = w.output := by
  unfold World.freeze
  by_cases hn : n = 0
  · simp only [hn, if_true]
    exact ⟨fz, hb, fun h _ => by subst h; exact .inl rfl, fun _ _ => by first | trivial | rfl, by first | trivial | rfl, by first | trivial | rfl, by first | trivial | rfl, by first | trivial | rfl⟩
  · simp only [hn, if_false]
    obtain ⟨lo, hi⟩ := fz
    refine ⟨(if lo == hi then (o, o + n) else (min lo o, max hi (o + n))), by simp [Array.getElem?_modify, hb], fun h h2 => ?_, fun k hk => ?_, by simp, by first | trivial | rfl, by first | trivial | rfl, by first | trivial | rfl⟩
    · cases h; right; simpa using h2
    · simp only [Array.getElem?_modify]
      rw [if_neg (fun e => hk e.symm)]
def bytesOf (n : Nat) (row : Nat → List SV) : List Int := (List.range' 0 n).map fun y => byteOf (row y)
theorem strOf_eq (n : Nat) (row : Nat → List SV) : strOf n row = strOfNums (bytesOf n row) := by
  unfold strOf strOfNums bytesOf
  simp only [List.map_map]
  rfl
theorem bytes_cells {n : Nat} {row : Nat → List SV} {l : List Value} (h : Rows δ 1 n row l) (hb : ∀ y, y < n → isByte (row y)) : l = (bytesOf n row).map (Value.int .u8) := by
  have key : ∀ y, y < n → l[y]? = some (.int .u8 (byteOf (row y))) := fun y hy => by
    obtain ⟨g1, g2⟩ := h.2 y hy
    have h3 := hb y hy
    unfold isByte at h3
    split at h3
    · rename_i k hk
      obtain ⟨r, g3, g4⟩ := g2 0 (.v (.int .u8 k)) (by rw [hk]; rfl)
      simp only [absV] at g4
      subst g4
      simpa [byteOf, hk] using g3
    · exact h3.elim
  have hlen : l.length = n := by have := h.1; omega
  apply List.ext_getElem?
  intro y
  simp only [bytesOf, List.getElem?_map]
  by_cases hy : y < n
  · rw [key y hy, List.getElem?_range' (by omega)]
    simp
  · rw [List.getElem?_eq_none (by omega), List.getElem?_eq_none (by simp; omega)]
    rfl
theorem conv_ok {src dst : TypeId} {x : SV} {rx : Value} {base : Nat} {e : Eff} (he : convS P src dst x h base = some e) (hx : absV δ x rx) (hr : HRep δ h w) (hp : e.asks)
    (hn : (∃ y u, EffOut e y u ∧ inNames base u = true) → h base = none ∧ δ base = none) : ValOk δ h w e ((convert src dst rx).run P w) := by
  unfold convS at he
  split at he
  · -- integers
    rename_i s k k' n hs hd
    simp only [absV] at hx
    subst hx
    cases he
    exact ValOk.same (y := .int k (k.wrap n)) hr rfl (by simp [convert, run_underlying hs, run_underlying hd, Conv.intToInt]) (absV_v.2 rfl)
  · rename_i s hs hd
    simp only [absV] at hx
    subst hx
    cases he
    exact ValOk.same (y := .string s) hr rfl (by simp [convert, run_underlying hs, run_underlying hd]) (absV_v.2 rfl)
  · -- a string's bytes
    rename_i e s hs hd
    split at he <;> try (cases he; done)
    rename_i hel
    cases he
    simp only [absV] at hx
    subst hx
    obtain ⟨hn1, hn2⟩ := hn ⟨_, _, ⟨0, rfl, rfl⟩, by simp [inNames]⟩
    have hge := grown_ge w s.size 0 e
    obtain ⟨q, hq⟩ : ∃ q, grownCap w s.size 0 e = s.size + q := ⟨_, (Nat.add_sub_cancel' hge).symm⟩
    let c : Array Value := s.data.map (fun b => Value.int .u8 b.toNat) ++ Array.replicate (grownCap w s.size 0 e - s.size) (.int .u8 0)
    have hcs : c.size = s.size + q := by
      have : s.data.size = s.size := rfl
      simp [c, hq, this]
    have hnew : (w.drew.alloc (.cells c e) : World).heap[w.heap.size]? = some (.cells c e (0, 0)) := heap_alloc_new w.drew _
    obtain ⟨fz, f1, f2, f3, f4, f5, f6, f7⟩ := freeze_heap hnew c.size 1
    obtain ⟨δ', u1, u2⟩ := new_okW (b := { elem := e, size := 1, rw := true, lock := false, lit := false, flat := true, n := s.size, row := fun y => [.v (.int .u8 (s.data.toList.getD y 0).toNat)], ext := s.size + q }) (w := w) (el := e) (c := c)
      f1 (f2 rfl (Nat.le_refl _)) (fun r hr' => by rw [f3 r (by omega)]; exact heap_alloc_old w.drew _ hr') (by rw [f4]; simp [World.alloc]) f5 f6 f7 hr hn1 hn2 (fun _ => rfl) (by rw [hcs]; simp) (fun hh => (by cases hh)) (fun _ y _ => by simp [namelessL, nameless]) (fun y hy => by
        refine ⟨rfl, fun j v hv => ?_⟩
        match j, hv with
        | 0, hv =>
          simp only [List.getElem?_cons_zero, Option.some.injEq] at hv
          subst hv
          have hlt : y < s.data.size := hy
          refine ⟨.int .u8 (s.data.toList.getD y 0).toNat, ?_, by simp only [absV]⟩
          simp only [c, Nat.zero_add, Nat.mul_one, Nat.add_zero]
          rw [Array.getElem?_append_left (by simpa using hlt)]
          simp only [List.getD, Array.getElem?_map, Array.getElem?_toList, Array.getElem?_eq_getElem hlt, Option.map_some, Option.getD_some]
        | j + 1, hv => simp at hv)
    refine ⟨.slice (some ⟨w.heap.size, 0, none⟩) s.size (s.size + q), _, _, _, δ', ?_, ⟨q, rfl, rfl⟩, ?_, u1⟩
    · have hcc : (Question.appendCap s.size 0 e).cut (w.tape w.drawn (.appendCap s.size 0 e)) = s.size + q := hq
      have hrun : (convert src dst (.string s)).run P w = (Conv.stringToBytes e s).run P w := by simp [convert, run_underlying hs, run_underlying hd, run_underlying hel]
      rw [hrun]
      have hc' : s.data.map (fun b => Value.int .u8 b.toNat) ++ Array.replicate (s.size + q - s.size) (Value.int .u8 0) = c := by simp only [c, hq]
      have hsh : ∀ v : World, v.heap[w.heap.size]? = some (.cells c e (0, 0)) → (markStringish ⟨w.heap.size, 0, none⟩).run P v = .ok () (v.freeze ⟨w.heap.size, c.size, none⟩ 1) := fun v hv => by
        have : v.shape? w.heap.size = some (e, c.size) := by simp [World.shape?, hv]
        simp [markStringish, freeze, this, Sem.run]
      have hch : (choose (.appendCap s.size 0 e)).run P w = .ok (s.size + q) w.drew := by simp [choose, Sem.run, Question.forced, hcc]
      have hnr : (newRow e c).run P w.drew = .ok ⟨w.heap.size, 0, none⟩ (w.drew.alloc (.cells c e)) := by simp [newRow]
      simp only [Conv.stringToBytes, Sem.run_bind, hch, Result.andThen_ok, hc', hnr, hsh _ hnew, Sem.run_pure]
    · simp only [absV]
      exact ⟨_, u2, rfl, by simp, .inl ⟨rfl, by simp⟩⟩
  · -- bytes to a string
    rename_i e k s i n cap hs hd
    split at he <;> try (cases he; done)
    rename_i b hel hk
    cases hb : (!b.dead && Nat.beq s 1) with
    | false => rw [hb] at he; cases he
    | true =>
      rw [hb, cond_true] at he
      cases he
      simp only [Bool.and_eq_true, Bool.not_eq_true'] at hb
      have := Nat.eq_of_beq_eq_true hb.2
      subst this
      obtain ⟨_, _, hco⟩ := src_ok (P := P) (sz := 1) (x := .sl k 1 i n cap) (h := h) (m := n) (rows := fun y => b.row (i + y)) (fl := b.flat) (by simp [srcRows, hk, hb.1]) hx hr (by omega)
      obtain ⟨l, l1, l2⟩ := hco n (Nat.le_refl _)
      have l3 := bytes_cells l1 (hp _ rfl)
      have l4 := l2 w rfl
      refine ValOk.same (y := .string (strOfNums (bytesOf n fun y => b.row (i + y)))) hr rfl ?_ (absV_v.2 (by rw [strOf_eq]))
      simp only [absV] at hx
      obtain ⟨p, d1, d2, d3, d4⟩ := hx
      rcases d4 with ⟨_, rfl⟩ | ⟨rfl, rfl, a, rfl⟩
      · rw [run_convert_bytes_string w src dst e _ _ _ hs hel hd]
        have h5 : (loadCells ⟨p.r, p.o + i * 1, none⟩ n).run P w = .ok ((bytesOf n fun y => b.row (i + y)).map (Value.int .u8)).toArray w := by
          rw [← l3]
          simpa [Builtin.firstCells] using l4
        rw [run_bytesToString w _ n cap _ h5, foldl_push_bytes]
        simp [strOfNums, ByteArray.empty, ByteArray.emptyWithCapacity]
        rfl
      · rw [run_convert_bytes_string w src dst e _ _ _ hs hel hd]
        cases a with
        | none => simp [Conv.bytesToString, bytesOf, strOfNums]; rfl
        | some a =>
          rw [run_bytesToString w _ 0 0 [] (by simp [loadCells, loadCellsFrom])]
          simp [bytesOf, strOfNums]; rfl
  · -- nil to a string
    rename_i e n c hs hd
    split at he <;> try (cases he; done)
    rename_i hel
    cases he
    simp only [absV] at hx
    subst hx
    exact ValOk.same hr rfl (run_convert_bytes_nil (P := P) w src e hs hel _ _ dst hd) (absV_v.2 rfl)
  · -- to unsafe.Pointer
    rename_i t k j hs hd
    split at he <;> try (cases he; done)
    rename_i b m hk hm
    cases hb : (!b.dead && !Nat.beq m 0 && Nat.blt j (b.row 0).length) with
    | false => rw [hb] at he; cases he
    | true =>
      rw [hb, cond_true] at he
      cases he
      simp only [Bool.and_eq_true, Bool.not_eq_true'] at hb
      obtain ⟨⟨b1, b2⟩, b3⟩ := hb
      obtain ⟨p, d1, d2⟩ := hr.blk k b hk
      have hlv := d2 b1
      have hx0 := hx
      simp only [absV] at hx
      obtain ⟨p', e1, e2, rfl⟩ := hx
      rw [d1] at e1; cases e1
      have hno := hlv.notNo e2
      have hpn := hlv.n
      obtain ⟨c, e0, fz, c1, c2, c3, c4, c5, c6, c7⟩ := hlv.rep hno
      obtain ⟨g1, g2⟩ := c7 0 (by omega)
      have hj : j < (b.row 0).length := by
        have h9 : j + 1 ≤ (b.row 0).length := Nat.le_of_ble_eq_true b3
        omega
      obtain ⟨r', g3, _⟩ := g2 j _ (List.getElem?_eq_getElem hj)
      have g4 := (Array.getElem?_eq_some_iff.1 g3).1
      obtain ⟨ti, t1, t2⟩ : ∃ i, P.info? t = some i ∧ i.size = m := by
        unfold sizeT at hm
        cases hi : P.info? t with
        | none => rw [hi] at hm; cases hm
        | some i => rw [hi] at hm; cases hm; exact ⟨i, rfl, rfl⟩
      refine ValOk.same hr rfl (Lib.run_to_unsafe (P := P) w ⟨p.r, p.o + j, none⟩ hs hd t1 (by rw [t2]; intro h0; subst h0; simp at b2) (e := e0) (cells := c.size) (by simp [World.shape?, c1]) (by simp only; omega)) hx0
  · -- from unsafe.Pointer
    rename_i u k j hs hd
    split at he <;> try (cases he; done)
    rename_i b m hk hm
    cases hb : (!b.dead && !Nat.beq m 0 && Nat.beq j 0 && !Nat.beq u 0 && Nat.beq b.elem u && Nat.beq b.size m && Nat.blt 0 P.depth && b.whole) with
    | false => rw [hb] at he; cases he
    | true =>
      rw [hb, cond_true] at he
      cases he
      simp only [Bool.and_eq_true, Bool.not_eq_true'] at hb
      obtain ⟨⟨⟨⟨⟨⟨⟨b1, b2⟩, b3⟩, b4⟩, b5⟩, b6⟩, b7⟩, b8⟩ := hb
      have := Nat.eq_of_beq_eq_true b3
      subst this
      have hbu := Nat.eq_of_beq_eq_true b5
      have hbm := Nat.eq_of_beq_eq_true b6
      obtain ⟨p, d1, d2⟩ := hr.blk k b hk
      have hlv := d2 b1
      have hx0 := hx
      simp only [absV] at hx
      obtain ⟨p', e1, e2, rfl⟩ := hx
      rw [d1] at e1; cases e1
      have hno := hlv.notNo e2
      obtain ⟨c, e0, fz, c1, c2, c3, c4, c5, c6, c7⟩ := hlv.rep hno
      obtain ⟨w1, w2, _⟩ := c6 b8
      have he0 : e0 = u := by
        rw [← hbu]
        refine c4 fun h0 => ?_
        rw [hbu] at h0
        subst h0
        simp at b4
      subst he0
      obtain ⟨ti, t1, t2⟩ : ∃ i, P.info? e0 = some i ∧ i.size = m := by
        unfold sizeT at hm
        cases hi : P.info? e0 with
        | none => rw [hi] at hm; cases hm
        | some i => rw [hi] at hm; cases hm; exact ⟨i, rfl, rfl⟩
      have hm0 : m ≠ 0 := fun h0 => by subst h0; simp at b2
      have hcells : P.cellsOf e0 = m := by simp [Program.cellsOf, t1, t2]
      have hlies : liesAt P P.depth e0 (c.size / P.cellsOf e0) (p.o + 0) e0 1 = true := by
        have hd : P.depth = (2 * (P.types.size + Made.depth) + 1) + 1 := rfl
        rw [w2, hbm, hcells, Nat.div_self (by omega), w1]
        rw [hd]
        simp only [liesAt, Bool.or_eq_true]
        left
        rw [hd]
        simp [rowAt, hcells, hm0, sameLayout]
      exact ValOk.same hr rfl (Lib.run_from_unsafe (P := P) w ⟨p.r, p.o + 0, none⟩ hs hd t1 (e := e0) (cells := c.size) (by simp [World.shape?, c1]) hlies) hx0
  · cases he
theorem len_ok {t : TypeId} {x : SV} {n : Int} {r : Value} {args : Array Value} {ts : Array TypeId} {ty : TypeId} (hl : lenS P t x = some n) (hx : absV δ x r) (ha : args[0]? = some r) (ht : ts[0]? = some t) :
    (Builtin.len_ ts ty args).run P w = .ok (.int .i64 n) w := by
  unfold lenS at hl
  split at hl
  · rename_i s hu
    simp only [absV] at hx
    subst hx
    cases hl
    simp [Builtin.len_, ha, ht, run_underlying hu, goInt]
  · rename_i e k sz i m c hu
    simp only [absV] at hx
    cases hl
    obtain ⟨p, _, _, _, ⟨_, rfl⟩ | ⟨rfl, rfl, a, rfl⟩⟩ := hx <;> simp [Builtin.len_, ha, ht, run_underlying hu, goInt]
  · rename_i e m c hu
    simp only [absV] at hx
    subst hx
    cases hl
    simp [Builtin.len_, ha, ht, run_underlying hu, goInt]
  · rename_i m e hu
    cases hl
    simp [Builtin.len_, ha, ht, run_underlying hu, goInt]
  · rename_i a hu
    split at hl <;> try (cases hl; done)
    rename_i m e ha'
    cases hl
    simp [Builtin.len_, ha, ht, run_underlying hu, run_underlying ha', goInt]
  · cases hl
theorem run_fold {f : Value → Value → Sem Value} {g : Int → Int → Int} {k : IntKind} (hf : ∀ a b, (f (.int k a) (.int k b)).run P w = .ok (.int k (g a b)) w) : ∀ (l : List SV) (rs : List Value) (a n : Int), foldInt g k a l = some n → absL δ l rs → (rs.foldlM f (.int k a)).run P w = .ok (.int k n) w := by
  intro l
  induction l with
  | nil =>
    intro rs a n h hl
    cases rs with
    | nil =>
      simp only [foldInt, Option.some.injEq] at h
      subst h
      simp
    | cons _ _ => simp only [absL] at hl
  | cons x l ih =>
    intro rs a n h hl
    cases rs with
    | nil => simp only [absL] at hl
    | cons r rs =>
      simp only [absL] at hl
      unfold foldInt at h
      split at h
      · rename_i heq; cases heq
      · rename_i k' b rest heq
        cases heq
        split at h <;> try (cases h; done)
        rename_i hk
        subst hk
        simp only [absV] at hl
        obtain ⟨rfl, h2⟩ := hl
        simp only [List.foldlM_cons, Sem.run_bind, hf, Result.andThen_ok]
        exact ih rs _ n h h2
      · cases h
theorem run_loadBytes' : ∀ (l : List Int) (a : Addr) (acc : ByteArray), (∀ (j : Nat) x, l[j]? = some x → w.cell? (a.add j) = some (.int .u8 x)) →
    (loadBytes a acc l.length).run P w = .ok ⟨acc.data ++ (l.map fun n => UInt8.ofNat n.toNat).toArray⟩ w
  | [], a, acc, _ => by simp [loadBytes]
  | x :: l, a, acc, h => by
    have h0 : w.cell? a = some (.int .u8 x) := by
      have := h 0 x rfl
      simpa [Addr.add] using this
    have ih := run_loadBytes' l (a.add 1) (acc.push (UInt8.ofNat x.toNat)) (fun j y hy => by
      have := h (j + 1) y (by simpa using hy)
      have e : (a.add 1).add j = a.add (j + 1) := by
        unfold Addr.add
        by_cases hj : j = 0
        · subst hj; simp
        · simp [hj]; omega
      rw [e]; exact this)
    have hx : (x.toNat).toUInt8 = UInt8.ofNat x.toNat := rfl
    simp only [List.length_cons, loadBytes, Sem.run_bind, run_load, h0, Result.andThen, hx]
    rw [ih]
    congr 1
    apply ByteArray.ext
    simp [ByteArray.push]
theorem liesAt_bytes' {e : TypeId} (hc : P.cellsOf e = 1) (count o n : Nat) (hn : o + n ≤ count) : liesAt P P.depth e count o e n = true := by
  have hd : P.depth = (2 * (P.types.size + Made.depth) + 1) + 1 := rfl
  rw [hd]
  simp only [liesAt, Bool.or_eq_true]
  left
  rw [hd]
  simp [rowAt, hc, hn, sameLayout, Nat.mod_one]
theorem run_unsafeString' {pt ty e : TypeId} {ts : Array TypeId} (h0 : ts[0]? = some pt) (hp : P.underlying pt = some (.pointer e)) (hc : P.cellsOf e = 1) (g o cells : Nat) (hsh : w.shape? g = some (e, cells)) (l : List Int) (hl0 : l ≠ []) (hn : o + l.length ≤ cells) (h63 : l.length ≤ 9223372036854775807)
    (hcell : ∀ (j : Nat) x, l[j]? = some x → w.cell? ((⟨g, o, none⟩ : Addr).add j) = some (.int .u8 x)) :
    (Builtin.unsafeString_ ts ty #[.pointer (some ⟨g, o, none⟩), .int .i64 l.length]).run P w = .ok (.string (strOfNums l)) (w.freeze ⟨g, o, none⟩ l.length) := by
  have hl : l.length ≠ 0 := by simpa using hl0
  have hlb := run_loadBytes' (P := P) (w := w) l ⟨g, o, none⟩ .empty hcell
  have hlies := liesAt_bytes' (P := P) hc (cells / P.cellsOf e) o l.length (by rw [hc]; simpa using hn)
  have h63' : ¬ (9223372036854775807 : Int) < (l.length : Int) := by omega
  have hmax : IntKind.i64.max = 9223372036854775807 := rfl
  have hneg : ¬ (l.length : Int) < 0 := by omega
  have e1 : (⟨ByteArray.empty.data ++ (l.map fun n => UInt8.ofNat n.toNat).toArray⟩ : ByteArray) = strOfNums l := by
    simp [strOfNums, ByteArray.empty, ByteArray.emptyWithCapacity]
    rfl
  rw [e1] at hlb
  delta Builtin.unsafeString_ Builtin.unsafeString_.match_3
  dsimp [Array.getLit]
  simp [asInt, asIntOf, hmax, h63', hneg, hl, h0, variablesAt, hsh, elemOf, run_underlying hp, hlies, hlb]
theorem kill_ok {k : Nat} {b : Blk} {p : Loc} {w' : World} (hr : HRep δ h w) (hk : h k = some b) (hrw : b.rw = true) (hdead : b.dead = false) (hd : δ k = some p) (hno : p.no = false)
    (hos : w'.os = w.os) (htape : w'.tape = w.tape) (hout : w'.output = w.output) (hsize : w.heap.size ≤ w'.heap.size) (hold : ∀ r, r ≠ p.r → r < w.heap.size → w'.heap[r]? = w.heap[r]?) : Upd δ h w δ [(k, killed b)] w' :=
  upd_one hr hk hrw hdead hd hno (fun hh => by simp [killed] at hh) hos htape hout hsize hold
theorem builtin_ok {b : Builtin} {cts : Array TypeId} {ty : TypeId} {consts : Array Bool} {vs : List SV} {args : Array Value} {base : Nat} {e : Eff} (he : builtinS P b cts.toList vs h base = some e) (ha : absL δ vs args.toList) (hr : HRep δ h w) (hp : e.asks)
    (hn : ∀ x u, EffOut e x u → ∀ k, inNames k u = true → h k = none → δ k = none) : ∃ m : Sem Value, builtin b cts ty consts args = (do pure (.value (← m))) ∧ ValOk δ h w e (m.run P w) := by
  unfold builtinS at he
  split at he
  · -- len
    rename_i t ts x rest hts
    split at he <;> try (cases he; done)
    rename_i n hl
    cases he
    match hargs : args.toList, ha with
    | r :: rs, ha =>
      simp only [absL] at ha
      have h0 : args[0]? = some r := by rw [← Array.getElem?_toList, hargs]; rfl
      have t0 : cts[0]? = some t := by rw [← Array.getElem?_toList, hts]; rfl
      exact ⟨_, rfl, ValOk.same hr rfl (len_ok (P := P) (w := w) hl ha.1 h0 t0) (absV_v.2 rfl)⟩
    | [], ha => simp only [absL] at ha
  · -- max
    rename_i k a rest
    split at he <;> try (cases he; done)
    rename_i n hf
    cases he
    match hargs : args.toList, ha with
    | r :: rs, ha =>
      simp only [absL, absV] at ha
      obtain ⟨rfl, h2⟩ := ha
      refine ⟨_, rfl, ValOk.same hr rfl ?_ (absV_v.2 rfl)⟩
      unfold Builtin.max_
      rw [hargs]
      refine run_fold (fun a b => ?_) rest rs a n hf h2
      simp only [Builtin.max2, Sem.run_pure]
      congr 2
      by_cases hab : b > a
      · rw [if_pos hab]; omega
      · rw [if_neg hab]; omega
    | [], ha => simp only [absL] at ha
  · -- min
    rename_i k a rest
    split at he <;> try (cases he; done)
    rename_i n hf
    cases he
    match hargs : args.toList, ha with
    | r :: rs, ha =>
      simp only [absL, absV] at ha
      obtain ⟨rfl, h2⟩ := ha
      refine ⟨_, rfl, ValOk.same hr rfl ?_ (absV_v.2 rfl)⟩
      unfold Builtin.min_
      rw [hargs]
      refine run_fold (fun a b => ?_) rest rs a n hf h2
      simp only [Builtin.min2, Sem.run_pure]
      congr 2
      by_cases hab : b < a
      · rw [if_pos hab]; omega
      · rw [if_neg hab]; omega
    | [], ha => simp only [absL] at ha
  · -- append
    rename_i t tx ts s x hts
    match hargs : args.toList, ha with
    | [rs, rx], ha =>
      simp only [absL, and_true] at ha
      have h0 : args[0]? = some rs := by rw [← Array.getElem?_toList, hargs]; rfl
      have h1 : args[1]? = some rx := by rw [← Array.getElem?_toList, hargs]; rfl
      have t0 : cts[0]? = some t := by rw [← Array.getElem?_toList, hts]; rfl
      have t1 : cts[1]? = some tx := by rw [← Array.getElem?_toList, hts]; rfl
      exact ⟨_, rfl, append_ok he t0 t1 h0 h1 ha.1 ha.2 hr hp hn⟩
    | [], ha => simp only [absL] at ha
    | [_], ha => simp [absL] at ha
    | _ :: _ :: _ :: _, ha => simp [absL] at ha
  · -- copy
    rename_i t ts s x hts
    match hargs : args.toList, ha with
    | [rs, rx], ha =>
      simp only [absL, and_true] at ha
      have h0 : args[0]? = some rs := by rw [← Array.getElem?_toList, hargs]; rfl
      have h1 : args[1]? = some rx := by rw [← Array.getElem?_toList, hargs]; rfl
      have t0 : cts[0]? = some t := by rw [← Array.getElem?_toList, hts]; rfl
      exact ⟨_, rfl, copy_ok he t0 h0 h1 ha.1 ha.2 hr hp⟩
    | [], ha => simp only [absL] at ha
    | [_], ha => simp [absL] at ha
    | _ :: _ :: _ :: _, ha => simp [absL] at ha
  · -- unsafe.SliceData
    rename_i k i n c
    cases he
    obtain ⟨p1, p2⟩ := hp _ rfl
    match hargs : args.toList, ha with
    | [r], ha =>
      simp only [absL, absV, and_true] at ha
      obtain ⟨p, d1, d2, d3, d4⟩ := ha
      rcases d4 with ⟨hno, rfl⟩ | ⟨h0, _⟩
      · have : args = #[.slice (some ⟨p.r, p.o + i * 1, none⟩) n c] := by rw [← Array.toArray_toList (xs := args), hargs]
        subst this
        refine ⟨_, rfl, ValOk.same hr rfl (Lib.run_unsafeSliceData_row (P := P) w cts ty _ n c (by omega)) ?_⟩
        simp only [absV]
        exact ⟨p, d1, by omega, by rw [d2]; simp⟩
      · omega
    | [], ha => simp only [absL] at ha
    | _ :: _ :: _, ha => simp [absL] at ha
  · -- unsafe.String
    rename_i t ts k m hts
    split at he <;> try (cases he; done)
    rename_i el b hu hk
    split at he <;> try (cases he; done)
    rename_i hel
    cases hb : (b.rw && !b.dead && Nat.beq b.size 1 && Nat.beq b.elem el && !Nat.beq el 0 && P.cellsOf el == 1 && Nat.blt 0 P.depth) with
    | false => rw [hb] at he; cases he
    | true =>
      rw [hb, cond_true] at he
      cases he
      simp only [Bool.and_eq_true, Bool.not_eq_true', beq_iff_eq] at hb
      obtain ⟨⟨⟨⟨⟨⟨b1, b2⟩, b3⟩, b4⟩, b5⟩, b6⟩, b7⟩ := hb
      obtain ⟨p1, p2, p4, p3⟩ := hp _ rfl
      match hargs : args.toList, ha with
      | [r, rm], ha =>
        simp only [absL, absV, and_true] at ha
        obtain ⟨⟨p, d1, d2, rfl⟩, rfl⟩ := ha
        have hargs' : args = #[.pointer (some ⟨p.r, p.o + 0 * p.s + 0, none⟩), .int .i64 m] := by rw [← Array.toArray_toList (xs := args), hargs]
        subst hargs'
        obtain ⟨p', e1, e2⟩ := hr.blk k b hk
        rw [d1] at e1; cases e1
        have hlv := e2 b2
        have hno := hlv.notNo d2
        have hbs := Nat.eq_of_beq_eq_true b3
        have hbe := Nat.eq_of_beq_eq_true b4
        have hel0 : b.elem ≠ 0 := fun h0 => by rw [hbe] at h0; subst h0; simp at b5
        obtain ⟨c, e0, fz, c1, c2, c3, c4, c5, c6, c7⟩ := hlv.rep hno
        have he0 : e0 = el := (c4 hel0).trans hbe
        subst he0
        obtain ⟨q, rfl⟩ : ∃ q : Nat, m = q := ⟨m.toNat, by omega⟩
        have hq : q ≤ b.n := by omega
        -- the rows' bytes
        obtain ⟨_, _, hco⟩ := src_ok (P := P) (δ := δ) (w := w) (sz := 1) (x := .sl k 1 0 b.n b.n) (rx := .slice (some ⟨p.r, p.o + 0 * 1, none⟩) b.n b.n) (h := h) (m := b.n) (rows := fun y => b.row (0 + y)) (fl := b.flat) (by simp [srcRows, hk, b2]) (by
          simp only [absV]
          exact ⟨p, d1, hlv.s.trans hbs, by have := hlv.n; omega, .inl ⟨hno, rfl⟩⟩) hr (by omega)
        obtain ⟨l, l1, l2⟩ := hco q hq
        have l3 := bytes_cells l1 (fun y hy => by rw [Nat.zero_add]; exact p3 y (by omega))
        have l4 := l2 w rfl
        simp only [Builtin.firstCells, Nat.zero_mul, Nat.add_zero, Nat.mul_one] at l4
        have hsame : bytesOf q (fun y => b.row (0 + y)) = bytesOf q b.row := by simp [bytesOf]
        rw [hsame] at l3
        have hlen : (bytesOf q b.row).length = q := by simp [bytesOf]
        have hle : p.o + q ≤ c.size := by
          have hq1 : q - 1 < b.n := by omega
          obtain ⟨g1, g2⟩ := c7 (q - 1) hq1
          rw [hbs] at g1 g2
          have hj : 0 < (b.row (q - 1)).length := by omega
          obtain ⟨r', g3, _⟩ := g2 0 _ (List.getElem?_eq_getElem hj)
          have := (Array.getElem?_eq_some_iff.1 g3).1
          omega
        obtain ⟨l', m1, m2, m3⟩ := loadCells_ok (P := P) c1 p.o q hle
        rw [m3] at l4
        have hll : l' = l := by simpa using l4
        obtain ⟨fz', f1, f2, f3, f4, f5, f6, f7⟩ := freeze_heap c1 p.o q
        refine ⟨_, rfl, .string (strOfNums (bytesOf q b.row)), w.freeze ⟨p.r, p.o, none⟩ q, _, _, δ, ?_, ⟨rfl, rfl⟩, absV_v.2 (by rw [strOf_eq]; simp), kill_ok hr hk b1 b2 d1 hno f5 f6 f7 (by omega) (fun r hne _ => f3 r hne)⟩
        have hrun := run_unsafeString' (P := P) (w := w) (ts := cts) (ty := ty) (pt := t) (by rw [← Array.getElem?_toList, hts]; rfl) hu b6 p.r p.o c.size (by simp [World.shape?, c1]) (bytesOf q b.row) (fun h0 => by rw [h0] at hlen; simp at hlen; omega) (by omega) (by
          rw [hlen]
          omega) (fun j x hx => by
          have hj : j < q := by rw [← hlen]; exact (List.getElem?_eq_some_iff.1 hx).1
          rw [Addr.add_lit, cell_of c1, ← m2 j hj, hll, l3, List.getElem?_map, hx]
          rfl)
        rw [hlen] at hrun
        have e0 : p.o + 0 * p.s + 0 = p.o := by omega
        rw [e0]
        exact hrun
      | [], ha => simp only [absL] at ha
      | [_], ha => simp [absL] at ha
      | _ :: _ :: _ :: _, ha => simp [absL] at ha
  · cases he
end
end Go.SE
end
section
namespace Go.SE
section
variable {P : Program} {δ : Dict} {h : Heap} {w : World}
theorem addr_ok {x x' : SV} {j : Nat} {r : Value} (ha : addrS j x = some x') (hx : absV δ x r) : ∃ b o, r = .pointer (some ⟨b, o, none⟩) ∧ absV δ x' (.pointer (some ⟨b, o + j, none⟩)) := by
  cases x <;> simp only [addrS] at ha <;> try (cases ha; done)
  case vp k i =>
    cases ha
    simp only [absV] at *
    obtain ⟨p, h1, h2, rfl⟩ := hx
    exact ⟨p.r, p.o + i, rfl, p, h1, h2, by simp [Nat.add_assoc]⟩
  case ptr k i i' =>
    cases ha
    simp only [absV] at *
    obtain ⟨p, h1, h2, rfl⟩ := hx
    exact ⟨p.r, p.o + i * p.s + i', rfl, p, h1, h2, by simp [Nat.add_assoc]⟩
theorem Addr.add_spot (b o n : Nat) : (⟨b, o, none⟩ : Addr).add n = ⟨b, o + n, none⟩ := Addr.add_lit b o n
theorem un_ok {op : UnOp} {x v : SV} {r : Value} (hu : unS op x = some v) (hx : absV δ x r) : ∃ y, (Op.unary op r).run P w = .ok y w ∧ absV δ v y := by
  unfold unS at hu
  split at hu <;> try (cases hu; done)
  all_goals
    simp only [absV] at hx
    subst hx
    cases hu
    refine ⟨_, ?_, absV_v.2 rfl⟩
    simp [Op.unary, Op.intArith, intBits_xor]
theorem run_newRow (e : TypeId) (c : Array Value) (w : World) : (newRow e c).run P w = .ok ⟨w.heap.size, 0, none⟩ (w.alloc (.cells c e)) := by
  simp [newRow]
theorem var_new {n : Nat} {t : TypeId} {cs : List SV} {c : List Value} (hr : HRep δ h w) (hn : h n = none) (hd : δ n = none) (hc : absL δ cs c) :
    ∃ δ', Upd δ h w δ' [(n, varBlk t cs)] (w.alloc (.cells c.toArray t)) ∧ absV δ' (.vp n 0) (.pointer (some ⟨w.heap.size, 0, none⟩)) := by
  have hlen := absL_length hc
  obtain ⟨δ', h1, h2⟩ := new_ok (b := varBlk t cs) (c := c.toArray) (el := t) hr hn hd (fun _ => rfl) (by simp [varBlk, hlen]) (fun _ => by simp [varBlk, hlen]) (fun hf i _ => hf) (fun i hi => ⟨rfl, fun j x hx => by
    have : i = 0 := by simp only [varBlk] at hi; omega
    subst this
    obtain ⟨r, g1, g2⟩ := absL_get hc hx
    exact ⟨r, by simpa using g1, g2⟩⟩)
  exact ⟨δ', h1, by simp only [absV]; exact ⟨_, h2, Nat.zero_lt_one, by simp⟩⟩
theorem zeros_ok {z : List SV} {zv : Array Value} {m k : Nat} (hz : z = zv.toList.map .v) (hm : z.length = m) (hpos : 0 < m) :
    absL δ (zerosL z m k) ((Array.range k).map (fun x => zv[x % zv.size]!)).toList := by
  have hsz : zv.size = m := by rw [← hm, hz]; simp
  refine absL_of_get (by simp [zerosL]) fun i x hx => ?_
  simp only [zerosL, List.getElem?_map] at hx
  have hi : i < k := by
    rcases Nat.lt_or_ge i k with h' | h'
    · exact h'
    · simp [List.getElem?_eq_none (show (List.range k).length ≤ i by simpa using h')] at hx
  simp only [List.getElem?_range hi, Option.map_some, Option.some.injEq] at hx
  have hlt : i % m < m := Nat.mod_lt _ hpos
  have hlt' : i % m < zv.size := by omega
  refine ⟨zv[i % zv.size]!, by simp [hi], ?_⟩
  rw [← hx, hz, hsz]
  simp only [List.getD, List.getElem?_map, Array.getElem?_toList, Array.getElem?_eq_getElem hlt', Option.map_some, Option.getD_some, absV]
  simp [hlt']
theorem flat_ok {n m : Nat} {flat : List SV} {c : Array Value} (hc : absL δ flat c.toList) (hl : flat.length = n * m) : ∀ i, i < n → rowRep δ c m 0 i ((flat.drop (i * m)).take m) := by
  intro i hi
  have hle : (i + 1) * m ≤ n * m := Nat.mul_le_mul_right _ hi
  rw [Nat.add_mul] at hle
  refine ⟨by simp; omega, fun j x hx => ?_⟩
  rw [List.getElem?_take] at hx
  split at hx
  · rw [List.getElem?_drop] at hx
    obtain ⟨r, h1, h2⟩ := absL_get hc hx
    exact ⟨r, by simpa using h1, h2⟩
  · cases hx
theorem apart_ok {δ : Dict} {h : Heap} {w : World} {t : TypeId} {op : BinOp} {x y : SV} {ox oy : Operand} {rx ry : Value} {b : Bool} (he : apartS P t op x y h = some b) (hx : absV δ x rx) (hy : absV δ y ry) (hr : HRep δ h w) :
    (do eqGuard op t ox oy rx ry; binOp op t rx ry : Sem Value).run P w = .ok (.bool b) w ∧ True := by
  refine ⟨?_, trivial⟩
  unfold apartS at he
  cases hm : ptrSize P t with
  | none => rw [hm] at he; cases he
  | some m =>
    rw [hm] at he
    simp only at he
    cases h0 : Nat.beq m 0 with
    | true => rw [h0] at he; cases he
    | false =>
      rw [h0, cond_false] at he
      have hu := hm
      unfold ptrSize at hu
      split at hu <;> try (cases hu; done)
      rename_i e ht
      have hm0 : m ≠ 0 := fun e => by rw [e] at h0; cases h0
      have g1 : ∀ (a a' : Addr), a.block ≠ a'.block → (∃ c e x, w.heap[a.block]? = some (.cells c e (x, 0))) → (∃ c e x, w.heap[a'.block]? = some (.cells c e (x, 0))) → ∀ D, (Op.equalIn (D + 1) t (.pointer (some a)) (.pointer (some a'))).run P w = .ok false w := fun a a' hne ⟨c, e1, x1, hc⟩ ⟨c', e2, x2, hc'⟩ D => by
        have f1 : ∀ o s, w.frozen? ⟨a.block, o, s⟩ = false := fun o s => by simp [World.frozen?, hc]
        have f2 : ∀ o s, w.frozen? ⟨a'.block, o, s⟩ = false := fun o s => by simp [World.frozen?, hc']
        have s1 : w.shape? a.block = some (e1, c.size) := by simp [World.shape?, hc]
        have s2 : w.shape? a'.block = some (e2, c'.size) := by simp [World.shape?, hc']
        simp [Op.equalIn, run_underlying ht, run_sizeOf' hu, sameAddr, hm0, hne, noView, viewAt, mayBeOne, stringish, f1, f2, s1, s2]
      have key : ∀ (k j k' j' : Nat), absV δ (.vp k j) rx → absV δ (.vp k' j') ry → apartB h k k' = true → ∃ a a', rx = .pointer (some a) ∧ ry = .pointer (some a') ∧ a.block ≠ a'.block ∧ (∃ c e x, w.heap[a.block]? = some (.cells c e (x, 0))) ∧ ∃ c e x, w.heap[a'.block]? = some (.cells c e (x, 0)) := fun k j k' j' h1 h2 ha => by
        unfold apartB at ha
        cases hk : h k with
        | none => rw [hk] at ha; cases ha
        | some bk =>
          cases hk' : h k' with
          | none => rw [hk, hk'] at ha; cases ha
          | some bk' =>
            rw [hk, hk'] at ha
            simp only [Bool.and_eq_true, Bool.not_eq_true'] at ha
            obtain ⟨⟨a1, ⟨a2, a5⟩, a3⟩, ⟨a6, a7⟩, a4⟩ := ha
            simp only [absV] at h1 h2
            obtain ⟨p, d1, p1, rfl⟩ := h1
            obtain ⟨p', d2, p2, rfl⟩ := h2
            obtain ⟨q, e1, l1⟩ := hr.blk k bk hk
            rw [d1] at e1; cases e1
            obtain ⟨q, e2, l2⟩ := hr.blk k' bk' hk'
            rw [d2] at e2; cases e2
            have still : ∀ {b : Blk} {r o : Nat}, blkRep δ b w r o → b.whole = true → b.rw = true → ∃ c e x, w.heap[r]? = some (.cells c e (x, 0)) := fun ⟨c, e, fz, c1, _, _, _, _, c6, _⟩ h1 h2 => by
              obtain ⟨x, y⟩ := fz
              obtain rfl : y = 0 := (c6 h1).2.2 h2
              exact ⟨c, e, x, c1⟩
            refine ⟨_, _, rfl, rfl, fun hb => ?_, still ((l1 a3).rep ((l1 a3).notNo p1)) a5 a2, still ((l2 a4).rep ((l2 a4).notNo p2)) a7 a6⟩
            have := hr.inj k k' p.r bk ⟨bk, p, hk, a3, d1, (l1 a3).notNo p1, rfl⟩ ⟨bk', p', hk', a4, d2, (l2 a4).notNo p2, hb.symm⟩ hk a2
            rw [this, Nat.beq_refl] at a1
            cases a1
      split at he
      · rename_i k j k' j'
        cases ha : apartB h k k' with
        | false => rw [ha] at he; cases he
        | true =>
          rw [ha] at he; cases he
          obtain ⟨a, a', rfl, rfl, hne, hc, hc'⟩ := key k j k' j' hx hy ha
          simp [eqGuard, binOp, Op.equal, Op.maxDepth, g1 a a' hne hc hc' 9999]
      · rename_i k j k' j'
        cases ha : apartB h k k' with
        | false => rw [ha] at he; cases he
        | true =>
          rw [ha] at he; cases he
          obtain ⟨a, a', rfl, rfl, hne, hc, hc'⟩ := key k j k' j' hx hy ha
          simp [eqGuard, binOp, Op.equal, Op.maxDepth, g1 a a' hne hc hc' 9999]
      · cases he
theorem ofConst_abs {δ : Dict} (v : Value) : absV δ (ofConst v) v := by
  unfold ofConst
  split
  · simp only [absV]; exact ⟨_, by simp, absL_vs _⟩
  · simp only [absV]
theorem ifcOf_ok {δ : Dict} {x y : SV} {t : TypeId} {r : Value} (h : ifcOf x = some (t, y)) (hr : absV δ x r) : ∃ v, r = .iface t v ∧ absV δ y v := by
  unfold ifcOf at h
  split at h
  · cases h
    simp only [absV] at hr
    exact hr
  · cases h
    simp only [absV] at hr
    exact ⟨_, hr, ofConst_abs _⟩
  · cases h
theorem chunks_get {m : Nat} : ∀ {n : Nat} {l : List SV} {i : Nat}, i < n → (chunks m n l)[i]? = some ((l.drop (i * m)).take m)
  | n + 1, l, 0, _ => by simp [chunks]
  | n + 1, l, i + 1, h => by
    simp only [chunks, List.getElem?_cons_succ]
    rw [chunks_get (by omega), List.drop_drop, Nat.add_mul, Nat.one_mul, Nat.add_comm m]
theorem pickR_get {i : Nat} : ∀ {L : List (List SV)} {j : Nat} {r : List SV}, j ≤ i → L[i - j]? = some r → pickR i L j = r
  | [], j, r, _, h => by simp at h
  | [x], j, r, hj, h => by
    have h1 := (List.getElem?_eq_some_iff.1 h).1
    simp only [List.length_singleton] at h1
    rw [show i - j = 0 by omega] at h
    simpa [pickR] using h
  | x :: y :: L, j, r, hj, h => by
    simp only [pickR, mrgL_eq]
    by_cases he : i = j
    · subst he
      rw [Nat.sub_self] at h
      simp at h
      simp [h]
    · rw [beq_false he, cond_false]
      refine pickR_get (by omega) ?_
      rw [show i - j = (i - (j + 1)) + 1 by omega, List.getElem?_cons_succ] at h
      exact h
theorem flat_row {m n : Nat} {flat : List SV} {i : Nat} (hi : i < n) : pickR i (chunks m n flat) 0 = (flat.drop (i * m)).take m :=
  pickR_get (Nat.zero_le i) (by rw [Nat.sub_zero]; exact chunks_get hi)
theorem fillS_len {place : Nat → Option (Nat × Nat)} : ∀ (parts : List (Nat × SV)) (cells out : List SV), fillS place cells parts = some out → out.length = cells.length
  | [], cells, out, hf => by simp only [fillS, Option.some.injEq] at hf; rw [hf]
  | (i, x) :: parts, cells, out, hf => by
    simp only [fillS] at hf
    split at hf <;> try (cases hf; done)
    split at hf <;> try (cases hf; done)
    rename_i off size _ _ l _
    cases hb : (Nat.beq l.length size && Nat.ble (off + l.length) cells.length) with
    | false => rw [hb] at hf; cases hf
    | true =>
      rw [hb, cond_true] at hf
      rw [Bool.and_eq_true] at hb
      have := Nat.le_of_ble_eq_true hb.2
      rw [fillS_len parts _ _ hf]
      simp [splice]
      omega
theorem ok_value {o : Oper} {ρ : Operand → Value} {e : Eff} {x : SV} {r : Value} {p : Option Prop} (hr : HRep δ h w) (he : e = .det p x []) (hrun : (execOp ρ o).run P w = .ok (.value r) w) (hx : absV δ x r) :
    NextOk P δ h w e ((execOp ρ o).run P w) := by
  rw [hrun]; exact value_ok hr he hx
theorem ok_new {o : Oper} {ρ : Operand → Value} {e : Eff} {x : SV} {r : Value} {p : Option Prop} {u : List (Nat × Blk)} {w' : World} {δ' : Dict} (he : e = .det p x u) (hrun : (execOp ρ o).run P w = .ok (.value r) w')
    (hu : Upd δ h w δ' u w') (hx : absV δ' x r) : NextOk P δ h w e ((execOp ρ o).run P w) := by
  rw [hrun]; subst he; exact ⟨x, u, δ', ⟨rfl, rfl⟩, hx, hu⟩
theorem eqCells_eq : ∀ {a b : List SV}, eqCells a b = true → a = b
  | [], [], _ => rfl
  | x :: xs, y :: ys, h => by
    simp only [eqCells, Bool.and_eq_true] at h
    rw [eqCells_eq h.2]
    have : x = y := by
      have h1 := h.1
      unfold eqCell at h1
      split at h1
      · simp only [Bool.and_eq_true, decide_eq_true_eq] at h1
        rw [h1.1, h1.2]
      · simp only [beq_iff_eq] at h1; rw [h1]
      · cases h1
    rw [this]
  | [], _ :: _, h => by simp [eqCells] at h
  | _ :: _, [], h => by simp [eqCells] at h
theorem flatten_get {ze : List SV} : ∀ (n i j : Nat), i < n → j < ze.length → (List.replicate n ze).flatten[i * ze.length + j]? = ze[j]?
  | n + 1, 0, j, _, hj => by simp only [List.replicate_succ, List.flatten_cons, Nat.zero_mul, Nat.zero_add]; rw [List.getElem?_append_left hj]
  | n + 1, i + 1, j, hi, hj => by
    simp only [List.replicate_succ, List.flatten_cons]
    rw [List.getElem?_append_right (by rw [Nat.add_mul]; omega), show (i + 1) * ze.length + j - ze.length = i * ze.length + j by rw [Nat.add_mul]; omega]
    exact flatten_get n i j (by omega) hj
theorem run_rows {t e : TypeId} {n : Nat} {ze : List SV} (hz : rowsT P t = some (e, n, ze)) (w : World) : ∃ v, (zeroValue t).run P w = .ok v w ∧ v.cells.size = n * ze.length ∧ ∀ i, i < n → rowRep δ v.cells ze.length 0 i ze := by
  unfold rowsT at hz
  split at hz <;> try (cases hz; done)
  rename_i n' e' hu
  split at hz <;> try (cases hz; done)
  rename_i z ze' h1 h2
  cases hb : inRows z ze' n' with
  | false => rw [hb] at hz; cases hz
  | true =>
    rw [hb, cond_true] at hz
    cases hz
    unfold inRows at hb
    rw [Bool.and_eq_true] at hb
    have hzz := eqCells_eq hb.2
    obtain ⟨v, v1, v2⟩ := run_zero (P := P) h1 w
    refine ⟨v, v1, ?_, fun i hi => ⟨rfl, fun j x hx => ?_⟩⟩
    · have : z.length = n * ze.length := by rw [hzz]; simp
      rw [← this, v2]; simp
    · have hj : j < ze.length := (List.getElem?_eq_some_iff.1 hx).1
      have hg := flatten_get (ze := ze) n i j hi hj
      rw [← hzz, hx, v2, List.getElem?_map] at hg
      cases hc : v.cells.toList[i * ze.length + j]? with
      | none => rw [hc] at hg; cases hg
      | some r =>
        rw [hc] at hg
        simp only [Option.map_some, Option.some.injEq] at hg
        subst hg
        exact ⟨r, by rw [Nat.zero_add, ← Array.getElem?_toList]; exact hc, by simp only [absV]⟩
theorem ok_val {o : Oper} {ρ : Operand → Value} {e : Eff} {m : Sem Value} (h1 : ValOk δ h w e (m.run P w)) (h2 : execOp ρ o = (do pure (.value (← m)))) : NextOk P δ h w e ((execOp ρ o).run P w) := by
  obtain ⟨y, w', x, u, δ', g1, g2, g3, g4⟩ := h1
  rw [h2, Sem.run_bind, g1]
  exact ⟨x, u, δ', g2, g3, g4⟩
theorem map_snd (l : List (Nat × Operand)) (ρS : Operand → SV) (ρ : Operand → Value) : (l.map fun p => (p.1, ρS p.2)).map (·.1) = (l.map fun p => (p.1, ρ p.2)).map (·.1) := by simp
theorem ifcS_ok {δ : Dict} {x : SV} {v r : Value} (h : ifcS x = some v) (hx : absV δ x r) : r = v := by
  have all : ∀ (cs : List SV) (l xs : List Value), ifcS.allV cs = some l → absL δ cs xs → xs = l := by
    intro cs
    induction cs with
    | nil =>
      intro l xs h hx
      simp only [ifcS.allV, Option.some.injEq] at h
      subst h
      cases xs with
      | nil => rfl
      | cons a b => simp only [absL] at hx
    | cons c cs ih =>
      intro l xs h hx
      cases xs with
      | nil => simp only [absL] at hx
      | cons a xs =>
        simp only [absL] at hx
        cases c with
        | v y =>
          simp only [ifcS.allV] at h
          cases hl : ifcS.allV cs with
          | none => rw [hl] at h; cases h
          | some l' =>
            rw [hl] at h
            cases h
            have h1 := hx.1
            simp only [absV] at h1
            rw [h1, ih l' xs hl hx.2]
        | _ => simp only [ifcS.allV] at h; cases h
  unfold ifcS at h
  split at h
  · cases h
  · cases h
  · cases h
    simpa only [absV] using hx
  · rename_i cs
    cases hl : ifcS.allV cs with
    | none => rw [hl] at h; cases h
    | some l =>
      rw [hl] at h
      cases h
      simp only [absV] at hx
      obtain ⟨xs, rfl, h2⟩ := hx
      rw [all cs l xs hl h2]
  · cases h
theorem method_ok {t : TypeId} {name : String} {f : FuncId} (h : methodS P t name = some f) (v : Value) (n : Nat) (w : World) : (method (n + Made.depth) t v name).run P w = .ok (f, v) w := by
  unfold methodS at h
  split at h <;> try (cases h; done)
  rename_i i fs hi hu
  split at h <;> try (cases h; done)
  rename_i m hm
  split at h <;> try (cases h; done)
  rename_i g hp hf
  cases h
  have e : n + Made.depth = (n + 99) + 1 := rfl
  rw [e]
  show ((do
    let some m := (← typeInfo t).methods.find? (·.name == name) | stuck "invoke: the dynamic type lacks the method"
    let (xt, x) ← follow m.path.toList t (.val v)
    match m.func with
    | none =>
      match ← x.get xt with
      | .iface t' v' => method (n + 99) t' v' name
      | .nilIface => runtimePanic .nilDeref
      | _ => stuck "method row: interface value expected"
    | some (f, pointerReceiver) =>
      pure (f, ← receiverAt xt x pointerReceiver (if m.path.isEmpty then some ((name.splitOn ".").getLastD name) else none)) : Sem (FuncId × Value))).run P w = _
  simp [typeInfo, hi, hm, hp, hf, follow, receiverAt, run_underlying hu, Place.get]
theorem asserted_ok {t : TypeId} (h : asserted P t = true) : ∃ u, P.underlying t = some u ∧ ∀ ms, u ≠ .interface ms := by
  unfold asserted at h
  split at h
  · rename_i fs hu; exact ⟨_, hu, fun ms e => by cases e⟩
  · rename_i fs hu; exact ⟨_, hu, fun ms e => by cases e⟩
  · cases h
theorem run_assert {ρ : Operand → Value} {dst : Option Tmp} {x : Operand} {xt t ty : TypeId} {pos : String} {after : Array Edge} {guard : Option (Nat × Bool)} {w : World} {u0 : TypeDesc} (hu : P.underlying t = some u0) (hn : ∀ ms, u0 ≠ .interface ms) {u : TypeId} {v : Value} (h1 : ρ x = .iface u v) :
    (execOp ρ ⟨dst, .typeAssert x xt t true, ty, pos, after, guard⟩).run P w = if u = t then .ok (.value (.tuple #[v, .bool true])) w else (do let z ← zeroValue t; pure (Next.value (.tuple #[z, .bool false])) : Sem Next).run P w := by
  cases u0 <;> simp_all [execOp, Instr.typeAssert, run_underlying hu]
  all_goals (cases Sem.run P (zeroValue t) w <;> rfl)
theorem run_assert_nil {ρ : Operand → Value} {dst : Option Tmp} {x : Operand} {xt t ty : TypeId} {pos : String} {after : Array Edge} {guard : Option (Nat × Bool)} {w : World} {u0 : TypeDesc} (hu : P.underlying t = some u0) (hn : ∀ ms, u0 ≠ .interface ms) (h1 : ρ x = .nilIface) :
    (execOp ρ ⟨dst, .typeAssert x xt t true, ty, pos, after, guard⟩).run P w = (do let z ← zeroValue t; pure (Next.value (.tuple #[z, .bool false])) : Sem Next).run P w := by
  cases u0 <;> simp_all [execOp, Instr.typeAssert, run_underlying hu]
  all_goals (cases Sem.run P (zeroValue t) w <;> rfl)
set_option maxHeartbeats 1000000 in
theorem opS_ok {Γ : Ctrs} (hΓ : ∀ f g, Γ f = some g → g.ok P f) {o : Oper} {ρS : Operand → SV} {ρ : Operand → Value} (hρ : ∀ x, absV δ (ρS x) (ρ x)) (hρf : ∀ f, ρS (.func f) = .fn f []) {base : Nat} {e : Eff} (hr : HRep δ h w)
    (he : opS P Γ o ρS h base = some e) (hp : e.asks) (hf : ∀ x u, EffOut e x u → ∀ k, inNames k u = true → h k = none → δ k = none)
    (hw : writerOp Γ o = false → ∀ x u, EffOut e x u → ∀ k, inNames k u = true → h k = none) (hst : stopS Γ o ρS h = false) : NextOk P δ h w e ((execOp ρ o).run P w) := by
  obtain ⟨dst, op, ty, pos, after, guard⟩ := o
  unfold opS at he
  cases op <;> simp only [restS] at he <;> try (cases he; done)
  case move x => cases he; exact ok_value hr rfl (by simp [execOp]) (hρ x)
  case assign x => cases he; exact ok_value hr rfl (by simp [execOp]) (hρ x)
  case pick c a b =>
    split at he <;> try (cases he; done)
    rename_i t ht
    have h1 := hρ c
    rw [ht] at h1
    simp only [absV] at h1
    have hrun : ∀ r, (if t = true then ρ a else ρ b) = r → (execOp ρ ⟨dst, .pick c a b, ty, pos, after, guard⟩).run P w = .ok (.value r) w := fun r hr' => by
      simp [execOp, h1, asBool, hr']
    split at he
    · rename_i x y hx hy
      cases he
      have ha := hρ a; have hb := hρ b
      rw [hx] at ha; rw [hy] at hb
      simp only [absV] at ha hb
      refine ok_value hr rfl (hrun _ rfl) ?_
      cases t <;> simp [bop, absV, ha, hb]
    · cases he
      refine ok_value hr rfl (hrun _ rfl) ?_
      cases t <;> simp [bop, hρ]
  case alloc t =>
    split at he
    · rename_i e n ze hrt
      cases he
      have hn := hw rfl _ _ ⟨rfl, rfl⟩ base (by simp [inNames])
      have hd := hf _ _ ⟨rfl, rfl⟩ base (by simp [inNames]) hn
      obtain ⟨zv, z1, z2, z3⟩ := run_rows (P := P) hrt w
      obtain ⟨δ', u1, u2⟩ := new_ok (b := { elem := 0, size := ze.length, rw := true, lock := false, lit := true, flat := namelessL ze, n, row := fun _ => ze }) (c := zv.cells) (el := t) hr hn hd (fun hh => absurd rfl hh) (by simp only [z2]; exact Nat.le_refl _) (fun hh => (by cases hh)) (fun hf i _ => hf) (fun i hi => z3 i hi)
      exact ok_new (r := .pointer (some ⟨w.heap.size, 0, none⟩)) (w' := w.alloc (.cells zv.cells t)) rfl (by simp [execOp, Instr.alloc, z1, newVar, run_newRow]) (by simpa using u1) (by simp only [absV]; exact ⟨_, u2, rfl, rfl, rfl, by simp⟩)
    split at he <;> try (cases he; done)
    rename_i z hz
    cases he
    obtain ⟨zv, z1, z2⟩ := run_zero (P := P) hz w
    have hn := hw rfl _ _ ⟨rfl, rfl⟩ base (by simp [inNames])
    have hd := hf _ _ ⟨rfl, rfl⟩ base (by simp [inNames]) hn
    obtain ⟨δ', u1, u2⟩ := var_new (t := t) (cs := z) (c := zv.cells.toList) hr hn hd (by rw [z2]; exact absL_vs _)
    exact ok_new (w' := w.alloc (.cells zv.cells t)) rfl (by simp [execOp, Instr.alloc, z1, newVar, run_newRow]) (by simpa using u1) u2
  case box t x =>
    split at he <;> try (cases he; done)
    rename_i cs hcs
    cases he
    have hn := hw rfl _ _ ⟨rfl, rfl⟩ base (by simp [inNames])
    have hd := hf _ _ ⟨rfl, rfl⟩ base (by simp [inNames]) hn
    obtain ⟨δ', u1, u2⟩ := var_new (t := t) (cs := cs) (c := (ρ x).cells.toList) hr hn hd (absL_scells hcs (hρ x))
    exact ok_new (w' := w.alloc (.cells (ρ x).cells t)) rfl (by simp [execOp, Instr.box, newVar, run_newRow]) (by simpa using u1) u2
  case build t parts =>
    split at he <;> try (cases he; done)
    rename_i r hb
    cases he
    obtain ⟨y, y1, y2⟩ := build_ok (P := P) (w := w) (vs := parts.toList.map fun p => (p.1, ρ p.2)) hb (map_snd _ _ _) (absL_parts hρ _)
    refine ok_value hr rfl ?_ y2
    have : parts.map (fun x => (x.1, ρ x.2)) = (parts.toList.map fun p => (p.1, ρ p.2)).toArray := by apply Array.ext'; simp
    simp only [execOp, Sem.run_bind]
    rw [this, y1]
    rfl
  case panic x => cases hst
  case typeAssert x xt t ok =>
    cases hb : (ok && asserted P t) with
    | false => rw [hb] at he; cases he
    | true =>
      rw [hb, cond_true] at he
      rw [Bool.and_eq_true] at hb
      have hok : ok = true := hb.1
      subst hok
      obtain ⟨u0, hu0, hni⟩ := asserted_ok hb.2
      have hz : ∀ y : Value, zeroA P t = some e → (execOp ρ ⟨dst, .typeAssert x xt t true, ty, pos, after, guard⟩).run P w = (do let z ← zeroValue t; pure (Next.value (.tuple #[z, .bool false])) : Sem Next).run P w → NextOk P δ h w e ((execOp ρ ⟨dst, .typeAssert x xt t true, ty, pos, after, guard⟩).run P w) := fun y he hrun => by
        unfold zeroA at he
        split at he <;> try (cases he; done)
        rename_i i hi
        split at he <;> try (cases he; done)
        rename_i zv hzv
        cases he
        refine ok_value (r := .tuple #[zv, .bool false]) hr rfl ?_ ?_
        · rw [hrun]
          simp [zeroValue, typeInfo, hi, hzv]
        · simp only [absV]
          refine ⟨[zv, .bool false], rfl, ?_⟩
          simp only [absL, absV, and_true]
          exact ofConst_abs zv
      have h1 := hρ x
      split at he <;> try (cases he; done)
      · rename_i u v hx
        rw [hx] at h1
        simp only [absV] at h1
        cases hut : Nat.beq u t with
        | true =>
          rw [hut, cond_true] at he
          cases he
          have hut : u = t := Nat.eq_of_beq_eq_true hut
          subst hut
          refine ok_value (r := .tuple #[v, .bool true]) hr rfl ?_ ?_
          · rw [run_assert hu0 hni h1]; simp
          · simp only [absV]
            refine ⟨[v, .bool true], rfl, ?_⟩
            simp only [absL, absV, and_true]
            exact ofConst_abs v
        | false =>
          rw [hut, cond_false] at he
          have hne : u ≠ t := fun e => by subst e; rw [Nat.beq_refl] at hut; cases hut
          exact hz .nilIface he (by rw [run_assert hu0 hni h1, if_neg hne])
      · rename_i u y hx
        rw [hx] at h1
        simp only [absV] at h1
        obtain ⟨v, h1, hv⟩ := h1
        cases hut : Nat.beq u t with
        | true =>
          rw [hut, cond_true] at he
          cases he
          have hut : u = t := Nat.eq_of_beq_eq_true hut
          subst hut
          refine ok_value (r := .tuple #[v, .bool true]) hr rfl ?_ ?_
          · rw [run_assert hu0 hni h1]; simp
          · simp only [absV]
            refine ⟨[v, .bool true], rfl, ?_⟩
            simp only [absL, absV, and_true]
            exact hv
        | false =>
          rw [hut, cond_false] at he
          have hne : u ≠ t := fun e => by subst e; rw [Nat.beq_refl] at hut; cases hut
          exact hz .nilIface he (by rw [run_assert hu0 hni h1, if_neg hne])
      · rename_i hx
        rw [hx] at h1
        simp only [absV] at h1
        exact hz .nilIface he (by rw [run_assert_nil hu0 hni h1])
  case makeInterface t x =>
    split at he <;> try (cases he; done)
    · rename_i fs hu
      split at he
      · rename_i v hv
        cases he
        have hx := ifcS_ok hv (hρ x)
        refine ok_value (r := .iface t v) hr rfl ?_ (absV_v.2 rfl)
        simp only [execOp, Instr.makeInterface, hx]
        simp [run_underlying hu]
      · cases he
        refine ok_value (r := .iface t (ρ x)) hr rfl ?_ (by simp only [absV]; exact ⟨_, rfl, hρ x⟩)
        simp only [execOp, Instr.makeInterface]
        simp [run_underlying hu]
    · rename_i u hu
      cases he
      refine ok_value (r := .iface t (ρ x)) hr rfl ?_ (by simp only [absV]; exact ⟨_, rfl, hρ x⟩)
      simp only [execOp, Instr.makeInterface]
      simp [run_underlying hu]
  case makeFunc fn first captured =>
    unfold mkFnS at he
    cases fn with
    | func f =>
      simp only at he
      split at he
      · rename_i hfirst
        cases he
        have e1 : first = #[] := by apply Array.ext'; simpa using hfirst
        subst e1
        refine ok_value (r := .func (.func f) #[] (captured.map ρ)) hr rfl (by simp only [execOp, Sem.run_bind]; rw [show Array.map ρ #[] = #[] by simp]; rfl) ?_
        simp only [absV]
        exact ⟨captured.toList.map ρ, by congr 1; apply Array.ext'; simp, absL_ops hρ _⟩
      · cases he
    | _ => cases he
  case buildSlice t n parts =>
    split at he <;> try (cases he; done)
    rename_i el hu
    split at he <;> try (cases he; done)
    rename_i m z hm hz
    cases hb : (Nat.beq m 0 || Nat.ble 100000 (n * m) || !Nat.beq z.length m) with
    | true => rw [hb] at he; cases he
    | false =>
      rw [hb, cond_false] at he
      simp only [Bool.or_eq_false_iff, Bool.not_eq_false'] at hb
      obtain ⟨⟨b1, b2⟩, b3⟩ := hb
      split at he <;> try (cases he; done)
      rename_i flat hfl
      cases he
      obtain ⟨zv, z1, z2⟩ := run_zero (P := P) hz w
      have hm0 : m ≠ 0 := fun e => by subst e; simp at b1
      have hzl : z.length = m := Nat.eq_of_beq_eq_true b3
      have hle : ¬ n * m > 2 ^ 24 := by
        have : ¬ 100000 ≤ n * m := fun h' => by rw [Nat.ble_eq_true_of_le h'] at b2; cases b2
        omega
      have hn := hw rfl _ _ ⟨rfl, rfl⟩ base (by simp [inNames])
      have hd := hf _ _ ⟨rfl, rfl⟩ base (by simp [inNames]) hn
      have hz0 := zeros_ok (δ := δ) (k := n * m) z2 hzl (by omega)
      obtain ⟨o, o1, o2⟩ := fill_ok _ (parts.toList.map fun p => (p.1, ρ p.2)) _ _ flat hfl hz0 (map_snd _ _ _) (absL_parts hρ _)
      have hlen : flat.length = n * m := by rw [fillS_len _ _ _ hfl]; simp [zerosL]
      obtain ⟨δ', u1, u2⟩ := new_ok (b := flatBlk el m n flat) (c := o) (el := el) hr hn hd (fun _ => rfl) (by simp [flatBlk, ← hlen]; have := absL_length o2; simp at this; omega) (fun hh => (by cases hh)) (fun hf i hi => by show namelessL (pickR i (chunks m n flat) 0) = true; rw [flat_row (show i < n from hi)]; exact namelessL_take _ (namelessL_drop _ hf)) (fun i hi => by show rowRep _ _ _ _ _ (pickR i (chunks m n flat) 0); rw [flat_row (show i < n from hi)]; exact flat_ok o2 hlen i hi)
      refine ok_new (r := .slice (some ⟨w.heap.size, 0, none⟩) n n) rfl ?_ u1 (by simp only [absV]; exact ⟨_, u2, rfl, by simp [flatBlk], .inl ⟨rfl, by simp⟩⟩)
      have hparts : (parts.map fun x => (x.1, ρ x.2)).toList = parts.toList.map fun p => (p.1, ρ p.2) := by simp
      simp only [execOp, Instr.buildSlice, Sem.run_bind, run_underlying hu, Result.andThen_ok, run_sizeOf' hm]
      rw [if_neg hle]
      by_cases h0 : n * m = 0
      · rw [if_pos h0]
        have e0 : (Array.range (n * m)).map (fun x => zv.cells[x % zv.cells.size]!) = #[] := by simp [h0]
        rw [e0] at o1
        have e1 : (Array.range (n * m)).map (fun x => (#[] : Array Value)[x % (#[] : Array Value).size]!) = #[] := by simp [h0]
        simp only [Sem.run_bind, Sem.run_pure, Result.andThen_ok, e1, hparts, o1]
        simp [run_newRow]
      · rw [if_neg h0]
        simp only [Sem.run_bind, Sem.run_pure, Result.andThen_ok, z1, hparts, o1]
        simp [run_newRow]
  case makeSlice t l c =>
    split at he <;> try (cases he; done)
    rename_i el n m hu hl hcc
    split at he <;> try (cases he; done)
    rename_i sz z info hm hz hi
    cases hb : (Nat.beq sz 0 || !Nat.beq z.length sz || Nat.beq info.bytes 0) with
    | true => rw [hb] at he; cases he
    | false =>
      rw [hb, cond_false] at he
      simp only [Bool.or_eq_false_iff, Bool.not_eq_false'] at hb
      obtain ⟨⟨b1, b2⟩, b3⟩ := hb
      cases he
      obtain ⟨p1, p2, p3⟩ := hp _ rfl
      obtain ⟨zv, z1, z2⟩ := run_zero (P := P) hz w
      have hsz0 : sz ≠ 0 := fun e => by subst e; simp at b1
      have hby : info.bytes ≠ 0 := fun e => by rw [e] at b3; simp at b3
      have hzl : z.length = sz := Nat.eq_of_beq_eq_true b2
      have hn := hw rfl _ _ ⟨rfl, rfl⟩ base (by simp [inNames])
      have hd := hf _ _ ⟨rfl, rfl⟩ base (by simp [inNames]) hn
      have hl' := hρ l; have hc' := hρ c
      rw [hl] at hl'; rw [hcc] at hc'
      simp only [absV] at hl' hc'
      have hmm : m ≤ 2 ^ 47 := by
        have : (1 : Int) * m ≤ info.bytes * m := Int.mul_le_mul_of_nonneg_right (by omega) (by omega)
        omega
      have wn : IntKind.i64.wrap n = n := by
        simp [IntKind.wrap, IntKind.bits, IntKind.signed]; omega
      have wm : IntKind.i64.wrap m = m := by
        simp [IntKind.wrap, IntKind.bits, IntKind.signed]; omega
      obtain ⟨δ', u1, u2⟩ := new_ok (b := { elem := el, size := sz, rw := true, lock := false, lit := false, flat := namelessL z, n := m.toNat, row := fun _ => z }) (c := (Array.range (m.toNat * sz)).map fun x => zv.cells[x % zv.cells.size]!) (el := el) hr hn hd (fun _ => rfl) (by simp) (fun hh => (by cases hh)) (fun hf i _ => hf) (fun i hi => by
        have hzz := zeros_ok (δ := δ) (k := m.toNat * sz) z2 hzl (by omega)
        refine ⟨hzl, fun j x hx => ?_⟩
        have hj : j < sz := by rw [← hzl]; exact (List.getElem?_eq_some_iff.1 hx).1
        have hle : (i + 1) * sz ≤ m.toNat * sz := Nat.mul_le_mul_right _ hi
        rw [Nat.add_mul] at hle
        have hk : i * sz + j < m.toNat * sz := by omega
        obtain ⟨r, r1, r2⟩ := absL_get (x := x) (i := i * sz + j) hzz (by
          simp only [zerosL, List.getElem?_map, List.getElem?_range hk, Option.map_some]
          rw [show (i * sz + j) % sz = j by rw [Nat.mul_comm, Nat.mul_add_mod]; exact Nat.mod_eq_of_lt hj]
          simp [List.getD, hx])
        exact ⟨r, by rw [Nat.zero_add, ← Array.getElem?_toList]; exact r1, r2⟩)
      refine ok_new (r := .slice (some ⟨w.heap.size, 0, none⟩) n.toNat m.toNat) rfl ?_ u1 (by simp only [absV]; exact ⟨_, u2, rfl, by simp; omega, .inl ⟨rfl, by simp⟩⟩)
      have t1 : ¬ (m < 0) := by omega
      have t2 : ¬ ((info.bytes : Int) * m > 2 ^ 48) := by omega
      have t3 : ¬ (n < 0) := by omega
      have t4 : ¬ (n > m) := by omega
      have t5 : ¬ (m.toNat * info.bytes > roomBytes) := by
        have : ((m.toNat * info.bytes : Nat) : Int) = info.bytes * m := by rw [Int.natCast_mul, Int.toNat_of_nonneg (by omega), Int.mul_comm]
        unfold roomBytes
        omega
      simp only [execOp, Instr.makeSlice, hl', hc', Sem.run_bind, run_underlying hu, Result.andThen_ok, asInt, asIntOf, Sem.run_pure]
      simp only [typeInfo, hi, Sem.run_bind, run_program, Result.andThen_ok, Sem.run_pure, wn, wm, t1, t2, t3, t4, decide_false, Bool.or_self, Bool.false_eq_true, if_false, askRoom, t5]
      by_cases h0 : m.toNat * sz = 0
      · simp [h0, run_sizeOf' hm, run_newRow, Array.range_zero']
      · simp [h0, run_sizeOf' hm, z1, run_newRow]
  case load t a =>
    split at he <;> try (cases he; done)
    rename_i r hl
    cases he
    obtain ⟨y, y1, y2⟩ := load_ok (P := P) (w := w) hl (hρ a) hr
    exact ok_value hr rfl (by simp [execOp, y1]) y2
  case store t a x =>
    split at he <;> try (cases he; done)
    rename_i u hs
    cases he
    obtain ⟨w', y1, y2⟩ := store_ok (P := P) hs (hρ a) (hρ x) hr
    have : (execOp ρ ⟨dst, .store t a x, ty, pos, after, guard⟩).run P w = .ok .skip w' := by simp [execOp, y1]
    rw [this]
    exact ⟨_, _, δ, ⟨rfl, rfl⟩, absV_v.2 rfl, y2⟩
  case nilCheck x =>
    have h1 := hρ x
    split at he <;> try (cases he; done)
    · rename_i k m l hx
      rw [hx] at h1
      cases he
      have h2 := h1
      simp only [absV] at h2
      obtain ⟨p, _, _, _, _, e2⟩ := h2
      exact ok_value (r := ρ x) hr rfl (by simp [execOp, e2]) h1
    · rename_i k j hx
      rw [hx] at h1
      cases he
      have h2 := h1
      simp only [absV] at h2
      obtain ⟨p, _, _, e2⟩ := h2
      exact ok_value (r := ρ x) hr rfl (by simp [execOp, e2]) h1
    · rename_i k i j hx
      rw [hx] at h1
      cases he
      have h2 := h1
      simp only [absV] at h2
      obtain ⟨p, _, _, e2⟩ := h2
      exact ok_value (r := ρ x) hr rfl (by simp [execOp, e2]) h1
    · rename_i f cs hx
      rw [hx] at h1
      cases he
      have h2 := h1
      simp only [absV] at h2
      obtain ⟨xs, e2, _⟩ := h2
      exact ok_value (r := ρ x) hr rfl (by simp [execOp, e2]) h1
  case binOp op t x y t' =>
    cases hap : apartS P t op (ρS x) (ρS y) h with
    | some b =>
      rw [hap] at he
      cases he
      obtain ⟨h1, h2⟩ := apart_ok (w := w) (ox := x) (oy := y) hap (hρ x) (hρ y) hr
      refine ok_value (r := .bool b) hr rfl ?_ (absV_v.2 rfl)
      have : (execOp ρ ⟨dst, .binOp op t x y t', ty, pos, after, guard⟩) = (do let z ← (do eqGuard op t x y (ρ x) (ρ y); binOp op t (ρ x) (ρ y) : Sem Value); pure (.value z)) := rfl
      rw [this, Sem.run_bind, h1]
      rfl
    | none =>
    rw [hap] at he
    simp only at he
    obtain ⟨v, r, p, e1, e2, e3⟩ := bin_ok (P := P) (w := w) (ox := x) (oy := y) he (hρ x) (hρ y) hp rfl
    refine ok_value hr e1 ?_ e2
    have : (execOp ρ ⟨dst, .binOp op t x y t', ty, pos, after, guard⟩) = (do let z ← (do eqGuard op t x y (ρ x) (ρ y); binOp op t (ρ x) (ρ y) : Sem Value); pure (.value z)) := rfl
    rw [this, Sem.run_bind, e3]
    rfl
  case unOp op t x =>
    split at he <;> try (cases he; done)
    rename_i r hu
    cases he
    obtain ⟨y, y1, y2⟩ := un_ok (P := P) (w := w) hu (hρ x)
    exact ok_value hr rfl (by simp [execOp, y1]) y2
  case convert src dst' x =>
    exact ok_val (conv_ok (P := P) (w := w) he (hρ x) hr hp fun ⟨y, u, ho, hu⟩ => by
      have hn := hw rfl _ _ ho base hu
      exact ⟨hn, hf _ _ ho base hu hn⟩) rfl
  case slice t x lo hi mx =>
    cases mx with
    | some m => simp only at he; cases he
    | none =>
      simp only at he
      split at he <;> try (cases he; done)
      rename_i l r hl hr'
      obtain ⟨p, v, y, e1, e2, e3⟩ := slice_ok (P := P) (w := w) he (hρ x) (bound_ok hρ hl) (bound_ok hρ hr') hp
      exact ok_value hr e1 (by simp [execOp, e3]) e2
  case fieldAddr t x f =>
    split at he <;> try (cases he; done)
    rename_i fs hu
    split at he <;> try (cases he; done)
    rename_i fl hfl
    split at he <;> try (cases he; done)
    rename_i m r hm ha
    cases hb : Nat.beq m 0 with
    | true => rw [hb] at he; cases he
    | false =>
      rw [hb, cond_false] at he
      cases he
      obtain ⟨b, o, e1, e2⟩ := addr_ok ha (hρ x)
      have hm0 : m ≠ 0 := fun e => by subst e; simp at hb
      refine ok_value hr rfl ?_ e2
      simp [execOp, Instr.fieldAt, run_underlying hu, hfl, e1, Instr.sureAddr, fieldPlace, run_sizeOf' hm, hm0, Addr.add_spot]
  case field t x f =>
    split at he <;> try (cases he; done)
    rename_i fs cs hu hx
    split at he <;> try (cases he; done)
    rename_i fl hfl
    split at he <;> try (cases he; done)
    rename_i r hpt
    cases he
    have h1 := hρ x
    rw [hx] at h1
    simp only [absV] at h1
    obtain ⟨xs, e1, e2⟩ := h1
    obtain ⟨y, y1, y2⟩ := part_ok (P := P) (w := w) hpt e2
    exact ok_value hr rfl (by simp [execOp, Instr.field, run_underlying hu, hfl, e1, asAgg, y1]) y2
  case indexAddr t x ix =>
    split at he
    · rename_i el k s i len cap kd n hu hx hi
      split at he <;> try (cases he; done)
      rename_i m hm
      cases hb : Nat.beq m s with
      | false => rw [hb] at he; cases he
      | true =>
        rw [hb, cond_true] at he
        cases he
        have hms : m = s := Nat.eq_of_beq_eq_true hb
        subst hms
        have h1 := hρ x; have h2 := hρ ix
        rw [hx] at h1; rw [hi] at h2
        obtain ⟨p1, p2⟩ := hp _ rfl
        simp only [absV] at h1 h2
        obtain ⟨p, d1, d2, d3, ⟨hno, e1⟩ | ⟨l0, _⟩⟩ := h1
        case inr => subst l0; omega
        refine ok_value (x := .ptr k (i + n.toNat) 0) (r := .pointer (some ⟨p.r, p.o + i * m + n.toNat * m, none⟩)) hr rfl ?_ ?_
        · simp [execOp, Instr.indexAt, h2, e1, asIntOf, run_underlying hu, run_sizeOf' hm, p1, p2, Addr.add_spot]
        · simp only [absV]
          exact ⟨p, d1, by omega, by rw [d2, Nat.add_mul]; simp [Nat.add_assoc]⟩
    · rename_i len el k m l kd n hu hx hi
      split at he <;> try (cases he; done)
      rename_i m' hm
      cases hb : (Nat.beq m m' && Nat.beq l len) with
      | false => rw [hb] at he; cases he
      | true =>
        rw [hb, cond_true] at he
        cases he
        rw [Bool.and_eq_true] at hb
        have := Nat.eq_of_beq_eq_true hb.1
        subst this
        have := Nat.eq_of_beq_eq_true hb.2
        subst this
        have h1 := hρ x; have h2 := hρ ix
        rw [hx] at h1; rw [hi] at h2
        obtain ⟨p1, p2⟩ := hp _ rfl
        simp only [absV] at h1 h2
        obtain ⟨p, d1, d2, d3, hno, e1⟩ := h1
        refine ok_value (x := .ptr k n.toNat 0) (r := .pointer (some ⟨p.r, p.o + n.toNat * m, none⟩)) hr rfl ?_ ?_
        · simp [execOp, Instr.indexAt, h2, e1, asIntOf, run_underlying hu, run_sizeOf' hm, p1, p2, Addr.add_spot, Instr.sureAddr]
        · simp only [absV]
          exact ⟨p, d1, by omega, by rw [d2]; simp⟩
    · rename_i len el kd n hu hi hna
      split at he <;> try (cases he; done)
      rename_i m hcx hm
      cases hb : (decide (0 ≤ n) && decide (n < (len : Int))) with
      | false => rw [hb] at he; cases he
      | true =>
        rw [hb, cond_true] at he
        simp only [Bool.and_eq_true, decide_eq_true_eq] at hb
        split at he <;> try (cases he; done)
        rename_i r ha
        cases he
        have h2 := hρ ix
        rw [hi] at h2
        simp only [absV] at h2
        obtain ⟨b, o, e1, e2⟩ := addr_ok ha (hρ x)
        refine ok_value hr rfl ?_ e2
        simp [execOp, Instr.indexAt, h2, e1, asIntOf, run_underlying hu, run_sizeOf' hm, hb.1, hb.2, Addr.add_spot, Instr.sureAddr]
    · cases he
  case index t x ix =>
    split at he
    · rename_i len el cs kd n hu hx hi
      split at he <;> try (cases he; done)
      · rename_i m hcx hm
        cases hb : (decide (0 ≤ n) && decide (n < (len : Int))) with
        | false => rw [hb] at he; cases he
        | true =>
          rw [hb, cond_true] at he
          simp only [Bool.and_eq_true, decide_eq_true_eq] at hb
          split at he <;> try (cases he; done)
          rename_i r hpt
          cases he
          have h1 := hρ x; have h2 := hρ ix
          rw [hx] at h1; rw [hi] at h2
          simp only [absV] at h1 h2
          obtain ⟨xs, e1, e2⟩ := h1
          obtain ⟨y, y1, y2⟩ := part_ok (P := P) (w := w) hpt e2
          exact ok_value hr rfl (by simp [execOp, Instr.index, h2, e1, asIntOf, run_underlying hu, run_sizeOf' hm, hb.1, hb.2, y1]) y2
      · rename_i m hcx hm
        split at he <;> try (cases he; done)
        rename_i g hg
        cases hl : Nat.beq cs.length (len * m) with
        | false => rw [hl] at he; cases he
        | true =>
          rw [hl, cond_true] at he
          have hlen : cs.length = len * m := Nat.eq_of_beq_eq_true hl
          split at he <;> try (cases he; done)
          rename_i r hmk
          cases he
          have h1 := hρ x; have h2 := hρ ix
          rw [hx] at h1; rw [hi] at h2
          simp only [absV] at h1 h2
          obtain ⟨p1, p2⟩ := hp _ rfl
          obtain ⟨xs, e1, e2⟩ := h1
          have hlt : n.toNat < len := by omega
          rw [flat_row hlt] at hmk
          have hpt : partS P el cs (n.toNat * m) = some r := by
            unfold partS
            rw [hg, hm]
            simp only
            have hle : (n.toNat + 1) * m ≤ len * m := Nat.mul_le_mul_right _ hlt
            rw [Nat.add_mul, Nat.one_mul] at hle
            have hl2 : ((cs.drop (n.toNat * m)).take m).length = m := by simp; omega
            rw [hl2, show Nat.beq m m = true from Nat.beq_refl m, cond_true, hmk]
          obtain ⟨y, y1, y2⟩ := part_ok (P := P) (w := w) hpt e2
          exact ok_value hr rfl (by simp [execOp, Instr.index, h2, e1, asIntOf, run_underlying hu, run_sizeOf' hm, p1, p2, y1]) y2
    · rename_i s kd n hu hx hi
      cases he
      have h1 := hρ x; have h2 := hρ ix
      rw [hx] at h1; rw [hi] at h2
      simp only [absV] at h1 h2
      obtain ⟨p1, p2⟩ := hp _ rfl
      have hlt : n.toNat < s.size := by omega
      refine ok_value hr rfl ?_ (absV_v.2 rfl)
      have hget : s[n.toNat]? = some s[n.toNat] := by simp [hlt]
      have hv : (s.data.toList.getD n.toNat 0).toNat = s[n.toNat].toNat := by
        have : n.toNat < s.data.size := hlt
        simp only [List.getD, Array.getElem?_toList, Array.getElem?_eq_getElem this, Option.getD_some]
        rfl
      have hif : (if (0 : Int) ≤ n then s[n.toNat]? else none) = some s[n.toNat] := by rw [if_pos p1, hget]
      simp only [execOp, Instr.index, h1, h2, asIntOf, Sem.run_bind, Sem.run_pure, Result.andThen_ok, run_underlying hu]
      rw [hif]
      simp only [Sem.run_pure, Result.andThen_ok, hv]
    · cases he
  case extract x i =>
    split at he <;> try (cases he; done)
    rename_i vs hx
    split at he <;> try (cases he; done)
    rename_i r hr'
    cases he
    have h1 := hρ x
    rw [hx] at h1
    simp only [absV] at h1
    obtain ⟨xs, e1, e2⟩ := h1
    obtain ⟨y, y1, y2⟩ := absL_get e2 hr'
    exact ok_value hr rfl (by simp [execOp, Instr.extract, e1, y1]) y2
  case call c =>
    obtain ⟨callee, cargs, cts⟩ := c
    simp only at he
    cases callee <;> (try simp only at he) <;> try (cases he; done)
    case builtin b =>
      have ha : absL δ (cargs.toList.map ρS) (cargs.map ρ).toList := by
        rw [Array.toList_map]
        exact absL_ops hρ _
      obtain ⟨m, m1, m2⟩ := builtin_ok (P := P) (w := w) (ty := ty) (consts := cargs.map fun | .const _ => true | _ => false) (args := cargs.map ρ) he ha hr hp hf
      exact ok_val m2 (by simp only [execOp, resolve, invoke, pure_bind]; exact m1)
    case value f =>
      split at he <;> try (cases he; done)
      rename_i fn caps hfn
      split at he <;> try (cases he; done)
      rename_i g hg
      have h1 := hρ f
      rw [hfn] at h1
      simp only [absV] at h1
      obtain ⟨xs, e1, e2⟩ := h1
      cases hb : (g.stops && !isFuncOp f) with
      | true => rw [hb] at he; cases he
      | false =>
      rw [hb, cond_false] at he
      have hb2 : (g.stops && g.stop (cargs.toList.map ρS ++ caps) h) = false := by
        cases hs : g.stops with
        | false => rfl
        | true =>
          rw [hs] at hb
          cases f with
          | func f =>
            rw [hρf f] at hfn
            cases hfn
            simp only [stopS, hg, hs, cond_true] at hst
            rw [List.append_nil, hst]; rfl
          | _ => cases hb
      have hE : g.effE (cargs.toList.map ρS ++ caps) h base e = e := by unfold Ctr.effE; rw [hb2]
      have := hΓ fn g hg _ h base e he δ w ((cargs.toList.map ρ) ++ xs) (absL_append (absL_ops hρ _) e2) hr (by rw [hE]; exact hp) (by rw [hE]; exact hf)
      rw [hb2, hE] at this
      have hrun : (execOp ρ ⟨dst, .call ⟨.value f, cargs, cts⟩, ty, pos, after, guard⟩).run P w = (callFunc fn ((cargs.toList.map ρ) ++ xs).toArray).run P w := by
        have ea : cargs.map ρ ++ xs.toArray = ((cargs.toList.map ρ) ++ xs).toArray := by apply Array.ext'; simp
        simp [execOp, resolve, e1, Deferred.ofValue, invoke, ea]
      rw [hrun]
      exact this
    case invoke rv name =>
      split at he <;> try (cases he; done)
      rename_i t y hx
      split at he <;> try (cases he; done)
      rename_i f hm
      split at he <;> try (cases he; done)
      rename_i g hg
      cases hs : g.stops with
      | true => rw [hs] at he; cases he
      | false =>
        rw [hs, cond_false] at he
        obtain ⟨v, e1, e2⟩ := ifcOf_ok hx (hρ rv)
        have hb2 : (g.stops && g.stop (y :: cargs.toList.map ρS) h) = false := by rw [hs]; rfl
        have hE : g.effE (y :: cargs.toList.map ρS) h base e = e := by unfold Ctr.effE; rw [hb2]
        have := hΓ f g hg _ h base e he δ w (v :: cargs.toList.map ρ) (by simp only [absL]; exact ⟨e2, absL_ops hρ _⟩) hr (by rw [hE]; exact hp) (by rw [hE]; exact hf)
        rw [hb2, hE] at this
        have hrun : (execOp ρ ⟨dst, .call ⟨.invoke rv name, cargs, cts⟩, ty, pos, after, guard⟩).run P w = (callFunc f (v :: cargs.toList.map ρ).toArray).run P w := by
          have ea : (#[v] ++ (cargs.map ρ)) = (v :: cargs.toList.map ρ).toArray := by apply Array.ext'; simp
          have ex : (#[Value.iface t v] ++ cargs.map ρ).extract 1 (#[Value.iface t v] ++ cargs.map ρ).size = cargs.map ρ := by
            apply Array.ext'
            simp
            exact List.take_of_length_le (by simp)
          have e0 : (#[Value.iface t v] ++ cargs.map ρ)[0]? = some (Value.iface t v) := by rw [Array.getElem?_append_left (by simp)]; rfl
          have hrs : (resolve ρ ⟨.invoke rv name, cargs, cts⟩ ty).run P w = .ok { target := .fn (.method name) #[], args := #[Value.iface t v] ++ cargs.map ρ } w := by
            simp [resolve, e1]
          have hcm : (callMethod (.iface t v) name (cargs.map ρ)).run P w = (callFunc f (v :: cargs.toList.map ρ).toArray).run P w := by
            rw [← ea]
            simp [callMethod, method_ok hm v]
          simp only [execOp]
          rw [Sem.run_bind, hrs, Result.andThen_ok]
          simp only [invoke, e0, ex]
          exact hcm
        rw [hrun]
        exact this
theorem opS_stop {Γ : Ctrs} (hΓ : ∀ f g, Γ f = some g → g.ok P f) {o : Oper} {ρS : Operand → SV} {ρ : Operand → Value} (hρ : ∀ x, absV δ (ρS x) (ρ x)) (hρf : ∀ f, ρS (.func f) = .fn f []) {base : Nat} {e : Eff} (hr : HRep δ h w)
    (he : opS P Γ o ρS h base = some e) (hp : (stopEff Γ o ρS h base e).asks) (hf : ∀ x u, EffOut (stopEff Γ o ρS h base e) x u → ∀ k, inNames k u = true → h k = none → δ k = none) (hst : stopS Γ o ρS h = true) : NextStop P δ h w (stopEff Γ o ρS h base e) ((execOp ρ o).run P w) := by
  obtain ⟨dst, op, ty, pos, after, guard⟩ := o
  unfold opS at he
  cases op <;> simp only [stopS] at hst <;> try (cases hst; done)
  case panic x =>
    simp only at he
    split at he <;> try (cases he; done)
    rename_i t v hv
    cases he
    have hx := hρ x
    rw [hv] at hx
    simp only [absV] at hx
    have hrun : (execOp ρ ⟨dst, .panic x, ty, pos, after, guard⟩).run P w = .halt (.panic (.iface t v)) w := by
      simp [execOp, Instr.panic, hx, goPanic]
    rw [hrun]
    exact ⟨_, [], δ, ⟨rfl, rfl⟩, absV_v.2 rfl, Upd.same hr⟩
  case call c =>
    obtain ⟨callee, cargs, cts⟩ := c
    cases callee with
    | value f =>
      cases f with
      | func f =>
        simp only [hρf] at he
        simp only at hst
        cases hg : Γ f with
        | none => rw [hg] at hst; cases hst
        | some g =>
          rw [hg] at he hst
          simp only at he hst
          cases hs : g.stops with
          | false => rw [hs] at hst; cases hst
          | true =>
            rw [hs, cond_true] at hst
            have hE : ∀ e', stopEff Γ ⟨dst, .call ⟨.value (.func f), cargs, cts⟩, ty, pos, after, guard⟩ ρS h base e' = g.effE (cargs.toList.map ρS ++ []) h base e' := fun e' => by
              unfold stopEff Ctr.effE
              simp only [hg, hs, List.append_nil, hst, Bool.and_true]
            rw [hE] at hp hf ⊢
            simp only [hs, isFuncOp, Bool.not_true, Bool.and_false, cond_false] at he
            have h1 := hρ (.func f)
            rw [hρf] at h1
            simp only [absV] at h1
            obtain ⟨xs, e1, e2⟩ := h1
            have := hΓ f g hg _ h base e he δ w ((cargs.toList.map ρ) ++ xs) (absL_append (absL_ops hρ _) e2) hr hp hf
            rw [hs] at this
            rw [show (true && g.stop (cargs.toList.map ρS ++ []) h) = true by rw [List.append_nil, hst]; rfl] at this
            have hrun : (execOp ρ ⟨dst, .call ⟨.value (.func f), cargs, cts⟩, ty, pos, after, guard⟩).run P w = (callFunc f ((cargs.toList.map ρ) ++ xs).toArray).run P w := by
              have ea : cargs.map ρ ++ xs.toArray = ((cargs.toList.map ρ) ++ xs).toArray := by apply Array.ext'; simp
              simp [execOp, resolve, e1, Deferred.ofValue, invoke, ea]
            rw [hrun]
            exact this
      | _ => cases hst
    | _ => cases hst
end
end Go.SE
end
section
namespace Go.SE
theorem Eff.bind_asks : ∀ {e : Eff} {F : SV → List (Nat × Blk) → Prop}, e.bind F → e.asks
  | .det p x u, F, h => by
    cases p with
    | none => intro q hq; cases hq
    | some p => intro q hq; cases hq; exact h.1
  | .nd p C c0 x u, F, h => h.1
  | .alt true e1 e2, F, h => Eff.bind_asks (e := e1) h
  | .alt false e1 e2, F, h => Eff.bind_asks (e := e2) h
theorem Eff.bind_out : ∀ {e : Eff} {F : SV → List (Nat × Blk) → Prop}, e.bind F → ∀ {x : SV} {u : List (Nat × Blk)}, EffOut e x u → F x u
  | .det p y v, F, h, x, u, ho => by
    obtain ⟨rfl, rfl⟩ := ho
    cases p with
    | none => exact h
    | some p => exact h.2
  | .nd p C c0 y v, F, h, x, u, ho => by
    obtain ⟨c, rfl, rfl⟩ := ho
    exact h.2 c
  | .alt true e1 e2, F, h, x, u, ho => Eff.bind_out (e := e1) h ho
  | .alt false e1 e2, F, h, x, u, ho => Eff.bind_out (e := e2) h ho
theorem Eff.bind_of : ∀ {e : Eff} {F : SV → List (Nat × Blk) → Prop}, e.asks → (∀ x u, EffOut e x u → F x u) → e.bind F
  | .det p y v, F, ha, h => by
    cases p with
    | none => exact h _ _ ⟨rfl, rfl⟩
    | some p => exact ⟨ha _ rfl, h _ _ ⟨rfl, rfl⟩⟩
  | .nd p C c0 y v, F, ha, h => ⟨ha, fun c => h _ _ ⟨c, rfl, rfl⟩⟩
  | .alt true e1 e2, F, ha, h => Eff.bind_of (e := e1) ha h
  | .alt false e1 e2, F, ha, h => Eff.bind_of (e := e2) ha h
theorem Eff.some_out : ∀ e : Eff, ∃ x u, EffOut e x u
  | .det p y v => ⟨_, _, rfl, rfl⟩
  | .nd p C c0 y v => ⟨_, _, c0, rfl, rfl⟩
  | .alt true e1 e2 => Eff.some_out e1
  | .alt false e1 e2 => Eff.some_out e2
theorem Eff.bind_mono {e : Eff} {F G : SV → List (Nat × Blk) → Prop} (hfg : ∀ x u, F x u → G x u) (h : e.bind F) : e.bind G :=
  Eff.bind_of (Eff.bind_asks h) fun x u ho => hfg x u (Eff.bind_out h ho)
def apS (s : St) (o : Oper) (x : SV) (u : List (Nat × Blk)) : St := { (s.put o.dst x) with heap := happ s.heap u }
theorem apS_nil (s : St) (o : Oper) (x : SV) : apS s o x [] = s.put o.dst x := by
  unfold apS St.put
  cases o.dst <;> rfl
def actOf (P : Program) (Γ : Ctrs) (ops : List Oper) (bs : Vw) (i : Nat) (o : Oper) (s : St) : Option Eff :=
  match o.guard with
  | none => opS P Γ o s.eval (viewOf bs s.nx i s.heap) (s.nx + 8 * i)
  | some (g, want) => match (ops[g]?).bind (·.dst) with
    | none => none
    | some t => match s.tmps.getD t .unk with
      | .v (.bool b) => if b = want then opS P Γ o s.eval (viewOf bs s.nx i s.heap) (s.nx + 8 * i) else some (.det none undefS [])
      | .v (.tuple _) => some (.det none undefS [])
      | _ => none
def stepN (P : Program) (Γ : Ctrs) (ops : List Oper) (bs : Vw) (i : Nat) (o : Oper) (s : St) (K : St → Prop) : Prop :=
  match actOf P Γ ops bs i o s with
  | none => False
  | some e => e.bind fun x u => updOk (writerOp Γ o) (viewOf bs s.nx i s.heap) s.heap (s.nx + 8 * i) u = true ∧ K (apS s o x u)
def stopA (Γ : Ctrs) (ops : List Oper) (bs : Vw) (i : Nat) (o : Oper) (s : St) : Bool :=
  match o.guard with
  | none => stopS Γ o s.eval (viewOf bs s.nx i s.heap)
  | some (g, want) => match (ops[g]?).bind (·.dst) with
    | none => false
    | some t => match s.tmps.getD t .unk with
      | .v (.bool b) => if b = want then stopS Γ o s.eval (viewOf bs s.nx i s.heap) else false
      | _ => false
def stepA (P : Program) (Γ : Ctrs) (ops : List Oper) (bs : Vw) (dr : Bool) (KP : SV → Heap → Prop) (i : Nat) (o : Oper) (s : St) (K : St → Prop) : Prop :=
  match actOf P Γ ops bs i o s with
  | none => False
  | some e => match stopA Γ ops bs i o s with
    | true => (stopEff Γ o s.eval (viewOf bs s.nx i s.heap) (s.nx + 8 * i) e).bind fun x u => updOk (writerOp Γ o) (viewOf bs s.nx i s.heap) s.heap (s.nx + 8 * i) u = true ∧ (dr = true → laterOk P Γ bs i s ops 0 = true) ∧ KP x (happ s.heap u)
    | false => e.bind fun x u => updOk (writerOp Γ o) (viewOf bs s.nx i s.heap) s.heap (s.nx + 8 * i) u = true ∧ K (apS s o x u)
theorem stepA_N {P : Program} {Γ : Ctrs} {ops : List Oper} {bs : Vw} {dr : Bool} {KP : SV → Heap → Prop} {i : Nat} {o : Oper} {s : St} {K : St → Prop} (hs : stopA Γ ops bs i o s = false) : stepA P Γ ops bs dr KP i o s K ↔ stepN P Γ ops bs i o s K := by
  unfold stepA stepN
  rw [hs]
theorem stepRun_A {P : Program} {Γ : Ctrs} {ops : List Oper} {bs : Vw} {dr : Bool} {KP : SV → Heap → Prop} {i : Nat} {o : Oper} {s : St} {K : St → Prop} (h : stepRun P Γ ops bs dr KP i o s K) :
    ∃ e, opS P Γ o s.eval (viewOf bs s.nx i s.heap) (s.nx + 8 * i) = some e ∧ match stopS Γ o s.eval (viewOf bs s.nx i s.heap) with
      | true => (stopEff Γ o s.eval (viewOf bs s.nx i s.heap) (s.nx + 8 * i) e).bind fun x u => updOk (writerOp Γ o) (viewOf bs s.nx i s.heap) s.heap (s.nx + 8 * i) u = true ∧ (dr = true → laterOk P Γ bs i s ops 0 = true) ∧ KP x (happ s.heap u)
      | false => e.bind fun x u => updOk (writerOp Γ o) (viewOf bs s.nx i s.heap) s.heap (s.nx + 8 * i) u = true ∧ K (apS s o x u) := by
  unfold stepRun at h
  cases he : opS P Γ o s.eval (viewOf bs s.nx i s.heap) (s.nx + 8 * i) with
  | none => rw [he] at h; exact h.elim
  | some e =>
    rw [he] at h
    refine ⟨e, rfl, ?_⟩
    cases hst : stopS Γ o s.eval (viewOf bs s.nx i s.heap) with
    | false =>
      rw [hst] at h
      refine Eff.bind_mono (fun x u hx => ?_) h
      cases hu : updOk (writerOp Γ o) (viewOf bs s.nx i s.heap) s.heap (s.nx + 8 * i) u with
      | false => rw [hu] at hx; exact hx.elim
      | true => rw [hu] at hx; exact ⟨rfl, hx⟩
    | true =>
      rw [hst] at h
      refine Eff.bind_mono (fun x u hx => ?_) h
      cases hu : updOk (writerOp Γ o) (viewOf bs s.nx i s.heap) s.heap (s.nx + 8 * i) u with
      | false => rw [hu] at hx; exact hx.elim
      | true =>
        rw [hu, cond_true] at hx
        refine ⟨rfl, ?_⟩
        cases hl : (!dr || laterOk P Γ bs i s ops 0) with
        | false => rw [hl] at hx; exact hx.elim
        | true =>
          rw [hl, cond_true] at hx
          refine ⟨fun hd => ?_, hx⟩
          rw [hd] at hl
          simpa using hl
theorem set_same {l : List SV} {t : Nat} {x : SV} (h : l.getD t .unk = x) (hx : x ≠ .unk) : l.set t x = l := by
  apply List.ext_getElem?
  intro i
  rw [List.getElem?_set]
  by_cases hi : t = i
  · subst hi
    rw [if_pos rfl]
    rcases Nat.lt_or_ge t l.length with hl | hl
    · rw [if_pos hl]
      rw [List.getD, List.getElem?_eq_getElem hl] at h
      simp at h
      rw [List.getElem?_eq_getElem hl, h]
    · rw [List.getD, List.getElem?_eq_none hl] at h
      simp at h
      exact absurd h.symm hx
  · rw [if_neg hi]
theorem stepS_A {P : Program} {Γ : Ctrs} {ops : List Oper} {bs : Vw} {dr : Bool} {KP : SV → Heap → Prop} {i : Nat} {o : Oper} {s : St} {K : St → Prop} (h : stepS P Γ ops bs dr KP i o s K) : stepA P Γ ops bs dr KP i o s K := by
  unfold stepS at h
  unfold stepA actOf stopA
  cases hg : o.guard with
  | none =>
    rw [hg] at h
    obtain ⟨e, h1, h2⟩ := stepRun_A h
    simp only [h1]
    exact h2
  | some gw =>
    obtain ⟨g, want⟩ := gw
    rw [hg] at h
    simp only at h ⊢
    cases hd : (ops[g]?).bind (·.dst) with
    | none => rw [hd] at h; exact h.elim
    | some t =>
      rw [hd] at h
      simp only at h ⊢
      -- what is not wanted
      have skip : K (s.put o.dst undefS) → Eff.bind (.det none undefS []) fun x u => updOk (writerOp Γ o) (viewOf bs s.nx i s.heap) s.heap (s.nx + 8 * i) u = true ∧ K (apS s o x u) := fun hk => ⟨rfl, by rw [apS_nil]; exact hk⟩
      split at h
      · rename_i b hb
        rw [hb]
        simp only
        have hsame : ∀ b', b = b' → ({ s with tmps := s.tmps.set t (.v (.bool b')) } : St) = s := fun b' e => by
          subst e
          rw [set_same hb (by simp)]
        cases b with
        | true =>
          simp only [sel, hsame true rfl] at h
          cases want with
          | true =>
            simp only at h ⊢
            obtain ⟨e, h1, h2⟩ := stepRun_A h
            rw [if_pos trivial, if_pos trivial, h1]
            exact h2
          | false =>
            simp only at h ⊢
            rw [if_neg (by simp), if_neg (by simp)]
            exact skip h
        | false =>
          simp only [sel, hsame false rfl] at h
          cases want with
          | true =>
            simp only at h ⊢
            rw [if_neg (by simp), if_neg (by simp)]
            exact skip h
          | false =>
            simp only at h ⊢
            obtain ⟨e, h1, h2⟩ := stepRun_A h
            rw [if_pos trivial, if_pos trivial, h1]
            exact h2
      · rename_i b hb
        rw [hb]
        exact skip h
      · exact h.elim
theorem stepA_mono {P : Program} {Γ : Ctrs} {ops : List Oper} {bs : Vw} {dr : Bool} {KP : SV → Heap → Prop} {i : Nat} {o : Oper} {s : St} {K K' : St → Prop} (hk : ∀ s, K s → K' s) (h : stepA P Γ ops bs dr KP i o s K) : stepA P Γ ops bs dr KP i o s K' := by
  unfold stepA at *
  cases he : actOf P Γ ops bs i o s with
  | none => rw [he] at h; exact h
  | some e =>
    rw [he] at h
    simp only at h ⊢
    cases hs : stopA Γ ops bs i o s with
    | true => rw [hs] at h; exact h
    | false => rw [hs] at h; exact Eff.bind_mono (fun x u hx => ⟨hx.1, hk _ hx.2⟩) h
theorem stepN_where {P : Program} {Γ : Ctrs} {ops : List Oper} {bs : Vw} {i : Nat} {o : Oper} {s : St} {K : St → Prop} (h : stepN P Γ ops bs i o s K) : stepN P Γ ops bs i o s fun s' => K s' ∧ ∃ x u, updOk (writerOp Γ o) (viewOf bs s.nx i s.heap) s.heap (s.nx + 8 * i) u = true ∧ s' = apS s o x u := by
  unfold stepN at *
  cases he : actOf P Γ ops bs i o s with
  | none => rw [he] at h; exact h
  | some e => rw [he] at h; exact Eff.bind_mono (fun x u hx => ⟨hx.1, hx.2, x, u, hx.1, rfl⟩) h
theorem stepN_mono {P : Program} {Γ : Ctrs} {ops : List Oper} {bs : Vw} {i : Nat} {o : Oper} {s : St} {K K' : St → Prop} (hk : ∀ s, K s → K' s) (h : stepN P Γ ops bs i o s K) : stepN P Γ ops bs i o s K' := by
  unfold stepN at *
  cases he : actOf P Γ ops bs i o s with
  | none => rw [he] at h; exact h
  | some e => rw [he] at h; exact Eff.bind_mono (fun x u hx => ⟨hx.1, hk _ hx.2⟩) h
theorem eval_put {s : St} {d : Option Tmp} {v : SV} {x : Operand} (h : ∀ t, d = some t → x ≠ .tmp t) : (s.put d v).eval x = s.eval x := by
  cases d with
  | none => rfl
  | some t =>
    cases x with
    | tmp t' =>
      have hne : t ≠ t' := fun e => h t rfl (e ▸ rfl)
      simp [St.eval, St.put, List.getD, hne]
    | _ => rfl
theorem opS_congr {P : Program} {Γ : Ctrs} {o : Oper} {ρ ρ' : Operand → SV} {h : Heap} {base : Nat} (hh : ∀ x ∈ o.op.operands, ρ x = ρ' x) : opS P Γ o ρ h base = opS P Γ o ρ' h base := by
  obtain ⟨dst, op, ty, pos, after, guard⟩ := o
  have pairs : ∀ ps : Array (Nat × Operand), (∀ x ∈ (ps.toList.map (·.2)).toArray, ρ x = ρ' x) → (ps.toList.map fun p => (p.1, ρ p.2)) = (ps.toList.map fun p => (p.1, ρ' p.2)) := fun ps hp =>
    List.map_congr_left fun p hm => by
      have := hp p.2 (by simp only [List.mem_toArray]; exact List.mem_map.2 ⟨p, hm, rfl⟩)
      rw [this]
  cases op <;> simp only [Op.operands] at hh <;> simp only [opS, restS]
  case build t ps => rw [pairs ps hh]
  case buildSlice t n ps => rw [pairs ps hh]
  case makeFunc fn first captured =>
    have ha : captured.toList.map ρ = captured.toList.map ρ' := List.map_congr_left fun x hx => hh x (by simp only [Array.mem_append]; exact .inr (by simpa using hx))
    rw [ha]
  case call c =>
    obtain ⟨callee, cargs, cts⟩ := c
    have ha : cargs.toList.map ρ = cargs.toList.map ρ' := List.map_congr_left fun x hx => hh x (by simp only [Call.operands, Array.mem_append]; exact .inr (by simpa using hx))
    cases callee with
    | value f =>
      have hf : ρ f = ρ' f := hh f (by simp [Call.operands])
      simp only [hf, ha]
    | invoke r m =>
      have hf : ρ r = ρ' r := hh r (by simp [Call.operands])
      simp only [hf, ha]
    | builtin b => simp only [ha]
  case slice t x lo hi mx =>
    cases mx with
    | some m => rfl
    | none =>
      have hx : ρ x = ρ' x := hh x (by simp)
      have hl : bound ρ lo = bound ρ' lo := by
        cases lo with
        | none => rfl
        | some l => simp only [bound]; rw [hh l (by simp)]
      have hr : bound ρ hi = bound ρ' hi := by
        cases hi with
        | none => rfl
        | some l => simp only [bound]; rw [hh l (by simp)]
      simp only [hx, hl, hr]
  all_goals (first | rfl | (simp_all; done))
theorem builtinS_heap {P : Program} {b : Builtin} {ts : List TypeId} {vs : List SV} {h h' : Heap} {base : Nat} (hb : b = .len ∨ b = .max ∨ b = .min ∨ b = .unsafeSliceData) : builtinS P b ts vs h base = builtinS P b ts vs h' base := by
  rcases hb with rfl | rfl | rfl | rfl
  · cases ts <;> cases vs <;> rfl
  · cases vs with
    | nil => rfl
    | cons x vs => cases x <;> first | rfl | (rename_i v; cases v <;> rfl)
  · cases vs with
    | nil => rfl
    | cons x vs => cases x <;> first | rfl | (rename_i v; cases v <;> rfl)
  · rcases vs with _ | ⟨x, _ | ⟨y, vs⟩⟩
    · rfl
    · cases x <;> first | rfl | (rename_i k s i n c; cases s with | zero => rfl | succ s => cases s <;> rfl)
    · cases x <;> first | rfl | (rename_i k s i n c; cases s with | zero => rfl | succ s => cases s <;> rfl)
theorem opS_heap {P : Program} {Γ : Ctrs} {o : Oper} {ρ : Operand → SV} {h h' : Heap} {base : Nat} (ht : touchOp P o = false) : opS P Γ o ρ h base = opS P Γ o ρ h' base := by
  obtain ⟨dst, op, ty, pos, after, guard⟩ := o
  cases op <;> simp only [touchOp] at ht <;> simp only [opS, restS] <;> try (cases ht; done)
  case binOp op t x y t' =>
    have hn : ptrSize P t = none := by cases hp : ptrSize P t with
      | none => rfl
      | some m => rw [hp] at ht; cases ht
    simp only [apartS, hn]
  case convert src dst' x =>
    unfold convS
    cases hs : P.underlying src <;> cases hd : P.underlying dst' <;> (try rfl)
    rename_i a b
    rw [hd] at ht
    generalize ρ x = y
    cases b <;> first | (simp at ht; done) | rfl | (cases y <;> first | (cases a <;> rfl) | (rename_i v; cases v <;> cases a <;> rfl))
  case call c =>
    obtain ⟨callee, cargs, cts⟩ := c
    cases callee with
    | value f => simp at ht
    | invoke r m => simp at ht
    | builtin b => exact builtinS_heap (by cases b <;> simp at ht <;> simp)
  case slice t x lo hi mx => cases mx <;> rfl
theorem writer_touches {P : Program} {Γ : Ctrs} {o : Oper} (h : writerOp Γ o = true) : touchOp P o = true := by
  obtain ⟨dst, op, ty, pos, after, guard⟩ := o
  cases op <;> simp only [writerOp] at h <;> simp only [touchOp] <;> try (cases h; done)
  case call c =>
    obtain ⟨callee, cargs, cts⟩ := c
    cases callee with
    | value f => rfl
    | invoke r m => rfl
    | builtin b => cases b <;> simp_all
def hid (bs : Vw) (nx j k : Nat) : Bool := (Nat.ble nx k && (Nat.blt k 4096 && !bs.bit j ((k - nx) / 8))) || bs.hides nx j k
theorem viewOf_eq (bs : Vw) (nx j : Nat) (h : Heap) (k : Nat) : viewOf bs nx j h k = if hid bs nx j k = true then none else h k := by
  unfold viewOf hid
  cases ((Nat.ble nx k && (Nat.blt k 4096 && !bs.bit j ((k - nx) / 8))) || bs.hides nx j k) <;> rfl
theorem hid_promise {bs : Vw} {nx i j k : Nat} (hp : bs.has i = true) (hi : hid bs nx i k = false) (hne : i ≠ j) (h1 : bs.bit j i = false) (h2 : bs.bit i j = false) : hid bs nx j k = true := by
  unfold Vw.has at hp
  obtain ⟨p, hm, hpi⟩ := List.any_eq_true.1 hp
  have hpi := Nat.eq_of_beq_eq_true hpi
  unfold hid at hi ⊢
  rw [Bool.or_eq_false_iff] at hi
  have hk := hi.2
  unfold Vw.hides at hk
  have hk := List.any_eq_false.1 hk p hm
  rw [hpi, Nat.beq_refl, cond_true] at hk
  have hk : inL k (p.2 nx) = true := by simpa using hk
  rw [Bool.or_eq_true]
  right
  unfold Vw.hides
  refine List.any_eq_true.2 ⟨p, hm, ?_⟩
  rw [hpi, beq_false hne, cond_false, h1, h2, hk]
  rfl
def own8 (base k : Nat) : Prop := base ≤ k ∧ k < base + 8 ∧ k < 4096
theorem hid_own {bs : Vw} {nx i j k : Nat} (hk : own8 (nx + 8 * i) k) (hb : bs.bit j i = false) : hid bs nx j k = true := by
  unfold hid
  have h1 : nx ≤ k := by have := hk.1; omega
  have h2 : (k - nx) / 8 = i := by have := hk.1; have := hk.2; omega
  have h3 : Nat.blt k 4096 = true := Nat.ble_eq_true_of_le (by have := hk.2.2; omega)
  rw [h2, hb, h3, Nat.ble_eq_true_of_le h1]
  simp
theorem updOk_names {w : Bool} {h h0 : Heap} {base : Nat} : ∀ {u : List (Nat × Blk)}, updOk w h h0 base u = true → ∀ k, inNames k u = true → (∃ b0, h k = some b0 ∧ w = true ∧ b0.rw = true ∧ b0.dead = false ∧ b0.lock = false) ∨ (h k = none ∧ own8 base k ∧ h0 k = none)
  | [], _, k, hk => by simp [inNames] at hk
  | (k', b) :: rest, hu, k, hk => by
    simp only [updOk, Bool.and_eq_true] at hu
    simp only [inNames, Bool.or_eq_true] at hk
    rcases hk with hk | hk
    · have e : k = k' := Nat.eq_of_beq_eq_true hk
      subst e
      cases hh : h k with
      | some b0 =>
        rw [hh] at hu
        simp only [Bool.and_eq_true, Bool.not_eq_true'] at hu
        exact .inl ⟨b0, rfl, hu.1.1.1.1, hu.1.1.1.2, hu.1.1.2, hu.1.2⟩
      | none =>
        rw [hh] at hu
        simp only [Bool.and_eq_true] at hu
        have g1 : k < base + 8 := Nat.le_of_ble_eq_true hu.1.1.1.2
        have g2 : k < 4096 := Nat.le_of_ble_eq_true hu.1.1.2
        exact .inr ⟨rfl, ⟨Nat.le_of_ble_eq_true hu.1.1.1.1, g1, g2⟩, by simpa using hu.1.2⟩
    · exact updOk_names hu.2 k hk
theorem updOk_congr {w : Bool} {h h' h0 h0' : Heap} {base : Nat} : ∀ {u : List (Nat × Blk)}, (∀ k, inNames k u = true → own8 base k → h0' k = h0 k) →
    (∀ k, inNames k u = true → (h' k = h k) ∨ (w = false ∧ (h' k).isSome = (h k).isSome)) → updOk w h' h0' base u = updOk w h h0 base u
  | [], _, _ => rfl
  | (k', b) :: rest, hh0, hh => by
    simp only [updOk]
    rw [updOk_congr (u := rest) (fun k hk => hh0 k (by simp [inNames, hk])) (fun k hk => hh k (by simp [inNames, hk]))]
    congr 1
    have h2 : (match h k' with | some b0 => w && b0.rw && !b0.dead && !b0.lock | none => Nat.ble base k' && Nat.blt k' (base + 8) && Nat.blt k' 4096 && (h0' k').isNone) =
        (match h k' with | some b0 => w && b0.rw && !b0.dead && !b0.lock | none => Nat.ble base k' && Nat.blt k' (base + 8) && Nat.blt k' 4096 && (h0 k').isNone) := by
      cases h k' with
      | some b0 => rfl
      | none =>
        simp only
        cases hr : (Nat.ble base k' && Nat.blt k' (base + 8) && Nat.blt k' 4096) with
        | false => simp
        | true =>
          simp only [Bool.and_eq_true] at hr
          rw [hh0 k' (by simp [inNames]) ⟨Nat.le_of_ble_eq_true hr.1.1, Nat.le_of_ble_eq_true hr.1.2, Nat.le_of_ble_eq_true hr.2⟩]
    refine Eq.trans ?_ h2
    rcases hh k' (by simp [inNames]) with h1 | ⟨rfl, h1⟩
    · rw [h1]; cases h k' <;> rfl
    · cases e1 : h k' <;> cases e2 : h' k' <;> simp_all
theorem happ_comm {h : Heap} {u v : List (Nat × Blk)} (hd : ∀ k, inNames k u = true → inNames k v = true → False) : happ (happ h u) v = happ (happ h v) u := by
  funext k
  cases hu : inNames k u with
  | true =>
    have hv : inNames k v = false := by
      cases hv : inNames k v with
      | false => rfl
      | true => exact (hd k hu hv).elim
    rw [happ_other v _ hv, happ_same u h (happ h v) hu]
  | false =>
    rw [happ_other u _ hu]
    cases hv : inNames k v with
    | true => rw [happ_same v (happ h u) h hv]
    | false => rw [happ_other v _ hv, happ_other v _ hv, happ_other u _ hu]
structure Free (P : Program) (Γ : Ctrs) (ops : Array Oper) (bs : Vw) (i j : Nat) (oi oj : Oper) : Prop where
  ne : i ≠ j
  seesNot : ∀ d, oi.dst = some d → d ∉ oj.looksAt ops
  dstNe : ∀ d, oi.dst = some d → oj.dst ≠ some d
  seesNot' : ∀ d, oj.dst = some d → d ∉ oi.looksAt ops
  wt : writerOp Γ oi = true ∧ touchOp P oj = true → bs.has i = true
  tw : touchOp P oi = true ∧ writerOp Γ oj = true → bs.has j = true
  nij : bs.bit j i = false
  nji : bs.bit i j = false
theorem Free.symm {P : Program} {Γ : Ctrs} {ops : Array Oper} {bs : Vw} {i j : Nat} {oi oj : Oper} (h : Free P Γ ops bs i j oi oj) : Free P Γ ops bs j i oj oi :=
  ⟨h.ne.symm, h.seesNot', fun d hd he => h.dstNe d he hd, h.seesNot, fun ⟨a, b⟩ => h.tw ⟨b, a⟩, fun ⟨a, b⟩ => h.wt ⟨b, a⟩, h.nji, h.nij⟩
section
variable {P : Program} {Γ : Ctrs} {ops : Array Oper} {bs : Vw} {i j : Nat} {oi oj : Oper}
theorem Free.where (s : St) {u : List (Nat × Blk)} (hu : updOk (writerOp Γ oi) (viewOf bs s.nx i s.heap) s.heap (s.nx + 8 * i) u = true) (k : Nat) (hk : inNames k u = true) :
    (writerOp Γ oi = true ∧ hid bs s.nx i k = false ∧ s.heap k ≠ none) ∨ (own8 (s.nx + 8 * i) k ∧ s.heap k = none) := by
  rcases updOk_names hu k hk with ⟨b0, h1, h2, _, _⟩ | ⟨_, h2, h3⟩
  · rw [viewOf_eq] at h1
    split at h1
    · cases h1
    · rename_i hh
      exact .inl ⟨h2, by simpa using hh, by rw [h1]; simp⟩
  · exact .inr ⟨h2, h3⟩
theorem Free.act (hf : Free P Γ ops bs i j oi oj) (s : St) {x : SV} {u : List (Nat × Blk)} (hu : updOk (writerOp Γ oi) (viewOf bs s.nx i s.heap) s.heap (s.nx + 8 * i) u = true) :
    actOf P Γ ops.toList bs j oj (apS s oi x u) = actOf P Γ ops.toList bs j oj s := by
  -- the operation itself
  have hop : opS P Γ oj (apS s oi x u).eval (viewOf bs (apS s oi x u).nx j (apS s oi x u).heap) ((apS s oi x u).nx + 8 * j) = opS P Γ oj s.eval (viewOf bs s.nx j s.heap) (s.nx + 8 * j) := by
    have hnx : (apS s oi x u).nx = s.nx := by unfold apS St.put; cases oi.dst <;> rfl
    rw [hnx]
    have h1 : opS P Γ oj (apS s oi x u).eval (viewOf bs s.nx j (apS s oi x u).heap) (s.nx + 8 * j) = opS P Γ oj s.eval (viewOf bs s.nx j (apS s oi x u).heap) (s.nx + 8 * j) := by
      refine opS_congr fun y hy => ?_
      show (s.put oi.dst x).eval y = s.eval y
      refine eval_put fun t ht e => ?_
      refine hf.seesNot t ht ?_
      subst e
      exact List.mem_append_left _ (List.mem_filterMap.2 ⟨.tmp t, by simpa using hy, rfl⟩)
    rw [h1]
    cases ht : touchOp P oj with
    | false => exact opS_heap ht
    | true =>
      have : viewOf bs s.nx j (apS s oi x u).heap = viewOf bs s.nx j s.heap := by
        funext k
        rw [viewOf_eq, viewOf_eq]
        by_cases hh : hid bs s.nx j k = true
        · simp [hh]
        · rw [if_neg hh, if_neg hh]
          show happ s.heap u k = s.heap k
          refine happ_other u _ ?_
          cases hi : inNames k u with
          | false => rfl
          | true =>
            rcases Free.where s hu k hi with ⟨h2, h3, _⟩ | ⟨h2, _⟩
            · exact (hh (hid_promise (hf.wt ⟨h2, ht⟩) h3 hf.ne hf.nij hf.nji)).elim
            · exact (hh (hid_own h2 hf.nij)).elim
      rw [this]
  unfold actOf
  cases hg : oj.guard with
  | none => exact hop
  | some gw =>
    obtain ⟨g, want⟩ := gw
    simp only
    cases hd : (ops.toList[g]?).bind (·.dst) with
    | none => rfl
    | some t =>
      simp only
      have ht : (apS s oi x u).tmps.getD t .unk = s.tmps.getD t .unk := by
        have hne : ∀ d, oi.dst = some d → d ≠ t := fun d hd' e => hf.seesNot d hd' (by
          subst e
          unfold Oper.looksAt
          rw [hg]
          refine List.mem_append_right _ ?_
          have : (ops[g]?).bind (·.dst) = some d := by rw [← hd]; simp
          simp [this])
        show (s.put oi.dst x).tmps.getD t .unk = _
        cases hdd : oi.dst with
        | none => rfl
        | some d => simp [St.put, List.getD, hne d hdd]
      rw [ht]
      split
      · rw [hop]
      · rfl
      · rfl
theorem Free.upd (hf : Free P Γ ops bs i j oi oj) (s : St) {x : SV} {u v : List (Nat × Blk)} (hu : updOk (writerOp Γ oi) (viewOf bs s.nx i s.heap) s.heap (s.nx + 8 * i) u = true) :
    updOk (writerOp Γ oj) (viewOf bs (apS s oi x u).nx j (apS s oi x u).heap) (apS s oi x u).heap ((apS s oi x u).nx + 8 * j) v = updOk (writerOp Γ oj) (viewOf bs s.nx j s.heap) s.heap (s.nx + 8 * j) v := by
  have hnx : (apS s oi x u).nx = s.nx := by unfold apS St.put; cases oi.dst <;> rfl
  rw [hnx]
  refine updOk_congr (fun k _ hk => ?_) (fun k _ => ?_)
  · show happ s.heap u k = s.heap k
    refine happ_other u _ ?_
    cases hi : inNames k u with
    | false => rfl
    | true =>
      rcases Free.where s hu k hi with ⟨_, h2, _⟩ | ⟨h2, _⟩
      · rw [hid_own hk hf.nji] at h2; cases h2
      · exfalso
        obtain ⟨a1, a2⟩ := h2
        obtain ⟨a3, a4⟩ := hk
        have := hf.ne
        omega
  · rw [viewOf_eq, viewOf_eq]
    by_cases hh : hid bs s.nx j k = true
    · rw [if_pos hh, if_pos hh]; exact .inl rfl
    · rw [if_neg hh, if_neg hh]
      show happ s.heap u k = s.heap k ∨ _
      cases hi : inNames k u with
      | false => exact .inl (happ_other u _ hi)
      | true =>
        rcases Free.where s hu k hi with ⟨h2, h4, h3⟩ | ⟨h2, _⟩
        · right
          have hwj : writerOp Γ oj = false := by
            cases hw : writerOp Γ oj with
            | false => rfl
            | true => exact (hh (hid_promise (hf.wt ⟨h2, writer_touches hw⟩) h4 hf.ne hf.nij hf.nji)).elim
          refine ⟨hwj, ?_⟩
          have : happ s.heap u k ≠ none := happ_ne u s.heap hi
          show (happ s.heap u k).isSome = (s.heap k).isSome
          cases e1 : happ s.heap u k <;> cases e2 : s.heap k <;> simp_all
        · exact (hh (hid_own h2 hf.nij)).elim
theorem Free.comm (hf : Free P Γ ops bs i j oi oj) (s : St) {x y : SV} {u v : List (Nat × Blk)} (hu : updOk (writerOp Γ oi) (viewOf bs s.nx i s.heap) s.heap (s.nx + 8 * i) u = true)
    (hv : updOk (writerOp Γ oj) (viewOf bs s.nx j s.heap) s.heap (s.nx + 8 * j) v = true) : apS (apS s oi x u) oj y v = apS (apS s oj y v) oi x u := by
  have hd : ∀ k, inNames k u = true → inNames k v = true → False := fun k h1 h2 => by
    rcases Free.where s hu k h1 with ⟨a1, a2, _⟩ | ⟨a1, _⟩ <;> rcases Free.where s hv k h2 with ⟨b1, b2, _⟩ | ⟨b1, _⟩
    · rw [hid_promise (hf.wt ⟨a1, writer_touches b1⟩) a2 hf.ne hf.nij hf.nji] at b2; cases b2
    · rw [hid_own b1 hf.nji] at a2; cases a2
    · rw [hid_own a1 hf.nij] at b2; cases b2
    · obtain ⟨a3, a4⟩ := a1
      obtain ⟨b3, b4⟩ := b1
      have := hf.ne
      omega
  have h1 : happ (happ s.heap u) v = happ (happ s.heap v) u := happ_comm hd
  have h2 : (s.tmps) = s.tmps := rfl
  unfold apS St.put
  cases hi : oi.dst with
  | none => cases hj : oj.dst <;> simp only [h1]
  | some d =>
    cases hj : oj.dst with
    | none => simp only [h1]
    | some d' =>
      have hne : d ≠ d' := fun e => hf.dstNe d hi (by rw [hj, e])
      simp only [h1]
      rw [List.set_comm _ _ hne]
theorem step_comm (hf : Free P Γ ops bs i j oi oj) {s : St} {K : St → Prop} (h : stepN P Γ ops.toList bs i oi s fun s1 => stepN P Γ ops.toList bs j oj s1 K) :
    stepN P Γ ops.toList bs j oj s fun s2 => stepN P Γ ops.toList bs i oi s2 K := by
  unfold stepN at h
  cases hi : actOf P Γ ops.toList bs i oi s with
  | none => rw [hi] at h; exact h.elim
  | some ei =>
    rw [hi] at h
    simp only at h
    -- what oj does
    obtain ⟨x0, u0, ho0⟩ := ei.some_out
    have h0 := Eff.bind_out h ho0
    rw [hf.act s h0.1] at h0
    cases hj : actOf P Γ ops.toList bs j oj s with
    | none => rw [hj] at h0; exact h0.2.elim
    | some ej =>
      rw [hj] at h0
      unfold stepN
      rw [hj]
      simp only
      refine Eff.bind_of (Eff.bind_asks h0.2) fun y v hov => ?_
      have hv : updOk (writerOp Γ oj) (viewOf bs s.nx j s.heap) s.heap (s.nx + 8 * j) v = true := by
        have := (Eff.bind_out h0.2 hov).1
        rwa [hf.upd s h0.1] at this
      refine ⟨hv, ?_⟩
      rw [hf.symm.act s hv, hi]
      simp only
      refine Eff.bind_of (Eff.bind_asks h) fun x u hou => ?_
      have hxu := Eff.bind_out h hou
      refine ⟨by rw [hf.symm.upd s hv]; exact hxu.1, ?_⟩
      have hin := hxu.2
      rw [hf.act s hxu.1, hj] at hin
      have := (Eff.bind_out hin hov).2
      rwa [hf.comm s hxu.1 hv] at this
theorem stopS_congr {Γ : Ctrs} {o : Oper} {ρ ρ' : Operand → SV} {h : Heap} (hh : ∀ x ∈ o.op.operands, ρ x = ρ' x) : stopS Γ o ρ h = stopS Γ o ρ' h := by
  obtain ⟨dst, op, ty, pos, after, guard⟩ := o
  cases op <;> simp only [stopS]
  case call c =>
    obtain ⟨callee, cargs, cts⟩ := c
    simp only [Op.operands] at hh
    have ha : cargs.toList.map ρ = cargs.toList.map ρ' := List.map_congr_left fun x hx => hh x (by simp only [Call.operands, Array.mem_append]; exact .inr (by simpa using hx))
    cases callee with
    | value f => cases f <;> simp only [ha]
    | invoke r m => rfl
    | builtin b => rfl
theorem stopS_heap {P : Program} {Γ : Ctrs} {o : Oper} {ρ : Operand → SV} {h h' : Heap} (ht : touchOp P o = false) : stopS Γ o ρ h = stopS Γ o ρ h' := by
  obtain ⟨dst, op, ty, pos, after, guard⟩ := o
  cases op <;> simp only [stopS]
  case call c =>
    obtain ⟨callee, cargs, cts⟩ := c
    cases callee with
    | value f => simp [touchOp] at ht
    | invoke r m => rfl
    | builtin b => rfl
theorem Free.view (hf : Free P Γ ops bs i j oi oj) (s : St) {x : SV} {u : List (Nat × Blk)} (hu : updOk (writerOp Γ oi) (viewOf bs s.nx i s.heap) s.heap (s.nx + 8 * i) u = true) (ht : touchOp P oj = true) :
    viewOf bs s.nx j (apS s oi x u).heap = viewOf bs s.nx j s.heap := by
  funext k
  rw [viewOf_eq, viewOf_eq]
  by_cases hh : hid bs s.nx j k = true
  · simp [hh]
  · rw [if_neg hh, if_neg hh]
    show happ s.heap u k = s.heap k
    refine happ_other u _ ?_
    cases hi : inNames k u with
    | false => rfl
    | true =>
      rcases Free.where s hu k hi with ⟨h2, h3, _⟩ | ⟨h2, _⟩
      · exact (hh (hid_promise (hf.wt ⟨h2, ht⟩) h3 hf.ne hf.nij hf.nji)).elim
      · exact (hh (hid_own h2 hf.nij)).elim
theorem stopEff_congr {Γ : Ctrs} {o : Oper} {ρ ρ' : Operand → SV} {h : Heap} {base : Nat} {e : Eff} (hh : ∀ x ∈ o.op.operands, ρ x = ρ' x) : stopEff Γ o ρ h base e = stopEff Γ o ρ' h base e := by
  obtain ⟨dst, op, ty, pos, after, guard⟩ := o
  cases op <;> simp only [stopEff]
  case call c =>
    obtain ⟨callee, cargs, cts⟩ := c
    simp only [Op.operands] at hh
    have ha : cargs.toList.map ρ = cargs.toList.map ρ' := List.map_congr_left fun x hx => hh x (by simp only [Call.operands, Array.mem_append]; exact .inr (by simpa using hx))
    cases callee with
    | value f => cases f <;> simp only [ha]
    | invoke r m => rfl
    | builtin b => rfl
theorem stopEff_heap {P : Program} {Γ : Ctrs} {o : Oper} {ρ : Operand → SV} {h h' : Heap} {base : Nat} {e : Eff} (ht : touchOp P o = false) : stopEff Γ o ρ h base e = stopEff Γ o ρ h' base e := by
  obtain ⟨dst, op, ty, pos, after, guard⟩ := o
  cases op <;> simp only [stopEff]
  case call c =>
    obtain ⟨callee, cargs, cts⟩ := c
    cases callee with
    | value f => simp [touchOp] at ht
    | invoke r m => rfl
    | builtin b => rfl
theorem Free.stopE (hf : Free P Γ ops bs i j oi oj) (s : St) {x : SV} {u : List (Nat × Blk)} (hu : updOk (writerOp Γ oi) (viewOf bs s.nx i s.heap) s.heap (s.nx + 8 * i) u = true) (e : Eff) :
    stopEff Γ oj (apS s oi x u).eval (viewOf bs (apS s oi x u).nx j (apS s oi x u).heap) ((apS s oi x u).nx + 8 * j) e = stopEff Γ oj s.eval (viewOf bs s.nx j s.heap) (s.nx + 8 * j) e := by
  have hnx : (apS s oi x u).nx = s.nx := by unfold apS St.put; cases oi.dst <;> rfl
  rw [hnx]
  have h1 : stopEff Γ oj (apS s oi x u).eval (viewOf bs s.nx j (apS s oi x u).heap) (s.nx + 8 * j) e = stopEff Γ oj s.eval (viewOf bs s.nx j (apS s oi x u).heap) (s.nx + 8 * j) e := by
    refine stopEff_congr fun y hy => ?_
    show (s.put oi.dst x).eval y = s.eval y
    refine eval_put fun t ht e => ?_
    refine hf.seesNot t ht ?_
    subst e
    exact List.mem_append_left _ (List.mem_filterMap.2 ⟨.tmp t, by simpa using hy, rfl⟩)
  rw [h1]
  cases ht : touchOp P oj with
  | false => exact stopEff_heap ht
  | true => rw [hf.view s hu ht]
theorem Free.stop (hf : Free P Γ ops bs i j oi oj) (s : St) {x : SV} {u : List (Nat × Blk)} (hu : updOk (writerOp Γ oi) (viewOf bs s.nx i s.heap) s.heap (s.nx + 8 * i) u = true) :
    stopA Γ ops.toList bs j oj (apS s oi x u) = stopA Γ ops.toList bs j oj s := by
  have hnx : (apS s oi x u).nx = s.nx := by unfold apS St.put; cases oi.dst <;> rfl
  have hop : stopS Γ oj (apS s oi x u).eval (viewOf bs (apS s oi x u).nx j (apS s oi x u).heap) = stopS Γ oj s.eval (viewOf bs s.nx j s.heap) := by
    rw [hnx]
    have h1 : stopS Γ oj (apS s oi x u).eval (viewOf bs s.nx j (apS s oi x u).heap) = stopS Γ oj s.eval (viewOf bs s.nx j (apS s oi x u).heap) := by
      refine stopS_congr fun y hy => ?_
      show (s.put oi.dst x).eval y = s.eval y
      refine eval_put fun t ht e => ?_
      refine hf.seesNot t ht ?_
      subst e
      exact List.mem_append_left _ (List.mem_filterMap.2 ⟨.tmp t, by simpa using hy, rfl⟩)
    rw [h1]
    cases ht : touchOp P oj with
    | false => exact stopS_heap ht
    | true => rw [hf.view s hu ht]
  unfold stopA
  cases hg : oj.guard with
  | none => exact hop
  | some gw =>
    obtain ⟨g, want⟩ := gw
    simp only
    cases hd : (ops.toList[g]?).bind (·.dst) with
    | none => rfl
    | some t =>
      simp only
      have ht : (apS s oi x u).tmps.getD t .unk = s.tmps.getD t .unk := by
        have hne : ∀ d, oi.dst = some d → d ≠ t := fun d hd' e => hf.seesNot d hd' (by
          subst e
          unfold Oper.looksAt
          rw [hg]
          refine List.mem_append_right _ ?_
          have : (ops[g]?).bind (·.dst) = some d := by rw [← hd]; simp
          simp [this])
        show (s.put oi.dst x).tmps.getD t .unk = _
        cases hdd : oi.dst with
        | none => rfl
        | some d => simp [St.put, List.getD, hne d hdd]
      rw [ht, hop]
end
end Go.SE
end
section
namespace Go.SE
section
variable {P : Program} {Γ : Ctrs} {ops : Array Oper} {bs : Vw} {pr : List (Nat × (Nat → List Nat))} {K : St → Prop}
def stepI (P : Program) (Γ : Ctrs) (ops : Array Oper) (bs : Vw) (KP : SV → Heap → Prop) (i : Nat) (s : St) (K : St → Prop) : Prop :=
  match ops[i]? with
  | none => K s
  | some o => stepA P Γ ops.toList bs true KP i o s K
def vcAny (P : Program) (Γ : Ctrs) (ops : Array Oper) (bs : Vw) (KP : SV → Heap → Prop) (K : St → Prop) : Nat → Array Bool → St → Prop
  | 0, listed, s => Region.ready .any ops listed = [] ∧ K s
  | fuel + 1, listed, s => (Region.ready .any ops listed = [] → K s) ∧ ∀ i ∈ Region.ready .any ops listed, stepI P Γ ops bs KP i s (vcAny P Γ ops bs KP K fuel (listed.setIfInBounds i true))
theorem inL_mem {k : Nat} : ∀ {l : List Nat}, inL k l = true ↔ k ∈ l
  | [] => by simp [inL]
  | x :: xs => by
    simp only [inL, Bool.or_eq_true, inL_mem (l := xs), List.mem_cons]
    constructor
    · rintro (h | h)
      · exact .inl (Nat.eq_of_beq_eq_true h).symm
      · exact .inr h
    · rintro (h | h)
      · exact .inl (by rw [h]; exact Nat.beq_refl _)
      · exact .inr h
theorem dstsOf_mem {o : Oper} {t : Nat} (ht : o.dst = some t) : ∀ {l : List Oper}, o ∈ l → t ∈ dstsOf l
  | [], h => by cases h
  | x :: l, h => by
    rcases List.mem_cons.1 h with rfl | h
    · simp [dstsOf, ht]
    · have := dstsOf_mem ht h
      unfold dstsOf
      split
      · exact List.mem_cons_of_mem _ this
      · exact this
theorem quietL_op {o : Oper} {l : List Nat} {s : St} {d : Option Tmp} {x : SV} {h : Heap} {base : Nat} (hq : quietL l o = true) (hd : ∀ t, d = some t → t ∈ l) : o.guard = none ∧ opS P Γ o (s.put d x).eval h base = opS P Γ o s.eval h base := by
  obtain ⟨dst, op, ty, pos, after, guard⟩ := o
  have out : ∀ t, inL t l = false → ∀ t', d = some t' → (.tmp t : Operand) ≠ .tmp t' := fun t ht t' ht' e => by
    cases e
    rw [inL_mem.2 (hd _ ht')] at ht; cases ht
  cases guard with
  | some g => cases hq
  | none =>
    refine ⟨rfl, ?_⟩
    cases op with
    | fieldAddr t y f =>
      cases y with
      | tmp t =>
        refine opS_congr fun y hy => ?_
        simp [Op.operands] at hy
        subst hy
        simp only [quietL, Bool.not_eq_true'] at hq
        exact eval_put fun t' ht' => out _ hq t' ht'
      | _ => cases hq
    | move y =>
      cases y with
      | tmp t =>
        refine opS_congr fun y hy => ?_
        simp [Op.operands] at hy
        subst hy
        simp only [quietL, Bool.not_eq_true'] at hq
        exact eval_put fun t' ht' => out _ hq t' ht'
      | const v =>
        refine opS_congr fun y hy => ?_
        simp [Op.operands] at hy
        subst hy
        exact eval_put fun t' _ e => by cases e
      | _ => cases hq
    | _ => cases hq
theorem quietE_op {o : Oper} {ρ : Operand → SV} {h : Heap} {base : Nat} {e : Eff} (hq : quietE o = true) (he : opS P Γ o ρ h base = some e) : o.guard = none ∧ ∃ x, e = .det none x [] := by
  obtain ⟨dst, op, ty, pos, after, guard⟩ := o
  unfold quietE at hq
  simp only at hq
  split at hq
  · refine ⟨rfl, ?_⟩
    simp only [opS] at he
    split at he <;> try (cases he; done)
    split at he <;> try (cases he; done)
    split at he <;> try (cases he; done)
    rename_i m r _ _
    cases hb : Nat.beq m 0 with
    | true => rw [hb] at he; cases he
    | false => rw [hb] at he; cases he; exact ⟨_, rfl⟩
  · refine ⟨rfl, ?_⟩
    simp only [opS] at he
    cases he; exact ⟨_, rfl⟩
  · refine ⟨rfl, ?_⟩
    simp only [opS] at he
    split at he <;> try (cases he; done)
    cases he; exact ⟨_, rfl⟩
  · refine ⟨rfl, ?_⟩
    simp only [opS] at he
    split at he <;> try (cases he; done)
    all_goals (cases he; exact ⟨_, rfl⟩)
  · cases hq
theorem mayStop_no {o : Oper} {i : Nat} {l : List Oper} {s : St} (h : mayStop Γ o = false) : stopA Γ l bs i o s = false := by
  have h0 : ∀ ρ h', stopS Γ o ρ h' = false := fun ρ h' => by
    obtain ⟨dst, op, ty, pos, after, guard⟩ := o
    cases op <;> simp only [stopS] <;> simp only [mayStop] at h <;> try (cases h; done)
    case call c =>
      obtain ⟨callee, cargs, cts⟩ := c
      cases callee with
      | value f =>
        cases f with
        | func f =>
          simp only at h ⊢
          cases hg : Γ f with
          | none => rfl
          | some g => rw [hg] at h; simp only at h ⊢; rw [h]; rfl
        | _ => rfl
      | _ => rfl
  unfold stopA
  cases o.guard with
  | none => exact h0 _ _
  | some gw =>
    obtain ⟨g, want⟩ := gw
    simp only
    split
    · rfl
    · split
      · split
        · exact h0 _ _
        · rfl
      · rfl
theorem later_put {i : Nat} {s : St} {d : Option Tmp} {x : SV} (hd : ∀ t, d = some t → t ∈ dstsOf ops.toList) (hq : ∀ (k : Nat) o, ops.toList[k]? = some o → i < k → bs.bit k i = false → quietL (dstsOf ops.toList) o = true) : ∀ (l : List Oper) (k : Nat), (∀ (j : Nat), l[j]? = ops.toList[k + j]?) → laterOk P Γ bs i (s.put d x) l k = laterOk P Γ bs i s l k
  | [], _, _ => rfl
  | o :: l, k, hl => by
    have h0 : ops.toList[k]? = some o := (hl 0).symm
    have ih := later_put (s := s) (x := x) hd hq l (k + 1) fun j => by have := hl (j + 1); simpa [Nat.add_assoc, Nat.add_comm 1 j] using this
    simp only [laterOk, ih]
    have hh : (s.put d x).heap = s.heap := by unfold St.put; cases d <;> rfl
    have hn : (s.put d x).nx = s.nx := by unfold St.put; cases d <;> rfl
    rw [hh, hn]
    cases hk : (Nat.ble k i || bs.bit k i) with
    | true => simp
    | false =>
      rw [Bool.or_eq_false_iff] at hk
      have hik : i < k := Nat.lt_of_not_le fun h => by rw [Nat.ble_eq_true_of_le h] at hk; cases hk.1
      obtain ⟨q1, q2⟩ := quietL_op (P := P) (Γ := Γ) (s := s) (x := x) (h := viewOf bs s.nx k s.heap) (base := s.nx + 8 * k) (hq k o h0 hik hk.2) hd
      rw [q2]
theorem later_at {i : Nat} {s : St} : ∀ (l : List Oper) (k : Nat), laterOk P Γ bs i s l k = true → ∀ (j : Nat) o, l[j]? = some o → i < k + j → bs.bit (k + j) i = false → o.guard = none ∧ ∃ x, opS P Γ o s.eval (viewOf bs s.nx (k + j) s.heap) (s.nx + 8 * (k + j)) = some (.det none x [])
  | [], _, _, j, o, ho, _, _ => by simp at ho
  | o' :: l, k, h, j, o, ho, hlt, hb => by
    simp only [laterOk, Bool.and_eq_true, Bool.or_eq_true] at h
    match j, ho with
    | 0, ho =>
      simp at ho
      subst ho
      rw [Nat.add_zero] at hlt hb ⊢
      rcases h.1 with (h1 | h1) | h1
      · have := Nat.le_of_ble_eq_true h1; omega
      · rw [hb] at h1; cases h1
      · split at h1
        · rename_i x hg hx
          exact ⟨hg, x, hx⟩
        · cases h1
    | j + 1, ho =>
      simp at ho
      have := later_at l (k + 1) h.2 j o ho (by omega) (by rw [show k + 1 + j = k + (j + 1) by omega]; exact hb)
      rw [show k + 1 + j = k + (j + 1) by omega] at this
      exact this
theorem stopsFrom_spec {j : Nat} {oj : Oper} : ∀ {l : List Oper} {k : Nat}, stopsFrom Γ ops bs j oj l k = true → ∀ (q : Nat) o, l[q]? = some o → k + q < j → bs.bit j (k + q) = false → (mayStop Γ oj = true → mayStop Γ o = false ∧ quietE o = true) ∧ (mayStop Γ o = true → quietL (dstsOf ops.toList) oj = true)
  | [], _, _, q, o, h, _, _ => by simp at h
  | o :: l, k, hp, q, o', ho, hlt, hn => by
    simp only [stopsFrom, Bool.and_eq_true, Bool.or_eq_true] at hp
    match q, ho with
    | 0, ho =>
      simp at ho
      subst ho
      rcases hp.1 with (h1 | h1) | h1
      · have := Nat.le_of_ble_eq_true h1; omega
      · rw [Nat.add_zero] at hn; rw [hn] at h1; cases h1
      · refine ⟨fun hm => ?_, fun hm => ?_⟩
        · have := h1.1
          rw [hm, cond_true] at this
          simpa using this
        · have := h1.2
          rw [hm, cond_true] at this
          exact this
    | q + 1, ho =>
      simp at ho
      have := stopsFrom_spec hp.2 q o' ho (by omega) (by rw [show k + 1 + q = k + (q + 1) by omega]; exact hn)
      exact this
theorem stopsAll_spec : ∀ {l : List Oper} {k : Nat}, stopsAll Γ ops bs l k = true → ∀ (q : Nat) o, l[q]? = some o → stopsFrom Γ ops bs (k + q) o ops.toList 0 = true
  | [], _, _, q, o, h => by simp at h
  | o :: l, k, hp, q, o', ho => by
    simp only [stopsAll, Bool.and_eq_true] at hp
    match q, ho with
    | 0, ho => simp at ho; subst ho; exact hp.1
    | q + 1, ho =>
      simp at ho
      have := stopsAll_spec hp.2 q o' ho
      rw [show k + 1 + q = k + (q + 1) by omega] at this
      exact this
theorem testBit_beforeOf {acc : List Nat} {i : Nat} : ∀ {es : List Edge}, (beforeOf acc es).testBit i = true → ∃ e ∈ es, Region.binds .any e = true ∧ (e.on = i ∨ (acc.getD e.on 0).testBit i = true)
  | [], h => by simp [beforeOf] at h
  | e :: es, h => by
    simp only [beforeOf] at h
    cases hb : Region.binds .any e with
    | false =>
      rw [hb] at h
      obtain ⟨e', h1, h2, h3⟩ := testBit_beforeOf h
      exact ⟨e', List.mem_cons_of_mem _ h1, h2, h3⟩
    | true =>
      rw [hb] at h
      simp only [Nat.testBit_or, Bool.or_eq_true, Nat.testBit_two_pow, decide_eq_true_eq] at h
      rcases h with (h | h) | h
      · exact ⟨e, List.mem_cons_self, hb, .inl h⟩
      · exact ⟨e, List.mem_cons_self, hb, .inr h⟩
      · obtain ⟨e', h1, h2, h3⟩ := testBit_beforeOf h
        exact ⟨e', List.mem_cons_of_mem _ h1, h2, h3⟩
theorem beforeL_spec : ∀ (l : List Oper) (acc : List Nat), (∀ q, q < acc.length → (beforeL l acc)[q]? = acc[q]?) ∧
    ∀ (q : Nat) o, l[q]? = some o → ∃ acc', acc'.length = acc.length + q ∧ (∀ p, p < acc.length + q → acc'[p]? = (beforeL l acc)[p]?) ∧ (beforeL l acc)[acc.length + q]? = some (beforeOf acc' o.after.toList)
  | [], acc => ⟨fun q _ => rfl, fun q o h => by simp at h⟩
  | o :: l, acc => by
    obtain ⟨h1, h2⟩ := beforeL_spec l (acc ++ [beforeOf acc o.after.toList])
    simp only [beforeL]
    refine ⟨fun q hq => ?_, fun q o' ho => ?_⟩
    · rw [h1 q (by simp; omega), List.getElem?_append_left hq]
    · match q, ho with
      | 0, ho =>
        simp at ho
        subst ho
        refine ⟨acc, rfl, fun p hp => ?_, ?_⟩
        · rw [h1 p (by simp; omega), List.getElem?_append_left (by omega)]
        · rw [h1 _ (by simp)]
          simp
      | q + 1, ho =>
        simp at ho
        obtain ⟨acc', g1, g2, g3⟩ := h2 q o' ho
        simp only [List.length_append, List.length_singleton] at g1 g2 g3
        refine ⟨acc', by omega, fun p hp => g2 p (by omega), ?_⟩
        rw [show acc.length + (q + 1) = acc.length + 1 + q by omega]
        exact g3
theorem before_spec {j i : Nat} {o : Oper} (ho : ops.toList[j]? = some o) (hback : ∀ e ∈ o.after.toList, Region.binds .any e = true → e.on < j) (h : ((beforeL ops.toList []).getD j 0).testBit i = true) :
    ∃ e ∈ o.after.toList, Region.binds .any e = true ∧ (e.on = i ∨ ((beforeL ops.toList []).getD e.on 0).testBit i = true) := by
  obtain ⟨acc', h1, h2, h3⟩ := (beforeL_spec ops.toList []).2 j o ho
  simp only [List.length_nil, Nat.zero_add] at h1 h2 h3
  rw [List.getD, h3, Option.getD_some] at h
  obtain ⟨e, h4, h5, h6⟩ := testBit_beforeOf h
  refine ⟨e, h4, h5, h6.imp id fun h6 => ?_⟩
  rw [List.getD, h2 e.on (hback e h4 h5)] at h6
  exact h6
theorem backOk_spec : ∀ {l : List Oper} {k : Nat}, backOk l k = true → ∀ (q : Nat) o, l[q]? = some o → ∀ e ∈ o.after.toList, Region.binds .any e = true → e.on < k + q
  | [], _, _, q, o, h => by simp at h
  | o :: l, k, hb, q, o', ho => by
    simp only [backOk, Bool.and_eq_true] at hb
    match q, ho with
    | 0, ho =>
      simp at ho
      subst ho
      intro e he hbe
      have := List.all_eq_true.1 hb.1 e he
      rw [hbe] at this
      simp [Nat.blt] at this
      omega
    | q + 1, ho =>
      simp at ho
      intro e he hbe
      have := backOk_spec hb.2 q o' ho e he hbe
      omega
theorem pairsFrom_spec {j : Nat} {oj : Oper} : ∀ {l : List Oper} {k : Nat}, pairsFrom P Γ ops bs j oj l k = true → ∀ (q : Nat) o, l[q]? = some o → k + q < j → bs.bit j (k + q) = false → pairOk P Γ ops (bs.has (k + q)) (bs.has j) o oj = true
  | [], _, _, q, o, h, _, _ => by simp at h
  | o :: l, k, hp, q, o', ho, hlt, hn => by
    simp only [pairsFrom, Bool.and_eq_true, Bool.or_eq_true] at hp
    match q, ho with
    | 0, ho =>
      simp at ho
      subst ho
      rcases hp.1 with (h1 | h1) | h1
      · have := Nat.le_of_ble_eq_true h1; omega
      · rw [Nat.add_zero] at hn; rw [hn] at h1; cases h1
      · exact h1
    | q + 1, ho =>
      simp at ho
      have := pairsFrom_spec hp.2 q o' ho (by omega) (by rw [show k + 1 + q = k + (q + 1) by omega]; exact hn)
      rw [show k + 1 + q = k + (q + 1) by omega] at this
      exact this
theorem pairsAll_spec : ∀ {l : List Oper} {k : Nat}, pairsAll P Γ ops bs l k = true → ∀ (q : Nat) o, l[q]? = some o → pairsFrom P Γ ops bs (k + q) o ops.toList 0 = true
  | [], _, _, q, o, h => by simp at h
  | o :: l, k, hp, q, o', ho => by
    simp only [pairsAll, Bool.and_eq_true] at hp
    match q, ho with
    | 0, ho => simp at ho; subst ho; exact hp.1
    | q + 1, ho =>
      simp at ho
      have := pairsAll_spec hp.2 q o' ho
      rw [show k + 1 + q = k + (q + 1) by omega] at this
      exact this
def Closed (ops : Array Oper) (listed : Array Bool) : Prop :=
  ∀ j o, ops[j]? = some o → listed.getD j false = true → ∀ e ∈ o.after, Region.binds .any e = true → listed.getD e.on false = true
theorem closed_before (hback : ∀ (j : Nat) o, ops.toList[j]? = some o → ∀ e ∈ o.after.toList, Region.binds .any e = true → e.on < j) {listed : Array Bool} (hc : Closed ops listed) {i : Nat} :
    ∀ (p : Nat) o, ops[p]? = some o → (∀ e ∈ o.after, Region.binds .any e = true → listed.getD e.on false = true) → ((beforeL ops.toList []).getD p 0).testBit i = true → listed.getD i false = true := by
  intro p
  induction p using Nat.strongRecOn with
  | _ p ih =>
    intro o ho hl hb
    have ho' : ops.toList[p]? = some o := by simpa using ho
    obtain ⟨e, h1, h2, h3⟩ := before_spec ho' (hback p o ho') hb
    have h1' : e ∈ o.after := by simpa using h1
    rcases h3 with rfl | h3
    · exact hl e h1' h2
    · have hlt := hback p o ho' e h1 h2
      have hin : e.on < ops.size := by
        have := (Array.getElem?_eq_some_iff.1 ho).1
        omega
      exact ih e.on hlt ops[e.on] (by simp [hin]) (fun e' he' hb' => hc e.on _ (by simp [hin]) (hl e h1' h2) e' he' hb') h3
theorem closed_set {listed : Array Bool} (hc : Closed ops listed) {i : Nat} (hi : i ∈ Region.ready .any ops listed) : Closed ops (listed.setIfInBounds i true) := by
  obtain ⟨_, oi, hoi, hall⟩ := mem_ready.1 hi
  intro j o ho hl e he hb
  by_cases hij : i = j
  · subst hij
    have : o = oi := Option.some.inj (ho.symm.trans hoi)
    subst this
    exact getD_set_true (hall e he hb)
  · rw [getD_set_ne false hij] at hl
    exact getD_set_true (hc j o ho hl e he hb)
theorem ready_notBefore (hback : ∀ (j : Nat) o, ops.toList[j]? = some o → ∀ e ∈ o.after.toList, Region.binds .any e = true → e.on < j) {listed : Array Bool} (hc : Closed ops listed) {i j : Nat}
    (hi : i ∈ Region.ready .any ops listed) (hj : j ∈ Region.ready .any ops listed) : ((beforeL ops.toList []).getD j 0).testBit i = false := by
  cases hb : ((beforeL ops.toList []).getD j 0).testBit i with
  | false => rfl
  | true =>
    obtain ⟨_, oj, hoj, hall⟩ := mem_ready.1 hj
    have h1 := closed_before hback hc j oj hoj hall hb
    have h0 := (mem_ready.1 hi).1
    rcases Nat.lt_or_ge i listed.size with h' | h'
    · simp [h'] at h0 h1; rw [h0] at h1; cases h1
    · simp [Array.getElem?_eq_none h'] at h1
theorem free_of (hok : regionOk P Γ ops ⟨beforeL ops.toList [], pr⟩ = true) {listed : Array Bool} (hc : Closed ops listed) {i j : Nat} {oi oj : Oper} (hoi : ops[i]? = some oi) (hoj : ops[j]? = some oj)
    (hi : i ∈ Region.ready .any ops listed) (hj : j ∈ Region.ready .any ops listed) (hne : i ≠ j) : Free P Γ ops ⟨beforeL ops.toList [], pr⟩ i j oi oj := by
  simp only [regionOk, Bool.and_eq_true] at hok
  replace hok := hok.1
  have hback : ∀ (j : Nat) o, ops.toList[j]? = some o → ∀ e ∈ o.after.toList, Region.binds .any e = true → e.on < j := fun j o ho e he hb => by
    have := backOk_spec hok.1 j o ho e he hb
    omega
  have nij := ready_notBefore hback hc hi hj
  have nji := ready_notBefore hback hc hj hi
  have hoi' : ops.toList[i]? = some oi := by simpa using hoi
  have hoj' : ops.toList[j]? = some oj := by simpa using hoj
  have mk : ∀ {i j : Nat} {oi oj : Oper}, pairOk P Γ ops (Vw.has ⟨beforeL ops.toList [], pr⟩ i) (Vw.has ⟨beforeL ops.toList [], pr⟩ j) oi oj = true → i ≠ j → Vw.bit ⟨beforeL ops.toList [], pr⟩ j i = false → Vw.bit ⟨beforeL ops.toList [], pr⟩ i j = false → Free P Γ ops ⟨beforeL ops.toList [], pr⟩ i j oi oj := fun {i j oi oj} hp hne h1 h2 => by
    simp only [pairOk, Bool.and_eq_true, Bool.or_eq_true, Bool.not_eq_true', Bool.and_eq_false_iff] at hp
    obtain ⟨⟨a1, a2⟩, a3⟩ := hp
    obtain ⟨b1, b2, b3⟩ := Oper.apart_spec a1
    refine ⟨hne, b1, b2, b3, fun ⟨c1, c2⟩ => ?_, fun ⟨c1, c2⟩ => ?_, h1, h2⟩
    · rcases a2 with a2 | a2 | a2
      · exact a2
      · rw [c1] at a2; cases a2
      · rw [c2] at a2; cases a2
    · rcases a3 with a3 | a3 | a3
      · exact a3
      · rw [c1] at a3; cases a3
      · rw [c2] at a3; cases a3
  rcases Nat.lt_or_gt_of_ne hne with hlt | hgt
  · have h1 := pairsAll_spec hok.2 j oj hoj'
    rw [Nat.zero_add] at h1
    have h2 := pairsFrom_spec h1 i oi hoi' (by omega) (by rw [Nat.zero_add]; exact nij)
    rw [Nat.zero_add] at h2
    exact mk h2 hne nij nji
  · have h1 := pairsAll_spec hok.2 i oi hoi'
    rw [Nat.zero_add] at h1
    have h2 := pairsFrom_spec h1 j oj hoj' (by omega) (by rw [Nat.zero_add]; exact nji)
    rw [Nat.zero_add] at h2
    exact (mk h2 hne.symm nji nij).symm
theorem count_set {l : List Bool} {i : Nat} (h : l[i]? = some false) : (l.set i true).count false + 1 = l.count false := by
  induction l generalizing i with
  | nil => simp at h
  | cons a l ih =>
    cases i with
    | zero =>
      simp at h
      subst h
      simp
    | succ i =>
      simp at h
      have := ih h
      simp only [List.set_cons_succ, List.count_cons]
      omega
theorem ready_false {listed : Array Bool} {i : Nat} (h : i ∈ Region.ready .any ops listed) (hsz : listed.size = ops.size) : listed.toList[i]? = some false := by
  obtain ⟨h1, o, h2, _⟩ := mem_ready.1 h
  have hlt := (Array.getElem?_eq_some_iff.1 h2).1
  have hl : i < listed.size := by omega
  simp [hl] at h1 ⊢
  exact h1
theorem any_first {KP : SV → Heap → Prop} (hok : regionOk P Γ ops ⟨beforeL ops.toList [], pr⟩ = true) {i : Nat} {oi : Oper} (hoi : ops[i]? = some oi) : ∀ (fuel : Nat) (listed : Array Bool) (s : St), Closed ops listed → listed.size = ops.size → i ∈ Region.ready .any ops listed → (∀ m, m < i → listed.getD m false = true) → listed.toList.count false ≤ fuel + 1 →
    stepA P Γ ops.toList ⟨beforeL ops.toList [], pr⟩ true KP i oi s (vcAny P Γ ops ⟨beforeL ops.toList [], pr⟩ KP K fuel (listed.setIfInBounds i true)) → vcAny P Γ ops ⟨beforeL ops.toList [], pr⟩ KP K (fuel + 1) listed s := by
  have hok2 := hok
  simp only [regionOk, Bool.and_eq_true] at hok2
  have hst := hok2.2
  have hback : ∀ (j : Nat) o, ops.toList[j]? = some o → ∀ e ∈ o.after.toList, Region.binds .any e = true → e.on < j := fun j o ho e he hb => by
    have := backOk_spec hok2.1.1 j o ho e he hb
    omega
  have hoi' : ops.toList[i]? = some oi := by simpa using hoi
  have pair : ∀ (a b : Nat) oa ob, ops[a]? = some oa → ops[b]? = some ob → a < b → Vw.bit ⟨beforeL ops.toList [], pr⟩ b a = false → (mayStop Γ ob = true → mayStop Γ oa = false ∧ quietE oa = true) ∧ (mayStop Γ oa = true → quietL (dstsOf ops.toList) ob = true) := fun a b oa ob ha hb hlt hn => by
    have h1 := stopsAll_spec hst b ob (by simpa using hb)
    rw [Nat.zero_add] at h1
    exact stopsFrom_spec h1 a oa (by simpa using ha) (by omega) (by rw [Nat.zero_add]; exact hn)
  have dsts : ∀ {o : Oper} {k : Nat}, ops[k]? = some o → ∀ t, o.dst = some t → t ∈ dstsOf ops.toList := fun {o k} ho t ht => dstsOf_mem ht (by simpa using Array.mem_of_getElem? ho)
  intro fuel
  induction fuel with
  | zero =>
    intro listed s hc hsz hr hlow hcnt H
    refine ⟨fun h => (by rw [h] at hr; cases hr), fun j hj => ?_⟩
    by_cases hji : j = i
    · subst hji
      unfold stepI
      rw [hoi]
      exact H
    · exfalso
      have h1 := count_set (ready_false hr hsz)
      have h2 : (listed.toList.set i true)[j]? = some false := by
        rw [List.getElem?_set_ne (Ne.symm hji)]
        exact ready_false hj hsz
      have h3 : 0 < (listed.toList.set i true).count false := List.count_pos_iff.2 (List.mem_of_getElem? h2)
      omega
  | succ fuel ih =>
    intro listed s hc hsz hr hlow hcnt H
    refine ⟨fun h => (by rw [h] at hr; cases hr), fun j hj => ?_⟩
    by_cases hji : j = i
    · subst hji
      unfold stepI
      rw [hoi]
      exact H
    · obtain ⟨hjf, oj, hoj, _⟩ := mem_ready.1 hj
      have hij : i < j := by
        rcases Nat.lt_trichotomy i j with h | h | h
        · exact h
        · exact absurd h.symm hji
        · have h1 := hlow j h
          have h2 := ready_false hj hsz
          have hl : j < listed.size := by
            have := (Array.getElem?_eq_some_iff.1 hoj).1
            omega
          simp [hl] at h1 h2
          rw [h1] at h2; cases h2
      unfold stepI
      rw [hoj]
      show stepA P Γ ops.toList ⟨beforeL ops.toList [], pr⟩ true KP j oj s _
      have hf := free_of hok hc hoi hoj hr hj (Ne.symm hji)
      obtain ⟨pr1, pr2⟩ := pair i j oi oj hoi hoj hij hf.nij
      have hcnt' : (listed.setIfInBounds j true).toList.count false ≤ fuel + 1 := by
        have := count_set (ready_false hj hsz)
        rw [Array.toList_setIfInBounds]
        omega
      have hsz' : (listed.setIfInBounds j true).size = ops.size := by simpa using hsz
      have hlow' : ∀ m, m < i → (listed.setIfInBounds j true).getD m false = true := fun m hm => getD_set_true (hlow m hm)
      have next : ∀ s2, stepA P Γ ops.toList ⟨beforeL ops.toList [], pr⟩ true KP i oi s2 (vcAny P Γ ops ⟨beforeL ops.toList [], pr⟩ KP K fuel ((listed.setIfInBounds i true).setIfInBounds j true)) → vcAny P Γ ops ⟨beforeL ops.toList [], pr⟩ KP K (fuel + 1) (listed.setIfInBounds j true) s2 := fun s2 h2 =>
        ih (listed.setIfInBounds j true) s2 (closed_set hc hj) hsz' (ready_mono hr (Ne.symm hji)) hlow' hcnt' (by
          rw [Array.setIfInBounds_comm _ _ hji]
          exact h2)
      have after : ∀ s1, vcAny P Γ ops ⟨beforeL ops.toList [], pr⟩ KP K (fuel + 1) (listed.setIfInBounds i true) s1 → stepA P Γ ops.toList ⟨beforeL ops.toList [], pr⟩ true KP j oj s1 (vcAny P Γ ops ⟨beforeL ops.toList [], pr⟩ KP K fuel ((listed.setIfInBounds i true).setIfInBounds j true)) := fun s1 h2 => by
        have := h2.2 j (ready_mono hj hji)
        unfold stepI at this
        rw [hoj] at this
        exact this
      cases hsi : stopA Γ ops.toList ⟨beforeL ops.toList [], pr⟩ i oi s with
      | true =>
        have hmi : mayStop Γ oi = true := by
          cases hm : mayStop Γ oi with
          | true => rfl
          | false => rw [mayStop_no hm] at hsi; cases hsi
        have hmj : mayStop Γ oj = false := by
          cases hm : mayStop Γ oj with
          | false => rfl
          | true => rw [(pr1 hm).1] at hmi; cases hmi
        unfold stepA at H
        cases hai : actOf P Γ ops.toList ⟨beforeL ops.toList [], pr⟩ i oi s with
        | none => rw [hai] at H; exact H.elim
        | some ei =>
          rw [hai, hsi] at H
          simp only at H
          obtain ⟨x0, u0, ho0⟩ := (stopEff Γ oi s.eval (viewOf ⟨beforeL ops.toList [], pr⟩ s.nx i s.heap) (s.nx + 8 * i) ei).some_out
          have hl := (Eff.bind_out H ho0).2.1 trivial
          obtain ⟨g1, y, g2⟩ := later_at ops.toList 0 hl j oj (by simpa using hoj) (by omega) (by rw [Nat.zero_add]; exact hf.nij)
          rw [Nat.zero_add] at g2
          have haj : actOf P Γ ops.toList ⟨beforeL ops.toList [], pr⟩ j oj s = some (.det none y []) := by
            unfold actOf
            rw [g1]
            exact g2
          unfold stepA
          rw [haj, mayStop_no hmj]
          refine ⟨rfl, next _ ?_⟩
          have hu0 : updOk (writerOp Γ oj) (viewOf ⟨beforeL ops.toList [], pr⟩ s.nx j s.heap) s.heap (s.nx + 8 * j) [] = true := rfl
          unfold stepA
          rw [hf.symm.act s (x := y) hu0, hai, hf.symm.stop s (x := y) hu0, hsi]
          simp only
          rw [hf.symm.stopE s (x := y) hu0]
          refine Eff.bind_mono (fun x u hx => ⟨?_, fun _ => ?_, hx.2.2⟩) H
          · rw [hf.symm.upd s (x := y) hu0]; exact hx.1
          · rw [apS_nil, later_put (dsts hoj) (fun k o ho hik hb => (pair i k oi o hoi (by simpa using ho) hik hb).2 hmi) ops.toList 0 (fun j => by simp)]
            exact hl
      | false =>
        have HN := (stepA_N hsi).1 H
        cases hsj : stopA Γ ops.toList ⟨beforeL ops.toList [], pr⟩ j oj s with
        | false =>
          have h1 : stepN P Γ ops.toList ⟨beforeL ops.toList [], pr⟩ i oi s fun s1 => stepN P Γ ops.toList ⟨beforeL ops.toList [], pr⟩ j oj s1 (vcAny P Γ ops ⟨beforeL ops.toList [], pr⟩ KP K fuel ((listed.setIfInBounds i true).setIfInBounds j true)) :=
            stepN_mono (fun s1 ⟨h2, x, u, h3, h4⟩ => by
              subst h4
              exact (stepA_N (by rw [hf.stop s h3]; exact hsj)).1 (after _ h2)) (stepN_where HN)
          refine (stepA_N hsj).2 (stepN_mono (fun s2 ⟨h2, x, u, h3, h4⟩ => ?_) (stepN_where (step_comm hf h1)))
          subst h4
          exact next _ ((stepA_N (by rw [hf.symm.stop s h3]; exact hsi)).2 h2)
        | true =>
          have hmj : mayStop Γ oj = true := by
            cases hm : mayStop Γ oj with
            | true => rfl
            | false => rw [mayStop_no hm] at hsj; cases hsj
          obtain ⟨hmi, hqi⟩ := pr1 hmj
          unfold stepN at HN
          cases hai : actOf P Γ ops.toList ⟨beforeL ops.toList [], pr⟩ i oi s with
          | none => rw [hai] at HN; exact HN.elim
          | some ei =>
            rw [hai] at HN
            have hgi : oi.guard = none := by
              unfold quietE at hqi
              split at hqi <;> first | assumption | cases hqi
            have hop : opS P Γ oi s.eval (viewOf ⟨beforeL ops.toList [], pr⟩ s.nx i s.heap) (s.nx + 8 * i) = some ei := by
              unfold actOf at hai
              rw [hgi] at hai
              exact hai
            obtain ⟨_, x, rfl⟩ := quietE_op hqi hop
            have hu0 : updOk (writerOp Γ oi) (viewOf ⟨beforeL ops.toList [], pr⟩ s.nx i s.heap) s.heap (s.nx + 8 * i) [] = true := rfl
            have h2 := after _ HN.2
            unfold stepA at h2 ⊢
            rw [hf.act s (x := x) hu0, hf.stop s (x := x) hu0, hsj] at h2
            rw [hsj]
            cases haj : actOf P Γ ops.toList ⟨beforeL ops.toList [], pr⟩ j oj s with
            | none => rw [haj] at h2; exact h2.elim
            | some ej =>
              rw [haj] at h2
              simp only at h2 ⊢
              rw [hf.stopE s (x := x) hu0] at h2
              refine Eff.bind_mono (fun y v hy => ⟨?_, fun _ => ?_, hy.2.2⟩) h2
              · rw [← hf.upd s (x := x) hu0]; exact hy.1
              · have := hy.2.1 trivial
                rw [apS_nil, later_put (dsts hoi) (fun k o ho hik hb => (pair j k oj o hoj (by simpa using ho) hik hb).2 hmj) ops.toList 0 (fun j => by simp)] at this
                exact this
theorem any_text {KP : SV → Heap → Prop} (hok : regionOk P Γ ops ⟨beforeL ops.toList [], pr⟩ = true) : ∀ (l : List Oper) (k : Nat) (listed : Array Bool) (s : St), (∀ (j : Nat), l[j]? = ops[k + j]?) → listed.size = ops.size → (∀ j, j < ops.size → listed.getD j true = decide (j < k)) → listed.toList.count false ≤ l.length →
    vcOps P Γ ops.toList ⟨beforeL ops.toList [], pr⟩ true KP K l k s → vcAny P Γ ops ⟨beforeL ops.toList [], pr⟩ KP K l.length listed s
  | [], k, listed, s, hl, hsz, hlist, hcnt, h => by
    refine ⟨?_, h⟩
    cases hr : Region.ready .any ops listed with
    | nil => rfl
    | cons x xs =>
      exfalso
      have hx : x ∈ Region.ready .any ops listed := by rw [hr]; simp
      obtain ⟨h1, o, h2, _⟩ := mem_ready.1 hx
      have hlt := (Array.getElem?_eq_some_iff.1 h2).1
      have := hlist x hlt
      rw [h1] at this
      have hkx : ¬ x < k := by simpa using this.symm
      have := hl (x - k)
      rw [show k + (x - k) = x by omega, h2] at this
      simp at this
  | o :: l, k, listed, s, hl, hsz, hlist, hcnt, h => by
    have h0 : ops[k]? = some o := by simpa using (hl 0).symm
    have hklt := (Array.getElem?_eq_some_iff.1 h0).1
    have hok' := hok
    simp only [regionOk, Bool.and_eq_true] at hok'
    have hback : ∀ (j : Nat) o, ops.toList[j]? = some o → ∀ e ∈ o.after.toList, Region.binds .any e = true → e.on < j := fun j o ho e he hb => by
      have := backOk_spec hok'.1.1 j o ho e he hb
      omega
    have lower : ∀ j, j < k → listed.getD j false = true := fun j hj => by
      have := hlist j (by omega)
      have hjs : j < listed.size := by omega
      simp [hjs] at this ⊢
      rw [this]; simpa using hj
    have hclosed : Closed ops listed := fun j oj hoj hlj e he hb => by
      have hjlt := (Array.getElem?_eq_some_iff.1 hoj).1
      have h1 := hlist j hjlt
      have hjs : j < listed.size := by omega
      have hjk : j < k := by
        simp [hjs] at h1 hlj
        rw [hlj] at h1
        simpa using h1.symm
      have := hback j oj (by simpa using hoj) e (by simpa using he) hb
      exact lower e.on (by omega)
    have hready : k ∈ Region.ready .any ops listed := mem_ready.2 ⟨by rw [hlist k hklt]; simp, o, h0, fun e he hb => lower e.on (hback k o (by simpa using h0) e (by simpa using he) hb)⟩
    refine any_first hok h0 l.length listed s hclosed hsz hready lower hcnt ?_
    refine stepA_mono (fun s1 h1 => any_text hok l (k + 1) _ s1 (fun j => by have := hl (j + 1); simpa [Nat.add_assoc, Nat.add_comm 1 j] using this) (by simpa using hsz) (fun j hj => ?_) ?_ h1) (stepS_A h)
    · by_cases hjk : j = k
      · subst hjk
        have hjs : j < listed.size := by omega
        simp [hjs]
      · rw [getD_set_ne true (Ne.symm hjk), hlist j hj]
        have : (j < k) ↔ (j < k + 1) := by omega
        simp [this]
    · have := count_set (ready_false hready hsz)
      rw [Array.toList_setIfInBounds]
      simp only [List.length_cons] at hcnt
      omega
end
end Go.SE
end
