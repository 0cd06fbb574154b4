/-
  The symbolic executor's operations: conversions; built-in functions.
-/
import Derived.Test.YtjdldadmaaeimaaSeCut
import Derived.Laws.BytesArg
import Derived.Lib.Builder
set_option linter.unusedSimpArgs false
namespace Go.SE
section
variable {P : Program} {δ : Dict} {h : Heap} {w : World}

theorem freeze_heap {r : Nat} {c : Array Value} {e : TypeId} {fz : Nat × Nat} (hb : w.heap[r]? = some (.cells c e fz)) (o n : Nat) :
    ∃ fz', (w.freeze ⟨r, o, none⟩ n).heap[r]? = some (.cells c e fz') ∧ (fz = (0, 0) → c.size ≤ o → thaw c.size fz') ∧ (∀ k, k ≠ r → (w.freeze ⟨r, o, none⟩ n).heap[k]? = w.heap[k]?) ∧ (w.freeze ⟨r, o, none⟩ n).heap.size = w.heap.size ∧
      (w.freeze ⟨r, o, none⟩ n).os = w.os ∧ (w.freeze ⟨r, o, none⟩ n).tape = w.tape ∧ (w.freeze ⟨r, o, none⟩ n).output = w.output := by
  unfold World.freeze
  by_cases hn : n = 0
  · simp only [hn, if_true]
    exact ⟨fz, hb, fun h _ => by subst h; exact .inl rfl, fun _ _ => by first | trivial | rfl, by first | trivial | rfl, by first | trivial | rfl, by first | trivial | rfl, by first | trivial | rfl⟩
  · simp only [hn, if_false]
    obtain ⟨lo, hi⟩ := fz
    refine ⟨(if lo == hi then (o, o + n) else (min lo o, max hi (o + n))), by simp [Array.getElem?_modify, hb], fun h h2 => ?_, fun k hk => ?_, by simp, by first | trivial | rfl, by first | trivial | rfl, by first | trivial | rfl⟩
    · cases h; right; simpa using h2
    · simp only [Array.getElem?_modify]
      rw [if_neg (fun e => hk e.symm)]

/-- The bytes of rows. -/
def bytesOf (n : Nat) (row : Nat → List SV) : List Int := (List.range' 0 n).map fun y => byteOf (row y)

theorem strOf_eq (n : Nat) (row : Nat → List SV) : strOf n row = strOfNums (bytesOf n row) := by
  unfold strOf strOfNums bytesOf
  simp only [List.map_map]
  rfl

theorem bytes_cells {n : Nat} {row : Nat → List SV} {l : List Value} (h : Rows δ 1 n row l) (hb : ∀ y, y < n → isByte (row y)) : l = (bytesOf n row).map (Value.int .u8) := by
  have key : ∀ y, y < n → l[y]? = some (.int .u8 (byteOf (row y))) := fun y hy => by
    obtain ⟨g1, g2⟩ := h.2 y hy
    have h3 := hb y hy
    unfold isByte at h3
    split at h3
    · rename_i k hk
      obtain ⟨r, g3, g4⟩ := g2 0 (.v (.int .u8 k)) (by rw [hk]; rfl)
      simp only [absV] at g4
      subst g4
      simpa [byteOf, hk] using g3
    · exact h3.elim
  have hlen : l.length = n := by have := h.1; omega
  apply List.ext_getElem?
  intro y
  simp only [bytesOf, List.getElem?_map]
  by_cases hy : y < n
  · rw [key y hy, List.getElem?_range' (by omega)]
    simp
  · rw [List.getElem?_eq_none (by omega), List.getElem?_eq_none (by simp; omega)]
    rfl

/-- A block's cells are there. -/
theorem blk_shape {b : Blk} {r o : Nat} (hb : blkRep δ b w r o) : ∃ e cells, w.shape? r = some (e, cells) ∧ o + b.ext * b.size ≤ cells ∧ (b.elem ≠ 0 → e = b.elem) ∧ (b.whole = true → o = 0 ∧ cells = b.size) := by
  obtain ⟨c, e, fz, h1, _, _, h4, h5, h6, _⟩ := hb
  exact ⟨e, c.size, by simp [World.shape?, h1], h5, h4, h6⟩

theorem conv_ok {src dst : TypeId} {x : SV} {rx : Value} {base : Nat} {e : Eff} (he : convS P src dst x h base = some e) (hx : absV δ x rx) (hr : HRep δ h w) (hp : e.asks)
    (hn : (∃ y u, EffOut e y u ∧ inNames base u = true) → h base = none ∧ δ base = none) : ValOk δ h w e ((convert src dst rx).run P w) := by
  unfold convS at he
  split at he
  · -- integers
    rename_i s k k' n hs hd
    simp only [absV] at hx
    subst hx
    cases he
    exact ValOk.same (y := .int k (k.wrap n)) hr rfl (by simp [convert, run_underlying hs, run_underlying hd, Conv.intToInt]) (absV_v.2 rfl)
  · rename_i s hs hd
    simp only [absV] at hx
    subst hx
    cases he
    exact ValOk.same (y := .string s) hr rfl (by simp [convert, run_underlying hs, run_underlying hd]) (absV_v.2 rfl)
  · -- a string's bytes
    rename_i e s hs hd
    split at he <;> try (cases he; done)
    rename_i hel
    cases he
    simp only [absV] at hx
    subst hx
    obtain ⟨hn1, hn2⟩ := hn ⟨_, _, ⟨0, rfl, rfl⟩, by simp [inNames]⟩
    have hge := grown_ge w s.size 0 e
    obtain ⟨q, hq⟩ : ∃ q, grownCap w s.size 0 e = s.size + q := ⟨_, (Nat.add_sub_cancel' hge).symm⟩
    let c : Array Value := s.data.map (fun b => Value.int .u8 b.toNat) ++ Array.replicate (grownCap w s.size 0 e - s.size) (.int .u8 0)
    have hcs : c.size = s.size + q := by
      have : s.data.size = s.size := rfl
      simp [c, hq, this]
    have hnew : (w.drew.alloc (.cells c e) : World).heap[w.heap.size]? = some (.cells c e (0, 0)) := heap_alloc_new w.drew _
    obtain ⟨fz, f1, f2, f3, f4, f5, f6, f7⟩ := freeze_heap hnew c.size 1
    obtain ⟨δ', u1, u2⟩ := new_okW (b := { elem := e, size := 1, rw := true, lock := false, lit := false, flat := true, n := s.size, row := fun y => [.v (.int .u8 (s.data.toList.getD y 0).toNat)], ext := s.size + q }) (w := w) (el := e) (c := c)
      f1 (f2 rfl (Nat.le_refl _)) (fun r hr' => by rw [f3 r (by omega)]; exact heap_alloc_old w.drew _ hr') (by rw [f4]; simp [World.alloc]) f5 f6 f7 hr hn1 hn2 (fun _ => rfl) (by rw [hcs]; simp) (fun hh => (by cases hh)) (fun _ y _ => by simp [namelessL, nameless]) (fun y hy => by
        refine ⟨rfl, fun j v hv => ?_⟩
        match j, hv with
        | 0, hv =>
          simp only [List.getElem?_cons_zero, Option.some.injEq] at hv
          subst hv
          have hlt : y < s.data.size := hy
          refine ⟨.int .u8 (s.data.toList.getD y 0).toNat, ?_, by simp only [absV]⟩
          simp only [c, Nat.zero_add, Nat.mul_one, Nat.add_zero]
          rw [Array.getElem?_append_left (by simpa using hlt)]
          simp only [List.getD, Array.getElem?_map, Array.getElem?_toList, Array.getElem?_eq_getElem hlt, Option.map_some, Option.getD_some]
        | j + 1, hv => simp at hv)
    refine ⟨.slice (some ⟨w.heap.size, 0, none⟩) s.size (s.size + q), _, _, _, δ', ?_, ⟨q, rfl, rfl⟩, ?_, u1⟩
    · have hcc : (Question.appendCap s.size 0 e).cut (w.tape w.drawn (.appendCap s.size 0 e)) = s.size + q := hq
      have hrun : (convert src dst (.string s)).run P w = (Conv.stringToBytes e s).run P w := by simp [convert, run_underlying hs, run_underlying hd, run_underlying hel]
      rw [hrun]
      have hc' : s.data.map (fun b => Value.int .u8 b.toNat) ++ Array.replicate (s.size + q - s.size) (Value.int .u8 0) = c := by simp only [c, hq]
      have hsh : ∀ v : World, v.heap[w.heap.size]? = some (.cells c e (0, 0)) → (markStringish ⟨w.heap.size, 0, none⟩).run P v = .ok () (v.freeze ⟨w.heap.size, c.size, none⟩ 1) := fun v hv => by
        have : v.shape? w.heap.size = some (e, c.size) := by simp [World.shape?, hv]
        simp [markStringish, freeze, this, Sem.run]
      have hch : (choose (.appendCap s.size 0 e)).run P w = .ok (s.size + q) w.drew := by simp [choose, Sem.run, Question.forced, hcc]
      have hnr : (newRow e c).run P w.drew = .ok ⟨w.heap.size, 0, none⟩ (w.drew.alloc (.cells c e)) := by simp [newRow]
      simp only [Conv.stringToBytes, Sem.run_bind, hch, Result.andThen_ok, hc', hnr, hsh _ hnew, Sem.run_pure]
    · simp only [absV]
      exact ⟨_, u2, rfl, by simp, .inl ⟨rfl, by simp⟩⟩
  · -- bytes to a string
    rename_i e k s i n cap hs hd
    split at he <;> try (cases he; done)
    rename_i b hel hk
    cases hb : (!b.dead && Nat.beq s 1) with
    | false => rw [hb] at he; cases he
    | true =>
      rw [hb, cond_true] at he
      cases he
      simp only [Bool.and_eq_true, Bool.not_eq_true'] at hb
      have := Nat.eq_of_beq_eq_true hb.2
      subst this
      obtain ⟨_, _, hco⟩ := src_ok (P := P) (sz := 1) (x := .sl k 1 i n cap) (h := h) (m := n) (rows := fun y => b.row (i + y)) (fl := b.flat) (by simp [srcRows, hk, hb.1]) hx hr (by omega)
      obtain ⟨l, l1, l2⟩ := hco n (Nat.le_refl _)
      have l3 := bytes_cells l1 (hp _ rfl)
      have l4 := l2 w rfl
      refine ValOk.same (y := .string (strOfNums (bytesOf n fun y => b.row (i + y)))) hr rfl ?_ (absV_v.2 (by rw [strOf_eq]))
      simp only [absV] at hx
      obtain ⟨p, d1, d2, d3, d4⟩ := hx
      rcases d4 with ⟨_, rfl⟩ | ⟨rfl, rfl, a, rfl⟩
      · rw [run_convert_bytes_string w src dst e _ _ _ hs hel hd]
        have h5 : (loadCells ⟨p.r, p.o + i * 1, none⟩ n).run P w = .ok ((bytesOf n fun y => b.row (i + y)).map (Value.int .u8)).toArray w := by
          rw [← l3]
          simpa [Builtin.firstCells] using l4
        rw [run_bytesToString w _ n cap _ h5, foldl_push_bytes]
        simp [strOfNums, ByteArray.empty, ByteArray.emptyWithCapacity]
        rfl
      · rw [run_convert_bytes_string w src dst e _ _ _ hs hel hd]
        cases a with
        | none => simp [Conv.bytesToString, bytesOf, strOfNums]; rfl
        | some a =>
          rw [run_bytesToString w _ 0 0 [] (by simp [loadCells, loadCellsFrom])]
          simp [bytesOf, strOfNums]; rfl
  · -- nil to a string
    rename_i e n c hs hd
    split at he <;> try (cases he; done)
    rename_i hel
    cases he
    simp only [absV] at hx
    subst hx
    exact ValOk.same hr rfl (run_convert_bytes_nil (P := P) w src e hs hel _ _ dst hd) (absV_v.2 rfl)
  · -- to unsafe.Pointer
    rename_i t k j hs hd
    split at he <;> try (cases he; done)
    rename_i b m hk hm
    cases hb : (!b.dead && !Nat.beq m 0 && Nat.blt j (b.row 0).length) with
    | false => rw [hb] at he; cases he
    | true =>
      rw [hb, cond_true] at he
      cases he
      simp only [Bool.and_eq_true, Bool.not_eq_true'] at hb
      obtain ⟨⟨b1, b2⟩, b3⟩ := hb
      obtain ⟨p, d1, d2⟩ := hr.blk k b hk
      have hlv := d2 b1
      have hx0 := hx
      simp only [absV] at hx
      obtain ⟨p', e1, e2, rfl⟩ := hx
      rw [d1] at e1; cases e1
      have hno := hlv.notNo e2
      have hpn := hlv.n
      obtain ⟨c, e0, fz, c1, c2, c3, c4, c5, c6, c7⟩ := hlv.rep hno
      obtain ⟨g1, g2⟩ := c7 0 (by omega)
      have hj : j < (b.row 0).length := by
        have h9 : j + 1 ≤ (b.row 0).length := Nat.le_of_ble_eq_true b3
        omega
      obtain ⟨r', g3, _⟩ := g2 j _ (List.getElem?_eq_getElem hj)
      have g4 := (Array.getElem?_eq_some_iff.1 g3).1
      obtain ⟨ti, t1, t2⟩ : ∃ i, P.info? t = some i ∧ i.size = m := by
        unfold sizeT at hm
        cases hi : P.info? t with
        | none => rw [hi] at hm; cases hm
        | some i => rw [hi] at hm; cases hm; exact ⟨i, rfl, rfl⟩
      refine ValOk.same hr rfl (Lib.run_to_unsafe (P := P) w ⟨p.r, p.o + j, none⟩ hs hd t1 (by rw [t2]; intro h0; subst h0; simp at b2) (e := e0) (cells := c.size) (by simp [World.shape?, c1]) (by simp only; omega)) hx0
  · -- from unsafe.Pointer
    rename_i u k j hs hd
    split at he <;> try (cases he; done)
    rename_i b m hk hm
    cases hb : (!b.dead && !Nat.beq m 0 && Nat.beq j 0 && !Nat.beq u 0 && Nat.beq b.elem u && Nat.beq b.size m && Nat.blt 0 P.depth && b.whole) with
    | false => rw [hb] at he; cases he
    | true =>
      rw [hb, cond_true] at he
      cases he
      simp only [Bool.and_eq_true, Bool.not_eq_true'] at hb
      obtain ⟨⟨⟨⟨⟨⟨⟨b1, b2⟩, b3⟩, b4⟩, b5⟩, b6⟩, b7⟩, b8⟩ := hb
      have := Nat.eq_of_beq_eq_true b3
      subst this
      have hbu := Nat.eq_of_beq_eq_true b5
      have hbm := Nat.eq_of_beq_eq_true b6
      obtain ⟨p, d1, d2⟩ := hr.blk k b hk
      have hlv := d2 b1
      have hx0 := hx
      simp only [absV] at hx
      obtain ⟨p', e1, e2, rfl⟩ := hx
      rw [d1] at e1; cases e1
      have hno := hlv.notNo e2
      obtain ⟨c, e0, fz, c1, c2, c3, c4, c5, c6, c7⟩ := hlv.rep hno
      obtain ⟨w1, w2⟩ := c6 b8
      have he0 : e0 = u := by
        rw [← hbu]
        refine c4 fun h0 => ?_
        rw [hbu] at h0
        subst h0
        simp at b4
      subst he0
      obtain ⟨ti, t1, t2⟩ : ∃ i, P.info? e0 = some i ∧ i.size = m := by
        unfold sizeT at hm
        cases hi : P.info? e0 with
        | none => rw [hi] at hm; cases hm
        | some i => rw [hi] at hm; cases hm; exact ⟨i, rfl, rfl⟩
      have hm0 : m ≠ 0 := fun h0 => by subst h0; simp at b2
      have hcells : P.cellsOf e0 = m := by simp [Program.cellsOf, t1, t2]
      have hlies : liesAt P P.depth e0 (c.size / P.cellsOf e0) (p.o + 0) e0 1 = true := by
        have hd : P.depth = (2 * (P.types.size + Made.depth) + 1) + 1 := rfl
        rw [w2, hbm, hcells, Nat.div_self (by omega), w1]
        rw [hd]
        simp only [liesAt, Bool.or_eq_true]
        left
        rw [hd]
        simp [rowAt, hcells, hm0, sameLayout]
      exact ValOk.same hr rfl (Lib.run_from_unsafe (P := P) w ⟨p.r, p.o + 0, none⟩ hs hd t1 (e := e0) (cells := c.size) (by simp [World.shape?, c1]) hlies) hx0
  · cases he

theorem len_ok {t : TypeId} {x : SV} {n : Int} {r : Value} {args : Array Value} {ts : Array TypeId} {ty : TypeId} (hl : lenS P t x = some n) (hx : absV δ x r) (ha : args[0]? = some r) (ht : ts[0]? = some t) :
    (Builtin.len_ ts ty args).run P w = .ok (.int .i64 n) w := by
  unfold lenS at hl
  split at hl
  · rename_i s hu
    simp only [absV] at hx
    subst hx
    cases hl
    simp [Builtin.len_, ha, ht, run_underlying hu, goInt]
  · rename_i e k sz i m c hu
    simp only [absV] at hx
    cases hl
    obtain ⟨p, _, _, _, ⟨_, rfl⟩ | ⟨rfl, rfl, a, rfl⟩⟩ := hx <;> simp [Builtin.len_, ha, ht, run_underlying hu, goInt]
  · rename_i e m c hu
    simp only [absV] at hx
    subst hx
    cases hl
    simp [Builtin.len_, ha, ht, run_underlying hu, goInt]
  · rename_i m e hu
    cases hl
    simp [Builtin.len_, ha, ht, run_underlying hu, goInt]
  · rename_i a hu
    split at hl <;> try (cases hl; done)
    rename_i m e ha'
    cases hl
    simp [Builtin.len_, ha, ht, run_underlying hu, run_underlying ha', goInt]
  · cases hl


theorem run_fold {f : Value → Value → Sem Value} {g : Int → Int → Int} {k : IntKind} (hf : ∀ a b, (f (.int k a) (.int k b)).run P w = .ok (.int k (g a b)) w) : ∀ (l : List SV) (rs : List Value) (a n : Int), foldInt g k a l = some n → absL δ l rs → (rs.foldlM f (.int k a)).run P w = .ok (.int k n) w := by
  intro l
  induction l with
  | nil =>
    intro rs a n h hl
    cases rs with
    | nil =>
      simp only [foldInt, Option.some.injEq] at h
      subst h
      simp
    | cons _ _ => simp only [absL] at hl
  | cons x l ih =>
    intro rs a n h hl
    cases rs with
    | nil => simp only [absL] at hl
    | cons r rs =>
      simp only [absL] at hl
      unfold foldInt at h
      split at h
      · rename_i heq; cases heq
      · rename_i k' b rest heq
        cases heq
        split at h <;> try (cases h; done)
        rename_i hk
        subst hk
        simp only [absV] at hl
        obtain ⟨rfl, h2⟩ := hl
        simp only [List.foldlM_cons, Sem.run_bind, hf, Result.andThen_ok]
        exact ih rs _ n h h2
      · cases h

theorem run_loadBytes' : ∀ (l : List Int) (a : Addr) (acc : ByteArray), (∀ (j : Nat) x, l[j]? = some x → w.cell? (a.add j) = some (.int .u8 x)) →
    (loadBytes a acc l.length).run P w = .ok ⟨acc.data ++ (l.map fun n => UInt8.ofNat n.toNat).toArray⟩ w
  | [], a, acc, _ => by simp [loadBytes]
  | x :: l, a, acc, h => by
    have h0 : w.cell? a = some (.int .u8 x) := by
      have := h 0 x rfl
      simpa [Addr.add] using this
    have ih := run_loadBytes' l (a.add 1) (acc.push (UInt8.ofNat x.toNat)) (fun j y hy => by
      have := h (j + 1) y (by simpa using hy)
      have e : (a.add 1).add j = a.add (j + 1) := by
        unfold Addr.add
        by_cases hj : j = 0
        · subst hj; simp
        · simp [hj]; omega
      rw [e]; exact this)
    have hx : (x.toNat).toUInt8 = UInt8.ofNat x.toNat := rfl
    simp only [List.length_cons, loadBytes, Sem.run_bind, run_load, h0, Result.andThen, hx]
    rw [ih]
    congr 1
    apply ByteArray.ext
    simp [ByteArray.push]

theorem liesAt_bytes' {e : TypeId} (hc : P.cellsOf e = 1) (count o n : Nat) (hn : o + n ≤ count) : liesAt P P.depth e count o e n = true := by
  have hd : P.depth = (2 * (P.types.size + Made.depth) + 1) + 1 := rfl
  rw [hd]
  simp only [liesAt, Bool.or_eq_true]
  left
  rw [hd]
  simp [rowAt, hc, hn, sameLayout, Nat.mod_one]

theorem run_unsafeString' {pt ty e : TypeId} {ts : Array TypeId} (h0 : ts[0]? = some pt) (hp : P.underlying pt = some (.pointer e)) (hc : P.cellsOf e = 1) (g o cells : Nat) (hsh : w.shape? g = some (e, cells)) (l : List Int) (hl0 : l ≠ []) (hn : o + l.length ≤ cells) (h63 : l.length ≤ 9223372036854775807)
    (hcell : ∀ (j : Nat) x, l[j]? = some x → w.cell? ((⟨g, o, none⟩ : Addr).add j) = some (.int .u8 x)) :
    (Builtin.unsafeString_ ts ty #[.pointer (some ⟨g, o, none⟩), .int .i64 l.length]).run P w = .ok (.string (strOfNums l)) (w.freeze ⟨g, o, none⟩ l.length) := by
  have hl : l.length ≠ 0 := by simpa using hl0
  have hlb := run_loadBytes' (P := P) (w := w) l ⟨g, o, none⟩ .empty hcell
  have hlies := liesAt_bytes' (P := P) hc (cells / P.cellsOf e) o l.length (by rw [hc]; simpa using hn)
  have h63' : ¬ (9223372036854775807 : Int) < (l.length : Int) := by omega
  have hmax : IntKind.i64.max = 9223372036854775807 := rfl
  have hneg : ¬ (l.length : Int) < 0 := by omega
  have e1 : (⟨ByteArray.empty.data ++ (l.map fun n => UInt8.ofNat n.toNat).toArray⟩ : ByteArray) = strOfNums l := by
    simp [strOfNums, ByteArray.empty, ByteArray.emptyWithCapacity]
    rfl
  rw [e1] at hlb
  delta Builtin.unsafeString_ Builtin.unsafeString_.match_3
  dsimp [Array.getLit]
  simp [asInt, asIntOf, hmax, h63', hneg, hl, h0, variablesAt, hsh, elemOf, run_underlying hp, hlies, hlb]

/-- The name k is no more; its block may have turned. -/
theorem kill_ok {k : Nat} {b : Blk} {p : Loc} {w' : World} (hr : HRep δ h w) (hk : h k = some b) (hrw : b.rw = true) (hdead : b.dead = false) (hd : δ k = some p) (hno : p.no = false)
    (hos : w'.os = w.os) (htape : w'.tape = w.tape) (hout : w'.output = w.output) (hsize : w.heap.size ≤ w'.heap.size) (hold : ∀ r, r ≠ p.r → r < w.heap.size → w'.heap[r]? = w.heap[r]?) : Upd δ h w δ [(k, killed b)] w' :=
  upd_one hr hk hrw hdead hd hno (fun hh => by simp [killed] at hh) hos htape hout hsize hold

theorem builtin_ok {b : Builtin} {cts : Array TypeId} {ty : TypeId} {consts : Array Bool} {vs : List SV} {args : Array Value} {base : Nat} {e : Eff} (he : builtinS P b cts.toList vs h base = some e) (ha : absL δ vs args.toList) (hr : HRep δ h w) (hp : e.asks)
    (hn : ∀ x u, EffOut e x u → ∀ k, inNames k u = true → h k = none → δ k = none) : ∃ m : Sem Value, builtin b cts ty consts args = (do pure (.value (← m))) ∧ ValOk δ h w e (m.run P w) := by
  unfold builtinS at he
  split at he
  · -- len
    rename_i t ts x rest hts
    split at he <;> try (cases he; done)
    rename_i n hl
    cases he
    match hargs : args.toList, ha with
    | r :: rs, ha =>
      simp only [absL] at ha
      have h0 : args[0]? = some r := by rw [← Array.getElem?_toList, hargs]; rfl
      have t0 : cts[0]? = some t := by rw [← Array.getElem?_toList, hts]; rfl
      exact ⟨_, rfl, ValOk.same hr rfl (len_ok (P := P) (w := w) hl ha.1 h0 t0) (absV_v.2 rfl)⟩
    | [], ha => simp only [absL] at ha
  · -- max
    rename_i k a rest
    split at he <;> try (cases he; done)
    rename_i n hf
    cases he
    match hargs : args.toList, ha with
    | r :: rs, ha =>
      simp only [absL, absV] at ha
      obtain ⟨rfl, h2⟩ := ha
      refine ⟨_, rfl, ValOk.same hr rfl ?_ (absV_v.2 rfl)⟩
      unfold Builtin.max_
      rw [hargs]
      refine run_fold (fun a b => ?_) rest rs a n hf h2
      simp only [Builtin.max2, Sem.run_pure]
      congr 2
      by_cases hab : b > a
      · rw [if_pos hab]; omega
      · rw [if_neg hab]; omega
    | [], ha => simp only [absL] at ha
  · -- min
    rename_i k a rest
    split at he <;> try (cases he; done)
    rename_i n hf
    cases he
    match hargs : args.toList, ha with
    | r :: rs, ha =>
      simp only [absL, absV] at ha
      obtain ⟨rfl, h2⟩ := ha
      refine ⟨_, rfl, ValOk.same hr rfl ?_ (absV_v.2 rfl)⟩
      unfold Builtin.min_
      rw [hargs]
      refine run_fold (fun a b => ?_) rest rs a n hf h2
      simp only [Builtin.min2, Sem.run_pure]
      congr 2
      by_cases hab : b < a
      · rw [if_pos hab]; omega
      · rw [if_neg hab]; omega
    | [], ha => simp only [absL] at ha
  · -- append
    rename_i t tx ts s x hts
    match hargs : args.toList, ha with
    | [rs, rx], ha =>
      simp only [absL, and_true] at ha
      have h0 : args[0]? = some rs := by rw [← Array.getElem?_toList, hargs]; rfl
      have h1 : args[1]? = some rx := by rw [← Array.getElem?_toList, hargs]; rfl
      have t0 : cts[0]? = some t := by rw [← Array.getElem?_toList, hts]; rfl
      have t1 : cts[1]? = some tx := by rw [← Array.getElem?_toList, hts]; rfl
      exact ⟨_, rfl, append_ok he t0 t1 h0 h1 ha.1 ha.2 hr hp hn⟩
    | [], ha => simp only [absL] at ha
    | [_], ha => simp [absL] at ha
    | _ :: _ :: _ :: _, ha => simp [absL] at ha
  · -- copy
    rename_i t ts s x hts
    match hargs : args.toList, ha with
    | [rs, rx], ha =>
      simp only [absL, and_true] at ha
      have h0 : args[0]? = some rs := by rw [← Array.getElem?_toList, hargs]; rfl
      have h1 : args[1]? = some rx := by rw [← Array.getElem?_toList, hargs]; rfl
      have t0 : cts[0]? = some t := by rw [← Array.getElem?_toList, hts]; rfl
      exact ⟨_, rfl, copy_ok he t0 h0 h1 ha.1 ha.2 hr hp⟩
    | [], ha => simp only [absL] at ha
    | [_], ha => simp [absL] at ha
    | _ :: _ :: _ :: _, ha => simp [absL] at ha
  · -- unsafe.SliceData
    rename_i k i n c
    cases he
    obtain ⟨p1, p2⟩ := hp _ rfl
    match hargs : args.toList, ha with
    | [r], ha =>
      simp only [absL, absV, and_true] at ha
      obtain ⟨p, d1, d2, d3, d4⟩ := ha
      rcases d4 with ⟨hno, rfl⟩ | ⟨h0, _⟩
      · have : args = #[.slice (some ⟨p.r, p.o + i * 1, none⟩) n c] := by rw [← Array.toArray_toList (xs := args), hargs]
        subst this
        refine ⟨_, rfl, ValOk.same hr rfl (Lib.run_unsafeSliceData_row (P := P) w cts ty _ n c (by omega)) ?_⟩
        simp only [absV]
        exact ⟨p, d1, by omega, by rw [d2]; simp⟩
      · omega
    | [], ha => simp only [absL] at ha
    | _ :: _ :: _, ha => simp [absL] at ha
  · -- unsafe.String
    rename_i t ts k m hts
    split at he <;> try (cases he; done)
    rename_i el b hu hk
    split at he <;> try (cases he; done)
    rename_i hel
    cases hb : (b.rw && !b.dead && Nat.beq b.size 1 && Nat.beq b.elem el && !Nat.beq el 0 && P.cellsOf el == 1 && Nat.blt 0 P.depth) with
    | false => rw [hb] at he; cases he
    | true =>
      rw [hb, cond_true] at he
      cases he
      simp only [Bool.and_eq_true, Bool.not_eq_true', beq_iff_eq] at hb
      obtain ⟨⟨⟨⟨⟨⟨b1, b2⟩, b3⟩, b4⟩, b5⟩, b6⟩, b7⟩ := hb
      obtain ⟨p1, p2, p4, p3⟩ := hp _ rfl
      match hargs : args.toList, ha with
      | [r, rm], ha =>
        simp only [absL, absV, and_true] at ha
        obtain ⟨⟨p, d1, d2, rfl⟩, rfl⟩ := ha
        have hargs' : args = #[.pointer (some ⟨p.r, p.o + 0 * p.s + 0, none⟩), .int .i64 m] := by rw [← Array.toArray_toList (xs := args), hargs]
        subst hargs'
        obtain ⟨p', e1, e2⟩ := hr.blk k b hk
        rw [d1] at e1; cases e1
        have hlv := e2 b2
        have hno := hlv.notNo d2
        have hbs := Nat.eq_of_beq_eq_true b3
        have hbe := Nat.eq_of_beq_eq_true b4
        have hel0 : b.elem ≠ 0 := fun h0 => by rw [hbe] at h0; subst h0; simp at b5
        obtain ⟨c, e0, fz, c1, c2, c3, c4, c5, c6, c7⟩ := hlv.rep hno
        have he0 : e0 = el := (c4 hel0).trans hbe
        subst he0
        obtain ⟨q, rfl⟩ : ∃ q : Nat, m = q := ⟨m.toNat, by omega⟩
        have hq : q ≤ b.n := by omega
        -- the rows' bytes
        obtain ⟨_, _, hco⟩ := src_ok (P := P) (δ := δ) (w := w) (sz := 1) (x := .sl k 1 0 b.n b.n) (rx := .slice (some ⟨p.r, p.o + 0 * 1, none⟩) b.n b.n) (h := h) (m := b.n) (rows := fun y => b.row (0 + y)) (fl := b.flat) (by simp [srcRows, hk, b2]) (by
          simp only [absV]
          exact ⟨p, d1, hlv.s.trans hbs, by have := hlv.n; omega, .inl ⟨hno, rfl⟩⟩) hr (by omega)
        obtain ⟨l, l1, l2⟩ := hco q hq
        have l3 := bytes_cells l1 (fun y hy => by rw [Nat.zero_add]; exact p3 y (by omega))
        have l4 := l2 w rfl
        simp only [Builtin.firstCells, Nat.zero_mul, Nat.add_zero, Nat.mul_one] at l4
        have hsame : bytesOf q (fun y => b.row (0 + y)) = bytesOf q b.row := by simp [bytesOf]
        rw [hsame] at l3
        have hlen : (bytesOf q b.row).length = q := by simp [bytesOf]
        have hle : p.o + q ≤ c.size := by
          have hq1 : q - 1 < b.n := by omega
          obtain ⟨g1, g2⟩ := c7 (q - 1) hq1
          rw [hbs] at g1 g2
          have hj : 0 < (b.row (q - 1)).length := by omega
          obtain ⟨r', g3, _⟩ := g2 0 _ (List.getElem?_eq_getElem hj)
          have := (Array.getElem?_eq_some_iff.1 g3).1
          omega
        obtain ⟨l', m1, m2, m3⟩ := loadCells_ok (P := P) c1 p.o q hle
        rw [m3] at l4
        have hll : l' = l := by simpa using l4
        obtain ⟨fz', f1, f2, f3, f4, f5, f6, f7⟩ := freeze_heap c1 p.o q
        refine ⟨_, rfl, .string (strOfNums (bytesOf q b.row)), w.freeze ⟨p.r, p.o, none⟩ q, _, _, δ, ?_, ⟨rfl, rfl⟩, absV_v.2 (by rw [strOf_eq]; simp), kill_ok hr hk b1 b2 d1 hno f5 f6 f7 (by omega) (fun r hne _ => f3 r hne)⟩
        have hrun := run_unsafeString' (P := P) (w := w) (ts := cts) (ty := ty) (pt := t) (by rw [← Array.getElem?_toList, hts]; rfl) hu b6 p.r p.o c.size (by simp [World.shape?, c1]) (bytesOf q b.row) (fun h0 => by rw [h0] at hlen; simp at hlen; omega) (by omega) (by
          rw [hlen]
          omega) (fun j x hx => by
          have hj : j < q := by rw [← hlen]; exact (List.getElem?_eq_some_iff.1 hx).1
          rw [Addr.add_lit, cell_of c1, ← m2 j hj, hll, l3, List.getElem?_map, hx]
          rfl)
        rw [hlen] at hrun
        have e0 : p.o + 0 * p.s + 0 = p.o := by omega
        rw [e0]
        exact hrun
      | [], ha => simp only [absL] at ha
      | [_], ha => simp [absL] at ha
      | _ :: _ :: _ :: _, ha => simp [absL] at ha
  · cases he
end
end Go.SE
