/-
  The symbolic executor's operations: whatever 'opS' says of an operation, the model does.
-/
import Derived.Test.YtjdldadmaaeimaaSeConv
namespace Go.SE
section
variable {P : Program} {δ : Dict} {h : Heap} {w : World}

theorem isConst_eq {x : Operand} (hc : isConst x = true) : ∃ v, x = .const v := by
  cases x <;> first | exact ⟨_, rfl⟩ | (simp [isConst] at hc)

theorem addr_ok {x x' : SV} {j : Nat} {r : Value} (ha : addrS j x = some x') (hx : absV δ x r) : ∃ b o, r = .pointer (some ⟨b, o, none⟩) ∧ absV δ x' (.pointer (some ⟨b, o + j, none⟩)) := by
  cases x <;> simp only [addrS] at ha <;> try (cases ha; done)
  case vp k i =>
    cases ha
    simp only [absV] at *
    obtain ⟨p, h1, h2, rfl⟩ := hx
    exact ⟨p.r, p.o + i, rfl, p, h1, h2, by simp [Nat.add_assoc]⟩
  case ptr k i i' =>
    cases ha
    simp only [absV] at *
    obtain ⟨p, h1, h2, rfl⟩ := hx
    exact ⟨p.r, p.o + i * p.s + i', rfl, p, h1, h2, by simp [Nat.add_assoc]⟩

theorem Addr.add_spot (b o n : Nat) : (⟨b, o, none⟩ : Addr).add n = ⟨b, o + n, none⟩ := Addr.add_lit b o n

theorem un_ok {op : UnOp} {x v : SV} {r : Value} (hu : unS op x = some v) (hx : absV δ x r) : ∃ y, (Op.unary op r).run P w = .ok y w ∧ absV δ v y := by
  unfold unS at hu
  split at hu <;> try (cases hu; done)
  all_goals
    simp only [absV] at hx
    subst hx
    cases hu
    refine ⟨_, ?_, absV_v.2 rfl⟩
    simp [Op.unary, Op.intArith, intBits_xor]

theorem run_newRow (e : TypeId) (c : Array Value) (w : World) : (newRow e c).run P w = .ok ⟨w.heap.size, 0, none⟩ (w.alloc (.cells c e)) := by
  simp [newRow]

/-- One variable's block, made. -/
theorem var_new {n : Nat} {t : TypeId} {cs : List SV} {c : List Value} (hr : HRep δ h w) (hn : h n = none) (hd : δ n = none) (hc : absL δ cs c) :
    ∃ δ', Upd δ h w δ' [(n, varBlk t cs)] (w.alloc (.cells c.toArray t)) ∧ absV δ' (.vp n 0) (.pointer (some ⟨w.heap.size, 0, none⟩)) := by
  have hlen := absL_length hc
  obtain ⟨δ', h1, h2⟩ := new_ok (b := varBlk t cs) (c := c.toArray) (el := t) hr hn hd (fun _ => rfl) (by simp [varBlk, hlen]) (fun _ => by simp [varBlk, hlen]) (fun hf i _ => hf) (fun i hi => ⟨rfl, fun j x hx => by
    have : i = 0 := by simp only [varBlk] at hi; omega
    subst this
    obtain ⟨r, g1, g2⟩ := absL_get hc hx
    exact ⟨r, by simpa using g1, g2⟩⟩)
  exact ⟨δ', h1, by simp only [absV]; exact ⟨_, h2, Nat.zero_lt_one, by simp⟩⟩

theorem zeros_ok {z : List SV} {zv : Array Value} {m k : Nat} (hz : z = zv.toList.map .v) (hm : z.length = m) (hpos : 0 < m) :
    absL δ (zerosL z m k) ((Array.range k).map (fun x => zv[x % zv.size]!)).toList := by
  have hsz : zv.size = m := by rw [← hm, hz]; simp
  refine absL_of_get (by simp [zerosL]) fun i x hx => ?_
  simp only [zerosL, List.getElem?_map] at hx
  have hi : i < k := by
    rcases Nat.lt_or_ge i k with h' | h'
    · exact h'
    · simp [List.getElem?_eq_none (show (List.range k).length ≤ i by simpa using h')] at hx
  simp only [List.getElem?_range hi, Option.map_some, Option.some.injEq] at hx
  have hlt : i % m < m := Nat.mod_lt _ hpos
  have hlt' : i % m < zv.size := by omega
  refine ⟨zv[i % zv.size]!, by simp [hi], ?_⟩
  rw [← hx, hz, hsz]
  simp only [List.getD, List.getElem?_map, Array.getElem?_toList, Array.getElem?_eq_getElem hlt', Option.map_some, Option.getD_some, absV]
  simp [hlt']

theorem flat_ok {n m : Nat} {flat : List SV} {c : Array Value} (hc : absL δ flat c.toList) (hl : flat.length = n * m) : ∀ i, i < n → rowRep δ c m 0 i ((flat.drop (i * m)).take m) := by
  intro i hi
  have hle : (i + 1) * m ≤ n * m := Nat.mul_le_mul_right _ hi
  rw [Nat.add_mul] at hle
  refine ⟨by simp; omega, fun j x hx => ?_⟩
  rw [List.getElem?_take] at hx
  split at hx
  · rw [List.getElem?_drop] at hx
    obtain ⟨r, h1, h2⟩ := absL_get hc hx
    exact ⟨r, by simpa using h1, h2⟩
  · cases hx

theorem ofConst_abs {δ : Dict} (v : Value) : absV δ (ofConst v) v := by
  unfold ofConst
  split
  · simp only [absV]; exact ⟨_, by simp, absL_vs _⟩
  · simp only [absV]

theorem chunks_len {m : Nat} : ∀ {n : Nat} {l : List SV}, (chunks m n l).length = n
  | 0, _ => rfl
  | n + 1, l => by simp [chunks, chunks_len]
theorem chunks_get {m : Nat} : ∀ {n : Nat} {l : List SV} {i : Nat}, i < n → (chunks m n l)[i]? = some ((l.drop (i * m)).take m)
  | n + 1, l, 0, _ => by simp [chunks]
  | n + 1, l, i + 1, h => by
    simp only [chunks, List.getElem?_cons_succ]
    rw [chunks_get (by omega), List.drop_drop, Nat.add_mul, Nat.one_mul, Nat.add_comm m]
theorem pickR_get {i : Nat} : ∀ {L : List (List SV)} {j : Nat} {r : List SV}, j ≤ i → L[i - j]? = some r → pickR i L j = r
  | [], j, r, _, h => by simp at h
  | [x], j, r, hj, h => by
    have h1 := (List.getElem?_eq_some_iff.1 h).1
    simp only [List.length_singleton] at h1
    rw [show i - j = 0 by omega] at h
    simpa [pickR] using h
  | x :: y :: L, j, r, hj, h => by
    simp only [pickR, mrgL_eq]
    by_cases he : i = j
    · subst he
      rw [Nat.sub_self] at h
      simp at h
      simp [h]
    · rw [beq_false he, cond_false]
      refine pickR_get (by omega) ?_
      rw [show i - j = (i - (j + 1)) + 1 by omega, List.getElem?_cons_succ] at h
      exact h
theorem flat_row {m n : Nat} {flat : List SV} {i : Nat} (hi : i < n) : pickR i (chunks m n flat) 0 = (flat.drop (i * m)).take m :=
  pickR_get (Nat.zero_le i) (by rw [Nat.sub_zero]; exact chunks_get hi)

theorem fillS_len {place : Nat → Option (Nat × Nat)} : ∀ (parts : List (Nat × SV)) (cells out : List SV), fillS place cells parts = some out → out.length = cells.length
  | [], cells, out, hf => by simp only [fillS, Option.some.injEq] at hf; rw [hf]
  | (i, x) :: parts, cells, out, hf => by
    simp only [fillS] at hf
    split at hf <;> try (cases hf; done)
    split at hf <;> try (cases hf; done)
    rename_i off size _ _ l _
    cases hb : (Nat.beq l.length size && Nat.ble (off + l.length) cells.length) with
    | false => rw [hb] at hf; cases hf
    | true =>
      rw [hb, cond_true] at hf
      rw [Bool.and_eq_true] at hb
      have := Nat.le_of_ble_eq_true hb.2
      rw [fillS_len parts _ _ hf]
      simp [splice]
      omega

theorem ok_value {o : Oper} {ρ : Operand → Value} {e : Eff} {x : SV} {r : Value} {p : Option Prop} (hr : HRep δ h w) (he : e = .det p x []) (hrun : (execOp ρ o).run P w = .ok (.value r) w) (hx : absV δ x r) :
    NextOk P δ h w e ((execOp ρ o).run P w) := by
  rw [hrun]; exact value_ok hr he hx

theorem ok_new {o : Oper} {ρ : Operand → Value} {e : Eff} {x : SV} {r : Value} {p : Option Prop} {u : List (Nat × Blk)} {w' : World} {δ' : Dict} (he : e = .det p x u) (hrun : (execOp ρ o).run P w = .ok (.value r) w')
    (hu : Upd δ h w δ' u w') (hx : absV δ' x r) : NextOk P δ h w e ((execOp ρ o).run P w) := by
  rw [hrun]; subst he; exact ⟨x, u, δ', ⟨rfl, rfl⟩, hx, hu⟩

theorem eqCells_eq : ∀ {a b : List SV}, eqCells a b = true → a = b
  | [], [], _ => rfl
  | x :: xs, y :: ys, h => by
    simp only [eqCells, Bool.and_eq_true] at h
    rw [eqCells_eq h.2]
    have : x = y := by
      have h1 := h.1
      unfold eqCell at h1
      split at h1
      · simp only [Bool.and_eq_true, decide_eq_true_eq] at h1
        rw [h1.1, h1.2]
      · simp only [beq_iff_eq] at h1; rw [h1]
      · cases h1
    rw [this]
  | [], _ :: _, h => by simp [eqCells] at h
  | _ :: _, [], h => by simp [eqCells] at h

theorem flatten_get {ze : List SV} : ∀ (n i j : Nat), i < n → j < ze.length → (List.replicate n ze).flatten[i * ze.length + j]? = ze[j]?
  | n + 1, 0, j, _, hj => by simp only [List.replicate_succ, List.flatten_cons, Nat.zero_mul, Nat.zero_add]; rw [List.getElem?_append_left hj]
  | n + 1, i + 1, j, hi, hj => by
    simp only [List.replicate_succ, List.flatten_cons]
    rw [List.getElem?_append_right (by rw [Nat.add_mul]; omega), show (i + 1) * ze.length + j - ze.length = i * ze.length + j by rw [Nat.add_mul]; omega]
    exact flatten_get n i j (by omega) hj

theorem run_rows {t e : TypeId} {n : Nat} {ze : List SV} (hz : rowsT P t = some (e, n, ze)) (w : World) : ∃ v, (zeroValue t).run P w = .ok v w ∧ v.cells.size = n * ze.length ∧ ∀ i, i < n → rowRep δ v.cells ze.length 0 i ze := by
  unfold rowsT at hz
  split at hz <;> try (cases hz; done)
  rename_i n' e' hu
  split at hz <;> try (cases hz; done)
  rename_i z ze' h1 h2
  cases hb : inRows z ze' n' with
  | false => rw [hb] at hz; cases hz
  | true =>
    rw [hb, cond_true] at hz
    cases hz
    unfold inRows at hb
    rw [Bool.and_eq_true] at hb
    have hzz := eqCells_eq hb.2
    obtain ⟨v, v1, v2⟩ := run_zero (P := P) h1 w
    refine ⟨v, v1, ?_, fun i hi => ⟨rfl, fun j x hx => ?_⟩⟩
    · have : z.length = n * ze.length := by rw [hzz]; simp
      rw [← this, v2]; simp
    · have hj : j < ze.length := (List.getElem?_eq_some_iff.1 hx).1
      have hg := flatten_get (ze := ze) n i j hi hj
      rw [← hzz, hx, v2, List.getElem?_map] at hg
      cases hc : v.cells.toList[i * ze.length + j]? with
      | none => rw [hc] at hg; cases hg
      | some r =>
        rw [hc] at hg
        simp only [Option.map_some, Option.some.injEq] at hg
        subst hg
        exact ⟨r, by rw [Nat.zero_add, ← Array.getElem?_toList]; exact hc, by simp only [absV]⟩

theorem ok_val {o : Oper} {ρ : Operand → Value} {e : Eff} {m : Sem Value} (h1 : ValOk δ h w e (m.run P w)) (h2 : execOp ρ o = (do pure (.value (← m)))) : NextOk P δ h w e ((execOp ρ o).run P w) := by
  obtain ⟨y, w', x, u, δ', g1, g2, g3, g4⟩ := h1
  rw [h2, Sem.run_bind, g1]
  exact ⟨x, u, δ', g2, g3, g4⟩

theorem map_snd (l : List (Nat × Operand)) (ρS : Operand → SV) (ρ : Operand → Value) : (l.map fun p => (p.1, ρS p.2)).map (·.1) = (l.map fun p => (p.1, ρ p.2)).map (·.1) := by simp

theorem ifcS_ok {δ : Dict} {x : SV} {v r : Value} (h : ifcS x = some v) (hx : absV δ x r) : r = v := by
  have all : ∀ (cs : List SV) (l xs : List Value), ifcS.allV cs = some l → absL δ cs xs → xs = l := by
    intro cs
    induction cs with
    | nil =>
      intro l xs h hx
      simp only [ifcS.allV, Option.some.injEq] at h
      subst h
      cases xs with
      | nil => rfl
      | cons a b => simp only [absL] at hx
    | cons c cs ih =>
      intro l xs h hx
      cases xs with
      | nil => simp only [absL] at hx
      | cons a xs =>
        simp only [absL] at hx
        cases c with
        | v y =>
          simp only [ifcS.allV] at h
          cases hl : ifcS.allV cs with
          | none => rw [hl] at h; cases h
          | some l' =>
            rw [hl] at h
            cases h
            have h1 := hx.1
            simp only [absV] at h1
            rw [h1, ih l' xs hl hx.2]
        | _ => simp only [ifcS.allV] at h; cases h
  unfold ifcS at h
  split at h
  · cases h
  · cases h
  · cases h
    simpa only [absV] using hx
  · rename_i cs
    cases hl : ifcS.allV cs with
    | none => rw [hl] at h; cases h
    | some l =>
      rw [hl] at h
      cases h
      simp only [absV] at hx
      obtain ⟨xs, rfl, h2⟩ := hx
      rw [all cs l xs hl h2]
  · cases h

set_option maxHeartbeats 1000000 in
theorem opS_ok {Γ : Ctrs} (hΓ : ∀ f g, Γ f = some g → g.ok P f) {o : Oper} {ρS : Operand → SV} {ρ : Operand → Value} (hρ : ∀ x, absV δ (ρS x) (ρ x)) (hρf : ∀ f, ρS (.func f) = .fn f []) {base : Nat} {e : Eff} (hr : HRep δ h w)
    (he : opS P Γ o ρS h base = some e) (hp : e.asks) (hf : ∀ x u, EffOut e x u → ∀ k, inNames k u = true → h k = none → δ k = none)
    (hw : writerOp Γ o = false → ∀ x u, EffOut e x u → ∀ k, inNames k u = true → h k = none) (hst : stopS Γ o ρS h = false) : NextOk P δ h w e ((execOp ρ o).run P w) := by
  obtain ⟨dst, op, ty, pos, after, guard⟩ := o
  unfold opS at he
  cases op <;> simp only [restS] at he <;> try (cases he; done)
  case move x => cases he; exact ok_value hr rfl (by simp [execOp]) (hρ x)
  case assign x => cases he; exact ok_value hr rfl (by simp [execOp]) (hρ x)
  case pick c a b =>
    split at he <;> try (cases he; done)
    rename_i t ht
    have h1 := hρ c
    rw [ht] at h1
    simp only [absV] at h1
    have hrun : ∀ r, (if t = true then ρ a else ρ b) = r → (execOp ρ ⟨dst, .pick c a b, ty, pos, after, guard⟩).run P w = .ok (.value r) w := fun r hr' => by
      simp [execOp, h1, asBool, hr']
    split at he
    · rename_i x y hx hy
      cases he
      have ha := hρ a; have hb := hρ b
      rw [hx] at ha; rw [hy] at hb
      simp only [absV] at ha hb
      refine ok_value hr rfl (hrun _ rfl) ?_
      cases t <;> simp [bop, absV, ha, hb]
    · cases he
      refine ok_value hr rfl (hrun _ rfl) ?_
      cases t <;> simp [bop, hρ]
  case alloc t =>
    split at he
    · rename_i e n ze hrt
      cases he
      have hn := hw rfl _ _ ⟨rfl, rfl⟩ base (by simp [inNames])
      have hd := hf _ _ ⟨rfl, rfl⟩ base (by simp [inNames]) hn
      obtain ⟨zv, z1, z2, z3⟩ := run_rows (P := P) hrt w
      obtain ⟨δ', u1, u2⟩ := new_ok (b := { elem := 0, size := ze.length, rw := true, lock := false, lit := true, flat := namelessL ze, n, row := fun _ => ze }) (c := zv.cells) (el := t) hr hn hd (fun hh => absurd rfl hh) (by simp only [z2]; exact Nat.le_refl _) (fun hh => (by cases hh)) (fun hf i _ => hf) (fun i hi => z3 i hi)
      exact ok_new (r := .pointer (some ⟨w.heap.size, 0, none⟩)) (w' := w.alloc (.cells zv.cells t)) rfl (by simp [execOp, Instr.alloc, z1, newVar, run_newRow]) (by simpa using u1) (by simp only [absV]; exact ⟨_, u2, rfl, rfl, rfl, by simp⟩)
    split at he <;> try (cases he; done)
    rename_i z hz
    cases he
    obtain ⟨zv, z1, z2⟩ := run_zero (P := P) hz w
    have hn := hw rfl _ _ ⟨rfl, rfl⟩ base (by simp [inNames])
    have hd := hf _ _ ⟨rfl, rfl⟩ base (by simp [inNames]) hn
    obtain ⟨δ', u1, u2⟩ := var_new (t := t) (cs := z) (c := zv.cells.toList) hr hn hd (by rw [z2]; exact absL_vs _)
    exact ok_new (w' := w.alloc (.cells zv.cells t)) rfl (by simp [execOp, Instr.alloc, z1, newVar, run_newRow]) (by simpa using u1) u2
  case box t x =>
    split at he <;> try (cases he; done)
    rename_i cs hcs
    cases he
    have hn := hw rfl _ _ ⟨rfl, rfl⟩ base (by simp [inNames])
    have hd := hf _ _ ⟨rfl, rfl⟩ base (by simp [inNames]) hn
    obtain ⟨δ', u1, u2⟩ := var_new (t := t) (cs := cs) (c := (ρ x).cells.toList) hr hn hd (absL_scells hcs (hρ x))
    exact ok_new (w' := w.alloc (.cells (ρ x).cells t)) rfl (by simp [execOp, Instr.box, newVar, run_newRow]) (by simpa using u1) u2
  case build t parts =>
    split at he <;> try (cases he; done)
    rename_i r hb
    cases he
    obtain ⟨y, y1, y2⟩ := build_ok (P := P) (w := w) (vs := parts.toList.map fun p => (p.1, ρ p.2)) hb (map_snd _ _ _) (absL_parts hρ _)
    refine ok_value hr rfl ?_ y2
    have : parts.map (fun x => (x.1, ρ x.2)) = (parts.toList.map fun p => (p.1, ρ p.2)).toArray := by apply Array.ext'; simp
    simp only [execOp, Sem.run_bind]
    rw [this, y1]
    rfl
  case panic x => cases hst
  case typeAssert x xt t ok =>
    split at he <;> try (cases he; done)
    rename_i fs u v hu hx
    cases hb : (ok && Nat.beq u t) with
    | false => rw [hb] at he; cases he
    | true =>
      rw [hb, cond_true] at he
      cases he
      rw [Bool.and_eq_true] at hb
      have h1 := hρ x
      rw [hx] at h1
      simp only [absV] at h1
      have hut : u = t := Nat.eq_of_beq_eq_true hb.2
      subst hut
      have hok : ok = true := hb.1
      subst hok
      refine ok_value (r := .tuple #[v, .bool true]) hr rfl ?_ ?_
      · simp [execOp, Instr.typeAssert, h1, run_underlying hu]
      · simp only [absV]
        refine ⟨[v, .bool true], rfl, ?_⟩
        simp only [absL, absV, and_true]
        exact ofConst_abs v
  case makeInterface t x =>
    split at he <;> try (cases he; done)
    rename_i fs v hu hv
    cases he
    have hx := ifcS_ok hv (hρ x)
    refine ok_value (r := .iface t v) hr rfl ?_ (absV_v.2 rfl)
    simp only [execOp, Instr.makeInterface, hx]
    simp [run_underlying hu]
  case makeFunc fn first captured =>
    unfold mkFnS at he
    cases fn with
    | func f =>
      simp only at he
      split at he
      · rename_i hfirst
        cases he
        have e1 : first = #[] := by apply Array.ext'; simpa using hfirst
        subst e1
        refine ok_value (r := .func (.func f) #[] (captured.map ρ)) hr rfl (by simp only [execOp, Sem.run_bind]; rw [show Array.map ρ #[] = #[] by simp]; rfl) ?_
        simp only [absV]
        exact ⟨captured.toList.map ρ, by congr 1; apply Array.ext'; simp, absL_ops hρ _⟩
      · cases he
    | _ => cases he
  case buildSlice t n parts =>
    split at he <;> try (cases he; done)
    rename_i el hu
    split at he <;> try (cases he; done)
    rename_i m z hm hz
    cases hb : (Nat.beq m 0 || Nat.ble 100000 (n * m) || !Nat.beq z.length m) with
    | true => rw [hb] at he; cases he
    | false =>
      rw [hb, cond_false] at he
      simp only [Bool.or_eq_false_iff, Bool.not_eq_false'] at hb
      obtain ⟨⟨b1, b2⟩, b3⟩ := hb
      split at he <;> try (cases he; done)
      rename_i flat hfl
      cases he
      obtain ⟨zv, z1, z2⟩ := run_zero (P := P) hz w
      have hm0 : m ≠ 0 := fun e => by subst e; simp at b1
      have hzl : z.length = m := Nat.eq_of_beq_eq_true b3
      have hle : ¬ n * m > 2 ^ 24 := by
        have : ¬ 100000 ≤ n * m := fun h' => by rw [Nat.ble_eq_true_of_le h'] at b2; cases b2
        omega
      have hn := hw rfl _ _ ⟨rfl, rfl⟩ base (by simp [inNames])
      have hd := hf _ _ ⟨rfl, rfl⟩ base (by simp [inNames]) hn
      have hz0 := zeros_ok (δ := δ) (k := n * m) z2 hzl (by omega)
      obtain ⟨o, o1, o2⟩ := fill_ok _ (parts.toList.map fun p => (p.1, ρ p.2)) _ _ flat hfl hz0 (map_snd _ _ _) (absL_parts hρ _)
      have hlen : flat.length = n * m := by rw [fillS_len _ _ _ hfl]; simp [zerosL]
      obtain ⟨δ', u1, u2⟩ := new_ok (b := flatBlk el m n flat) (c := o) (el := el) hr hn hd (fun _ => rfl) (by simp [flatBlk, ← hlen]; have := absL_length o2; simp at this; omega) (fun hh => (by cases hh)) (fun hf i hi => by show namelessL (pickR i (chunks m n flat) 0) = true; rw [flat_row (show i < n from hi)]; exact namelessL_take _ (namelessL_drop _ hf)) (fun i hi => by show rowRep _ _ _ _ _ (pickR i (chunks m n flat) 0); rw [flat_row (show i < n from hi)]; exact flat_ok o2 hlen i hi)
      refine ok_new (r := .slice (some ⟨w.heap.size, 0, none⟩) n n) rfl ?_ u1 (by simp only [absV]; exact ⟨_, u2, rfl, by simp [flatBlk], .inl ⟨rfl, by simp⟩⟩)
      have hparts : (parts.map fun x => (x.1, ρ x.2)).toList = parts.toList.map fun p => (p.1, ρ p.2) := by simp
      simp only [execOp, Instr.buildSlice, Sem.run_bind, run_underlying hu, Result.andThen_ok, run_sizeOf' hm]
      rw [if_neg hle]
      by_cases h0 : n * m = 0
      · rw [if_pos h0]
        have e0 : (Array.range (n * m)).map (fun x => zv.cells[x % zv.cells.size]!) = #[] := by simp [h0]
        rw [e0] at o1
        have e1 : (Array.range (n * m)).map (fun x => (#[] : Array Value)[x % (#[] : Array Value).size]!) = #[] := by simp [h0]
        simp only [Sem.run_bind, Sem.run_pure, Result.andThen_ok, e1, hparts, o1]
        simp [run_newRow]
      · rw [if_neg h0]
        simp only [Sem.run_bind, Sem.run_pure, Result.andThen_ok, z1, hparts, o1]
        simp [run_newRow]
  case makeSlice t l c =>
    split at he <;> try (cases he; done)
    rename_i el n m hu hl hcc
    split at he <;> try (cases he; done)
    rename_i sz z info hm hz hi
    cases hb : (Nat.beq sz 0 || !Nat.beq z.length sz || Nat.beq info.bytes 0) with
    | true => rw [hb] at he; cases he
    | false =>
      rw [hb, cond_false] at he
      simp only [Bool.or_eq_false_iff, Bool.not_eq_false'] at hb
      obtain ⟨⟨b1, b2⟩, b3⟩ := hb
      cases he
      obtain ⟨p1, p2, p3⟩ := hp _ rfl
      obtain ⟨zv, z1, z2⟩ := run_zero (P := P) hz w
      have hsz0 : sz ≠ 0 := fun e => by subst e; simp at b1
      have hby : info.bytes ≠ 0 := fun e => by rw [e] at b3; simp at b3
      have hzl : z.length = sz := Nat.eq_of_beq_eq_true b2
      have hn := hw rfl _ _ ⟨rfl, rfl⟩ base (by simp [inNames])
      have hd := hf _ _ ⟨rfl, rfl⟩ base (by simp [inNames]) hn
      have hl' := hρ l; have hc' := hρ c
      rw [hl] at hl'; rw [hcc] at hc'
      simp only [absV] at hl' hc'
      have hmm : m ≤ 2 ^ 47 := by
        have : (1 : Int) * m ≤ info.bytes * m := Int.mul_le_mul_of_nonneg_right (by omega) (by omega)
        omega
      have wn : IntKind.i64.wrap n = n := by
        simp [IntKind.wrap, IntKind.bits, IntKind.signed]; omega
      have wm : IntKind.i64.wrap m = m := by
        simp [IntKind.wrap, IntKind.bits, IntKind.signed]; omega
      obtain ⟨δ', u1, u2⟩ := new_ok (b := { elem := el, size := sz, rw := true, lock := false, lit := false, flat := namelessL z, n := m.toNat, row := fun _ => z }) (c := (Array.range (m.toNat * sz)).map fun x => zv.cells[x % zv.cells.size]!) (el := el) hr hn hd (fun _ => rfl) (by simp) (fun hh => (by cases hh)) (fun hf i _ => hf) (fun i hi => by
        have hzz := zeros_ok (δ := δ) (k := m.toNat * sz) z2 hzl (by omega)
        refine ⟨hzl, fun j x hx => ?_⟩
        have hj : j < sz := by rw [← hzl]; exact (List.getElem?_eq_some_iff.1 hx).1
        have hle : (i + 1) * sz ≤ m.toNat * sz := Nat.mul_le_mul_right _ hi
        rw [Nat.add_mul] at hle
        have hk : i * sz + j < m.toNat * sz := by omega
        obtain ⟨r, r1, r2⟩ := absL_get (x := x) (i := i * sz + j) hzz (by
          simp only [zerosL, List.getElem?_map, List.getElem?_range hk, Option.map_some]
          rw [show (i * sz + j) % sz = j by rw [Nat.mul_comm, Nat.mul_add_mod]; exact Nat.mod_eq_of_lt hj]
          simp [List.getD, hx])
        exact ⟨r, by rw [Nat.zero_add, ← Array.getElem?_toList]; exact r1, r2⟩)
      refine ok_new (r := .slice (some ⟨w.heap.size, 0, none⟩) n.toNat m.toNat) rfl ?_ u1 (by simp only [absV]; exact ⟨_, u2, rfl, by simp; omega, .inl ⟨rfl, by simp⟩⟩)
      have t1 : ¬ (m < 0) := by omega
      have t2 : ¬ ((info.bytes : Int) * m > 2 ^ 48) := by omega
      have t3 : ¬ (n < 0) := by omega
      have t4 : ¬ (n > m) := by omega
      have t5 : ¬ (m.toNat * info.bytes > roomBytes) := by
        have : ((m.toNat * info.bytes : Nat) : Int) = info.bytes * m := by rw [Int.natCast_mul, Int.toNat_of_nonneg (by omega), Int.mul_comm]
        unfold roomBytes
        omega
      simp only [execOp, Instr.makeSlice, hl', hc', Sem.run_bind, run_underlying hu, Result.andThen_ok, asInt, asIntOf, Sem.run_pure]
      simp only [typeInfo, hi, Sem.run_bind, run_program, Result.andThen_ok, Sem.run_pure, wn, wm, t1, t2, t3, t4, decide_false, Bool.or_self, Bool.false_eq_true, if_false, askRoom, t5]
      by_cases h0 : m.toNat * sz = 0
      · simp [h0, run_sizeOf' hm, run_newRow, Array.range_zero']
      · simp [h0, run_sizeOf' hm, z1, run_newRow]
  case load t a =>
    split at he <;> try (cases he; done)
    rename_i r hl
    cases he
    obtain ⟨y, y1, y2⟩ := load_ok (P := P) (w := w) hl (hρ a) hr
    exact ok_value hr rfl (by simp [execOp, y1]) y2
  case store t a x =>
    split at he <;> try (cases he; done)
    rename_i u hs
    cases he
    obtain ⟨w', y1, y2⟩ := store_ok (P := P) hs (hρ a) (hρ x) hr
    have : (execOp ρ ⟨dst, .store t a x, ty, pos, after, guard⟩).run P w = .ok .skip w' := by simp [execOp, y1]
    rw [this]
    exact ⟨_, _, δ, ⟨rfl, rfl⟩, absV_v.2 rfl, y2⟩
  case nilCheck x =>
    have h1 := hρ x
    split at he <;> try (cases he; done)
    · rename_i k m l hx
      rw [hx] at h1
      cases he
      have h2 := h1
      simp only [absV] at h2
      obtain ⟨p, _, _, _, _, e2⟩ := h2
      exact ok_value (r := ρ x) hr rfl (by simp [execOp, e2]) h1
    · rename_i k j hx
      rw [hx] at h1
      cases he
      have h2 := h1
      simp only [absV] at h2
      obtain ⟨p, _, _, e2⟩ := h2
      exact ok_value (r := ρ x) hr rfl (by simp [execOp, e2]) h1
    · rename_i k i j hx
      rw [hx] at h1
      cases he
      have h2 := h1
      simp only [absV] at h2
      obtain ⟨p, _, _, e2⟩ := h2
      exact ok_value (r := ρ x) hr rfl (by simp [execOp, e2]) h1
    · rename_i f cs hx
      rw [hx] at h1
      cases he
      have h2 := h1
      simp only [absV] at h2
      obtain ⟨xs, e2, _⟩ := h2
      exact ok_value (r := ρ x) hr rfl (by simp [execOp, e2]) h1
  case binOp op t x y t' =>
    obtain ⟨v, r, p, e1, e2, e3⟩ := bin_ok (P := P) (w := w) (ox := x) (oy := y) he (hρ x) (hρ y) hp rfl
    refine ok_value hr e1 ?_ e2
    have : (execOp ρ ⟨dst, .binOp op t x y t', ty, pos, after, guard⟩) = (do let z ← (do eqGuard op t x y (ρ x) (ρ y); binOp op t (ρ x) (ρ y) : Sem Value); pure (.value z)) := rfl
    rw [this, Sem.run_bind, e3]
    rfl
  case unOp op t x =>
    split at he <;> try (cases he; done)
    rename_i r hu
    cases he
    obtain ⟨y, y1, y2⟩ := un_ok (P := P) (w := w) hu (hρ x)
    exact ok_value hr rfl (by simp [execOp, y1]) y2
  case convert src dst' x =>
    exact ok_val (conv_ok (P := P) (w := w) he (hρ x) hr hp fun ⟨y, u, ho, hu⟩ => by
      have hn := hw rfl _ _ ho base hu
      exact ⟨hn, hf _ _ ho base hu hn⟩) rfl
  case slice t x lo hi mx =>
    cases mx with
    | some m => simp only at he; cases he
    | none =>
      simp only at he
      split at he <;> try (cases he; done)
      rename_i l r hl hr'
      obtain ⟨p, v, y, e1, e2, e3⟩ := slice_ok (P := P) (w := w) he (hρ x) (bound_ok hρ hl) (bound_ok hρ hr') hp
      exact ok_value hr e1 (by simp [execOp, e3]) e2
  case fieldAddr t x f =>
    split at he <;> try (cases he; done)
    rename_i fs hu
    split at he <;> try (cases he; done)
    rename_i fl hfl
    split at he <;> try (cases he; done)
    rename_i m r hm ha
    cases hb : Nat.beq m 0 with
    | true => rw [hb] at he; cases he
    | false =>
      rw [hb, cond_false] at he
      cases he
      obtain ⟨b, o, e1, e2⟩ := addr_ok ha (hρ x)
      have hm0 : m ≠ 0 := fun e => by subst e; simp at hb
      refine ok_value hr rfl ?_ e2
      simp [execOp, Instr.fieldAt, run_underlying hu, hfl, e1, Instr.sureAddr, fieldPlace, run_sizeOf' hm, hm0, Addr.add_spot]
  case field t x f =>
    split at he <;> try (cases he; done)
    rename_i fs cs hu hx
    split at he <;> try (cases he; done)
    rename_i fl hfl
    split at he <;> try (cases he; done)
    rename_i r hpt
    cases he
    have h1 := hρ x
    rw [hx] at h1
    simp only [absV] at h1
    obtain ⟨xs, e1, e2⟩ := h1
    obtain ⟨y, y1, y2⟩ := part_ok (P := P) (w := w) hpt e2
    exact ok_value hr rfl (by simp [execOp, Instr.field, run_underlying hu, hfl, e1, asAgg, y1]) y2
  case indexAddr t x ix =>
    split at he
    · rename_i el k s i len cap kd n hu hx hi
      split at he <;> try (cases he; done)
      rename_i m hm
      cases hb : Nat.beq m s with
      | false => rw [hb] at he; cases he
      | true =>
        rw [hb, cond_true] at he
        cases he
        have hms : m = s := Nat.eq_of_beq_eq_true hb
        subst hms
        have h1 := hρ x; have h2 := hρ ix
        rw [hx] at h1; rw [hi] at h2
        obtain ⟨p1, p2⟩ := hp _ rfl
        simp only [absV] at h1 h2
        obtain ⟨p, d1, d2, d3, ⟨hno, e1⟩ | ⟨l0, _⟩⟩ := h1
        case inr => subst l0; omega
        refine ok_value (x := .ptr k (i + n.toNat) 0) (r := .pointer (some ⟨p.r, p.o + i * m + n.toNat * m, none⟩)) hr rfl ?_ ?_
        · simp [execOp, Instr.indexAt, h2, e1, asIntOf, run_underlying hu, run_sizeOf' hm, p1, p2, Addr.add_spot]
        · simp only [absV]
          exact ⟨p, d1, by omega, by rw [d2, Nat.add_mul]; simp [Nat.add_assoc]⟩
    · rename_i len el k m l kd n hu hx hi
      split at he <;> try (cases he; done)
      rename_i m' hm
      cases hb : (Nat.beq m m' && Nat.beq l len) with
      | false => rw [hb] at he; cases he
      | true =>
        rw [hb, cond_true] at he
        cases he
        rw [Bool.and_eq_true] at hb
        have := Nat.eq_of_beq_eq_true hb.1
        subst this
        have := Nat.eq_of_beq_eq_true hb.2
        subst this
        have h1 := hρ x; have h2 := hρ ix
        rw [hx] at h1; rw [hi] at h2
        obtain ⟨p1, p2⟩ := hp _ rfl
        simp only [absV] at h1 h2
        obtain ⟨p, d1, d2, d3, hno, e1⟩ := h1
        refine ok_value (x := .ptr k n.toNat 0) (r := .pointer (some ⟨p.r, p.o + n.toNat * m, none⟩)) hr rfl ?_ ?_
        · simp [execOp, Instr.indexAt, h2, e1, asIntOf, run_underlying hu, run_sizeOf' hm, p1, p2, Addr.add_spot, Instr.sureAddr]
        · simp only [absV]
          exact ⟨p, d1, by omega, by rw [d2]; simp⟩
    · rename_i len el kd n hu hi hna
      split at he <;> try (cases he; done)
      rename_i m hcx hm
      cases hb : (decide (0 ≤ n) && decide (n < (len : Int))) with
      | false => rw [hb] at he; cases he
      | true =>
        rw [hb, cond_true] at he
        simp only [Bool.and_eq_true, decide_eq_true_eq] at hb
        split at he <;> try (cases he; done)
        rename_i r ha
        cases he
        have h2 := hρ ix
        rw [hi] at h2
        simp only [absV] at h2
        obtain ⟨b, o, e1, e2⟩ := addr_ok ha (hρ x)
        refine ok_value hr rfl ?_ e2
        simp [execOp, Instr.indexAt, h2, e1, asIntOf, run_underlying hu, run_sizeOf' hm, hb.1, hb.2, Addr.add_spot, Instr.sureAddr]
    · cases he
  case index t x ix =>
    split at he
    · rename_i len el cs kd n hu hx hi
      split at he <;> try (cases he; done)
      · rename_i m hcx hm
        cases hb : (decide (0 ≤ n) && decide (n < (len : Int))) with
        | false => rw [hb] at he; cases he
        | true =>
          rw [hb, cond_true] at he
          simp only [Bool.and_eq_true, decide_eq_true_eq] at hb
          split at he <;> try (cases he; done)
          rename_i r hpt
          cases he
          have h1 := hρ x; have h2 := hρ ix
          rw [hx] at h1; rw [hi] at h2
          simp only [absV] at h1 h2
          obtain ⟨xs, e1, e2⟩ := h1
          obtain ⟨y, y1, y2⟩ := part_ok (P := P) (w := w) hpt e2
          exact ok_value hr rfl (by simp [execOp, Instr.index, h2, e1, asIntOf, run_underlying hu, run_sizeOf' hm, hb.1, hb.2, y1]) y2
      · rename_i m hcx hm
        split at he <;> try (cases he; done)
        rename_i g hg
        cases hl : Nat.beq cs.length (len * m) with
        | false => rw [hl] at he; cases he
        | true =>
          rw [hl, cond_true] at he
          have hlen : cs.length = len * m := Nat.eq_of_beq_eq_true hl
          split at he <;> try (cases he; done)
          rename_i r hmk
          cases he
          have h1 := hρ x; have h2 := hρ ix
          rw [hx] at h1; rw [hi] at h2
          simp only [absV] at h1 h2
          obtain ⟨p1, p2⟩ := hp _ rfl
          obtain ⟨xs, e1, e2⟩ := h1
          have hlt : n.toNat < len := by omega
          rw [flat_row hlt] at hmk
          have hpt : partS P el cs (n.toNat * m) = some r := by
            unfold partS
            rw [hg, hm]
            simp only
            have hle : (n.toNat + 1) * m ≤ len * m := Nat.mul_le_mul_right _ hlt
            rw [Nat.add_mul, Nat.one_mul] at hle
            have hl2 : ((cs.drop (n.toNat * m)).take m).length = m := by simp; omega
            rw [hl2, show Nat.beq m m = true from Nat.beq_refl m, cond_true, hmk]
          obtain ⟨y, y1, y2⟩ := part_ok (P := P) (w := w) hpt e2
          exact ok_value hr rfl (by simp [execOp, Instr.index, h2, e1, asIntOf, run_underlying hu, run_sizeOf' hm, p1, p2, y1]) y2
    · rename_i s kd n hu hx hi
      cases he
      have h1 := hρ x; have h2 := hρ ix
      rw [hx] at h1; rw [hi] at h2
      simp only [absV] at h1 h2
      obtain ⟨p1, p2⟩ := hp _ rfl
      have hlt : n.toNat < s.size := by omega
      refine ok_value hr rfl ?_ (absV_v.2 rfl)
      have hget : s[n.toNat]? = some s[n.toNat] := by simp [hlt]
      have hv : (s.data.toList.getD n.toNat 0).toNat = s[n.toNat].toNat := by
        have : n.toNat < s.data.size := hlt
        simp only [List.getD, Array.getElem?_toList, Array.getElem?_eq_getElem this, Option.getD_some]
        rfl
      have hif : (if (0 : Int) ≤ n then s[n.toNat]? else none) = some s[n.toNat] := by rw [if_pos p1, hget]
      simp only [execOp, Instr.index, h1, h2, asIntOf, Sem.run_bind, Sem.run_pure, Result.andThen_ok, run_underlying hu]
      rw [hif]
      simp only [Sem.run_pure, Result.andThen_ok, hv]
    · cases he
  case extract x i =>
    split at he <;> try (cases he; done)
    rename_i vs hx
    split at he <;> try (cases he; done)
    rename_i r hr'
    cases he
    have h1 := hρ x
    rw [hx] at h1
    simp only [absV] at h1
    obtain ⟨xs, e1, e2⟩ := h1
    obtain ⟨y, y1, y2⟩ := absL_get e2 hr'
    exact ok_value hr rfl (by simp [execOp, Instr.extract, e1, y1]) y2
  case call c =>
    obtain ⟨callee, cargs, cts⟩ := c
    simp only at he
    cases callee <;> (try simp only at he) <;> try (cases he; done)
    case builtin b =>
      have ha : absL δ (cargs.toList.map ρS) (cargs.map ρ).toList := by
        rw [Array.toList_map]
        exact absL_ops hρ _
      obtain ⟨m, m1, m2⟩ := builtin_ok (P := P) (w := w) (ty := ty) (consts := cargs.map fun | .const _ => true | _ => false) (args := cargs.map ρ) he ha hr hp hf
      exact ok_val m2 (by simp only [execOp, resolve, invoke, pure_bind]; exact m1)
    case value f =>
      split at he <;> try (cases he; done)
      rename_i fn caps hfn
      split at he <;> try (cases he; done)
      rename_i g hg
      have h1 := hρ f
      rw [hfn] at h1
      simp only [absV] at h1
      obtain ⟨xs, e1, e2⟩ := h1
      cases hb : (g.stops && !isFuncOp f) with
      | true => rw [hb] at he; cases he
      | false =>
      rw [hb, cond_false] at he
      have := hΓ fn g hg _ h base e he δ w ((cargs.toList.map ρ) ++ xs) (absL_append (absL_ops hρ _) e2) hr hp hf
      have hb2 : (g.stops && g.stop (cargs.toList.map ρS ++ caps) h) = false := by
        cases hs : g.stops with
        | false => rfl
        | true =>
          rw [hs] at hb
          cases f with
          | func f =>
            rw [hρf f] at hfn
            cases hfn
            simp only [stopS, hg, hs, cond_true] at hst
            rw [List.append_nil, hst]; rfl
          | _ => cases hb
      rw [hb2] at this
      have hrun : (execOp ρ ⟨dst, .call ⟨.value f, cargs, cts⟩, ty, pos, after, guard⟩).run P w = (callFunc fn ((cargs.toList.map ρ) ++ xs).toArray).run P w := by
        have ea : cargs.map ρ ++ xs.toArray = ((cargs.toList.map ρ) ++ xs).toArray := by apply Array.ext'; simp
        simp [execOp, resolve, e1, Deferred.ofValue, invoke, ea]
      rw [hrun]
      exact this

/-- An operation that panics. -/
theorem opS_stop {Γ : Ctrs} (hΓ : ∀ f g, Γ f = some g → g.ok P f) {o : Oper} {ρS : Operand → SV} {ρ : Operand → Value} (hρ : ∀ x, absV δ (ρS x) (ρ x)) (hρf : ∀ f, ρS (.func f) = .fn f []) {base : Nat} {e : Eff} (hr : HRep δ h w)
    (he : opS P Γ o ρS h base = some e) (hp : e.asks) (hf : ∀ x u, EffOut e x u → ∀ k, inNames k u = true → h k = none → δ k = none) (hst : stopS Γ o ρS h = true) : NextStop P δ h w e ((execOp ρ o).run P w) := by
  obtain ⟨dst, op, ty, pos, after, guard⟩ := o
  unfold opS at he
  cases op <;> simp only [stopS] at hst <;> try (cases hst; done)
  case panic x =>
    simp only at he
    split at he <;> try (cases he; done)
    rename_i t v hv
    cases he
    have hx := hρ x
    rw [hv] at hx
    simp only [absV] at hx
    have hrun : (execOp ρ ⟨dst, .panic x, ty, pos, after, guard⟩).run P w = .halt (.panic (.iface t v)) w := by
      simp [execOp, Instr.panic, hx, goPanic]
    rw [hrun]
    exact ⟨_, [], δ, ⟨rfl, rfl⟩, absV_v.2 rfl, Upd.same hr⟩
  case call c =>
    obtain ⟨callee, cargs, cts⟩ := c
    cases callee with
    | value f =>
      cases f with
      | func f =>
        simp only [hρf] at he
        simp only at hst
        cases hg : Γ f with
        | none => rw [hg] at hst; cases hst
        | some g =>
          rw [hg] at he hst
          simp only at he hst
          cases hs : g.stops with
          | false => rw [hs] at hst; cases hst
          | true =>
            rw [hs, cond_true] at hst
            simp only [hs, isFuncOp, Bool.not_true, Bool.and_false, cond_false] at he
            have h1 := hρ (.func f)
            rw [hρf] at h1
            simp only [absV] at h1
            obtain ⟨xs, e1, e2⟩ := h1
            have := hΓ f g hg _ h base e he δ w ((cargs.toList.map ρ) ++ xs) (absL_append (absL_ops hρ _) e2) hr hp hf
            rw [hs, List.append_nil, hst] at this
            have hrun : (execOp ρ ⟨dst, .call ⟨.value (.func f), cargs, cts⟩, ty, pos, after, guard⟩).run P w = (callFunc f ((cargs.toList.map ρ) ++ xs).toArray).run P w := by
              have ea : cargs.map ρ ++ xs.toArray = ((cargs.toList.map ρ) ++ xs).toArray := by apply Array.ext'; simp
              simp [execOp, resolve, e1, Deferred.ofValue, invoke, ea]
            rw [hrun]
            exact this
      | _ => cases hst
    | _ => cases hst
end
end Go.SE
