/-
  The symbolic executor's operations are the model's: each operation, run by the model in a world that the symbolic heap stands for, does what 'opS' says.
-/
import Derived.Test.YtjdldadmaaeimaaSeRel
import Derived.WalkKit
namespace Go.SE

/-! ### what an effect may come to -/
def EffOut : Eff → SV → List (Nat × Blk) → Prop
  | .det _ x u, x', u' => x' = x ∧ u' = u
  | .nd _ _ _ v u, x', u' => ∃ c, x' = v c ∧ u' = u c

def Eff.asks : Eff → Prop
  | .det p _ _ => ∀ q, p = some q → q
  | .nd p _ _ _ _ => p

def NextOk (P : Program) (δ : Dict) (h : Heap) (w : World) (e : Eff) : Result Next → Prop
  | .ok (.value r) w' => ∃ x u δ', EffOut e x u ∧ absV δ' x r ∧ Upd δ h w δ' u w'
  | .ok .skip w' => ∃ x u δ', EffOut e x u ∧ absV δ' x undef ∧ Upd δ h w δ' u w'
  | .ok (.enter f args) w' => Calls P f args w' fun ed w'' => ∃ r x u δ', ed = .returned r ∧ EffOut e x u ∧ absV δ' x r ∧ Upd δ h w δ' u w''
  | _ => False

/-- The same, of one that panics: the value is that of the panic. -/
def NextStop (P : Program) (δ : Dict) (h : Heap) (w : World) (e : Eff) : Result Next → Prop
  | .ok (.enter f args) w' => Calls P f args w' fun ed w'' => ∃ r x u δ', ed = .panicked [{ v := r, recovered := false }] ∧ EffOut e x u ∧ absV δ' x r ∧ Upd δ h w δ' u w''
  | .halt (.panic r) w' => ∃ x u δ', EffOut e x u ∧ absV δ' x r ∧ Upd δ h w δ' u w'
  | _ => False

def NextB (P : Program) (δ : Dict) (h : Heap) (w : World) (e : Eff) (b : Bool) (r : Result Next) : Prop :=
  match b with
  | true => NextStop P δ h w e r
  | false => NextOk P δ h w e r

/-- A callee does what its contract says. -/
def Ctr.ok (P : Program) (f : FuncId) (g : Ctr) : Prop :=
  ∀ args h base e, g.run args h base = some e → ∀ δ w vals, absL δ args vals → HRep δ h w → e.asks →
    (∀ x u, EffOut e x u → ∀ k, inNames k u = true → h k = none → δ k = none) → NextB P δ h w e (g.stops && g.stop args h) ((callFunc f vals.toArray).run P w)

section
variable {P : Program} {δ : Dict} {h : Heap} {w : World}

theorem value_ok {e : Eff} {x : SV} {r : Value} {p : Option Prop} (hr : HRep δ h w) (he : e = .det p x []) (hx : absV δ x r) : NextOk P δ h w e (.ok (.value r) w) := by
  subst he
  exact ⟨x, [], δ, ⟨rfl, rfl⟩, hx, Upd.same hr⟩

/-! ### small runs -/
theorem run_isAgg {t : TypeId} {g : Bool} (hg : aggT P t = some g) (w : World) : (isAgg t).run P w = .ok g w := by
  unfold aggT at hg
  cases hu : P.underlying t with
  | none => rw [hu] at hg; cases hg
  | some d =>
    rw [hu] at hg
    cases d <;> simp at hg <;> subst hg <;> simp [isAgg, run_underlying hu]

theorem run_sizeOf' {t : TypeId} {m : Nat} (hm : sizeT P t = some m) (w : World) : (sizeOf t).run P w = .ok m w := by
  unfold sizeT at hm
  cases hu : P.info? t with
  | none => rw [hu] at hm; cases hm
  | some i => rw [hu] at hm; cases hm; simp [sizeOf, typeInfo, hu]

theorem run_zero {t : TypeId} {z : List SV} (hz : zeroT P t = some z) (w : World) : ∃ v, (zeroValue t).run P w = .ok v w ∧ z = v.cells.toList.map .v := by
  unfold zeroT at hz
  cases hu : P.info? t with
  | none => rw [hu] at hz; cases hz
  | some i =>
    rw [hu] at hz
    simp only at hz
    cases hv : i.zero with
    | none => rw [hv] at hz; cases hz
    | some v => rw [hv] at hz; cases hz; exact ⟨v, by simp [zeroValue, typeInfo, hu, hv], rfl⟩

theorem extract_eq (xs : List Value) (off m : Nat) : xs.toArray.extract off (off + m) = ((xs.drop off).take m).toArray := by
  apply Array.ext'
  simp [List.take_drop]

theorem part_ok {t : TypeId} {cs : List SV} {xs : List Value} {off : Nat} {x : SV} (hp : partS P t cs off = some x) (hx : absL δ cs xs) :
    ∃ r, (part t xs.toArray off).run P w = .ok r w ∧ absV δ x r := by
  unfold partS at hp
  cases hg : aggT P t with
  | none => rw [hg] at hp; cases hp
  | some g =>
    cases hm : sizeT P t with
    | none => rw [hg, hm] at hp; cases hp
    | some m =>
      rw [hg, hm] at hp
      simp only at hp
      cases hl : Nat.beq ((cs.drop off).take m).length m with
      | false => rw [hl] at hp; cases hp
      | true =>
        rw [hl, cond_true] at hp
        have hlen : ((cs.drop off).take m).length = m := Nat.eq_of_beq_eq_true hl
        have hab : absL δ ((cs.drop off).take m) ((xs.drop off).take m) := absL_take m (absL_drop off hx)
        cases g with
        | true =>
          simp only [mkVal, Option.some.injEq] at hp
          subst hp
          refine ⟨.agg ((xs.drop off).take m).toArray, ?_, ?_⟩
          · simp only [part, Sem.run_bind, run_isAgg hg, Result.andThen_ok, if_true, run_sizeOf' hm, extract_eq]
            rfl
          · simp only [absV]; exact ⟨_, rfl, hab⟩
        | false =>
          simp only [mkVal] at hp
          match hc : (cs.drop off).take m, hp with
          | [c], hp =>
            cases hp
            rw [hc] at hab hlen
            have hget : (cs.drop off)[0]? = some x := by
              have : ((cs.drop off).take m)[0]? = some x := by rw [hc]; rfl
              rw [List.getElem?_take] at this
              split at this
              · exact this
              · cases this
            have hcs : cs[off]? = some x := by simpa using hget
            obtain ⟨r, h1, h2⟩ := absL_get hx hcs
            refine ⟨r, ?_, h2⟩
            simp [part, run_isAgg hg, h1]

/-! ### build -/
theorem splice_get {α : Type} (cs xs : List α) (off : Nat) (hle : off + xs.length ≤ cs.length) (j : Nat) :
    (cs.take off ++ xs ++ cs.drop (off + xs.length))[j]? = if j < off then cs[j]? else if j < off + xs.length then xs[j - off]? else cs[j]? := by
  by_cases h1 : j < off
  · rw [if_pos h1, List.append_assoc, List.getElem?_append_left (by simp; omega), List.getElem?_take, if_pos h1]
  · rw [if_neg h1]
    by_cases h2 : j < off + xs.length
    · rw [if_pos h2, List.getElem?_append_left (by simp; omega), List.getElem?_append_right (by simp; omega)]
      congr 1
      simp
      omega
    · rw [if_neg h2, List.getElem?_append_right (by simp; omega), List.getElem?_drop]
      congr 1
      simp
      omega

theorem foldl_splice (cs : Array Value) (off : Nat) : ∀ (l : List Value) (i : Nat), off + i + l.length ≤ cs.size →
    ∀ cs' : Array Value, cs'.size = cs.size → (∀ j, cs'[j]? = if j < off then cs[j]? else if j < off + i then cs'[j]? else cs[j]?) →
      ((l.zipIdx i).foldl (fun c p => c.setIfInBounds (off + p.2) p.1) cs').size = cs.size ∧
      ∀ j, ((l.zipIdx i).foldl (fun c p => c.setIfInBounds (off + p.2) p.1) cs')[j]? = if j < off then cs[j]? else if j < off + i then cs'[j]? else if j < off + i + l.length then l[j - (off + i)]? else cs[j]? := by
  intro l
  induction l with
  | nil =>
    intro i hle cs' hs hc
    refine ⟨by simpa using hs, fun j => ?_⟩
    simp only [List.zipIdx_nil, List.foldl_nil, List.length_nil, Nat.add_zero]
    rw [hc j]
    split
    · rfl
    · split
      · rfl
      · rfl
  | cons x l ih =>
    intro i hle cs' hs hc
    simp only [List.zipIdx_cons, List.foldl_cons]
    simp only [List.length_cons] at hle
    have hs1 : (cs'.setIfInBounds (off + i) x).size = cs.size := by simpa using hs
    have := ih (i + 1) (by omega) (cs'.setIfInBounds (off + i) x) hs1 (fun j => by
      simp only [Array.getElem?_setIfInBounds]
      by_cases hj : off + i = j
      · subst hj
        have e1 : ¬ off + i < off := by omega
        have e2 : off + i < off + (i + 1) := by omega
        simp [e1, e2]
      · simp only [hj, if_false]
        rw [hc j]
        by_cases h1 : j < off
        · simp [h1]
        · by_cases h2 : j < off + i
          · have h3 : j < off + (i + 1) := by omega
            simp [h1, h2, h3]
          · have h3 : ¬ j < off + (i + 1) := by omega
            simp [h1, h2, h3])
    refine ⟨this.1, fun j => ?_⟩
    rw [this.2 j]
    simp only [Array.getElem?_setIfInBounds]
    by_cases h1 : j < off
    · simp [h1]
    · by_cases h2 : j < off + i
      · have h3 : j < off + (i + 1) := by omega
        have h4 : ¬ off + i = j := by omega
        simp [h1, h2, h3, h4]
      · by_cases h3 : off + i = j
        · subst h3
          have h4 : off + i < off + (i + 1) := by omega
          have h5 : off + i < cs'.size := by omega
          have h6 : off + i < off + i + (l.length + 1) := by omega
          simp [h2, h4, h5]
        · have h4 : ¬ j < off + (i + 1) := by omega
          have e : j - (off + i) = (j - (off + (i + 1))) + 1 := by omega
          simp only [h1, h2, h4, if_false, List.length_cons]
          rw [e, List.getElem?_cons_succ]
          have e2 : off + (i + 1) + l.length = off + i + (l.length + 1) := by omega
          rw [e2]

theorem fill_ok {place : Nat → Option (Nat × Nat)} : ∀ (parts : List (Nat × SV)) (vals : List (Nat × Value)) (cells : List SV) (cs : Array Value) (out : List SV),
    fillS place cells parts = some out → absL δ cells cs.toList → (parts.map (·.1) = vals.map (·.1)) → absL δ (parts.map (·.2)) (vals.map (·.2)) →
    ∃ o : Array Value, Instr.fill place cs vals = some o ∧ absL δ out o.toList
  | [], [], cells, cs, out, hf, hc, _, _ => by
    simp only [fillS, Option.some.injEq] at hf
    subst hf
    exact ⟨cs, rfl, hc⟩
  | (i, x) :: parts, (i', r) :: vals, cells, cs, out, hf, hc, hi, hx => by
    simp only [List.map_cons, List.cons.injEq] at hi
    obtain ⟨rfl, hi⟩ := hi
    simp only [List.map_cons, absL] at hx
    simp only [fillS] at hf
    cases hp : place i with
    | none => rw [hp] at hf; cases hf
    | some os =>
      obtain ⟨off, size⟩ := os
      rw [hp] at hf
      simp only at hf
      cases hl : scells x with
      | none => rw [hl] at hf; cases hf
      | some l =>
        rw [hl] at hf
        simp only at hf
        have hlr := absL_scells hl hx.1
        have hlen := absL_length hlr
        have hclen := absL_length hc
        cases hb : (Nat.beq l.length size && Nat.ble (off + l.length) cells.length) with
        | false => rw [hb] at hf; cases hf
        | true =>
          rw [hb, cond_true] at hf
          rw [Bool.and_eq_true] at hb
          have e1 : l.length = size := Nat.eq_of_beq_eq_true hb.1
          have e2 : off + l.length ≤ cells.length := Nat.le_of_ble_eq_true hb.2
          have e3 : r.cells.size = size := by rw [← e1, hlen]; simp
          have e4 : off + r.cells.size ≤ cs.size := by rw [e3, ← e1]; rw [hclen] at e2; simpa using e2
          -- the cells behind the splice
          have hfold := foldl_splice cs off r.cells.toList 0 (by simpa using e4) cs rfl (fun j => by split <;> simp)
          refine (fill_ok parts vals (splice cells off l) (r.cells.zipIdx.foldl (fun c p => c.setIfInBounds (off + p.2) p.1) cs) out hf ?_ hi hx.2).imp fun o ho => ⟨?_, ho.2⟩
          · have ez : r.cells.zipIdx.foldl (fun c p => c.setIfInBounds (off + p.2) p.1) cs = (r.cells.toList.zipIdx 0).foldl (fun c p => c.setIfInBounds (off + p.2) p.1) cs := by
              rw [← Array.foldl_toList]
              simp
            rw [ez]
            refine absL_of_get ?_ fun j y hy => ?_
            · simp only [Array.length_toList, hfold.1]
              simp only [splice, List.length_append, List.length_take, List.length_drop]
              rw [hclen] at e2 ⊢
              simp only [Array.length_toList] at e2 ⊢
              omega
            · simp only [Array.getElem?_toList]
              rw [hfold.2 j]
              unfold splice at hy
              rw [splice_get cells l off e2 j] at hy
              simp only [Nat.add_zero, Array.length_toList, e3, ← e1]
              by_cases h1 : j < off
              · rw [if_pos h1] at hy ⊢
                have := absL_get hc hy
                simpa using this
              · rw [if_neg h1] at hy ⊢
                rw [if_neg h1]
                by_cases h2 : j < off + l.length
                · rw [if_pos h2] at hy ⊢
                  exact absL_get hlr hy
                · rw [if_neg h2] at hy ⊢
                  have := absL_get hc hy
                  simpa using this
          · rw [← ho.1]
            simp only [Instr.fill, hp]
            rw [if_neg]
            simp [e3]
            omega
  | [], _ :: _, _, _, _, _, _, hi, _ => by simp at hi
  | _ :: _, [], _, _, _, _, _, hi, _ => by simp at hi
end
end Go.SE
