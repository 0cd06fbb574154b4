/-
 What the proof uses, part 8.
-/
import Derived.Test.YteekigmbopdfjaaGreatZp7
set_option maxRecDepth 100000
set_option linter.unusedSimpArgs false
set_option linter.unusedVariables false

section
namespace Go.SE
open Go.RowKit
structure Ro where
 s : Nat
 n : Nat
 row : Nat → List SV
def Ro.blk (b : Ro) : Blk := { elem := 0, size := b.s, rw := false, lock := false, lit := false, flat := true, n := b.n, row := b.row, ext := 0 }
def Qbe (bs : List Ro) : Qbq := fun k => match bs[k]? with | some b => some b.blk | none => none
def Zda : List Blk → Option (List Ro)
 | [] => some []
 | b :: rest => bif b.rw || b.dead || !b.flat then none else match Zda rest with
   | some l => some (⟨b.size, b.n, b.row⟩ :: l)
   | none => none
def Qov (spec : List SV → List Ro → Option (Option Prop × SV)) (args : List SV) (bs : List Blk) : Option Eff :=
 match Zda bs with
 | some rs => match spec args rs with
   | some (p, x) => some (.det p x [])
   | none => none
 | none => none
def Qcv (spec : List SV → List Ro → Option (Option Prop × SV)) : Ctr := Qgv false (Qov spec)
def Qca (P : Program) (f : FuncId) (spec : List SV → List Ro → Option (Option Prop × SV)) : Prop := Qex P f (Qov spec)
def Q1t : List Ro → List Ro → Prop
 | [], [] => True
 | a :: as, b :: bs => (a.s = b.s ∧ a.n = b.n ∧ ∀ i, i < b.n → a.row i = b.row i) ∧ Q1t as bs
 | _, _ => False
theorem Qkr : ∀ {as bs : List Ro}, Q1t as bs → ∀ (k : Nat), (as[k]? = none ∧ bs[k]? = none) ∨ ∃ a b, as[k]? = some a ∧ bs[k]? = some b ∧ a.s = b.s ∧ a.n = b.n ∧ ∀ i, i < b.n → a.row i = b.row i
 | [], [], _, k => .inl ⟨by simp, by simp⟩
 | a :: as, b :: bs, h, 0 => .inr ⟨a, b, by simp, by simp, h.1⟩
 | a :: as, b :: bs, h, k + 1 => by
   have := Qkr h.2 k
   simpa using this
 | [], _ :: _, h, _ => h.elim
 | _ :: _, [], h, _ => h.elim
theorem Qvz : ∀ {bs : List Blk} {rs : List Ro}, Zda bs = some rs → ∀ (k : Nat), (bs[k]? = none ∧ rs[k]? = none) ∨ ∃ b, bs[k]? = some b ∧ rs[k]? = some ⟨b.size, b.n, b.row⟩ ∧ b.rw = false ∧ b.dead = false ∧ b.flat = true
 | [], rs, h, k => by
   simp only [Zda, Option.some.injEq] at h
   subst h
   exact .inl ⟨by simp, by simp⟩
 | b :: bs, rs, h, k => by
   simp only [Zda] at h
   cases hb : (b.rw || b.dead || !b.flat) with
   | true => rw [hb] at h; cases h
   | false =>
     rw [hb, cond_false] at h
     simp only [Bool.or_eq_false_iff, Bool.not_eq_false'] at hb
     cases hr : Zda bs with
     | none => rw [hr] at h; cases h
     | some l =>
       rw [hr] at h
       cases h
       cases k with
       | zero => exact .inr ⟨b, by simp, by simp, hb.1.1, hb.1.2, hb.2⟩
       | succ k => simpa using Qvz hr k
theorem Zc9 {δ : Dict} {b : Blk} {c : Ro} {w : World} {p : Loc} (hf : b.flat = true) (h1 : b.size = c.s) (h2 : b.n = c.n) (h3 : ∀ i, i < c.n → b.row i = c.row i) (hl : Live δ b w p) : Live δ c.blk w p := by
 refine ⟨hl.s.trans h1, hl.n.trans h2, fun hno => ⟨h2.symm.trans (hl.no hno).1, rfl⟩, fun hno => ?_⟩
 obtain ⟨cc, e, fz, c1, c2, c3, c4, c5, c6, c7⟩ := hl.rep hno
 refine ⟨cc, e, fz, c1, fun hh => (by cases hh), fun _ i hi => ?_, fun hh => absurd rfl hh, ?_, fun hh => (by cases hh), fun i hi => ?_⟩
 · have hi' : i < c.n := hi
   show Qa0 (c.row i) = true
   rw [← h3 i hi']; exact c3 hf i (by omega)
 · show p.o + 0 * _ ≤ _
   omega
 · have hi' : i < c.n := hi
   show Qhk δ cc c.s p.o i (c.row i)
   rw [← h3 i hi', ← h1]; exact c7 i (by omega)
mutual
theorem Qr9 (m : List (Nat × Cur)) (h : Qbq) : ∀ x : SV, Qer x = true → mtS m h x x
 | .v x, _ => by simp only [mtS]
 | .agg cs, hx => by simp only [Qer] at hx; simp only [mtS]; exact Qnd m h cs hx
 | .tup cs, hx => by simp only [Qer] at hx; simp only [mtS]; exact Qnd m h cs hx
 | .unk, hx => by simp [Qer] at hx
 | .vp _ _, hx => by simp [Qer] at hx
 | .ptr _ _ _, hx => by simp [Qer] at hx
 | .sl _ _ _ _ _, hx => by simp [Qer] at hx
 | .ap _ _ _, hx => by simp [Qer] at hx
 | .fn _ _, hx => by simp [Qer] at hx
 | .ifc _ _, hx => by simp [Qer] at hx
theorem Qnd (m : List (Nat × Cur)) (h : Qbq) : ∀ xs : List SV, Qgc xs = true → mtL m h xs xs
 | [], _ => by simp only [mtL]
 | [x], hx => by simp only [Qgc, Bool.and_eq_true] at hx; simp only [mtL]; exact Qr9 m h x hx.1
 | x :: y :: xs, hx => by
   simp only [Qgc, Bool.and_eq_true] at hx
   simp only [mtL]
   have := Qnd m h (y :: xs) (by simp only [Qgc, Bool.and_eq_true]; exact hx.2)
   simp only [mtL] at this
   exact ⟨Qr9 m h x hx.1, this⟩
end
section
variable {P : Program} {Γ : Qb7}
theorem Qbw (hm : P.follows .mixedOrders = true) (hΓ : ∀ f g, Γ f = some g → g.ok P f) {f : FuncId} {fn : Func} (hf : P.funcs[f]? = some fn) {spec : List SV → List Ro → Option (Option Prop × SV)} {Λ : List SV → List Ro → Nat → Option LoopSpec}
   (h : ∀ args bs p x, spec args bs = some (p, x) → (∀ q, p = some q → q) → Qer x = true ∧ ∃ bs', Q1t bs bs' ∧ Qcm P Γ (Λ args bs) fn args (Qbe bs') 64 (fun y _ => y = x)) : Qca P f spec := fun args bs e hs hp δ w vals ha hr ht _ => by
 unfold Qov at hs
 cases hrs : Zda bs with
 | none => rw [hrs] at hs; cases hs
 | some rs =>
   rw [hrs] at hs
   simp only at hs
   cases hsp : spec args rs with
   | none => rw [hsp] at hs; cases hs
   | some px =>
     obtain ⟨p, x⟩ := px
     rw [hsp] at hs
     cases hs
     obtain ⟨h1, rs', h2, h3⟩ := h args rs p x hsp hp
     -- the blocks, as they are read
     have hget : ∀ (k : Nat), (bs[k]? = none ∧ rs'[k]? = none) ∨ ∃ b c, bs[k]? = some b ∧ rs'[k]? = some c ∧ b.rw = false ∧ b.dead = false ∧ b.flat = true ∧ b.size = c.s ∧ b.n = c.n ∧ ∀ i, i < c.n → b.row i = c.row i := fun k => by
       rcases Qvz hrs k with ⟨g1, g2⟩ | ⟨b, g1, g2, g3, g4, g5⟩
       · rcases Qkr h2 k with ⟨_, e⟩ | ⟨a, c, e, _⟩
         · exact .inl ⟨g1, e⟩
         · rw [g2] at e; cases e
       · rcases Qkr h2 k with ⟨e, _⟩ | ⟨a, c, e1, e2, e3, e4, e5⟩
         · rw [g2] at e; cases e
         · rw [g2] at e1; cases e1
           exact .inr ⟨b, c, g1, e2, g3, g4, g5, e3, e4, e5⟩
     have hr1 : HRep δ (Qbe rs') w := by
       refine ⟨fun k b hk => ?_, fun k k' r b _ _ hk hb => ?_⟩
       · unfold Qbe at hk
         rcases hget k with ⟨_, g⟩ | ⟨b0, c, g1, g2, g3, g4, g5, g6, g7, g8⟩
         · rw [g] at hk; cases hk
         · rw [g2] at hk; cases hk
           obtain ⟨q, d1, d2⟩ := hr.blk k b0 g1
           exact ⟨q, d1, fun _ => Zc9 g5 g6 g7 g8 (d2 g4)⟩
       · unfold Qbe at hk
         split at hk
         · cases hk; cases hb
         · cases hk
     have ht1 : ∀ k, Qbe rs' k = none → δ k = none := fun k hk => by
       refine ht k ?_
       unfold Qa1
       unfold Qbe at hk
       rcases hget k with ⟨g, _⟩ | ⟨b0, c, _, g2, _⟩
       · exact g
       · rw [g2] at hk; cases hk
     have noRw : ∀ r, ¬ Qh8 δ (Qbe rs') r := fun r ⟨k, b, hk, hb, _⟩ => by
       unfold Qbe at hk
       split at hk
       · cases hk; cases hb
       · cases hk
     refine (Qqr hm hΓ hf ha hr1 ht1 h3).mono fun ed w' ⟨r, y, δ', h', g1, g2, g3, _, _, g6, _⟩ => ?_
     subst g2
     refine ⟨r, y, [], δ, g1, ⟨rfl, rfl⟩, ?_, (Qfn y r h1).2 ((Qfn y r h1).1 g3), Qrt hr ⟨g6.os, g6.tape, g6.output, g6.size, fun k hk => g6.block k hk (noRw k)⟩⟩
     -- nothing is written
     have hall : ∀ (l : List Blk) (j : Nat), (∀ b ∈ l, b.rw = false) → Qix [] l j = true := by
       intro l
       induction l with
       | nil => intro j _; rfl
       | cons b l ih => intro j hl; simp [Qix, hl b List.mem_cons_self, ih (j + 1) fun b hb => hl b (List.mem_cons_of_mem _ hb)]
     unfold Qsi
     rw [hall bs 0 fun b hb => ?_]
     · rfl
     · obtain ⟨k, hk⟩ := List.getElem?_of_mem hb
       rcases hget k with ⟨e, _⟩ | ⟨b0, c, e1, _, e2, _⟩
       · rw [hk] at e; cases e
       · rw [hk] at e1; cases e1; exact e2
theorem Qc0 {f : FuncId} {fn : Func} (hf : P.funcs[f]? = some fn) (hn : (fn.name == "runtime.NumGoroutine") = false) (hb : fn.body.isNone = false) {spec : List SV → List Ro → Option (Option Prop × SV)} (hs : Qca P f spec) : (Qcv spec).ok P f := Qhu hf hn hb hs
end
section
variable {P : Program} {ops : Array Oper} {Q : Exit → Act → World → Prop} {ro : Option Nat} {n : Nat}
structure DetAt (m : Nat) (dst : Nat → Nat) (vals : Nat → Value) (a0 : Act) (listed : Array Bool) (a : Act) : Prop where
 hit : ∀ i, i < m → listed.getD i false = true → a.tmps[dst i]? = some (vals i)
 miss : ∀ t, (∀ i, i < m → listed.getD i false = true → dst i ≠ t) → a.tmps[t]? = a0.tmps[t]?
 df : a.defers = a0.defers
 size : a.tmps.size = a0.tmps.size
def Qlw (dst : Nat → Nat) (vals : Nat → Value) (t : Array Value) : Nat → Array Value
 | 0 => t
 | k + 1 => (Qlw dst vals t k).setIfInBounds (dst k) (vals k)
theorem Qo4 (dst : Nat → Nat) (vals : Nat → Value) (t : Array Value) : ∀ k, (Qlw dst vals t k).size = t.size
 | 0 => rfl
 | k + 1 => by simp [Qlw, Qo4 dst vals t k]
theorem Qsj {dst : Nat → Nat} {vals : Nat → Value} {t : Array Value} {m : Nat} (hinj : ∀ i j, i < m → j < m → dst i = dst j → i = j) (hlt : ∀ i, i < m → dst i < t.size) : ∀ k, k ≤ m → ∀ i, i < k → (Qlw dst vals t k)[dst i]? = some (vals i)
 | 0, _, i, hi => absurd hi (Nat.not_lt_zero _)
 | k + 1, hk, i, hi => by
   by_cases h : i = k
   · subst h
     have := hlt i (by omega)
     simp [Qlw, Qo4, this]
   · have hne : dst k ≠ dst i := fun e => h (hinj k i (by omega) (by omega) e).symm
     simp only [Qlw]
     rw [Array.getElem?_setIfInBounds_ne hne]
     exact Qsj hinj hlt k (by omega) i (by omega)
theorem Qo5 {dst : Nat → Nat} {vals : Nat → Value} {t : Array Value} {s : Nat} : ∀ k, (∀ i, i < k → dst i ≠ s) → (Qlw dst vals t k)[s]? = t[s]?
 | 0, _ => rfl
 | k + 1, h => by
   simp only [Qlw]
   rw [Array.getElem?_setIfInBounds_ne (h k (Nat.lt_succ_self k)), Qo5 k fun i hi => h i (by omega)]
theorem DetAt.full {m : Nat} {dst : Nat → Nat} {vals : Nat → Value} {a0 : Act} {listed : Array Bool} {a : Act} (hinj : ∀ i j, i < m → j < m → dst i = dst j → i = j) (hlt : ∀ i, i < m → dst i < a0.tmps.size)
   (h : DetAt m dst vals a0 listed a) (hall : ∀ i, i < m → listed.getD i false = true) : a = { tmps := Qlw dst vals a0.tmps m, defers := a0.defers } := by
 have e : a.tmps = Qlw dst vals a0.tmps m := by
   refine Array.ext_getElem? fun s => ?_
   by_cases hs : ∃ i, i < m ∧ dst i = s
   · obtain ⟨i, hi, rfl⟩ := hs
     rw [h.hit i hi (hall i hi), Qsj hinj hlt m (Nat.le_refl _) i hi]
   · have hs' : ∀ i, i < m → dst i ≠ s := fun i hi e => hs ⟨i, hi, e⟩
     rw [h.miss s fun i hi _ => hs' i hi, Qo5 m hs']
 cases a
 simp only at e ⊢
 rw [e]
 have := h.df
 simp only at this
 rw [this]
theorem Qgx {listed : Array Bool} {i : Nat} (h : i < listed.size) : (listed.setIfInBounds i true).getD i false = true := by simp [Array.getD_eq_getD_getElem?, h]
def left (listed : Array Bool) : Nat → Nat
 | 0 => 0
 | k + 1 => left listed k + (if listed.getD k false = true then 0 else 1)
theorem Qhp {listed : Array Bool} : ∀ k, left listed k = 0 → ∀ i, i < k → listed.getD i false = true
 | 0, _, i, hi => absurd hi (Nat.not_lt_zero _)
 | k + 1, h, i, hi => by
   simp only [left] at h
   by_cases hl : listed.getD k false = true
   · by_cases e : i = k
     · rw [e]; exact hl
     · exact Qhp k (by omega) i (by omega)
   · rw [if_neg hl] at h; omega
theorem Qwi {listed : Array Bool} {i : Nat} (hi : listed.getD i false = false) (hs : i < listed.size) : ∀ k, left (listed.setIfInBounds i true) k = if i < k then left listed k - 1 else left listed k
 | 0 => rfl
 | k + 1 => by
   simp only [left, Qwi hi hs k]
   by_cases e : k = i
   · subst e
     rw [Qgx hs, hi, if_neg (Nat.lt_irrefl _), if_pos (Nat.lt_succ_self _)]
     simp
   · rw [getD_set_ne false (fun h => e h.symm)]
     generalize (if listed.getD k false = true then 0 else 1) = c
     by_cases h : i < k
     · have hk : i < k + 1 := by omega
       rw [if_pos h, if_pos hk]
       have : 0 < left listed k := by
         rcases Nat.eq_zero_or_pos (left listed k) with h0 | h0
         · have := Qhp k h0 i h; rw [hi] at this; cases this
         · exact h0
       omega
     · have hk : ¬ i < k + 1 := by omega
       rw [if_neg h, if_neg hk]
theorem Zd5 {m : Nat} {dst : Nat → Nat} {vals : Nat → Value} {a0 : Act} {w : World} (hinj : ∀ i j, i < m → j < m → dst i = dst j → i = j) (hlt : ∀ i, i < m → dst i < a0.tmps.size) (hm : m ≤ ops.size)
   (hback : ∀ (j : Nat) o, ops[j]? = some o → ∀ e ∈ o.after, Region.binds .any e = true → e.on < j)
   (hlate : ∀ i, m ≤ i → ∀ o, ops[i]? = some o → ∀ j, j < m → ((Qbc ops.toList []).getD i 0).testBit j = true)
   (hrun : ∀ i, i < m → ∀ o, ops[i]? = some o → o.dst = some (dst i) ∧ o.guard = none ∧ (∀ c, o.op ≠ .defer c) ∧ ∀ a : Act, a.tmps.size = a0.tmps.size → (∀ e, e ∈ o.after → e.on < m → Region.binds .any e = true → a.tmps[dst e.on]? = some (vals e.on)) → (∀ t, (∀ j, j < m → dst j ≠ t) → a.tmps[t]? = a0.tmps[t]?) → (execOp a.eval o).run P w = .ok (.value (vals i)) w)
   (hrest : ∀ listed, listed.size = ops.size → Qg7 ops listed → (∀ i, i < m → listed.getD i false = true) → (∀ i, m ≤ i → listed.getD i false = false) → wpAnyIn (WF ro) n P .any ops Q (ops.size - m) listed { tmps := Qlw dst vals a0.tmps m, defers := a0.defers } w) :
   ∀ (fuel : Nat) (listed : Array Bool) (a : Act), listed.size = ops.size → Qg7 ops listed → (∀ i, m ≤ i → listed.getD i false = false) → DetAt m dst vals a0 listed a → fuel = left listed m + (ops.size - m) → wpAnyIn (WF ro) n P .any ops Q fuel listed a w := by
 intro fuel
 induction fuel with
 | zero =>
   intro listed a hs hc hn hd hf
   have h0 := Qhp m (show left listed m = 0 by omega)
   have e := hd.full hinj hlt h0
   subst e
   have := hrest listed hs hc h0 hn
   rw [show ops.size - m = 0 by omega] at this
   exact this
 | succ fuel ih =>
   intro listed a hs hc hn hd hf
   by_cases hz : left listed m = 0
   · have h0 := Qhp m hz
     have e := hd.full hinj hlt h0
     subst e
     have := hrest listed hs hc h0 hn
     rw [show ops.size - m = fuel + 1 by omega] at this
     exact this
   · -- what comes up is one of the first m
     have early : ∀ i, i ∈ Region.ready .any ops listed → i < m := fun i hi => by
       rcases Nat.lt_or_ge i m with h | h
       · exact h
       · exfalso
         obtain ⟨_, o, ho, hall⟩ := mem_ready.1 hi
         refine hz ?_
         have all : ∀ j, j < m → listed.getD j false = true := fun j hj => Qgy (fun j o ho e he => hback j o (by simpa using ho) e (by simpa using he)) hc i o ho hall (hlate i h o ho j hj)
         have : ∀ k, k ≤ m → left listed k = 0 := by
           intro k
           induction k with
           | zero => intro _; rfl
           | succ k ihk => intro hk; simp only [left]; rw [ihk (by omega), if_pos (all k (by omega))]
         exact this m (Nat.le_refl _)
     refine ⟨fun hnil => ?_, fun i hi => ?_⟩
     · exfalso
       -- the first that is not listed may come up
       have ex : ∃ i, i < m ∧ listed.getD i false = false ∧ ∀ j, j < i → listed.getD j false = true := by
         have : ∀ k, left listed k ≠ 0 → ∃ i, i < k ∧ listed.getD i false = false ∧ ∀ j, j < i → listed.getD j false = true := by
           intro k
           induction k with
           | zero => intro h; exact absurd rfl h
           | succ k ihk =>
             intro h
             by_cases h' : left listed k = 0
             · refine ⟨k, Nat.lt_succ_self k, ?_, Qhp k h'⟩
               cases hl : listed.getD k false with
               | false => rfl
               | true => simp only [left] at h; rw [h', hl, if_pos rfl] at h; exact absurd rfl h
             · obtain ⟨i, h1, h2⟩ := ihk h'
               exact ⟨i, by omega, h2⟩
         exact this m hz
       obtain ⟨i, h1, h2, h3⟩ := ex
       have hsz : i < ops.size := by omega
       have : i ∈ Region.ready .any ops listed := mem_ready.2 ⟨by
         have hl : i < listed.size := by omega
         rw [Array.getD_eq_getD_getElem?, Array.getElem?_eq_getElem hl] at h2 ⊢
         simpa using h2, ops[i], by simp [hsz], fun e he hb => h3 e.on (hback i _ (by simp [hsz]) e he hb)⟩
       rw [hnil] at this
       cases this
     · have him := early i hi
       obtain ⟨hun, o, ho, hall⟩ := mem_ready.1 hi
       obtain ⟨hdst, hg, hdf, hr⟩ := hrun i him o ho
       have hsl : i < listed.size := by
         have := (Array.getElem?_eq_some_iff.1 ho).1
         omega
       have hui : listed.getD i false = false := by
         rw [Array.getD_eq_getD_getElem?, Array.getElem?_eq_getElem hsl] at hun ⊢
         simpa using hun
       have hrr := hr a hd.size (fun e he hem hb => hd.hit e.on hem (hall e he hb)) (fun t ht => hd.miss t fun j hj _ => ht j hj)
       unfold wpOpIn
       rw [ho]
       simp only
       rw [if_pos (by simp [Region.wanted, hg])]
       refine ⟨fun _ _ => trivial, ?_⟩
       rw [show o.semAt (WF ro).round a.eval = execOp a.eval o from Oper.semAt_eq _ _ _ hdf, hrr]
       simp only [Oper.uponIn]
       refine ih (listed.setIfInBounds i true) _ (by simp [hs]) (Qk7 hc hi) (fun j hj => by rw [getD_set_ne false (by omega)]; exact hn j hj) ⟨fun j hj hl => ?_, fun t ht => ?_, by rw [Qib]; exact hd.df, by rw [Qp6]; exact hd.size⟩ ?_
       · rw [hdst]
         simp only [Act.put]
         by_cases e : j = i
         · subst e
           have := hlt j hj
           rw [← hd.size] at this
           simp [this]
         · rw [getD_set_ne false (fun h => e h.symm)] at hl
           rw [Array.getElem?_setIfInBounds_ne (fun h => e (hinj i j him hj h).symm)]
           exact hd.hit j hj hl
       · rw [hdst]
         simp only [Act.put]
         have hne : dst i ≠ t := ht i him (Qgx hsl)
         rw [Array.getElem?_setIfInBounds_ne hne]
         refine hd.miss t fun j hj hl => ?_
         by_cases e : j = i
         · rw [e]; exact hne
         · exact ht j hj (by rw [getD_set_ne false (fun h => e h.symm)]; exact hl)
       · rw [Qwi hui hsl, if_pos him]
         omega
theorem Qx1 {id m : Nat} {T : Array Value} {dst : Nat → Nat} {vals : Nat → Value} {a : Act} {w : World} (hmx : P.follows .mixedOrders = true) (hinj : ∀ i j, i < m → j < m → dst i = dst j → i = j) (hlt : ∀ i, i < m → dst i < a.tmps.size) (hm : m ≤ ops.size)
   (hback : ∀ (j : Nat) o, ops[j]? = some o → ∀ e ∈ o.after, Region.binds .any e = true → e.on < j)
   (hlate : ∀ i, m ≤ i → ∀ o, ops[i]? = some o → ∀ j, j < m → ((Qbc ops.toList []).getD i 0).testBit j = true)
   (hrun : ∀ i, i < m → ∀ o, ops[i]? = some o → o.dst = some (dst i) ∧ o.guard = none ∧ (∀ c, o.op ≠ .defer c) ∧ ∀ b : Act, b.tmps.size = a.tmps.size → (∀ e, e ∈ o.after → e.on < m → Region.binds .any e = true → b.tmps[dst e.on]? = some (vals e.on)) → (∀ t, (∀ j, j < m → dst j ≠ t) → b.tmps[t]? = a.tmps[t]?) → (execOp b.eval o).run P w.drew = .ok (.value (vals i)) w.drew)
   (hT : Qlw dst vals a.tmps m = T) (hrest : ∀ listed, listed.size = ops.size → Qg7 ops listed → (∀ i, i < m → listed.getD i false = true) → (∀ i, m ≤ i → listed.getD i false = false) → wpAnyIn (WF ro) n P .any ops Q (ops.size - m) listed { tmps := T, defers := a.defers } w.drew) :
   (Code.region id ops true).wpIn (WF ro) n P Q a w := by
 subst hT
 refine wpIn_region_any hmx ?_
 have hrep : ∀ i, (Array.replicate ops.size false).getD i false = false := fun i => by
   simp only [Array.getD_eq_getD_getElem?, Array.getElem?_replicate]
   split <;> rfl
 have hl : ∀ k, left (Array.replicate ops.size false) k = k := by
   intro k
   induction k with
   | zero => rfl
   | succ k ih => simp only [left]; rw [ih, hrep k]; rfl
 refine Zd5 (w := w.drew) hinj hlt hm hback hlate hrun hrest ops.size _ a (by simp) (fun j o _ h => absurd (by rw [hrep] at h; exact h : false = true) (by simp)) (fun i _ => hrep i) ⟨fun i _ h => absurd (by rw [hrep] at h; exact h : false = true) (by simp), fun _ _ => rfl, rfl, rfl⟩ ?_
 rw [hl]; omega
theorem Q2e {fuel i : Nat} {o : Oper} {listed : Array Bool} {a : Act} {w : World} (ho : ops[i]? = some o) (hin : i ∈ Region.ready .any ops listed) (hone : ∀ j, j ∈ Region.ready .any ops listed → j = i) (hg : o.guard = none)
   (h : o.wpIn (WF ro) n P a w (wpAnyIn (WF ro) n P .any ops Q fuel (listed.setIfInBounds i true)) Q) : wpAnyIn (WF ro) n P .any ops Q (fuel + 1) listed a w := by
 refine ⟨fun hnil => absurd (by rw [hnil] at hin; exact hin : i ∈ ([] : List Nat)) (by simp), fun j hj => ?_⟩
 rw [hone j hj]
 unfold wpOpIn
 rw [ho]
 simp only
 rw [if_pos (by simp [Region.wanted, hg])]
 exact h
theorem Qwc {m fuel : Nat} {o : Oper} {listed : Array Bool} {a : Act} {w : World} (hs : listed.size = ops.size) (hc : Qg7 ops listed) (h1 : ∀ i, i < m → listed.getD i false = true) (h0 : ∀ i, m ≤ i → listed.getD i false = false)
   (hback : ∀ (j : Nat) o, ops[j]? = some o → ∀ e ∈ o.after, Region.binds .any e = true → e.on < j) (ho : ops[m]? = some o) (hg : o.guard = none)
   (hlate : ∀ i, m < i → ∀ o, ops[i]? = some o → ((Qbc ops.toList []).getD i 0).testBit m = true)
   (h : ∀ listed', listed'.size = ops.size → Qg7 ops listed' → (∀ i, i < m + 1 → listed'.getD i false = true) → (∀ i, m + 1 ≤ i → listed'.getD i false = false) → o.wpIn (WF ro) n P a w (wpAnyIn (WF ro) n P .any ops Q fuel listed') Q) :
   wpAnyIn (WF ro) n P .any ops Q (fuel + 1) listed a w := by
 have hm : m < ops.size := (Array.getElem?_eq_some_iff.1 ho).1
 have hin : m ∈ Region.ready .any ops listed := mem_ready.2 ⟨by
   have hl : m < listed.size := by omega
   have h2 := h0 m (Nat.le_refl _)
   rw [Array.getD_eq_getD_getElem?, Array.getElem?_eq_getElem hl] at h2 ⊢
   simpa using h2, o, ho, fun e he hb => h1 e.on (hback m o ho e he hb)⟩
 refine Q2e ho hin (fun j hj => ?_) hg (h _ (by simp [hs]) (Qk7 hc hin) (fun i hi => ?_) fun i hi => ?_)
 · obtain ⟨hun, oj, hoj, hall⟩ := mem_ready.1 hj
   have hj' : j < ops.size := (Array.getElem?_eq_some_iff.1 hoj).1
   have hl : j < listed.size := by omega
   rw [Array.getD_eq_getD_getElem?, Array.getElem?_eq_getElem hl] at hun
   rcases Nat.lt_trichotomy j m with hlt | heq | hgt
   · have h2 := h1 j hlt
     rw [Array.getD_eq_getD_getElem?, Array.getElem?_eq_getElem hl] at h2
     simp_all
   · exact heq
   · have := Qgy (fun j o ho e he => hback j o (by simpa using ho) e (by simpa using he)) hc j oj hoj hall (hlate j hgt oj hoj)
     rw [h0 m (Nat.le_refl _)] at this
     cases this
 · by_cases e : i = m
   · rw [e]; exact Qgx (by omega)
   · rw [getD_set_ne false (fun h => e h.symm)]; exact h1 i (by omega)
 · rw [getD_set_ne false (by omega)]; exact h0 i (by omega)
theorem Q7c {listed : Array Bool} {a : Act} {w : World} (hs : listed.size = ops.size) (h1 : ∀ i, i < ops.size → listed.getD i false = true) (h : Q .normal a w) : wpAnyIn (WF ro) n P .any ops Q 0 listed a w := by
 refine ⟨List.eq_nil_iff_forall_not_mem.2 fun i hi => ?_, h⟩
 obtain ⟨hun, o, ho, _⟩ := mem_ready.1 hi
 have hj' : i < ops.size := (Array.getElem?_eq_some_iff.1 ho).1
 have hl : i < listed.size := by omega
 have h2 := h1 i hj'
 rw [Array.getD_eq_getD_getElem?, Array.getElem?_eq_getElem hl] at hun h2
 simp_all
end
end Go.SE
end
