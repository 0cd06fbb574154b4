/-
 What the proof uses, part 14.
-/
import Derived.Test.YtjdldadmaaeimaaZd13
set_option maxRecDepth 100000
set_option linter.unusedSimpArgs false
set_option linter.unusedVariables false

section
namespace Go.Proofs.Ytjdldadmaaeimaa
open Go.SE Go.RowKit
def Qd3 (k : Int) : Bool := decide (1 ≤ k) && decide (k ≤ 10)
def Qju (k : Int) (c : CV) (n : Nat) (g : Nat → Int × Int) : Bool := bif decide (k = 1) then Qbp 1 1 (uc1 c) c (Qey (Qcn (uc1 c)) n g (Qcn c) n g) else Qbp k k (ucK k c) c (Qcp (Qcn (ucK k c)) (Qcn c) && Nat.beq n 0)
def Qgy (k : Int) (c : CV) (n : Nat) : Bool := caB c (kB k c n)
def Qgu (k : Int) (c : CV) (n : Nat) (g : Nat → Int × Int) : ByteArray := Qcd (5 + kN k n) fun i => [.v (.int .u8 ((caL k c (kT k c n (fun i => (g i).1) (fun i => (g i).2))).getD i 0))]
def Qe5 (k : Int) (c : CV) (n : Nat) (g : Nat → Int × Int) : ByteArray := bif Qd3 k && (Qju k c n g && !Qgy k c n) then Qgu k c n g else emp
def Qe6 (k : Int) (c : CV) (n : Nat) (g : Nat → Int × Int) : Int := bif Qd3 k then (bif Qju k c n g then (bif Qgy k c n then 3 else 0) else 4) else 8
def Q02 (k : Int) (c : CV) (n n' : Nat) (row : Nat → List SV) : Prop := Qam n n' row ∧ Qg8 c ∧ I64 k ∧ n < 100
def Qzn : List SV → List Ro → Option (Option Prop × SV)
 | [.agg l], rs => match cellsOf l, rs with
   | some (k, c, .sl 0 2 0 n _), [⟨2, n', row⟩] => some (some (Q02 k c n n' row), .tup [Qe4 (Qe5 k c n fun i => gi (row i)), iV (Qe6 k c n fun i => gi (row i))])
   | _, _ => none
 | _, _ => none
theorem Qyg : ∀ f g, Qor f = some g → g.ok Try.prog f := Qah (Qah (Qah (Qah Qax (Qcf Try.func69 (by kernel_rfl) (by kernel_rfl) Qxe)) (Qnv Try.func25 (by kernel_rfl) (by kernel_rfl) Qxi)) (Qcf Try.func70 (by kernel_rfl) (by kernel_rfl) Qxw)) (Qcf Try.func71 (by kernel_rfl) (by kernel_rfl) Qmg)
theorem Qoz {b : Bool} {x y : Prop} (h : b = false) (hy : y) : sel b x y := by subst h; exact hy
theorem Qxd : Qbt Try.prog 69 Qzc := Qc0 hm Qax Try.func69 (Λ := fun _ _ => Qdi) fun args bs e hs hp => by
 unfold Qzc at hs
 split at hs
 · rename_i l
   split at hs
   · rename_i k c n cap hl
     split at hs
     · rename_i S
       obtain ⟨hS, hs⟩ := Qgj hs
       have he := Option.some.inj hs
       subst he
       obtain ⟨hsp, hk⟩ := hp _ rfl
       refine ⟨[ptB S.elem n (gX S) (gY S) S.ext S.whole], ⟨Qcq hS hsp, trivial⟩, ?_⟩
       rw [Qcs hl, Q8h]
       have ne : ∀ j : Int, 1 ≤ j → j ≤ 10 → (k == j) = false := fun j h1 h2 => by
         cases hc : k == j with
         | false => rfl
         | true => have := (beq_iff_eq ..).1 hc; omega
       refine Qoz (ne 1 (by omega) (by omega)) (Qoz (ne 3 (by omega) (by omega)) (Qoz (ne 4 (by omega) (by omega)) (Qoz (ne 2 (by omega) (by omega)) (Qoz (ne 7 (by omega) (by omega)) (Qoz (ne 5 (by omega) (by omega)) (Qoz (ne 6 (by omega) (by omega)) (Qoz (ne 8 (by omega) (by omega)) (Qoz (ne 9 (by omega) (by omega)) (Qoz (ne 10 (by omega) (by omega)) ?_)))))))))
       refine ⟨⟨?_, rfl⟩, trivial⟩
       repeat (first | exact rfl | refine ⟨rfl, ?_⟩)
     · cases hs
   · cases hs
 · cases hs
theorem Q8a : ∀ f g, Zib f = some g → g.ok Try.prog f := Qah Qyg (Qcf Try.func69 (by kernel_rfl) (by kernel_rfl) Qxd)
theorem Qa4 {n : Nat} {g : Nat → Int × Int} (hn : n < 1099511627776) (hg : ∀ i, i < n → I64 (g i).1 ∧ I64 (g i).2) : Qbg n (Qaz (Ro.blk { s := 2, n := n, row := fun i => [SV.v (.int .i64 (g i).1), SV.v (.int .i64 (g i).2)] }) 2 0 n) := ⟨okAll_rows.2 fun i hi => by
 show Zee [SV.v (.int .i64 (g (0 + i)).1), SV.v (.int .i64 (g (0 + i)).2)]
 rw [Nat.zero_add]; exact hg i hi, rfl, hn⟩
theorem Qb8 {n m : Nat} (g : Nat → Int × Int) : gX (Qaz (Ro.blk { s := 2, n := m, row := fun i => [SV.v (.int .i64 (g i).1), SV.v (.int .i64 (g i).2)] }) 2 0 n) = fun i => (g i).1 := funext fun i => by
 show (g (0 + i)).1 = _
 rw [Nat.zero_add]
theorem Qb7 {n m : Nat} (g : Nat → Int × Int) : gY (Qaz (Ro.blk { s := 2, n := m, row := fun i => [SV.v (.int .i64 (g i).1), SV.v (.int .i64 (g i).2)] }) 2 0 n) = fun i => (g i).2 := funext fun i => by
 show (g (0 + i)).2 = _
 rw [Nat.zero_add]
theorem Qo3 (k : Int) (n : Nat) (hn : n < 100) : kN k n ≤ 2000 := by
 have := Qdc n
 unfold kN
 by_cases h1 : k = 1
 · rw [decide_eq_true h1, cond_true]
   first | (show shN n + 72 ≤ 2000; omega) | (show (_ : Nat) ≤ 2000; unfold Q04; omega)
 rw [decide_eq_false h1, cond_false]
 by_cases h2 : k = 2
 · rw [decide_eq_true h2, cond_true]
   first | (show shN n + 72 ≤ 2000; omega) | (show (_ : Nat) ≤ 2000; unfold Q2g; omega)
 rw [decide_eq_false h2, cond_false]
 by_cases h3 : k = 3
 · rw [decide_eq_true h3, cond_true]
   first | (show shN n + 72 ≤ 2000; omega) | (show (_ : Nat) ≤ 2000; unfold Q2f; omega)
 rw [decide_eq_false h3, cond_false]
 by_cases h4 : k = 4
 · rw [decide_eq_true h4, cond_true]
   first | (show shN n + 72 ≤ 2000; omega) | (show (_ : Nat) ≤ 2000; unfold Q2e; omega)
 rw [decide_eq_false h4, cond_false]
 by_cases h5 : k = 5
 · rw [decide_eq_true h5, cond_true]
   first | (show shN n + 72 ≤ 2000; omega) | (show (_ : Nat) ≤ 2000; unfold Q2d; omega)
 rw [decide_eq_false h5, cond_false]
 by_cases h6 : k = 6
 · rw [decide_eq_true h6, cond_true]
   first | (show shN n + 72 ≤ 2000; omega) | (show (_ : Nat) ≤ 2000; unfold Q2c; omega)
 rw [decide_eq_false h6, cond_false]
 by_cases h7 : k = 7
 · rw [decide_eq_true h7, cond_true]
   first | (show shN n + 72 ≤ 2000; omega) | (show (_ : Nat) ≤ 2000; unfold Q2b; omega)
 rw [decide_eq_false h7, cond_false]
 by_cases h8 : k = 8
 · rw [decide_eq_true h8, cond_true]
   first | (show shN n + 72 ≤ 2000; omega) | (show (_ : Nat) ≤ 2000; unfold Q2a; omega)
 rw [decide_eq_false h8, cond_false]
 by_cases h9 : k = 9
 · rw [decide_eq_true h9, cond_true]
   first | (show shN n + 72 ≤ 2000; omega) | (show (_ : Nat) ≤ 2000; unfold Q19; omega)
 rw [decide_eq_false h9, cond_false]
 by_cases h10 : k = 10
 · rw [decide_eq_true h10, cond_true]
   first | (show shN n + 72 ≤ 2000; omega) | (show (_ : Nat) ≤ 2000; unfold Qo5; omega)
 rw [decide_eq_false h10, cond_false]
 omega
theorem Zcm {c : CV} {n cap : Nat} {g : Nat → Int × Int} (hc : Qg8 c) (hn : n < 1099511627776) (h100 : n < 100) (hg : ∀ i, i < n → I64 (g i).1 ∧ I64 (g i).2) : Qa6 Try.prog Qor Qas Try.f24 [caS 1 c (.sl 0 2 0 n cap)] (Qa0 [⟨2, n, Qan g⟩]) 64 (fun y _ => y = .tup [Qe4 (Qe5 1 c n g), iV (Qe6 1 c n g)]) := by
 refine Eq.mpr (Q3w c n n cap g _) ?_
 repeat (first | unfold Qfg)
 refine ⟨Qa4 hn hg, ⟨Qav hn hg, Qav hn hg⟩, ?_⟩
 rw [Qb8, Qb7, Qoa]
 have hk : Qd3 1 = true := rfl
 have hkn := Qo3 1 n h100
 unfold Qe5 Qe6
 rw [hk, Bool.true_and, cond_true]
 have hf : Qju 1 c n g = Qbp 1 1 (uc1 c) c (Qey (Qcn (uc1 c)) n g (Qcn c) n g) := rfl
 rw [hf]
 refine Qab (fun e => ?_) fun e => ⟨⟨⟨by omega, by omega⟩, hc, Qa4 hn hg, h100⟩, fun c1 => ⟨Qaa _ _ _ (by omega), ?_⟩⟩
 · rw [show Qbp 1 1 (uc1 c) c (Qey (Qcn (uc1 c)) n g (Qcn c) n g) = false by simpa using e]
   rfl
 · rw [show Qbp 1 1 (uc1 c) c (Qey (Qcn (uc1 c)) n g (Qcn c) n g) = true by simpa using e]
   rw [Bool.true_and, cond_true]
   show SV.tup [.v (.string (bif false || Qgy 1 c n then emp else Qgu 1 c n g)), .v (.int .i64 (bif false || Qgy 1 c n then 3 else 0))] = _
   cases Qgy 1 c n <;> rfl
theorem Zcl {c : CV} {n cap : Nat} {g : Nat → Int × Int} (hc : Qg8 c) (hn : n < 1099511627776) (h100 : n < 100) (hg : ∀ i, i < n → I64 (g i).1 ∧ I64 (g i).2) : Qa6 Try.prog Qor Qas Try.f24 [caS 2 c (.sl 0 2 0 n cap)] (Qa0 [⟨2, n, Qan g⟩]) 64 (fun y _ => y = .tup [Qe4 (Qe5 2 c n g), iV (Qe6 2 c n g)]) := by
 refine Eq.mpr (Q3v c n n cap g _) ?_
 repeat (first | unfold Qff)
 refine ⟨Qa4 hn hg, Qav hn hg, ?_⟩
 rw [Qb8, Qb7]
 have hk : Qd3 2 = true := rfl
 have hkn := Qo3 2 n h100
 unfold Qe5 Qe6
 rw [hk, Bool.true_and, cond_true]
 have hf : Qju 2 c n g = Qbp 2 2 (uc2 c) c (Qcp (Qcn (uc2 c)) (Qcn c) && Nat.beq n 0) := rfl
 rw [hf]
 refine Qab (fun e => ?_) fun e => ⟨⟨⟨by omega, by omega⟩, hc, Qa4 hn hg, h100⟩, fun c1 => ⟨Qaa _ _ _ (by omega), ?_⟩⟩
 · rw [show Qbp 2 2 (uc2 c) c (Qcp (Qcn (uc2 c)) (Qcn c) && Nat.beq n 0) = false by simpa using e]
   rfl
 · rw [show Qbp 2 2 (uc2 c) c (Qcp (Qcn (uc2 c)) (Qcn c) && Nat.beq n 0) = true by simpa using e]
   rw [Bool.true_and, cond_true]
   show SV.tup [.v (.string (bif false || Qgy 2 c n then emp else Qgu 2 c n g)), .v (.int .i64 (bif false || Qgy 2 c n then 3 else 0))] = _
   cases Qgy 2 c n <;> rfl
theorem Zck {c : CV} {n cap : Nat} {g : Nat → Int × Int} (hc : Qg8 c) (hn : n < 1099511627776) (h100 : n < 100) (hg : ∀ i, i < n → I64 (g i).1 ∧ I64 (g i).2) : Qa6 Try.prog Qor Qas Try.f24 [caS 3 c (.sl 0 2 0 n cap)] (Qa0 [⟨2, n, Qan g⟩]) 64 (fun y _ => y = .tup [Qe4 (Qe5 3 c n g), iV (Qe6 3 c n g)]) := by
 refine Eq.mpr (Q3u c n n cap g _) ?_
 repeat (first | unfold Qfe)
 refine ⟨Qa4 hn hg, Qav hn hg, ?_⟩
 rw [Qb8, Qb7]
 have hk : Qd3 3 = true := rfl
 have hkn := Qo3 3 n h100
 unfold Qe5 Qe6
 rw [hk, Bool.true_and, cond_true]
 have hf : Qju 3 c n g = Qbp 3 3 (uc3 c) c (Qcp (Qcn (uc3 c)) (Qcn c) && Nat.beq n 0) := rfl
 rw [hf]
 refine Qab (fun e => ?_) fun e => ⟨⟨⟨by omega, by omega⟩, hc, Qa4 hn hg, h100⟩, fun c1 => ⟨Qaa _ _ _ (by omega), ?_⟩⟩
 · rw [show Qbp 3 3 (uc3 c) c (Qcp (Qcn (uc3 c)) (Qcn c) && Nat.beq n 0) = false by simpa using e]
   rfl
 · rw [show Qbp 3 3 (uc3 c) c (Qcp (Qcn (uc3 c)) (Qcn c) && Nat.beq n 0) = true by simpa using e]
   rw [Bool.true_and, cond_true]
   show SV.tup [.v (.string (bif false || Qgy 3 c n then emp else Qgu 3 c n g)), .v (.int .i64 (bif false || Qgy 3 c n then 3 else 0))] = _
   cases Qgy 3 c n <;> rfl
theorem Zcj {c : CV} {n cap : Nat} {g : Nat → Int × Int} (hc : Qg8 c) (hn : n < 1099511627776) (h100 : n < 100) (hg : ∀ i, i < n → I64 (g i).1 ∧ I64 (g i).2) : Qa6 Try.prog Qor Qas Try.f24 [caS 4 c (.sl 0 2 0 n cap)] (Qa0 [⟨2, n, Qan g⟩]) 64 (fun y _ => y = .tup [Qe4 (Qe5 4 c n g), iV (Qe6 4 c n g)]) := by
 refine Eq.mpr (Q3t c n n cap g _) ?_
 repeat (first | unfold Qfd)
 refine ⟨Qa4 hn hg, Qav hn hg, ?_⟩
 rw [Qb8, Qb7]
 have hk : Qd3 4 = true := rfl
 have hkn := Qo3 4 n h100
 unfold Qe5 Qe6
 rw [hk, Bool.true_and, cond_true]
 have hf : Qju 4 c n g = Qbp 4 4 (uc4 c) c (Qcp (Qcn (uc4 c)) (Qcn c) && Nat.beq n 0) := rfl
 rw [hf]
 refine Qab (fun e => ?_) fun e => ⟨⟨⟨by omega, by omega⟩, hc, Qa4 hn hg, h100⟩, fun c1 => ⟨Qaa _ _ _ (by omega), ?_⟩⟩
 · rw [show Qbp 4 4 (uc4 c) c (Qcp (Qcn (uc4 c)) (Qcn c) && Nat.beq n 0) = false by simpa using e]
   rfl
 · rw [show Qbp 4 4 (uc4 c) c (Qcp (Qcn (uc4 c)) (Qcn c) && Nat.beq n 0) = true by simpa using e]
   rw [Bool.true_and, cond_true]
   show SV.tup [.v (.string (bif false || Qgy 4 c n then emp else Qgu 4 c n g)), .v (.int .i64 (bif false || Qgy 4 c n then 3 else 0))] = _
   cases Qgy 4 c n <;> rfl
theorem Zci {c : CV} {n cap : Nat} {g : Nat → Int × Int} (hc : Qg8 c) (hn : n < 1099511627776) (h100 : n < 100) (hg : ∀ i, i < n → I64 (g i).1 ∧ I64 (g i).2) : Qa6 Try.prog Qor Qas Try.f24 [caS 5 c (.sl 0 2 0 n cap)] (Qa0 [⟨2, n, Qan g⟩]) 64 (fun y _ => y = .tup [Qe4 (Qe5 5 c n g), iV (Qe6 5 c n g)]) := by
 refine Eq.mpr (Q3s c n n cap g _) ?_
 repeat (first | unfold Qfc)
 refine ⟨Qa4 hn hg, Qav hn hg, ?_⟩
 rw [Qb8, Qb7]
 have hk : Qd3 5 = true := rfl
 have hkn := Qo3 5 n h100
 unfold Qe5 Qe6
 rw [hk, Bool.true_and, cond_true]
 have hf : Qju 5 c n g = Qbp 5 5 (uc5 c) c (Qcp (Qcn (uc5 c)) (Qcn c) && Nat.beq n 0) := rfl
 rw [hf]
 refine Qab (fun e => ?_) fun e => ⟨⟨⟨by omega, by omega⟩, hc, Qa4 hn hg, h100⟩, fun c1 => ⟨Qaa _ _ _ (by omega), ?_⟩⟩
 · rw [show Qbp 5 5 (uc5 c) c (Qcp (Qcn (uc5 c)) (Qcn c) && Nat.beq n 0) = false by simpa using e]
   rfl
 · rw [show Qbp 5 5 (uc5 c) c (Qcp (Qcn (uc5 c)) (Qcn c) && Nat.beq n 0) = true by simpa using e]
   rw [Bool.true_and, cond_true]
   show SV.tup [.v (.string (bif false || Qgy 5 c n then emp else Qgu 5 c n g)), .v (.int .i64 (bif false || Qgy 5 c n then 3 else 0))] = _
   cases Qgy 5 c n <;> rfl
theorem Zch {c : CV} {n cap : Nat} {g : Nat → Int × Int} (hc : Qg8 c) (hn : n < 1099511627776) (h100 : n < 100) (hg : ∀ i, i < n → I64 (g i).1 ∧ I64 (g i).2) : Qa6 Try.prog Qor Qas Try.f24 [caS 6 c (.sl 0 2 0 n cap)] (Qa0 [⟨2, n, Qan g⟩]) 64 (fun y _ => y = .tup [Qe4 (Qe5 6 c n g), iV (Qe6 6 c n g)]) := by
 refine Eq.mpr (Q3r c n n cap g _) ?_
 repeat (first | unfold Qfb)
 refine ⟨Qa4 hn hg, Qav hn hg, ?_⟩
 rw [Qb8, Qb7]
 have hk : Qd3 6 = true := rfl
 have hkn := Qo3 6 n h100
 unfold Qe5 Qe6
 rw [hk, Bool.true_and, cond_true]
 have hf : Qju 6 c n g = Qbp 6 6 (uc6 c) c (Qcp (Qcn (uc6 c)) (Qcn c) && Nat.beq n 0) := rfl
 rw [hf]
 refine Qab (fun e => ?_) fun e => ⟨⟨⟨by omega, by omega⟩, hc, Qa4 hn hg, h100⟩, fun c1 => ⟨Qaa _ _ _ (by omega), ?_⟩⟩
 · rw [show Qbp 6 6 (uc6 c) c (Qcp (Qcn (uc6 c)) (Qcn c) && Nat.beq n 0) = false by simpa using e]
   rfl
 · rw [show Qbp 6 6 (uc6 c) c (Qcp (Qcn (uc6 c)) (Qcn c) && Nat.beq n 0) = true by simpa using e]
   rw [Bool.true_and, cond_true]
   show SV.tup [.v (.string (bif false || Qgy 6 c n then emp else Qgu 6 c n g)), .v (.int .i64 (bif false || Qgy 6 c n then 3 else 0))] = _
   cases Qgy 6 c n <;> rfl
theorem Zcg {c : CV} {n cap : Nat} {g : Nat → Int × Int} (hc : Qg8 c) (hn : n < 1099511627776) (h100 : n < 100) (hg : ∀ i, i < n → I64 (g i).1 ∧ I64 (g i).2) : Qa6 Try.prog Qor Qas Try.f24 [caS 7 c (.sl 0 2 0 n cap)] (Qa0 [⟨2, n, Qan g⟩]) 64 (fun y _ => y = .tup [Qe4 (Qe5 7 c n g), iV (Qe6 7 c n g)]) := by
 refine Eq.mpr (Q3q c n n cap g _) ?_
 repeat (first | unfold Qfa)
 refine ⟨Qa4 hn hg, Qav hn hg, ?_⟩
 rw [Qb8, Qb7]
 have hk : Qd3 7 = true := rfl
 have hkn := Qo3 7 n h100
 unfold Qe5 Qe6
 rw [hk, Bool.true_and, cond_true]
 have hf : Qju 7 c n g = Qbp 7 7 (uc7 c) c (Qcp (Qcn (uc7 c)) (Qcn c) && Nat.beq n 0) := rfl
 rw [hf]
 refine Qab (fun e => ?_) fun e => ⟨⟨⟨by omega, by omega⟩, hc, Qa4 hn hg, h100⟩, fun c1 => ⟨Qaa _ _ _ (by omega), ?_⟩⟩
 · rw [show Qbp 7 7 (uc7 c) c (Qcp (Qcn (uc7 c)) (Qcn c) && Nat.beq n 0) = false by simpa using e]
   rfl
 · rw [show Qbp 7 7 (uc7 c) c (Qcp (Qcn (uc7 c)) (Qcn c) && Nat.beq n 0) = true by simpa using e]
   rw [Bool.true_and, cond_true]
   show SV.tup [.v (.string (bif false || Qgy 7 c n then emp else Qgu 7 c n g)), .v (.int .i64 (bif false || Qgy 7 c n then 3 else 0))] = _
   cases Qgy 7 c n <;> rfl
theorem Zcf {c : CV} {n cap : Nat} {g : Nat → Int × Int} (hc : Qg8 c) (hn : n < 1099511627776) (h100 : n < 100) (hg : ∀ i, i < n → I64 (g i).1 ∧ I64 (g i).2) : Qa6 Try.prog Qor Qas Try.f24 [caS 8 c (.sl 0 2 0 n cap)] (Qa0 [⟨2, n, Qan g⟩]) 64 (fun y _ => y = .tup [Qe4 (Qe5 8 c n g), iV (Qe6 8 c n g)]) := by
 refine Eq.mpr (Q3p c n n cap g _) ?_
 repeat (first | unfold Qe9)
 refine ⟨Qa4 hn hg, Qav hn hg, ?_⟩
 rw [Qb8, Qb7]
 have hk : Qd3 8 = true := rfl
 have hkn := Qo3 8 n h100
 unfold Qe5 Qe6
 rw [hk, Bool.true_and, cond_true]
 have hf : Qju 8 c n g = Qbp 8 8 (uc8 c) c (Qcp (Qcn (uc8 c)) (Qcn c) && Nat.beq n 0) := rfl
 rw [hf]
 refine Qab (fun e => ?_) fun e => ⟨⟨⟨by omega, by omega⟩, hc, Qa4 hn hg, h100⟩, fun c1 => ⟨Qaa _ _ _ (by omega), ?_⟩⟩
 · rw [show Qbp 8 8 (uc8 c) c (Qcp (Qcn (uc8 c)) (Qcn c) && Nat.beq n 0) = false by simpa using e]
   rfl
 · rw [show Qbp 8 8 (uc8 c) c (Qcp (Qcn (uc8 c)) (Qcn c) && Nat.beq n 0) = true by simpa using e]
   rw [Bool.true_and, cond_true]
   show SV.tup [.v (.string (bif false || Qgy 8 c n then emp else Qgu 8 c n g)), .v (.int .i64 (bif false || Qgy 8 c n then 3 else 0))] = _
   cases Qgy 8 c n <;> rfl
theorem Zce {c : CV} {n cap : Nat} {g : Nat → Int × Int} (hc : Qg8 c) (hn : n < 1099511627776) (h100 : n < 100) (hg : ∀ i, i < n → I64 (g i).1 ∧ I64 (g i).2) : Qa6 Try.prog Qor Qas Try.f24 [caS 9 c (.sl 0 2 0 n cap)] (Qa0 [⟨2, n, Qan g⟩]) 64 (fun y _ => y = .tup [Qe4 (Qe5 9 c n g), iV (Qe6 9 c n g)]) := by
 refine Eq.mpr (Q3o c n n cap g _) ?_
 repeat (first | unfold Qe8)
 refine ⟨Qa4 hn hg, Qav hn hg, ?_⟩
 rw [Qb8, Qb7]
 have hk : Qd3 9 = true := rfl
 have hkn := Qo3 9 n h100
 unfold Qe5 Qe6
 rw [hk, Bool.true_and, cond_true]
 have hf : Qju 9 c n g = Qbp 9 9 (uc9 c) c (Qcp (Qcn (uc9 c)) (Qcn c) && Nat.beq n 0) := rfl
 rw [hf]
 refine Qab (fun e => ?_) fun e => ⟨⟨⟨by omega, by omega⟩, hc, Qa4 hn hg, h100⟩, fun c1 => ⟨Qaa _ _ _ (by omega), ?_⟩⟩
 · rw [show Qbp 9 9 (uc9 c) c (Qcp (Qcn (uc9 c)) (Qcn c) && Nat.beq n 0) = false by simpa using e]
   rfl
 · rw [show Qbp 9 9 (uc9 c) c (Qcp (Qcn (uc9 c)) (Qcn c) && Nat.beq n 0) = true by simpa using e]
   rw [Bool.true_and, cond_true]
   show SV.tup [.v (.string (bif false || Qgy 9 c n then emp else Qgu 9 c n g)), .v (.int .i64 (bif false || Qgy 9 c n then 3 else 0))] = _
   cases Qgy 9 c n <;> rfl
theorem Q5f {c : CV} {n cap : Nat} {g : Nat → Int × Int} (hc : Qg8 c) (hn : n < 1099511627776) (h100 : n < 100) (hg : ∀ i, i < n → I64 (g i).1 ∧ I64 (g i).2) : Qa6 Try.prog Qor Qas Try.f24 [caS 10 c (.sl 0 2 0 n cap)] (Qa0 [⟨2, n, Qan g⟩]) 64 (fun y _ => y = .tup [Qe4 (Qe5 10 c n g), iV (Qe6 10 c n g)]) := by
 refine Eq.mpr (Qyt c n n cap g _) ?_
 repeat (first | unfold Qd9)
 refine ⟨Qa4 hn hg, Qav hn hg, ?_⟩
 rw [Qb8, Qb7]
 have hk : Qd3 10 = true := rfl
 have hkn := Qo3 10 n h100
 unfold Qe5 Qe6
 rw [hk, Bool.true_and, cond_true]
 have hf : Qju 10 c n g = Qbp 10 10 (Qho c) c (Qcp (Qcn (Qho c)) (Qcn c) && Nat.beq n 0) := rfl
 rw [hf]
 refine Qab (fun e => ?_) fun e => ⟨⟨⟨by omega, by omega⟩, hc, Qa4 hn hg, h100⟩, fun c1 => ⟨Qaa _ _ _ (by omega), ?_⟩⟩
 · rw [show Qbp 10 10 (Qho c) c (Qcp (Qcn (Qho c)) (Qcn c) && Nat.beq n 0) = false by simpa using e]
   rfl
 · rw [show Qbp 10 10 (Qho c) c (Qcp (Qcn (Qho c)) (Qcn c) && Nat.beq n 0) = true by simpa using e]
   rw [Bool.true_and, cond_true]
   show SV.tup [.v (.string (bif false || Qgy 10 c n then emp else Qgu 10 c n g)), .v (.int .i64 (bif false || Qgy 10 c n then 3 else 0))] = _
   cases Qgy 10 c n <;> rfl
theorem Zcd {k : Int} {c : CV} {n cap : Nat} {g : Nat → Int × Int} (hk : k < 1 ∨ 10 < k) (hn : n < 1099511627776) (hg : ∀ i, i < n → I64 (g i).1 ∧ I64 (g i).2) : Qa6 Try.prog Zib Qas Try.f24 [caS k c (.sl 0 2 0 n cap)] (Qa0 [⟨2, n, Qan g⟩]) 64 (fun y _ => y = .tup [Qe4 (Qe5 k c n g), iV (Qe6 k c n g)]) := by
 refine Eq.mpr (Q3n k c n n cap g _) ⟨⟨Qa4 hn hg, hk⟩, ?_⟩
 have h : Qd3 k = false := by
   unfold Qd3
   rw [Bool.and_eq_false_iff]
   rcases hk with h | h
   · exact .inl (decide_eq_false (by omega))
   · exact .inr (decide_eq_false (by omega))
 unfold Qe5 Qe6
 rw [h]
 rfl
def Qiy (w : Bool) : List SV → List Ro → Option (Option Prop × SV)
 | [.agg l], rs => match cellsOf l, rs with
   | some (k, c, .sl 0 2 0 n _), [⟨2, n', row⟩] => bif (Qd3 k == w) then some (some (Q02 k c n n' row), .tup [Qe4 (Qe5 k c n fun i => gi (row i)), iV (Qe6 k c n fun i => gi (row i))]) else none
   | _, _ => none
 | _, _ => none
theorem Qva : Qcj Try.prog 24 (Qiy true) := Qdg hm Qyg Try.func24 (Λ := fun _ _ => Qas) fun args bs p x hs hp => by
 unfold Qiy at hs
 split at hs
 · rename_i l
   split at hs
   · rename_i k c n cap n' row hl
     obtain ⟨hk, hs⟩ := Qgj hs
     have hs := Option.some.inj hs
     obtain ⟨rfl, rfl⟩ := Prod.mk.inj hs
     obtain ⟨⟨h0, rfl, hn⟩, hc, hki, h100⟩ := hp _ rfl
     have h0 := okAll_rows.1 h0
     refine ⟨rfl, [⟨2, n', Qan fun i => gi (row i)⟩], ⟨⟨rfl, rfl, fun i hi => (Qao (h0 i hi)).1⟩, trivial⟩, ?_⟩
     rw [Qcs hl]
     have hg : ∀ i, i < n' → I64 ((fun i => gi (row i)) i).1 ∧ I64 ((fun i => gi (row i)) i).2 := fun i hi => (Qao (h0 i hi)).2
     have hk1 : Qd3 k = true := by simpa using hk
     unfold Qd3 at hk1
     rw [Bool.and_eq_true] at hk1
     rcases ten ⟨of_decide_eq_true hk1.1, of_decide_eq_true hk1.2⟩ with rfl | rfl | rfl | rfl | rfl | rfl | rfl | rfl | rfl | rfl
     · exact Zcm hc hn h100 hg
     · exact Zcl hc hn h100 hg
     · exact Zck hc hn h100 hg
     · exact Zcj hc hn h100 hg
     · exact Zci hc hn h100 hg
     · exact Zch hc hn h100 hg
     · exact Zcg hc hn h100 hg
     · exact Zcf hc hn h100 hg
     · exact Zce hc hn h100 hg
     · exact Q5f hc hn h100 hg
   · cases hs
 · cases hs
theorem Qtd : Qcj Try.prog 24 (Qiy false) := Qdg hm Q8a Try.func24 (Λ := fun _ _ => Qas) fun args bs p x hs hp => by
 unfold Qiy at hs
 split at hs
 · rename_i l
   split at hs
   · rename_i k c n cap n' row hl
     obtain ⟨hk, hs⟩ := Qgj hs
     have hs := Option.some.inj hs
     obtain ⟨rfl, rfl⟩ := Prod.mk.inj hs
     obtain ⟨⟨h0, rfl, hn⟩, hc, hki, h100⟩ := hp _ rfl
     have h0 := okAll_rows.1 h0
     refine ⟨rfl, [⟨2, n', Qan fun i => gi (row i)⟩], ⟨⟨rfl, rfl, fun i hi => (Qao (h0 i hi)).1⟩, trivial⟩, ?_⟩
     rw [Qcs hl]
     have hk1 : Qd3 k = false := by simpa using hk
     unfold Qd3 at hk1
     rw [Bool.and_eq_false_iff] at hk1
     refine Zcd ?_ hn fun i hi => (Qao (h0 i hi)).2
     rcases hk1 with h | h
     · exact .inl (by have := of_decide_eq_false h; omega)
     · exact .inr (by have := of_decide_eq_false h; omega)
   · cases hs
 · cases hs
theorem Q4h {f : FuncId} {s : List SV → List Ro → Option (Option Prop × SV)} {s1 s2 : List SV → List Ro → Option (Option Prop × SV)} (h1 : Qcj Try.prog f s1) (h2 : Qcj Try.prog f s2) (h : ∀ args rs, s args rs = s1 args rs ∨ s args rs = s2 args rs) : Qcj Try.prog f s := fun args bs e hs => by
 unfold Qg1 at hs
 cases hr : Qx4 bs with
 | none => rw [hr] at hs; cases hs
 | some rs =>
   rw [hr] at hs
   rcases h args rs with e1 | e1
   · exact h1 args bs e (by unfold Qg1; rw [hr]; simp only; rw [← e1]; exact hs)
   · exact h2 args bs e (by unfold Qg1; rw [hr]; simp only; rw [← e1]; exact hs)
theorem Qxz : Qcj Try.prog 24 Qzn := Q4h Qva Qtd fun args rs => by
 unfold Qzn Qiy
 split
 · split
   · rename_i k c n cap n' row hl
     cases Qd3 k
     · exact .inr rfl
     · exact .inl rfl
   · exact .inl rfl
 · exact .inl rfl
theorem Qzr {f : FuncId} {s : List SV → List Ro → Option (Option Prop × SV)} {s1 s2 : List SV → List Ro → Option (Option Prop × SV)} (h1 : Qcj Try.prog f s1) (h2 : Qcj Try.prog f s2) (h : ∀ args rs p, s args rs = some p → s1 args rs = some p ∨ s2 args rs = some p) : Qcj Try.prog f s := fun args bs e hs => by
 unfold Qg1 at hs
 cases hr : Qx4 bs with
 | none => rw [hr] at hs; cases hs
 | some rs =>
   rw [hr] at hs
   cases hq : s args rs with
   | none => simp only [hq] at hs; cases hs
   | some p =>
     rcases h args rs p hq with e1 | e1
     · exact h1 args bs e (by unfold Qg1; rw [hr]; simp only; rw [e1, ← hq]; exact hs)
     · exact h2 args bs e (by unfold Qg1; rw [hr]; simp only; rw [e1, ← hq]; exact hs)
theorem Qd8 (g : Nat → Int × Int) : (fun i => gi [SV.v (.int .i64 (g (0 + i)).1), SV.v (.int .i64 (g (0 + i)).2)]) = g := by
 funext i
 rw [Nat.zero_add]
 rfl
structure BV where
 sk : Int
 sr : Int
 sw : Int
 sh : Int
 p0v : Int
 p0f : Bool
 p1v : Int
 p1f : Bool
 p2v : Int
 p2f : Bool
 p3v : Int
 p3f : Bool
 v0v : Int
 v0f : Bool
 v1v : Int
 v1f : Bool
 w0v : Int
 w0f : Bool
 m0v : Int
 m0f : Bool
 m1v : Int
 m1f : Bool
 st : Int
 asl : Bool
 flt : Bool
 bv : Int
structure RV where
 id : Int
 bs : Int
 bg : Int
 ver : Int
 gr : Int
 o : BV
 hit : Bool
 htv : Int
 htf : Bool
 x0v : Int
 x0f : Bool
 x1v : Int
 x1f : Bool
 cnt : Int
def boS (b : BV) (P : SV) : SV := .agg [.v (.int .i64 b.sk), .v (.int .i64 b.sr), .v (.int .i64 b.sw), .v (.int .i64 b.sh), P, .v (.int .i64 b.p0v), .v (.bool b.p0f), .v (.int .i64 b.p1v), .v (.bool b.p1f), .v (.int .i64 b.p2v), .v (.bool b.p2f), .v (.int .i64 b.p3v), .v (.bool b.p3f), .v (.int .i64 b.v0v), .v (.bool b.v0f), .v (.int .i64 b.v1v), .v (.bool b.v1f), .v (.int .i64 b.w0v), .v (.bool b.w0f), .v (.int .i64 b.m0v), .v (.bool b.m0f), .v (.int .i64 b.m1v), .v (.bool b.m1f), .v (.int .i64 b.st), .v (.bool b.asl), .v (.bool b.flt), .v (.int .i64 b.bv)]
def reS (k e : Int) (c : RV) (P H : SV) : SV := .agg [.v (.int .i64 k), .v (.int .i64 c.id), .v (.int .i64 e), .v (.int .i64 c.bs), .v (.int .i64 c.bg), .v (.int .i64 c.ver), .v (.int .i64 c.gr), .v (.int .i64 c.o.sk), .v (.int .i64 c.o.sr), .v (.int .i64 c.o.sw), .v (.int .i64 c.o.sh), P, .v (.int .i64 c.o.p0v), .v (.bool c.o.p0f), .v (.int .i64 c.o.p1v), .v (.bool c.o.p1f), .v (.int .i64 c.o.p2v), .v (.bool c.o.p2f), .v (.int .i64 c.o.p3v), .v (.bool c.o.p3f), .v (.int .i64 c.o.v0v), .v (.bool c.o.v0f), .v (.int .i64 c.o.v1v), .v (.bool c.o.v1f), .v (.int .i64 c.o.w0v), .v (.bool c.o.w0f), .v (.int .i64 c.o.m0v), .v (.bool c.o.m0f), .v (.int .i64 c.o.m1v), .v (.bool c.o.m1f), .v (.int .i64 c.o.st), .v (.bool c.o.asl), .v (.bool c.o.flt), .v (.int .i64 c.o.bv), H, .v (.bool c.hit), .v (.int .i64 c.htv), .v (.bool c.htf), .v (.int .i64 c.x0v), .v (.bool c.x0f), .v (.int .i64 c.x1v), .v (.bool c.x1f), .v (.int .i64 c.cnt)]
def zBV : BV := ⟨0, 0, 0, 0, 0, false, 0, false, 0, false, 0, false, 0, false, 0, false, 0, false, 0, false, 0, false, 0, false, false, 0⟩
def uR0 (c : RV) : RV := ⟨c.id, 0, 0, 0, 0, zBV, false, 0, false, 0, false, 0, false, 0⟩
def uR1 (c : RV) : RV := ⟨c.id, c.bs, c.bg, c.ver, 0, zBV, false, 0, false, 0, false, 0, false, 0⟩
def uR2 (c : RV) : RV := ⟨c.id, c.bs, c.bg, 0, 0, zBV, false, 0, false, 0, false, 0, false, 0⟩
def uR3 (c : RV) : RV := ⟨c.id, c.bs, c.bg, c.ver, 0, zBV, false, 0, false, 0, false, 0, false, 0⟩
def uR4 (c : RV) : RV := ⟨c.id, c.bs, c.bg, c.ver, c.gr, zBV, false, 0, false, 0, false, 0, false, 0⟩
def uR5 (c : RV) : RV := ⟨c.id, 0, 0, 0, c.gr, zBV, false, 0, false, 0, false, 0, false, 0⟩
def uR6 (c : RV) : RV := ⟨c.id, 0, 0, 0, c.gr, zBV, false, 0, false, 0, false, 0, false, 0⟩
def uR7 (c : RV) : RV := ⟨c.id, c.bs, c.bg, 0, 0, c.o, false, 0, false, 0, false, 0, false, 0⟩
def uR8 (c : RV) : RV := ⟨c.id, 0, 0, 0, 0, zBV, false, 0, false, 0, false, 0, false, 0⟩
def uR9 (c : RV) : RV := ⟨c.id, bif c.hit then c.bs else 0, bif c.hit then c.bg else 0, 0, 0, zBV, c.hit, bif c.hit then c.htv else 0, bif c.hit then c.htf else false, bif c.hit then c.x0v else 0, bif c.hit then c.x0f else false, bif c.hit then c.x1v else 0, bif c.hit then c.x1f else false, 0⟩
def Qx3 (c : RV) : RV := ⟨c.id, 0, 0, 0, 0, zBV, false, 0, false, 0, false, 0, false, c.cnt⟩
def uRN (e : Int) (c : RV) : RV := ⟨c.id, 0, 0, bif e == 14 then c.ver else 0, 0, zBV, false, 0, false, 0, false, 0, false, 0⟩
def uRK (k e : Int) (c : RV) : RV := bif e == 0 then (bif decide (k = 0) then uR0 c else (bif decide (k = 1) then uR1 c else (bif decide (k = 2) then uR2 c else (bif decide (k = 3) then uR3 c else (bif decide (k = 4) then uR4 c else (bif decide (k = 5) then uR5 c else (bif decide (k = 6) then uR6 c else (bif decide (k = 7) then uR7 c else (bif decide (k = 8) then uR8 c else (bif decide (k = 9) then uR9 c else (bif decide (k = 10) then Qx3 c else (c)))))))))))) else uRN e c
def Qii (l : List SV) : Option (BV × SV) := tkI l fun x_o_sk l => tkI l fun x_o_sr l => tkI l fun x_o_sw l => tkI l fun x_o_sh l => tkA l fun x_P l => tkI l fun x_o_p0v l => tkB l fun x_o_p0f l => tkI l fun x_o_p1v l => tkB l fun x_o_p1f l => tkI l fun x_o_p2v l => tkB l fun x_o_p2f l => tkI l fun x_o_p3v l => tkB l fun x_o_p3f l => tkI l fun x_o_v0v l => tkB l fun x_o_v0f l => tkI l fun x_o_v1v l => tkB l fun x_o_v1f l => tkI l fun x_o_w0v l => tkB l fun x_o_w0f l => tkI l fun x_o_m0v l => tkB l fun x_o_m0f l => tkI l fun x_o_m1v l => tkB l fun x_o_m1f l => tkI l fun x_o_st l => tkB l fun x_o_asl l => tkB l fun x_o_flt l => tkI l fun x_o_bv l => tkE l (⟨x_o_sk, x_o_sr, x_o_sw, x_o_sh, x_o_p0v, x_o_p0f, x_o_p1v, x_o_p1f, x_o_p2v, x_o_p2f, x_o_p3v, x_o_p3f, x_o_v0v, x_o_v0f, x_o_v1v, x_o_v1f, x_o_w0v, x_o_w0f, x_o_m0v, x_o_m0f, x_o_m1v, x_o_m1f, x_o_st, x_o_asl, x_o_flt, x_o_bv⟩, x_P)
def Qc2 (l : List SV) : Option (Int × Int × RV × SV × SV) := tkI l fun x_k l => tkI l fun x_id l => tkI l fun x_e l => tkI l fun x_bs l => tkI l fun x_bg l => tkI l fun x_ver l => tkI l fun x_gr l => tkI l fun x_o_sk l => tkI l fun x_o_sr l => tkI l fun x_o_sw l => tkI l fun x_o_sh l => tkA l fun x_P l => tkI l fun x_o_p0v l => tkB l fun x_o_p0f l => tkI l fun x_o_p1v l => tkB l fun x_o_p1f l => tkI l fun x_o_p2v l => tkB l fun x_o_p2f l => tkI l fun x_o_p3v l => tkB l fun x_o_p3f l => tkI l fun x_o_v0v l => tkB l fun x_o_v0f l => tkI l fun x_o_v1v l => tkB l fun x_o_v1f l => tkI l fun x_o_w0v l => tkB l fun x_o_w0f l => tkI l fun x_o_m0v l => tkB l fun x_o_m0f l => tkI l fun x_o_m1v l => tkB l fun x_o_m1f l => tkI l fun x_o_st l => tkB l fun x_o_asl l => tkB l fun x_o_flt l => tkI l fun x_o_bv l => tkA l fun x_H l => tkB l fun x_hit l => tkI l fun x_htv l => tkB l fun x_htf l => tkI l fun x_x0v l => tkB l fun x_x0f l => tkI l fun x_x1v l => tkB l fun x_x1f l => tkI l fun x_cnt l => tkE l (x_k, x_e, ⟨x_id, x_bs, x_bg, x_ver, x_gr, ⟨x_o_sk, x_o_sr, x_o_sw, x_o_sh, x_o_p0v, x_o_p0f, x_o_p1v, x_o_p1f, x_o_p2v, x_o_p2f, x_o_p3v, x_o_p3f, x_o_v0v, x_o_v0f, x_o_v1v, x_o_v1f, x_o_w0v, x_o_w0f, x_o_m0v, x_o_m0f, x_o_m1v, x_o_m1f, x_o_st, x_o_asl, x_o_flt, x_o_bv⟩, x_hit, x_htv, x_htf, x_x0v, x_x0f, x_x1v, x_x1f, x_cnt⟩, x_P, x_H)
noncomputable def Qb5 : Nat → Option LoopSpec := (Qsx (Qsx Qas 21 [(5, fun _ => 136), (7, fun _ => 136)]) 24 [(5, fun _ => 136), (7, fun _ => 136)])
theorem Q20 (c : RV) (e1 n cap xt : Nat) (x y : Nat→Int) (wh : Bool) (e2 m cp xt2 : Nat) (x2 y2 : Nat→Int) (wh2 : Bool) (R : SV→Prop) : (Qa6 Try.prog Qaq Qb5 Try.f77 [reS 0 0 c (.sl 0 2 0 n cap) (.sl 1 2 0 m cp)] (Qac [ptB e1 n x y xt wh,ptB e2 m x2 y2 xt2 wh2]) 64 (fun y' _ => R y')) = (R (SV.agg [zI,(yI (RV.id c)),zI,zI,zI,zI,zI,zI,zI,zI,zI,zS,zI,zF,zI,zF,zI,zF,zI,zF,zI,zF,zI,zF,zI,zF,zI,zF,zI,zF,zI,zF,zF,zI,zS,zF,zI,zF,zI,zF,zI,zF,zI])):=by kernel_rfl
theorem Q2z (c : RV) (e1 n cap xt : Nat) (x y : Nat→Int) (wh : Bool) (e2 m cp xt2 : Nat) (x2 y2 : Nat→Int) (wh2 : Bool) (R : SV→Prop) : (Qa6 Try.prog Qaq Qb5 Try.f77 [reS 1 0 c (.sl 0 2 0 n cap) (.sl 1 2 0 m cp)] (Qac [ptB e1 n x y xt wh,ptB e2 m x2 y2 xt2 wh2]) 64 (fun y' _ => R y')) = (R (SV.agg [(yI 1),(yI (RV.id c)),zI,(yI (RV.bs c)),(yI (RV.bg c)),(yI (RV.ver c)),zI,zI,zI,zI,zI,zS,zI,zF,zI,zF,zI,zF,zI,zF,zI,zF,zI,zF,zI,zF,zI,zF,zI,zF,zI,zF,zF,zI,zS,zF,zI,zF,zI,zF,zI,zF,zI])):=by kernel_rfl
theorem Q2y (c : RV) (e1 n cap xt : Nat) (x y : Nat→Int) (wh : Bool) (e2 m cp xt2 : Nat) (x2 y2 : Nat→Int) (wh2 : Bool) (R : SV→Prop) : (Qa6 Try.prog Qaq Qb5 Try.f77 [reS 2 0 c (.sl 0 2 0 n cap) (.sl 1 2 0 m cp)] (Qac [ptB e1 n x y xt wh,ptB e2 m x2 y2 xt2 wh2]) 64 (fun y' _ => R y')) = (R (SV.agg [(yI 2),(yI (RV.id c)),zI,(yI (RV.bs c)),(yI (RV.bg c)),zI,zI,zI,zI,zI,zI,zS,zI,zF,zI,zF,zI,zF,zI,zF,zI,zF,zI,zF,zI,zF,zI,zF,zI,zF,zI,zF,zF,zI,zS,zF,zI,zF,zI,zF,zI,zF,zI])):=by kernel_rfl
theorem Q2x (c : RV) (e1 n cap xt : Nat) (x y : Nat→Int) (wh : Bool) (e2 m cp xt2 : Nat) (x2 y2 : Nat→Int) (wh2 : Bool) (R : SV→Prop) : (Qa6 Try.prog Qaq Qb5 Try.f77 [reS 3 0 c (.sl 0 2 0 n cap) (.sl 1 2 0 m cp)] (Qac [ptB e1 n x y xt wh,ptB e2 m x2 y2 xt2 wh2]) 64 (fun y' _ => R y')) = (R (SV.agg [(yI 3),(yI (RV.id c)),zI,(yI (RV.bs c)),(yI (RV.bg c)),(yI (RV.ver c)),zI,zI,zI,zI,zI,zS,zI,zF,zI,zF,zI,zF,zI,zF,zI,zF,zI,zF,zI,zF,zI,zF,zI,zF,zI,zF,zF,zI,zS,zF,zI,zF,zI,zF,zI,zF,zI])):=by kernel_rfl
theorem Q2w (c : RV) (e1 n cap xt : Nat) (x y : Nat→Int) (wh : Bool) (e2 m cp xt2 : Nat) (x2 y2 : Nat→Int) (wh2 : Bool) (R : SV→Prop) : (Qa6 Try.prog Qaq Qb5 Try.f77 [reS 4 0 c (.sl 0 2 0 n cap) (.sl 1 2 0 m cp)] (Qac [ptB e1 n x y xt wh,ptB e2 m x2 y2 xt2 wh2]) 64 (fun y' _ => R y')) = (R (SV.agg [(yI 4),(yI (RV.id c)),zI,(yI (RV.bs c)),(yI (RV.bg c)),(yI (RV.ver c)),(yI (RV.gr c)),zI,zI,zI,zI,zS,zI,zF,zI,zF,zI,zF,zI,zF,zI,zF,zI,zF,zI,zF,zI,zF,zI,zF,zI,zF,zF,zI,zS,zF,zI,zF,zI,zF,zI,zF,zI])):=by kernel_rfl
theorem Q2v (c : RV) (e1 n cap xt : Nat) (x y : Nat→Int) (wh : Bool) (e2 m cp xt2 : Nat) (x2 y2 : Nat→Int) (wh2 : Bool) (R : SV→Prop) : (Qa6 Try.prog Qaq Qb5 Try.f77 [reS 5 0 c (.sl 0 2 0 n cap) (.sl 1 2 0 m cp)] (Qac [ptB e1 n x y xt wh,ptB e2 m x2 y2 xt2 wh2]) 64 (fun y' _ => R y')) = (R (SV.agg [(yI 5),(yI (RV.id c)),zI,zI,zI,zI,(yI (RV.gr c)),zI,zI,zI,zI,zS,zI,zF,zI,zF,zI,zF,zI,zF,zI,zF,zI,zF,zI,zF,zI,zF,zI,zF,zI,zF,zF,zI,zS,zF,zI,zF,zI,zF,zI,zF,zI])):=by kernel_rfl
theorem Q2u (c : RV) (e1 n cap xt : Nat) (x y : Nat→Int) (wh : Bool) (e2 m cp xt2 : Nat) (x2 y2 : Nat→Int) (wh2 : Bool) (R : SV→Prop) : (Qa6 Try.prog Qaq Qb5 Try.f77 [reS 6 0 c (.sl 0 2 0 n cap) (.sl 1 2 0 m cp)] (Qac [ptB e1 n x y xt wh,ptB e2 m x2 y2 xt2 wh2]) 64 (fun y' _ => R y')) = (R (SV.agg [(yI 6),(yI (RV.id c)),zI,zI,zI,zI,(yI (RV.gr c)),zI,zI,zI,zI,zS,zI,zF,zI,zF,zI,zF,zI,zF,zI,zF,zI,zF,zI,zF,zI,zF,zI,zF,zI,zF,zF,zI,zS,zF,zI,zF,zI,zF,zI,zF,zI])):=by kernel_rfl
theorem Q2t (c : RV) (e1 n cap xt : Nat) (x y : Nat→Int) (wh : Bool) (e2 m cp xt2 : Nat) (x2 y2 : Nat→Int) (wh2 : Bool) (R : SV→Prop) : (Qa6 Try.prog Qaq Qb5 Try.f77 [reS 7 0 c (.sl 0 2 0 n cap) (.sl 1 2 0 m cp)] (Qac [ptB e1 n x y xt wh,ptB e2 m x2 y2 xt2 wh2]) 64 (fun y' _ => R y')) =
(R (SV.agg [(yI 7),(yI (RV.id c)),zI,(yI (RV.bs c)),(yI (RV.bg c)),zI,zI,(yI (BV.sk (RV.o c))),(yI (BV.sr (RV.o c))),(yI (BV.sw (RV.o c))),(yI (BV.sh (RV.o c))),(SV.sl 0 2 0 n cap),(yI (BV.p0v (RV.o c))),(yF (BV.p0f (RV.o c))),(yI (BV.p1v (RV.o c))),(yF (BV.p1f (RV.o c))),(yI (BV.p2v (RV.o c))),(yF (BV.p2f (RV.o c))),(yI (BV.p3v (RV.o c))),(yF (BV.p3f (RV.o c))),(yI (BV.v0v (RV.o c))),(yF (BV.v0f (RV.o c))),(yI (BV.v1v (RV.o c))),(yF (BV.v1f (RV.o c))),(yI (BV.w0v (RV.o c))),(yF (BV.w0f (RV.o c))),(yI (BV.m0v (RV.o c))),(yF (BV.m0f (RV.o c))),(yI (BV.m1v (RV.o c))),(yF (BV.m1f (RV.o c))),(yI (BV.st (RV.o c))),(yF (BV.asl (RV.o c))),(yF (BV.flt (RV.o c))),(yI (BV.bv (RV.o c))),zS,zF,zI,zF,zI,zF,zI,zF,zI])) := by kernel_rfl
theorem Q2s (c : RV) (e1 n cap xt : Nat) (x y : Nat→Int) (wh : Bool) (e2 m cp xt2 : Nat) (x2 y2 : Nat→Int) (wh2 : Bool) (R : SV→Prop) : (Qa6 Try.prog Qaq Qb5 Try.f77 [reS 8 0 c (.sl 0 2 0 n cap) (.sl 1 2 0 m cp)] (Qac [ptB e1 n x y xt wh,ptB e2 m x2 y2 xt2 wh2]) 64 (fun y' _ => R y')) = (R (SV.agg [(yI 8),(yI (RV.id c)),zI,zI,zI,zI,zI,zI,zI,zI,zI,zS,zI,zF,zI,zF,zI,zF,zI,zF,zI,zF,zI,zF,zI,zF,zI,zF,zI,zF,zI,zF,zF,zI,(SV.sl 1 2 0 m cp),zF,zI,zF,zI,zF,zI,zF,zI])):=by kernel_rfl
theorem Q2r (c : RV) (e1 n cap xt : Nat) (x y : Nat→Int) (wh : Bool) (e2 m cp xt2 : Nat) (x2 y2 : Nat→Int) (wh2 : Bool) (R : SV→Prop) : (Qa6 Try.prog Qaq Qb5 Try.f77 [reS 9 0 c (.sl 0 2 0 n cap) (.sl 1 2 0 m cp)] (Qac [ptB e1 n x y xt wh,ptB e2 m x2 y2 xt2 wh2]) 64 (fun y' _ => R y')) = (sel (RV.hit c) (R (SV.agg [(yI 9),(yI (RV.id c)),zI,(yI (RV.bs c)),(yI (RV.bg c)),zI,zI,zI,zI,zI,zI,zS,zI,zF,zI,zF,zI,zF,zI,zF,zI,zF,zI,zF,zI,zF,zI,zF,zI,zF,zI,zF,zF,zI,zS,(yF (RV.hit c)),(yI (RV.htv c)),(yF (RV.htf c)),(yI (RV.x0v c)),(yF (RV.x0f c)),(yI (RV.x1v c)),(yF (RV.x1f c)),zI])) (R (SV.agg [(yI 9),(yI (RV.id c)),zI,zI,zI,zI,zI,zI,zI,zI,zI,zS,zI,zF,zI,zF,zI,zF,zI,zF,zI,zF,zI,zF,zI,zF,zI,zF,zI,zF,zI,zF,zF,zI,zS,zF,zI,zF,zI,zF,zI,zF,zI]))):=by kernel_rfl
theorem Qyh (c : RV) (e1 n cap xt : Nat) (x y : Nat→Int) (wh : Bool) (e2 m cp xt2 : Nat) (x2 y2 : Nat→Int) (wh2 : Bool) (R : SV→Prop) : (Qa6 Try.prog Qaq Qb5 Try.f77 [reS 10 0 c (.sl 0 2 0 n cap) (.sl 1 2 0 m cp)] (Qac [ptB e1 n x y xt wh,ptB e2 m x2 y2 xt2 wh2]) 64 (fun y' _ => R y')) = (R (SV.agg [(yI 10),(yI (RV.id c)),zI,zI,zI,zI,zI,zI,zI,zI,zI,zS,zI,zF,zI,zF,zI,zF,zI,zF,zI,zF,zI,zF,zI,zF,zI,zF,zI,zF,zI,zF,zF,zI,zS,zF,zI,zF,zI,zF,zI,zF,(yI (RV.cnt c))])):=by kernel_rfl
theorem Q2p (k : Int) (a : Nat) (c : RV) (e1 n cap xt : Nat) (x y : Nat→Int) (wh : Bool) (e2 m cp xt2 : Nat) (x2 y2 : Nat→Int) (wh2 : Bool) (R : SV→Prop) : (Qa6 Try.prog Qaq Qb5 Try.f77 [reS k (Int.ofNat (a + 1)) c (.sl 0 2 0 n cap) (.sl 1 2 0 m cp)] (Qac [ptB e1 n x y xt wh,ptB e2 m x2 y2 xt2 wh2]) 64 (fun y' _ => R y')) = (sel (Int.ofNat (a + 1) == 14) (R (SV.agg [(yI k),(yI (RV.id c)),(yI (Int.ofNat (a + 1))),zI,zI,(yI (RV.ver c)),zI,zI,zI,zI,zI,zS,zI,zF,zI,zF,zI,zF,zI,zF,zI,zF,zI,zF,zI,zF,zI,zF,zI,zF,zI,zF,zF,zI,zS,zF,zI,zF,zI,zF,zI,zF,zI])) (R (SV.agg [(yI k),(yI (RV.id c)),(yI (Int.ofNat (a + 1))),zI,zI,zI,zI,zI,zI,zI,zI,zS,zI,zF,zI,zF,zI,zF,zI,zF,zI,zF,zI,zF,zI,zF,zI,zF,zI,zF,zI,zF,zF,zI,zS,zF,zI,zF,zI,zF,zI,zF,zI]))):=by kernel_rfl
theorem Q2q (k : Int) (a : Nat) (c : RV) (e1 n cap xt : Nat) (x y : Nat→Int) (wh : Bool) (e2 m cp xt2 : Nat) (x2 y2 : Nat→Int) (wh2 : Bool) (R : SV→Prop) : (Qa6 Try.prog Qaq Qb5 Try.f77 [reS k (Int.negSucc a) c (.sl 0 2 0 n cap) (.sl 1 2 0 m cp)] (Qac [ptB e1 n x y xt wh,ptB e2 m x2 y2 xt2 wh2]) 64 (fun y' _ => R y')) = (R (SV.agg [(yI k),(yI (RV.id c)),(yI (Int.negSucc a)),zI,zI,zI,zI,zI,zI,zI,zI,zS,zI,zF,zI,zF,zI,zF,zI,zF,zI,zF,zI,zF,zI,zF,zI,zF,zI,zF,zI,zF,zF,zI,zS,zF,zI,zF,zI,zF,zI,zF,zI])):=by kernel_rfl
def Qze (args : List SV) (bs : List Blk) : Option Eff := match args with
 | [.agg l] => match Qc2 l with
   | some (k, e, c, .sl 0 2 0 n cap, .sl 1 2 0 m cp) => match bs with
     | [S, H] => bif okB S && okB H then (bif e == 0 then (bif decide (k = 0) then some (.det (some (Qbg n S ∧ Qbg m H)) (reS 0 0 (uR0 c) (Qa8) (Qa8)) []) else (bif decide (k = 1) then some (.det (some (Qbg n S ∧ Qbg m H)) (reS 1 0 (uR1 c) (Qa8) (Qa8)) []) else (bif decide (k = 2) then some (.det (some (Qbg n S ∧ Qbg m H)) (reS 2 0 (uR2 c) (Qa8) (Qa8)) []) else (bif decide (k = 3) then some (.det (some (Qbg n S ∧ Qbg m H)) (reS 3 0 (uR3 c) (Qa8) (Qa8)) []) else (bif decide (k = 4) then some (.det (some (Qbg n S ∧ Qbg m H)) (reS 4 0 (uR4 c) (Qa8) (Qa8)) []) else (bif decide (k = 5) then some (.det (some (Qbg n S ∧ Qbg m H)) (reS 5 0 (uR5 c) (Qa8) (Qa8)) []) else (bif decide (k = 6) then some (.det (some (Qbg n S ∧ Qbg m H)) (reS 6 0 (uR6 c) (Qa8) (Qa8)) []) else (bif decide (k = 7) then some (.det (some (Qbg n S ∧ Qbg m H)) (reS 7 0 (uR7 c) (.sl 0 2 0 n cap) (Qa8)) []) else (bif decide (k = 8) then some (.det (some (Qbg n S ∧ Qbg m H)) (reS 8 0 (uR8 c) (Qa8) (.sl 1 2 0 m cp)) []) else (bif decide (k = 9) then some (.det (some (Qbg n S ∧ Qbg m H)) (reS 9 0 (uR9 c) (Qa8) (Qa8)) []) else (bif decide (k = 10) then some (.det (some (Qbg n S ∧ Qbg m H)) (reS 10 0 (Qx3 c) (Qa8) (Qa8)) []) else (none)))))))))))) else some (.det (some (Qbg n S ∧ Qbg m H)) (reS k e (uRN e c) Qa8 Qa8) [])) else none
     | _ => none
   | _ => none
 | _ => none
theorem Qc6 {bs : List Blk} {q : Option Prop} {x : SV} : (fun (y : SV) (h' : Qbs) => Qbh bs (.det q x []) y h') = fun y _ => Qbh bs (.det q x []) y Qv5 := rfl
theorem e_or {e : Int} (h : (e == 0) = false) : (∃ a : Nat, e = Int.ofNat (a + 1)) ∨ ∃ a : Nat, e = Int.negSucc a := by
 match e, h with
 | Int.ofNat 0, h => cases h
 | Int.ofNat (a + 1), _ => exact .inl ⟨a, rfl⟩
 | Int.negSucc a, _ => exact .inr ⟨a, rfl⟩
theorem Qbu {l : List SV} {k e : Int} {c : RV} {P H : SV} (h : Qc2 l = some (k, e, c, P, H)) : SV.agg l = reS k e c P H := by
 unfold Qc2 at h
 obtain ⟨x_k, l_k, e_k, h_k⟩ := Qa9 h
 subst e_k
 clear h
 obtain ⟨x_id, l_id, e_id, h_id⟩ := Qa9 h_k
 subst e_id
 clear h_k
 obtain ⟨x_e, l_e, e_e, h_e⟩ := Qa9 h_id
 subst e_e
 clear h_id
 obtain ⟨x_bs, l_bs, e_bs, h_bs⟩ := Qa9 h_e
 subst e_bs
 clear h_e
 obtain ⟨x_bg, l_bg, e_bg, h_bg⟩ := Qa9 h_bs
 subst e_bg
 clear h_bs
 obtain ⟨x_ver, l_ver, e_ver, h_ver⟩ := Qa9 h_bg
 subst e_ver
 clear h_bg
 obtain ⟨x_gr, l_gr, e_gr, h_gr⟩ := Qa9 h_ver
 subst e_gr
 clear h_ver
 obtain ⟨x_o_sk, l_o_sk, e_o_sk, h_o_sk⟩ := Qa9 h_gr
 subst e_o_sk
 clear h_gr
 obtain ⟨x_o_sr, l_o_sr, e_o_sr, h_o_sr⟩ := Qa9 h_o_sk
 subst e_o_sr
 clear h_o_sk
 obtain ⟨x_o_sw, l_o_sw, e_o_sw, h_o_sw⟩ := Qa9 h_o_sr
 subst e_o_sw
 clear h_o_sr
 obtain ⟨x_o_sh, l_o_sh, e_o_sh, h_o_sh⟩ := Qa9 h_o_sw
 subst e_o_sh
 clear h_o_sw
 obtain ⟨x_P, l_P, e_P, h_P⟩ := Qvh h_o_sh
 subst e_P
 clear h_o_sh
 obtain ⟨x_o_p0v, l_o_p0v, e_o_p0v, h_o_p0v⟩ := Qa9 h_P
 subst e_o_p0v
 clear h_P
 obtain ⟨x_o_p0f, l_o_p0f, e_o_p0f, h_o_p0f⟩ := Qb1 h_o_p0v
 subst e_o_p0f
 clear h_o_p0v
 obtain ⟨x_o_p1v, l_o_p1v, e_o_p1v, h_o_p1v⟩ := Qa9 h_o_p0f
 subst e_o_p1v
 clear h_o_p0f
 obtain ⟨x_o_p1f, l_o_p1f, e_o_p1f, h_o_p1f⟩ := Qb1 h_o_p1v
 subst e_o_p1f
 clear h_o_p1v
 obtain ⟨x_o_p2v, l_o_p2v, e_o_p2v, h_o_p2v⟩ := Qa9 h_o_p1f
 subst e_o_p2v
 clear h_o_p1f
 obtain ⟨x_o_p2f, l_o_p2f, e_o_p2f, h_o_p2f⟩ := Qb1 h_o_p2v
 subst e_o_p2f
 clear h_o_p2v
 obtain ⟨x_o_p3v, l_o_p3v, e_o_p3v, h_o_p3v⟩ := Qa9 h_o_p2f
 subst e_o_p3v
 clear h_o_p2f
 obtain ⟨x_o_p3f, l_o_p3f, e_o_p3f, h_o_p3f⟩ := Qb1 h_o_p3v
 subst e_o_p3f
 clear h_o_p3v
 obtain ⟨x_o_v0v, l_o_v0v, e_o_v0v, h_o_v0v⟩ := Qa9 h_o_p3f
 subst e_o_v0v
 clear h_o_p3f
 obtain ⟨x_o_v0f, l_o_v0f, e_o_v0f, h_o_v0f⟩ := Qb1 h_o_v0v
 subst e_o_v0f
 clear h_o_v0v
 obtain ⟨x_o_v1v, l_o_v1v, e_o_v1v, h_o_v1v⟩ := Qa9 h_o_v0f
 subst e_o_v1v
 clear h_o_v0f
 obtain ⟨x_o_v1f, l_o_v1f, e_o_v1f, h_o_v1f⟩ := Qb1 h_o_v1v
 subst e_o_v1f
 clear h_o_v1v
 obtain ⟨x_o_w0v, l_o_w0v, e_o_w0v, h_o_w0v⟩ := Qa9 h_o_v1f
 subst e_o_w0v
 clear h_o_v1f
 obtain ⟨x_o_w0f, l_o_w0f, e_o_w0f, h_o_w0f⟩ := Qb1 h_o_w0v
 subst e_o_w0f
 clear h_o_w0v
 obtain ⟨x_o_m0v, l_o_m0v, e_o_m0v, h_o_m0v⟩ := Qa9 h_o_w0f
 subst e_o_m0v
 clear h_o_w0f
 obtain ⟨x_o_m0f, l_o_m0f, e_o_m0f, h_o_m0f⟩ := Qb1 h_o_m0v
 subst e_o_m0f
 clear h_o_m0v
 obtain ⟨x_o_m1v, l_o_m1v, e_o_m1v, h_o_m1v⟩ := Qa9 h_o_m0f
 subst e_o_m1v
 clear h_o_m0f
 obtain ⟨x_o_m1f, l_o_m1f, e_o_m1f, h_o_m1f⟩ := Qb1 h_o_m1v
 subst e_o_m1f
 clear h_o_m1v
 obtain ⟨x_o_st, l_o_st, e_o_st, h_o_st⟩ := Qa9 h_o_m1f
 subst e_o_st
 clear h_o_m1f
 obtain ⟨x_o_asl, l_o_asl, e_o_asl, h_o_asl⟩ := Qb1 h_o_st
 subst e_o_asl
 clear h_o_st
 obtain ⟨x_o_flt, l_o_flt, e_o_flt, h_o_flt⟩ := Qb1 h_o_asl
 subst e_o_flt
 clear h_o_asl
 obtain ⟨x_o_bv, l_o_bv, e_o_bv, h_o_bv⟩ := Qa9 h_o_flt
 subst e_o_bv
 clear h_o_flt
 obtain ⟨x_H, l_H, e_H, h_H⟩ := Qvh h_o_bv
 subst e_H
 clear h_o_bv
 obtain ⟨x_hit, l_hit, e_hit, h_hit⟩ := Qb1 h_H
 subst e_hit
 clear h_H
 obtain ⟨x_htv, l_htv, e_htv, h_htv⟩ := Qa9 h_hit
 subst e_htv
 clear h_hit
 obtain ⟨x_htf, l_htf, e_htf, h_htf⟩ := Qb1 h_htv
 subst e_htf
 clear h_htv
 obtain ⟨x_x0v, l_x0v, e_x0v, h_x0v⟩ := Qa9 h_htf
 subst e_x0v
 clear h_htf
 obtain ⟨x_x0f, l_x0f, e_x0f, h_x0f⟩ := Qb1 h_x0v
 subst e_x0f
 clear h_x0v
 obtain ⟨x_x1v, l_x1v, e_x1v, h_x1v⟩ := Qa9 h_x0f
 subst e_x1v
 clear h_x0f
 obtain ⟨x_x1f, l_x1f, e_x1f, h_x1f⟩ := Qb1 h_x1v
 subst e_x1f
 clear h_x1v
 obtain ⟨x_cnt, l_cnt, e_cnt, h_cnt⟩ := Qa9 h_x1f
 subst e_cnt
 clear h_x1f
 obtain ⟨e0, h0⟩ := Qyx h_cnt
 subst e0
 obtain ⟨q0, h1⟩ := Prod.mk.inj h0
 clear h0
 obtain ⟨q1, h2⟩ := Prod.mk.inj h1
 clear h1
 obtain ⟨q2, h3⟩ := Prod.mk.inj h2
 clear h2
 obtain ⟨q3, h4⟩ := Prod.mk.inj h3
 clear h3
 subst q0 q1 q2 q3 h4
 rfl
theorem Qkl {l : List SV} {c : BV} {P : SV} (h : Qii l = some (c, P)) : SV.agg l = boS c P := by
 unfold Qii at h
 obtain ⟨x_o_sk, l_o_sk, e_o_sk, h_o_sk⟩ := Qa9 h
 subst e_o_sk
 clear h
 obtain ⟨x_o_sr, l_o_sr, e_o_sr, h_o_sr⟩ := Qa9 h_o_sk
 subst e_o_sr
 clear h_o_sk
 obtain ⟨x_o_sw, l_o_sw, e_o_sw, h_o_sw⟩ := Qa9 h_o_sr
 subst e_o_sw
 clear h_o_sr
 obtain ⟨x_o_sh, l_o_sh, e_o_sh, h_o_sh⟩ := Qa9 h_o_sw
 subst e_o_sh
 clear h_o_sw
 obtain ⟨x_P, l_P, e_P, h_P⟩ := Qvh h_o_sh
 subst e_P
 clear h_o_sh
 obtain ⟨x_o_p0v, l_o_p0v, e_o_p0v, h_o_p0v⟩ := Qa9 h_P
 subst e_o_p0v
 clear h_P
 obtain ⟨x_o_p0f, l_o_p0f, e_o_p0f, h_o_p0f⟩ := Qb1 h_o_p0v
 subst e_o_p0f
 clear h_o_p0v
 obtain ⟨x_o_p1v, l_o_p1v, e_o_p1v, h_o_p1v⟩ := Qa9 h_o_p0f
 subst e_o_p1v
 clear h_o_p0f
 obtain ⟨x_o_p1f, l_o_p1f, e_o_p1f, h_o_p1f⟩ := Qb1 h_o_p1v
 subst e_o_p1f
 clear h_o_p1v
 obtain ⟨x_o_p2v, l_o_p2v, e_o_p2v, h_o_p2v⟩ := Qa9 h_o_p1f
 subst e_o_p2v
 clear h_o_p1f
 obtain ⟨x_o_p2f, l_o_p2f, e_o_p2f, h_o_p2f⟩ := Qb1 h_o_p2v
 subst e_o_p2f
 clear h_o_p2v
 obtain ⟨x_o_p3v, l_o_p3v, e_o_p3v, h_o_p3v⟩ := Qa9 h_o_p2f
 subst e_o_p3v
 clear h_o_p2f
 obtain ⟨x_o_p3f, l_o_p3f, e_o_p3f, h_o_p3f⟩ := Qb1 h_o_p3v
 subst e_o_p3f
 clear h_o_p3v
 obtain ⟨x_o_v0v, l_o_v0v, e_o_v0v, h_o_v0v⟩ := Qa9 h_o_p3f
 subst e_o_v0v
 clear h_o_p3f
 obtain ⟨x_o_v0f, l_o_v0f, e_o_v0f, h_o_v0f⟩ := Qb1 h_o_v0v
 subst e_o_v0f
 clear h_o_v0v
 obtain ⟨x_o_v1v, l_o_v1v, e_o_v1v, h_o_v1v⟩ := Qa9 h_o_v0f
 subst e_o_v1v
 clear h_o_v0f
 obtain ⟨x_o_v1f, l_o_v1f, e_o_v1f, h_o_v1f⟩ := Qb1 h_o_v1v
 subst e_o_v1f
 clear h_o_v1v
 obtain ⟨x_o_w0v, l_o_w0v, e_o_w0v, h_o_w0v⟩ := Qa9 h_o_v1f
 subst e_o_w0v
 clear h_o_v1f
 obtain ⟨x_o_w0f, l_o_w0f, e_o_w0f, h_o_w0f⟩ := Qb1 h_o_w0v
 subst e_o_w0f
 clear h_o_w0v
 obtain ⟨x_o_m0v, l_o_m0v, e_o_m0v, h_o_m0v⟩ := Qa9 h_o_w0f
 subst e_o_m0v
 clear h_o_w0f
 obtain ⟨x_o_m0f, l_o_m0f, e_o_m0f, h_o_m0f⟩ := Qb1 h_o_m0v
 subst e_o_m0f
 clear h_o_m0v
 obtain ⟨x_o_m1v, l_o_m1v, e_o_m1v, h_o_m1v⟩ := Qa9 h_o_m0f
 subst e_o_m1v
 clear h_o_m0f
 obtain ⟨x_o_m1f, l_o_m1f, e_o_m1f, h_o_m1f⟩ := Qb1 h_o_m1v
 subst e_o_m1f
 clear h_o_m1v
 obtain ⟨x_o_st, l_o_st, e_o_st, h_o_st⟩ := Qa9 h_o_m1f
 subst e_o_st
 clear h_o_m1f
 obtain ⟨x_o_asl, l_o_asl, e_o_asl, h_o_asl⟩ := Qb1 h_o_st
 subst e_o_asl
 clear h_o_st
 obtain ⟨x_o_flt, l_o_flt, e_o_flt, h_o_flt⟩ := Qb1 h_o_asl
 subst e_o_flt
 clear h_o_asl
 obtain ⟨x_o_bv, l_o_bv, e_o_bv, h_o_bv⟩ := Qa9 h_o_flt
 subst e_o_bv
 clear h_o_flt
 obtain ⟨e0, h0⟩ := Qyx h_o_bv
 subst e0
 obtain ⟨q0, h1⟩ := Prod.mk.inj h0
 clear h0
 subst q0 h1
 rfl
theorem Q9z {q : Option Prop} {c : RV} {e1 n cap xt : Nat} {x y : Nat → Int} {wh : Bool} {e2 m cp xt2 : Nat} {x2 y2 : Nat → Int} {wh2 : Bool} : Qa6 Try.prog Qaq Qb5 Try.f77 [reS 0 0 c (.sl 0 2 0 n cap) (.sl 1 2 0 m cp)] (Qac [ptB e1 n x y xt wh, ptB e2 m x2 y2 xt2 wh2]) 64 (fun y' h' => Qbh [ptB e1 n x y xt wh, ptB e2 m x2 y2 xt2 wh2] (.det q (reS 0 0 (uR0 c) (Qa8) (Qa8)) []) y' h') := by
 rw [Qc6, Q20]
 (refine ⟨?_, trivial⟩; repeat (first | exact rfl | refine ⟨rfl, ?_⟩))
theorem Q9y {q : Option Prop} {c : RV} {e1 n cap xt : Nat} {x y : Nat → Int} {wh : Bool} {e2 m cp xt2 : Nat} {x2 y2 : Nat → Int} {wh2 : Bool} : Qa6 Try.prog Qaq Qb5 Try.f77 [reS 1 0 c (.sl 0 2 0 n cap) (.sl 1 2 0 m cp)] (Qac [ptB e1 n x y xt wh, ptB e2 m x2 y2 xt2 wh2]) 64 (fun y' h' => Qbh [ptB e1 n x y xt wh, ptB e2 m x2 y2 xt2 wh2] (.det q (reS 1 0 (uR1 c) (Qa8) (Qa8)) []) y' h') := by
 rw [Qc6, Q2z]
 (refine ⟨?_, trivial⟩; repeat (first | exact rfl | refine ⟨rfl, ?_⟩))
theorem Q9x {q : Option Prop} {c : RV} {e1 n cap xt : Nat} {x y : Nat → Int} {wh : Bool} {e2 m cp xt2 : Nat} {x2 y2 : Nat → Int} {wh2 : Bool} : Qa6 Try.prog Qaq Qb5 Try.f77 [reS 2 0 c (.sl 0 2 0 n cap) (.sl 1 2 0 m cp)] (Qac [ptB e1 n x y xt wh, ptB e2 m x2 y2 xt2 wh2]) 64 (fun y' h' => Qbh [ptB e1 n x y xt wh, ptB e2 m x2 y2 xt2 wh2] (.det q (reS 2 0 (uR2 c) (Qa8) (Qa8)) []) y' h') := by
 rw [Qc6, Q2y]
 (refine ⟨?_, trivial⟩; repeat (first | exact rfl | refine ⟨rfl, ?_⟩))
theorem Q9w {q : Option Prop} {c : RV} {e1 n cap xt : Nat} {x y : Nat → Int} {wh : Bool} {e2 m cp xt2 : Nat} {x2 y2 : Nat → Int} {wh2 : Bool} : Qa6 Try.prog Qaq Qb5 Try.f77 [reS 3 0 c (.sl 0 2 0 n cap) (.sl 1 2 0 m cp)] (Qac [ptB e1 n x y xt wh, ptB e2 m x2 y2 xt2 wh2]) 64 (fun y' h' => Qbh [ptB e1 n x y xt wh, ptB e2 m x2 y2 xt2 wh2] (.det q (reS 3 0 (uR3 c) (Qa8) (Qa8)) []) y' h') := by
 rw [Qc6, Q2x]
 (refine ⟨?_, trivial⟩; repeat (first | exact rfl | refine ⟨rfl, ?_⟩))
theorem Q9v {q : Option Prop} {c : RV} {e1 n cap xt : Nat} {x y : Nat → Int} {wh : Bool} {e2 m cp xt2 : Nat} {x2 y2 : Nat → Int} {wh2 : Bool} : Qa6 Try.prog Qaq Qb5 Try.f77 [reS 4 0 c (.sl 0 2 0 n cap) (.sl 1 2 0 m cp)] (Qac [ptB e1 n x y xt wh, ptB e2 m x2 y2 xt2 wh2]) 64 (fun y' h' => Qbh [ptB e1 n x y xt wh, ptB e2 m x2 y2 xt2 wh2] (.det q (reS 4 0 (uR4 c) (Qa8) (Qa8)) []) y' h') := by
 rw [Qc6, Q2w]
 (refine ⟨?_, trivial⟩; repeat (first | exact rfl | refine ⟨rfl, ?_⟩))
theorem Q9u {q : Option Prop} {c : RV} {e1 n cap xt : Nat} {x y : Nat → Int} {wh : Bool} {e2 m cp xt2 : Nat} {x2 y2 : Nat → Int} {wh2 : Bool} : Qa6 Try.prog Qaq Qb5 Try.f77 [reS 5 0 c (.sl 0 2 0 n cap) (.sl 1 2 0 m cp)] (Qac [ptB e1 n x y xt wh, ptB e2 m x2 y2 xt2 wh2]) 64 (fun y' h' => Qbh [ptB e1 n x y xt wh, ptB e2 m x2 y2 xt2 wh2] (.det q (reS 5 0 (uR5 c) (Qa8) (Qa8)) []) y' h') := by
 rw [Qc6, Q2v]
 (refine ⟨?_, trivial⟩; repeat (first | exact rfl | refine ⟨rfl, ?_⟩))
theorem Q9t {q : Option Prop} {c : RV} {e1 n cap xt : Nat} {x y : Nat → Int} {wh : Bool} {e2 m cp xt2 : Nat} {x2 y2 : Nat → Int} {wh2 : Bool} : Qa6 Try.prog Qaq Qb5 Try.f77 [reS 6 0 c (.sl 0 2 0 n cap) (.sl 1 2 0 m cp)] (Qac [ptB e1 n x y xt wh, ptB e2 m x2 y2 xt2 wh2]) 64 (fun y' h' => Qbh [ptB e1 n x y xt wh, ptB e2 m x2 y2 xt2 wh2] (.det q (reS 6 0 (uR6 c) (Qa8) (Qa8)) []) y' h') := by
 rw [Qc6, Q2u]
 (refine ⟨?_, trivial⟩; repeat (first | exact rfl | refine ⟨rfl, ?_⟩))
theorem Q9s {q : Option Prop} {c : RV} {e1 n cap xt : Nat} {x y : Nat → Int} {wh : Bool} {e2 m cp xt2 : Nat} {x2 y2 : Nat → Int} {wh2 : Bool} : Qa6 Try.prog Qaq Qb5 Try.f77 [reS 7 0 c (.sl 0 2 0 n cap) (.sl 1 2 0 m cp)] (Qac [ptB e1 n x y xt wh, ptB e2 m x2 y2 xt2 wh2]) 64 (fun y' h' => Qbh [ptB e1 n x y xt wh, ptB e2 m x2 y2 xt2 wh2] (.det q (reS 7 0 (uR7 c) (.sl 0 2 0 n cap) (Qa8)) []) y' h') := by
 rw [Qc6, Q2t]
 (refine ⟨?_, trivial⟩; repeat (first | exact rfl | refine ⟨rfl, ?_⟩))
theorem Q9r {q : Option Prop} {c : RV} {e1 n cap xt : Nat} {x y : Nat → Int} {wh : Bool} {e2 m cp xt2 : Nat} {x2 y2 : Nat → Int} {wh2 : Bool} : Qa6 Try.prog Qaq Qb5 Try.f77 [reS 8 0 c (.sl 0 2 0 n cap) (.sl 1 2 0 m cp)] (Qac [ptB e1 n x y xt wh, ptB e2 m x2 y2 xt2 wh2]) 64 (fun y' h' => Qbh [ptB e1 n x y xt wh, ptB e2 m x2 y2 xt2 wh2] (.det q (reS 8 0 (uR8 c) (Qa8) (.sl 1 2 0 m cp)) []) y' h') := by
 rw [Qc6, Q2s]
 (refine ⟨?_, trivial⟩; repeat (first | exact rfl | refine ⟨rfl, ?_⟩))
theorem Q9q {q : Option Prop} {c : RV} {e1 n cap xt : Nat} {x y : Nat → Int} {wh : Bool} {e2 m cp xt2 : Nat} {x2 y2 : Nat → Int} {wh2 : Bool} : Qa6 Try.prog Qaq Qb5 Try.f77 [reS 9 0 c (.sl 0 2 0 n cap) (.sl 1 2 0 m cp)] (Qac [ptB e1 n x y xt wh, ptB e2 m x2 y2 xt2 wh2]) 64 (fun y' h' => Qbh [ptB e1 n x y xt wh, ptB e2 m x2 y2 xt2 wh2] (.det q (reS 9 0 (uR9 c) (Qa8) (Qa8)) []) y' h') := by
 rw [Qc6, Q2r]
 refine Qab (fun h => ?_) fun h => ?_
 · unfold uR9; rw [h]; (refine ⟨?_, trivial⟩; repeat (first | exact rfl | refine ⟨rfl, ?_⟩))
 · unfold uR9; rw [h]; (refine ⟨?_, trivial⟩; repeat (first | exact rfl | refine ⟨rfl, ?_⟩))
theorem Q39 {q : Option Prop} {c : RV} {e1 n cap xt : Nat} {x y : Nat → Int} {wh : Bool} {e2 m cp xt2 : Nat} {x2 y2 : Nat → Int} {wh2 : Bool} : Qa6 Try.prog Qaq Qb5 Try.f77 [reS 10 0 c (.sl 0 2 0 n cap) (.sl 1 2 0 m cp)] (Qac [ptB e1 n x y xt wh, ptB e2 m x2 y2 xt2 wh2]) 64 (fun y' h' => Qbh [ptB e1 n x y xt wh, ptB e2 m x2 y2 xt2 wh2] (.det q (reS 10 0 (Qx3 c) (Qa8) (Qa8)) []) y' h') := by
 rw [Qc6, Qyh]
 (refine ⟨?_, trivial⟩; repeat (first | exact rfl | refine ⟨rfl, ?_⟩))
theorem Q9o {q : Option Prop} {k : Int} {a : Nat} {c : RV} {e1 n cap xt : Nat} {x y : Nat → Int} {wh : Bool} {e2 m cp xt2 : Nat} {x2 y2 : Nat → Int} {wh2 : Bool} : Qa6 Try.prog Qaq Qb5 Try.f77 [reS k (Int.ofNat (a + 1)) c (.sl 0 2 0 n cap) (.sl 1 2 0 m cp)] (Qac [ptB e1 n x y xt wh, ptB e2 m x2 y2 xt2 wh2]) 64 (fun y' h' => Qbh [ptB e1 n x y xt wh, ptB e2 m x2 y2 xt2 wh2] (.det q (reS k (Int.ofNat (a + 1)) (uRN (Int.ofNat (a + 1)) c) (Qa8) (Qa8)) []) y' h') := by
 rw [Qc6, Q2p]
 refine Qab (fun g => ?_) fun g => ?_
 · unfold uRN; rw [g]; (refine ⟨?_, trivial⟩; repeat (first | exact rfl | refine ⟨rfl, ?_⟩))
 · unfold uRN; rw [g]; (refine ⟨?_, trivial⟩; repeat (first | exact rfl | refine ⟨rfl, ?_⟩))
theorem Q9p {q : Option Prop} {k : Int} {a : Nat} {c : RV} {e1 n cap xt : Nat} {x y : Nat → Int} {wh : Bool} {e2 m cp xt2 : Nat} {x2 y2 : Nat → Int} {wh2 : Bool} : Qa6 Try.prog Qaq Qb5 Try.f77 [reS k (Int.negSucc a) c (.sl 0 2 0 n cap) (.sl 1 2 0 m cp)] (Qac [ptB e1 n x y xt wh, ptB e2 m x2 y2 xt2 wh2]) 64 (fun y' h' => Qbh [ptB e1 n x y xt wh, ptB e2 m x2 y2 xt2 wh2] (.det q (reS k (Int.negSucc a) (uRN (Int.negSucc a) c) (Qa8) (Qa8)) []) y' h') := by
 rw [Qc6, Q2q]
 unfold uRN; (refine ⟨?_, trivial⟩; repeat (first | exact rfl | refine ⟨rfl, ?_⟩))
theorem Qxg : Qbt Try.prog 77 Qze := Qc0 hm Qax Try.func77 (Λ := fun _ _ => Qb5) fun args bs e hs hp => by
 unfold Qze at hs
 split at hs
 · rename_i l
   split at hs
   · rename_i k e c n cap m cp hl
     split at hs
     · rename_i S H
       obtain ⟨hSH, ht⟩ := Qgj hs
       clear hs
       rw [Bool.and_eq_true] at hSH
       have hbs : ∀ hsp : Qbg n S ∧ Qbg m H, Qc3 [S, H] [ptB S.elem n (gX S) (gY S) S.ext S.whole, ptB H.elem m (gX H) (gY H) H.ext H.whole] := fun hsp => ⟨Qcq hSH.1 hsp.1, Qcq hSH.2 hsp.2, trivial⟩
       cases he : e == 0 with
       | true =>
         rw [he, cond_true] at ht
         have hz : e = 0 := by simpa using he
         clear he
         subst hz
         by_cases h0 : k = 0
         · subst h0
           have hu := Option.some.inj ht
           clear ht
           subst hu
           refine ⟨[ptB S.elem n (gX S) (gY S) S.ext S.whole, ptB H.elem m (gX H) (gY H) H.ext H.whole], hbs (hp _ rfl), ?_⟩
           rw [Qbu hl]
           exact Q9z
         rw [decide_eq_false h0, cond_false] at ht
         by_cases h1 : k = 1
         · subst h1
           have hu := Option.some.inj ht
           clear ht
           subst hu
           refine ⟨[ptB S.elem n (gX S) (gY S) S.ext S.whole, ptB H.elem m (gX H) (gY H) H.ext H.whole], hbs (hp _ rfl), ?_⟩
           rw [Qbu hl]
           exact Q9y
         rw [decide_eq_false h1, cond_false] at ht
         by_cases h2 : k = 2
         · subst h2
           have hu := Option.some.inj ht
           clear ht
           subst hu
           refine ⟨[ptB S.elem n (gX S) (gY S) S.ext S.whole, ptB H.elem m (gX H) (gY H) H.ext H.whole], hbs (hp _ rfl), ?_⟩
           rw [Qbu hl]
           exact Q9x
         rw [decide_eq_false h2, cond_false] at ht
         by_cases h3 : k = 3
         · subst h3
           have hu := Option.some.inj ht
           clear ht
           subst hu
           refine ⟨[ptB S.elem n (gX S) (gY S) S.ext S.whole, ptB H.elem m (gX H) (gY H) H.ext H.whole], hbs (hp _ rfl), ?_⟩
           rw [Qbu hl]
           exact Q9w
         rw [decide_eq_false h3, cond_false] at ht
         by_cases h4 : k = 4
         · subst h4
           have hu := Option.some.inj ht
           clear ht
           subst hu
           refine ⟨[ptB S.elem n (gX S) (gY S) S.ext S.whole, ptB H.elem m (gX H) (gY H) H.ext H.whole], hbs (hp _ rfl), ?_⟩
           rw [Qbu hl]
           exact Q9v
         rw [decide_eq_false h4, cond_false] at ht
         by_cases h5 : k = 5
         · subst h5
           have hu := Option.some.inj ht
           clear ht
           subst hu
           refine ⟨[ptB S.elem n (gX S) (gY S) S.ext S.whole, ptB H.elem m (gX H) (gY H) H.ext H.whole], hbs (hp _ rfl), ?_⟩
           rw [Qbu hl]
           exact Q9u
         rw [decide_eq_false h5, cond_false] at ht
         by_cases h6 : k = 6
         · subst h6
           have hu := Option.some.inj ht
           clear ht
           subst hu
           refine ⟨[ptB S.elem n (gX S) (gY S) S.ext S.whole, ptB H.elem m (gX H) (gY H) H.ext H.whole], hbs (hp _ rfl), ?_⟩
           rw [Qbu hl]
           exact Q9t
         rw [decide_eq_false h6, cond_false] at ht
         by_cases h7 : k = 7
         · subst h7
           have hu := Option.some.inj ht
           clear ht
           subst hu
           refine ⟨[ptB S.elem n (gX S) (gY S) S.ext S.whole, ptB H.elem m (gX H) (gY H) H.ext H.whole], hbs (hp _ rfl), ?_⟩
           rw [Qbu hl]
           exact Q9s
         rw [decide_eq_false h7, cond_false] at ht
         by_cases h8 : k = 8
         · subst h8
           have hu := Option.some.inj ht
           clear ht
           subst hu
           refine ⟨[ptB S.elem n (gX S) (gY S) S.ext S.whole, ptB H.elem m (gX H) (gY H) H.ext H.whole], hbs (hp _ rfl), ?_⟩
           rw [Qbu hl]
           exact Q9r
         rw [decide_eq_false h8, cond_false] at ht
         by_cases h9 : k = 9
         · subst h9
           have hu := Option.some.inj ht
           clear ht
           subst hu
           refine ⟨[ptB S.elem n (gX S) (gY S) S.ext S.whole, ptB H.elem m (gX H) (gY H) H.ext H.whole], hbs (hp _ rfl), ?_⟩
           rw [Qbu hl]
           exact Q9q
         rw [decide_eq_false h9, cond_false] at ht
         by_cases h10 : k = 10
         · subst h10
           have hu := Option.some.inj ht
           clear ht
           subst hu
           refine ⟨[ptB S.elem n (gX S) (gY S) S.ext S.whole, ptB H.elem m (gX H) (gY H) H.ext H.whole], hbs (hp _ rfl), ?_⟩
           rw [Qbu hl]
           exact Q39
         rw [decide_eq_false h10, cond_false] at ht
         cases ht
       | false =>
         rw [he, cond_false] at ht
         have hu := Option.some.inj ht
         clear ht
         subst hu
         refine ⟨[ptB S.elem n (gX S) (gY S) S.ext S.whole, ptB H.elem m (gX H) (gY H) H.ext H.whole], hbs (hp _ rfl), ?_⟩
         rw [Qbu hl]
         rcases e_or he with ⟨a, rfl⟩ | ⟨a, rfl⟩
         · exact Q9o
         · exact Q9p
     · cases hs
   · cases hs
 · cases hs
def mk1 (v : Int) : Bool := bits .and .i64 v 1 != 0
def mk2 (v : Int) : Bool := bits .and .i64 v 2 != 0
noncomputable def bdP (s : ByteArray) (k : Int) : Pz := (shP s (k)).seq ((psP s (Qag s (k))).seq ((vcP s (Qag s (k) + 8 + 1 + 8 + 1 + 8 + 1 + 8 + 1)).seq ((nuP s (Qag s (k) + 8 + 1 + 8 + 1 + 8 + 1 + 8 + 1 + 8 + 1 + 8 + 1)).seq ((nuP s (Qag s (k) + 8 + 1 + 8 + 1 + 8 + 1 + 8 + 1 + 8 + 1 + 8 + 1 + 8 + 1)).seq ((nuP s (Qag s (k) + 8 + 1 + 8 + 1 + 8 + 1 + 8 + 1 + 8 + 1 + 8 + 1 + 8 + 1 + 8 + 1)).seq ((upP s (Qag s (k) + 8 + 1 + 8 + 1 + 8 + 1 + 8 + 1 + 8 + 1 + 8 + 1 + 8 + 1 + 8 + 1 + 8 + 1) 2147483647 4).seq ((upP s (Qag s (k) + 8 + 1 + 8 + 1 + 8 + 1 + 8 + 1 + 8 + 1 + 8 + 1 + 8 + 1 + 8 + 1 + 8 + 1 + 4) 3 1).seq (upP s (Qag s (k) + 8 + 1 + 8 + 1 + 8 + 1 + 8 + 1 + 8 + 1 + 8 + 1 + 8 + 1 + 8 + 1 + 8 + 1 + 4 + 1) 1099511627776 8))))))))
noncomputable def Qip (s : ByteArray) (k : Int) : Int := Qag s (k) + 8 + 1 + 8 + 1 + 8 + 1 + 8 + 1 + 8 + 1 + 8 + 1 + 8 + 1 + 8 + 1 + 8 + 1 + 4 + 1 + 8
noncomputable def bdV (s : ByteArray) (k : Int) : BV := ⟨(Qjt s (k)).k, (Qjt s (k)).r, (Qjt s (k)).w, (Qjt s (k)).h, rdI s (Qag s (k)), rdF s (Qag s (k) + 8), rdI s (Qag s (k) + 8 + 1), rdF s (Qag s (k) + 8 + 1 + 8), rdI s (Qag s (k) + 8 + 1 + 8 + 1), rdF s (Qag s (k) + 8 + 1 + 8 + 1 + 8), rdI s (Qag s (k) + 8 + 1 + 8 + 1 + 8 + 1), rdF s (Qag s (k) + 8 + 1 + 8 + 1 + 8 + 1 + 8), rdI s (Qag s (k) + 8 + 1 + 8 + 1 + 8 + 1 + 8 + 1), rdF s (Qag s (k) + 8 + 1 + 8 + 1 + 8 + 1 + 8 + 1 + 8), rdI s (Qag s (k) + 8 + 1 + 8 + 1 + 8 + 1 + 8 + 1 + 8 + 1), rdF s (Qag s (k) + 8 + 1 + 8 + 1 + 8 + 1 + 8 + 1 + 8 + 1 + 8), rdI s (Qag s (k) + 8 + 1 + 8 + 1 + 8 + 1 + 8 + 1 + 8 + 1 + 8 + 1), rdF s (Qag s (k) + 8 + 1 + 8 + 1 + 8 + 1 + 8 + 1 + 8 + 1 + 8 + 1 + 8), rdI s (Qag s (k) + 8 + 1 + 8 + 1 + 8 + 1 + 8 + 1 + 8 + 1 + 8 + 1 + 8 + 1), rdF s (Qag s (k) + 8 + 1 + 8 + 1 + 8 + 1 + 8 + 1 + 8 + 1 + 8 + 1 + 8 + 1 + 8), rdI s (Qag s (k) + 8 + 1 + 8 + 1 + 8 + 1 + 8 + 1 + 8 + 1 + 8 + 1 + 8 + 1 + 8 + 1), rdF s (Qag s (k) + 8 + 1 + 8 + 1 + 8 + 1 + 8 + 1 + 8 + 1 + 8 + 1 + 8 + 1 + 8 + 1 + 8), rdT s (Qag s (k) + 8 + 1 + 8 + 1 + 8 + 1 + 8 + 1 + 8 + 1 + 8 + 1 + 8 + 1 + 8 + 1 + 8 + 1) 4, mk1 (rdT s (Qag s (k) + 8 + 1 + 8 + 1 + 8 + 1 + 8 + 1 + 8 + 1 + 8 + 1 + 8 + 1 + 8 + 1 + 8 + 1 + 4) 1), mk2 (rdT s (Qag s (k) + 8 + 1 + 8 + 1 + 8 + 1 + 8 + 1 + 8 + 1 + 8 + 1 + 8 + 1 + 8 + 1 + 8 + 1 + 4) 1), rdT s (Qag s (k) + 8 + 1 + 8 + 1 + 8 + 1 + 8 + 1 + 8 + 1 + 8 + 1 + 8 + 1 + 8 + 1 + 8 + 1 + 4 + 1) 8⟩
noncomputable def bdE (s : ByteArray) (k : Int) : Eff := .nd (Qai s k) Nat 0 (fun c => boS (bdV s k) (.sl 1000 2 0 (shC s k) (shC s k + c))) fun c => [(0, rdB s (Qip s k)), (1000, spW (shC s k) (shC s k + c) (Qf6 s (shA k)))]
noncomputable def qP1 (s : ByteArray) (k : Int) : Pz := (haP s (k + 1 + 4 + 1)).seq ((upP s (k + 1 + 4 + 1 + 4 + 4) 1099511627776 8).seq (enP s (k + 1 + 4 + 1 + 4 + 4 + 8)))
noncomputable def qE1 (s : ByteArray) (k : Int) : Int := k + 1 + 4 + 1 + 4 + 4 + 8
noncomputable def qV1 (s : ByteArray) (k : Int) : RV := ⟨rdT s (k + 1) 4, rdT s (k + 1 + 4 + 1) 4, rdT s (k + 1 + 4 + 1 + 4) 4, rdT s (k + 1 + 4 + 1 + 4 + 4) 8, 0, zBV, false, 0, false, 0, false, 0, false, 0⟩
noncomputable def qP2 (s : ByteArray) (k : Int) : Pz := (haP s (k + 1 + 4 + 1)).seq (enP s (k + 1 + 4 + 1 + 4 + 4))
noncomputable def qE2 (s : ByteArray) (k : Int) : Int := k + 1 + 4 + 1 + 4 + 4
noncomputable def qV2 (s : ByteArray) (k : Int) : RV := ⟨rdT s (k + 1) 4, rdT s (k + 1 + 4 + 1) 4, rdT s (k + 1 + 4 + 1 + 4) 4, 0, 0, zBV, false, 0, false, 0, false, 0, false, 0⟩
noncomputable def qP3 (s : ByteArray) (k : Int) : Pz := (haP s (k + 1 + 4 + 1)).seq ((upP s (k + 1 + 4 + 1 + 4 + 4) 1099511627776 8).seq (enP s (k + 1 + 4 + 1 + 4 + 4 + 8)))
noncomputable def qE3 (s : ByteArray) (k : Int) : Int := k + 1 + 4 + 1 + 4 + 4 + 8
noncomputable def qV3 (s : ByteArray) (k : Int) : RV := ⟨rdT s (k + 1) 4, rdT s (k + 1 + 4 + 1) 4, rdT s (k + 1 + 4 + 1 + 4) 4, rdT s (k + 1 + 4 + 1 + 4 + 4) 8, 0, zBV, false, 0, false, 0, false, 0, false, 0⟩
noncomputable def qP4 (s : ByteArray) (k : Int) : Pz := (haP s (k + 1 + 4 + 1)).seq ((upP s (k + 1 + 4 + 1 + 4 + 4) 1099511627776 8).seq ((upP s (k + 1 + 4 + 1 + 4 + 4 + 8) 2147483647 4).seq (enP s (k + 1 + 4 + 1 + 4 + 4 + 8 + 4))))
noncomputable def qE4 (s : ByteArray) (k : Int) : Int := k + 1 + 4 + 1 + 4 + 4 + 8 + 4
noncomputable def qV4 (s : ByteArray) (k : Int) : RV := ⟨rdT s (k + 1) 4, rdT s (k + 1 + 4 + 1) 4, rdT s (k + 1 + 4 + 1 + 4) 4, rdT s (k + 1 + 4 + 1 + 4 + 4) 8, rdT s (k + 1 + 4 + 1 + 4 + 4 + 8) 4, zBV, false, 0, false, 0, false, 0, false, 0⟩
noncomputable def qP5 (s : ByteArray) (k : Int) : Pz := (upP s (k + 1 + 4 + 1) 2147483647 4).seq (enP s (k + 1 + 4 + 1 + 4))
noncomputable def qE5 (s : ByteArray) (k : Int) : Int := k + 1 + 4 + 1 + 4
noncomputable def qV5 (s : ByteArray) (k : Int) : RV := ⟨rdT s (k + 1) 4, 0, 0, 0, rdT s (k + 1 + 4 + 1) 4, zBV, false, 0, false, 0, false, 0, false, 0⟩
noncomputable def qP6 (s : ByteArray) (k : Int) : Pz := (upP s (k + 1 + 4 + 1) 2147483647 4).seq (enP s (k + 1 + 4 + 1 + 4))
noncomputable def qE6 (s : ByteArray) (k : Int) : Int := k + 1 + 4 + 1 + 4
noncomputable def qV6 (s : ByteArray) (k : Int) : RV := ⟨rdT s (k + 1) 4, 0, 0, 0, rdT s (k + 1 + 4 + 1) 4, zBV, false, 0, false, 0, false, 0, false, 0⟩
noncomputable def qP7 (s : ByteArray) (k : Int) : Pz := (haP s (k + 1 + 4 + 1)).seq ((bdP s (k + 1 + 4 + 1 + 4 + 4)).seq (enP s (Qip s (k + 1 + 4 + 1 + 4 + 4))))
noncomputable def qE7 (s : ByteArray) (k : Int) : Int := Qip s (k + 1 + 4 + 1 + 4 + 4)
noncomputable def qV7 (s : ByteArray) (k : Int) : RV := ⟨rdT s (k + 1) 4, rdT s (k + 1 + 4 + 1) 4, rdT s (k + 1 + 4 + 1 + 4) 4, 0, 0, bdV s (k + 1 + 4 + 1 + 4 + 4), false, 0, false, 0, false, 0, false, 0⟩
noncomputable def Q4n (s : ByteArray) (k : Int) : Pz := ⟨!(rdF s (k + 1 + 4 + 1 + 4 + 4) || ((rdI s (k + 1 + 4 + 1 + 4 + 4 + 1) == 0 && rdF s (k + 1 + 4 + 1 + 4 + 4 + 1 + 8) == false && (rdI s (k + 1 + 4 + 1 + 4 + 4 + 1 + 8 + 1) == 0 && rdF s (k + 1 + 4 + 1 + 4 + 4 + 1 + 8 + 1 + 8) == false && (rdI s (k + 1 + 4 + 1 + 4 + 4 + 1 + 8 + 1 + 8 + 1) == 0 && rdF s (k + 1 + 4 + 1 + 4 + 4 + 1 + 8 + 1 + 8 + 1 + 8) == false))) && (rdT s (k + 1 + 4 + 1) 4 == 0 && rdT s (k + 1 + 4 + 1 + 4) 4 == 0))), 4⟩
noncomputable def qP9 (s : ByteArray) (k : Int) : Pz := (haP s (k + 1 + 4 + 1)).seq ((upP s (k + 1 + 4 + 1 + 4 + 4) 1 1).seq ((nuP s (k + 1 + 4 + 1 + 4 + 4 + 1)).seq ((vcP s (k + 1 + 4 + 1 + 4 + 4 + 1 + 8 + 1)).seq ((Q4n s k).seq (enP s (k + 1 + 4 + 1 + 4 + 4 + 1 + 8 + 1 + 8 + 1 + 8 + 1))))))
noncomputable def qE9 (s : ByteArray) (k : Int) : Int := k + 1 + 4 + 1 + 4 + 4 + 1 + 8 + 1 + 8 + 1 + 8 + 1
noncomputable def qV9 (s : ByteArray) (k : Int) : RV := ⟨rdT s (k + 1) 4, rdT s (k + 1 + 4 + 1) 4, rdT s (k + 1 + 4 + 1 + 4) 4, 0, 0, zBV, rdF s (k + 1 + 4 + 1 + 4 + 4), rdI s (k + 1 + 4 + 1 + 4 + 4 + 1), rdF s (k + 1 + 4 + 1 + 4 + 4 + 1 + 8), rdI s (k + 1 + 4 + 1 + 4 + 4 + 1 + 8 + 1), rdF s (k + 1 + 4 + 1 + 4 + 4 + 1 + 8 + 1 + 8), rdI s (k + 1 + 4 + 1 + 4 + 4 + 1 + 8 + 1 + 8 + 1), rdF s (k + 1 + 4 + 1 + 4 + 4 + 1 + 8 + 1 + 8 + 1 + 8), 0⟩
noncomputable def Zec (s : ByteArray) (k : Int) : Pz := (upP s (k + 1 + 4 + 1) 2147483647 4).seq (enP s (k + 1 + 4 + 1 + 4))
noncomputable def qE10 (s : ByteArray) (k : Int) : Int := k + 1 + 4 + 1 + 4
noncomputable def Za9 (s : ByteArray) (k : Int) : RV := ⟨rdT s (k + 1) 4, 0, 0, 0, 0, zBV, false, 0, false, 0, false, 0, false, rdT s (k + 1 + 4 + 1) 4⟩
def hdC (s : ByteArray) (k : Int) : Nat := (rdT s (k + 1 + 4 + 1) 1).toNat
def Qrw (s : ByteArray) (k : Int) : Nat → Pz
 | 0 => ⟨false, 0⟩
 | i + 1 => (Qrw s k i).seq (haP s (k + 8 * (i : Int)))
def Qv0 (s : ByteArray) (k : Int) : Nat → Int × Int := fun i => (rdT s (k + 8 * (i : Int)) 4, rdT s (k + 8 * (i : Int) + 4) 4)
def hdW (n c : Nat) (g : Nat → Int × Int) : Blk := { elem := 32, size := 2, rw := true, lock := false, lit := false, flat := true, n := n, row := Qan g, ext := c }
noncomputable def qP8 (s : ByteArray) (k : Int) : Pz := (upP s (k + 1 + 4 + 1) 64 1).seq ((Qrw s (k + 1 + 4 + 1 + 1) (hdC s k)).seq (enP s (k + 1 + 4 + 1 + 1 + 8 * (hdC s k : Int))))
noncomputable def qE8 (s : ByteArray) (k : Int) : Int := k + 1 + 4 + 1 + 1 + 8 * (hdC s k : Int)
noncomputable def qV8 (s : ByteArray) (k : Int) : RV := ⟨rdT s (k + 1) 4, 0, 0, 0, 0, zBV, false, 0, false, 0, false, 0, false, 0⟩
def rpA (s : ByteArray) (k : Int) : Int := bif rdT s (k + 1 + 4) 1 == 14 then k + 1 + 4 + 1 + 8 else k + 1 + 4 + 1
noncomputable def qPN (s : ByteArray) (k : Int) : Pz := bif rdT s (k + 1 + 4) 1 == 14 then (upP s (k + 1 + 4 + 1) 1099511627776 8).seq (enP s (k + 1 + 4 + 1 + 8)) else enP s (k + 1 + 4 + 1)
def vrN (s : ByteArray) (k : Int) : Int := bif rdT s (k + 1 + 4) 1 == 14 then rdT s (k + 1 + 4 + 1) 8 else 0
noncomputable def qVN (s : ByteArray) (k : Int) : RV := ⟨rdT s (k + 1) 4, 0, 0, vrN s k, 0, zBV, false, 0, false, 0, false, 0, false, 0⟩
noncomputable def rpR (s : ByteArray) (k : Int) : Pz := bif rdT s (k + 1 + 4) 1 == 0 then (bif rdT s k 1 == 1 then qP1 s k else (bif rdT s k 1 == 2 then qP2 s k else (bif rdT s k 1 == 3 then qP3 s k else (bif rdT s k 1 == 4 then qP4 s k else (bif rdT s k 1 == 5 then qP5 s k else (bif rdT s k 1 == 6 then qP6 s k else (bif rdT s k 1 == 7 then qP7 s k else (bif rdT s k 1 == 8 then qP8 s k else (bif rdT s k 1 == 9 then qP9 s k else (Zec s k)))))))))) else qPN s k
noncomputable def rpV (s : ByteArray) (k : Int) : RV := bif rdT s (k + 1 + 4) 1 == 0 then (bif rdT s k 1 == 1 then qV1 s k else (bif rdT s k 1 == 2 then qV2 s k else (bif rdT s k 1 == 3 then qV3 s k else (bif rdT s k 1 == 4 then qV4 s k else (bif rdT s k 1 == 5 then qV5 s k else (bif rdT s k 1 == 6 then qV6 s k else (bif rdT s k 1 == 7 then qV7 s k else (bif rdT s k 1 == 8 then qV8 s k else (bif rdT s k 1 == 9 then qV9 s k else (Za9 s k)))))))))) else qVN s k
noncomputable def Qd2 (s : ByteArray) (k : Int) : Int := bif rdT s (k + 1 + 4) 1 == 0 then (bif rdT s k 1 == 1 then qE1 s k else (bif rdT s k 1 == 2 then qE2 s k else (bif rdT s k 1 == 3 then qE3 s k else (bif rdT s k 1 == 4 then qE4 s k else (bif rdT s k 1 == 5 then qE5 s k else (bif rdT s k 1 == 6 then qE6 s k else (bif rdT s k 1 == 7 then qE7 s k else (bif rdT s k 1 == 8 then qE8 s k else (bif rdT s k 1 == 9 then qE9 s k else (qE10 s k)))))))))) else rpA s k
def rpN (s : ByteArray) (k : Int) : Nat := bif rdT s (k + 1 + 4) 1 == 0 && rdT s k 1 == 7 then shC s (k + 1 + 4 + 1 + 4 + 4) else 0
def rpM (s : ByteArray) (k : Int) : Nat := bif rdT s (k + 1 + 4) 1 == 0 && rdT s k 1 == 8 then hdC s k else 0
noncomputable def Qj2 (s : ByteArray) (k : Int) : Nat → Int × Int := Qf6 s (shA (k + 1 + 4 + 1 + 4 + 4))
def Qi0 (s : ByteArray) (k : Int) : Nat → Int × Int := Qv0 s (k + 1 + 4 + 1 + 1)
def n1P (s : ByteArray) (k : Int) : Pz := ⟨!(rdT s k 1 != 0 || rdT s (k + 1) 4 == 0), 4⟩
def n2P (s : ByteArray) (k : Int) : Pz := ⟨!(rdT s k 1 != 0 || (rdT s (k + 1 + 4) 1 != 0 && rdT s (k + 1 + 4) 1 != 14)), 4⟩
noncomputable def rpP (s : ByteArray) (k : Int) : Pz := (kiP s k 0).seq ((upP s (k + 1) 2147483647 4).seq ((n1P s k).seq ((upP s (k + 1 + 4) 14 1).seq ((n2P s k).seq (rpR s k)))))
structure RC where
 a : Nat
 b : Nat
noncomputable def rpE (s : ByteArray) (k : Int) : Eff := .nd (Qai s k) RC ⟨0, 0⟩ (fun c => reS (rdT s k 1) (rdT s (k + 1 + 4) 1) (rpV s k) (.sl 1000 2 0 (rpN s k) (rpN s k + c.a)) (.sl 1001 2 0 (rpM s k) (rpM s k + c.b))) fun c => [(0, rdB s (Qd2 s k)), (1000, spW (rpN s k) (rpN s k + c.a) (Qj2 s k)), (1001, hdW (rpM s k) (rpM s k + c.b) (Qi0 s k))]
def zRV : RV := ⟨0, 0, 0, 0, 0, zBV, false, 0, false, 0, false, 0, false, 0⟩
def aggL : SV → List SV
 | .agg l => l
 | _ => []
def rv1 (s : ByteArray) (k : Int) (v : Int) : RV := ⟨rdT s (k + 1) 4, 0, 0, v, 0, zBV, false, 0, false, 0, false, 0, false, 0⟩
def Zhy (s : ByteArray) (k : Int) (e : Int) (v : Int) (H : SV) : Blk := Qkt 64 (aggL (reS (rdT s k 1) e (rv1 s k v) Qa8 H))
noncomputable def ΛRp (s : ByteArray) (k : Int) : Nat → Option LoopSpec := Qsx (Qjs (Q1i (Q1i (Q1i Qas Try.f91 3 9 Nat (fun _ => (n1P s k).bad = false) [] [(0, fun _ => rdB s (k + 1 + 4)), (64, fun _ => Zhy s k 0 0 Qa8)]) Try.f91 5 14 Nat (fun _ => (n2P s k).bad = false) [] [(0, fun _ => rdB s (k + 1 + 4 + 1)), (64, fun _ => Zhy s k (rdT s (k + 1 + 4) 1) 0 Qa8)]) Try.f91 6 7 Nat (fun _ => (rdT s (k + 1 + 4) 1 = 14 → (upP s (k + 1 + 4 + 1) 1099511627776 8).bad = false)) [] [(0, fun _ => rdB s (rpA s k)), (64, fun _ => Zhy s k (rdT s (k + 1 + 4) 1) (vrN s k) Qa8)]) Try.f91 1 SX (fun x => x.i ≤ hdC s k ∧ (Qrw s (k + 1 + 4 + 1 + 1) x.i).bad = false ∧ x.i ≤ x.c) (fun x => hdC s k - x.i) [(92, fun x => .v (.int .i64 (x.i : Int)))] [(0, fun x => rdB s (k + 1 + 4 + 1 + 1 + 8 * (x.i : Int))), (64, fun x => Zhy s k (rdT s (k + 1 + 4) 1) (vrN s k) (.sl 40 2 0 x.i x.c))] [(40, fun x => hdW x.i x.c (Qv0 s (k + 1 + 4 + 1 + 1)), Qw4 64 34)]) 31 [(1, fun _ => 64), (3, fun _ => 0)]
noncomputable def Zh4 : Qb6 := Qap (Qap (Qap Zho 122 (Qui shE shP)) 120 (Qjv Qyy Qwz)) 131 (Qjv (t0 Qmh) (p0 enP))
noncomputable def ΓT9 : Qb6 := Qap Zh4 92 (Qui bdE bdP)
@[reducible] noncomputable def Qb3 (s : ByteArray) (k : Int) := (Prod.snd (Qfw s (Prod.snd (Qfw s (Prod.snd (Qfw s (Prod.snd (Qdt s (Prod.snd (Qe2 s (Qag s k)))))))))))
@[reducible] noncomputable def Qdb (s : ByteArray) (k : Int) := (Prod.snd (Qfw s (Prod.snd (Qdt s (Prod.snd (Qe2 s (Qag s k)))))))
@[reducible] noncomputable def Qd1 (s : ByteArray) (k : Int) := (SV.v (Value.iface 169 (Value.agg #[.int .i64 (Pz.er (bdP s k))])))
theorem Q9h (s : ByteArray) (k : Int) : (Qf9 Try.prog Zh4 Qas Try.f92 [.vp 0 0] (Qac [rdB s k]) 64 (fun y h' => (bdP s k).bad = false∧Qbh [rdB s k] (bdE s k) y h') (fun y h' => (bdP s k).bad = true∧Qbh [rdB s k] (.det none (pE (bdP s k).er) [(0,Qbz (rdB s k))]) y h')) =
(sel (Pz.bad (shP s k)) ((Qai s k)∧((Pz.bad (bdP s k) = true)∧(((SV.v (Value.iface 169 (Value.agg #[.int .i64 (Pz.er (shP s k))]))) = (Qd1 s k))∧True))) ((Qai s k)∧(∀ c : Nat,(sel (Pz.bad (psP s (Qag s k))) (((Qai s (Qag s k))∧True)∧((Pz.bad (bdP s k) = true)∧(((SV.v (Value.iface 169 (Value.agg #[.int .i64 (Pz.er (p0 psP [] s (Qag s k)))]))) = (Qd1 s k))∧True))) (((Qai s (Qag s k))∧True)∧(sel (Pz.bad (vcP s (Prod.snd (Qe2 s (Qag s k))))) (((Qai s (Prod.snd (Qe2 s (Qag s k))))∧True)∧((Pz.bad (bdP s k) = true)∧(((SV.v (Value.iface 169 (Value.agg #[.int .i64 (Pz.er (p0 vcP [] s (Prod.snd (Qe2 s (Qag s k)))))]))) = (Qd1 s k))∧True))) (((Qai s (Prod.snd (Qe2 s (Qag s k))))∧True)∧(sel (Pz.bad (nuP s (Prod.snd (Qdt s (Prod.snd (Qe2 s (Qag s k))))))) (((Qai s (Prod.snd (Qdt s (Prod.snd (Qe2 s (Qag s k))))))∧True)∧((Pz.bad (bdP s k) = true)∧(((SV.v (Value.iface 169 (Value.agg #[.int .i64 (Pz.er (p0 nuP [] s (Prod.snd (Qdt s (Prod.snd (Qe2 s (Qag s k)))))))]))) = (Qd1 s k))∧True))) (((Qai s (Prod.snd (Qdt s (Prod.snd (Qe2 s (Qag s k))))))∧True)∧(sel (Pz.bad (nuP s (Qdb s k))) (((Qai s (Qdb s k))∧True)∧((Pz.bad (bdP s k) = true)∧(((SV.v (Value.iface 169 (Value.agg #[.int .i64 (Pz.er (p0 nuP [] s (Qdb s k)))]))) = (Qd1 s k))∧True))) (((Qai s (Qdb s k))∧True)∧(sel (Pz.bad (nuP s (Prod.snd (Qfw s (Qdb s k))))) (((Qai s (Prod.snd (Qfw s (Qdb s k))))∧True)∧((Pz.bad (bdP s k) = true)∧(((SV.v (Value.iface 169 (Value.agg #[.int .i64 (Pz.er (p0 nuP [] s (Prod.snd (Qfw s (Qdb s k)))))]))) = (Qd1 s k))∧True))) (((Qai s (Prod.snd (Qfw s (Qdb s k))))∧True)∧(sel (Pz.bad (Qcx s (Qb3 s k))) (((Qai s (Qb3 s k))∧True)∧((Pz.bad (bdP s k) = true)∧(((SV.v (Value.iface 169 (Value.agg #[.int .i64 (Pz.er (p0 Qcx [] s (Qb3 s k)))]))) = (Qd1 s k))∧True))) (((Qai s (Qb3 s k))∧True)∧(sel (Pz.bad (upP s (Prod.snd (Qaj s (Qb3 s k))) 3 1)) (((Qai s (Prod.snd (Qaj s (Qb3 s k))))∧((((0 : Int) ≤ 1)∧((1 : Int) ≤ 8))∧((3 : Int) ≤ 1099511627776)))∧((Pz.bad (bdP s k) = true)∧(((SV.v (Value.iface 169 (Value.agg #[.int .i64 (Pz.er (Qn0 [SV.v (.int .u64 3),iV 1] s (Prod.snd (Qaj s (Qb3 s k)))))]))) = (Qd1 s k))∧True))) (((Qai s (Prod.snd (Qaj s (Qb3 s k))))∧((((0 : Int) ≤ 1)∧((1 : Int) ≤ 8))∧((3 : Int) ≤ 1099511627776)))∧(sel (Pz.bad (Qo1 s (Prod.snd (Qaj s (Qb3 s k)) + 1))) (((Qai s (Prod.snd (Qaj s (Qb3 s k)) + 1))∧True)∧((Pz.bad (bdP s k) = true)∧(((SV.v (Value.iface 169 (Value.agg #[.int .i64 (Pz.er (p0 Qo1 [] s (Prod.snd (Qaj s (Qb3 s k)) + 1)))]))) = (Qd1 s k))∧True))) (((Qai s (Prod.snd (Qaj s (Qb3 s k)) + 1))∧True)∧((Pz.bad (bdP s k) = false)∧(∃ c_1 : Nat,((((iV (ShB.k (Qjt s k))) = (iV (BV.sk (bdV s k))))∧(((iV (ShB.r (Qjt s k))) = (iV (BV.sr (bdV s k))))∧(((iV (ShB.w (Qjt s k))) = (iV (BV.sw (bdV s k))))∧(((iV (ShB.h (Qjt s k))) = (iV (BV.sh (bdV s k))))∧(((SV.sl 80 2 0 (shC s k) (shC s k + c)) = (SV.sl 80 2 0 (shC s k) (shC s k + c_1)))∧(((iV (rdI s (Qag s k))) = (iV (BV.p0v (bdV s k))))∧(((bV (rdF s (Qag s k + 8))) = (bV (BV.p0f (bdV s k))))∧(((iV (rdI s (Qag s k + 8 + 1))) = (iV (BV.p1v (bdV s k))))∧(((bV (rdF s (Qag s k + 8 + 1 + 8))) = (bV (BV.p1f (bdV s k))))∧(((iV (rdI s (Qag s k + 8 + 1 + 8 + 1))) = (iV (BV.p2v (bdV s k))))∧(((bV (rdF s (Qag s k + 8 + 1 + 8 + 1 + 8))) = (bV (BV.p2f (bdV s k))))∧(((iV (rdI s (Qag s k + 8 + 1 + 8 + 1 + 8 + 1))) = (iV (BV.p3v (bdV s k))))∧(((bV (rdF s (Qag s k + 8 + 1 + 8 + 1 + 8 + 1 + 8))) = (bV (BV.p3f (bdV s k))))∧(((iV (rdI s (Prod.snd (Qe2 s (Qag s k))))) = (iV (BV.v0v (bdV s k))))∧(((bV (rdF s (Prod.snd (Qe2 s (Qag s k)) + 8))) = (bV (BV.v0f (bdV s k))))∧(((iV (rdI s (Prod.snd (Qe2 s (Qag s k)) + 8 + 1))) = (iV (BV.v1v (bdV s k))))∧(((bV (rdF s (Prod.snd (Qe2 s (Qag s k)) + 8 + 1 + 8))) = (bV (BV.v1f (bdV s k))))∧(((iV (rdI s (Prod.snd (Qdt s (Prod.snd (Qe2 s (Qag s k))))))) = (iV (BV.w0v (bdV s k))))∧(((bV (rdF s (Prod.snd (Qdt s (Prod.snd (Qe2 s (Qag s k)))) + 8))) = (bV (BV.w0f (bdV s k))))∧(((iV (rdI s (Qdb s k))) = (iV (BV.m0v (bdV s k))))∧(((bV (rdF s (Prod.snd (Qfw s (Prod.snd (Qdt s (Prod.snd (Qe2 s (Qag s k)))))) + 8))) = (bV (BV.m0f (bdV s k))))∧(((iV (rdI s (Prod.snd (Qfw s (Qdb s k))))) = (iV (BV.m1v (bdV s k))))∧(((bV (rdF s (Prod.snd (Qfw s (Qdb s k)) + 8))) = (bV (BV.m1f (bdV s k))))∧(((iV (rdT s (Qb3 s k) 4)) = (iV (BV.st (bdV s k))))∧(((bV (bits BinOp.and IntKind.i64 (rdT s (Prod.snd (Qaj s (Qb3 s k))) 1) 1 != 0)) = (bV (BV.asl (bdV s k))))∧(((bV (bits BinOp.and IntKind.i64 (rdT s (Prod.snd (Qaj s (Qb3 s k))) 1) 2 != 0)) = (bV (BV.flt (bdV s k))))∧((iV (rdT s (Prod.snd (Qaj s (Qb3 s k)) + 1) 8)) = (iV (BV.bv (bdV s k))))))))))))))))))))))))))))))∧((((1 : Nat) = 1)∧(((1 : Nat) ≤ 1)∧(∀ i : Nat,(((i : Nat) < 1)→([(SV.v (.string s)),(iV (Prod.snd (Qln s (Prod.snd (Qaj s (Qb3 s k)) + 1))))] = [(SV.v (.string s)),(iV (Qip s k))])))))∧((((shC s k) : Nat) = (shC s k))∧((((shC s k + c_1) : Nat) ≤ (shC s k + c))∧(∀ i : Nat,(((i : Nat) < (shC s k))→([(iV (Prod.fst (Qf6 s (shA k) i))),(iV (Prod.snd (Qf6 s (shA k) i)))] = [(iV (Prod.fst (Qf6 s (shA k) i))),(iV (Prod.snd (Qf6 s (shA k) i)))])))))))))))))))))))))))))))) := by kernel_rfl
@[reducible] noncomputable def Qdq (s : ByteArray) (k : Int) (T_ : Prop) : Prop := ((iV (BV.p0v (RV.o (rv1 s k (vrN s k))))) = (iV (BV.p0v (RV.o (rpV s k)))))∧(((bV false) = (bV (BV.p0f (RV.o (rpV s k)))))∧(((iV (BV.p1v (RV.o (rv1 s k (vrN s k))))) = (iV (BV.p1v (RV.o (rpV s k)))))∧(((bV false) = (bV (BV.p1f (RV.o (rpV s k)))))∧(((iV (BV.p2v (RV.o (rv1 s k (vrN s k))))) = (iV (BV.p2v (RV.o (rpV s k)))))∧(((bV false) = (bV (BV.p2f (RV.o (rpV s k)))))∧(((iV (BV.p3v (RV.o (rv1 s k (vrN s k))))) = (iV (BV.p3v (RV.o (rpV s k)))))∧(((bV false) = (bV (BV.p3f (RV.o (rpV s k)))))∧(((iV (BV.v0v (RV.o (rv1 s k (vrN s k))))) = (iV (BV.v0v (RV.o (rpV s k)))))∧(((bV false) = (bV (BV.v0f (RV.o (rpV s k)))))∧(((iV (BV.v1v (RV.o (rv1 s k (vrN s k))))) = (iV (BV.v1v (RV.o (rpV s k)))))∧(((bV false) = (bV (BV.v1f (RV.o (rpV s k)))))∧(((iV (BV.w0v (RV.o (rv1 s k (vrN s k))))) = (iV (BV.w0v (RV.o (rpV s k)))))∧(((bV false) = (bV (BV.w0f (RV.o (rpV s k)))))∧(((iV (BV.m0v (RV.o (rv1 s k (vrN s k))))) = (iV (BV.m0v (RV.o (rpV s k)))))∧(((bV false) = (bV (BV.m0f (RV.o (rpV s k)))))∧(((iV (BV.m1v (RV.o (rv1 s k (vrN s k))))) = (iV (BV.m1v (RV.o (rpV s k)))))∧(((bV false) = (bV (BV.m1f (RV.o (rpV s k)))))∧(((iV (BV.st (RV.o (rv1 s k (vrN s k))))) = (iV (BV.st (RV.o (rpV s k)))))∧(((bV false) = (bV (BV.asl (RV.o (rpV s k)))))∧(((bV false) = (bV (BV.flt (RV.o (rpV s k)))))∧(((iV (BV.bv (RV.o (rv1 s k (vrN s k))))) = (iV (BV.bv (RV.o (rpV s k)))))∧(T_))))))))))))))))))))))
@[reducible] noncomputable def Qjg (s : ByteArray) (k : Int) := [(iV (rdT s k 1)),(iV (RV.id (rv1 s k 0))),(iV (rdT s (k + 1 + 4) 1)),(iV (RV.bs (rv1 s k 0))),(iV (RV.bg (rv1 s k 0))),(iV (RV.ver (rv1 s k 0))),(iV (RV.gr (rv1 s k 0))),(iV (BV.sk (RV.o (rv1 s k 0)))),(iV (BV.sr (RV.o (rv1 s k 0)))),(iV (BV.sw (RV.o (rv1 s k 0)))),(iV (BV.sh (RV.o (rv1 s k 0)))),zS,(iV (BV.p0v (RV.o (rv1 s k 0)))),(bV false),(iV (BV.p1v (RV.o (rv1 s k 0)))),(bV false),(iV (BV.p2v (RV.o (rv1 s k 0)))),(bV false),(iV (BV.p3v (RV.o (rv1 s k 0)))),(bV false),(iV (BV.v0v (RV.o (rv1 s k 0)))),(bV false),(iV (BV.v1v (RV.o (rv1 s k 0)))),(bV false),(iV (BV.w0v (RV.o (rv1 s k 0)))),(bV false),(iV (BV.m0v (RV.o (rv1 s k 0)))),(bV false),(iV (BV.m1v (RV.o (rv1 s k 0)))),(bV false),(iV (BV.st (RV.o (rv1 s k 0)))),(bV false),(bV false),(iV (BV.bv (RV.o (rv1 s k 0)))),zS,(bV false),(iV (RV.htv (rv1 s k 0))),(bV false),(iV (RV.x0v (rv1 s k 0))),(bV false),(iV (RV.x1v (rv1 s k 0))),(bV false),(iV (RV.cnt (rv1 s k 0)))]
@[reducible] noncomputable def Qef (s : ByteArray) (k : Int) := (((bV false) = (bV (RV.hit (rpV s k))))∧(((iV (RV.htv (rv1 s k (vrN s k)))) = (iV (RV.htv (rpV s k))))∧(((bV false) = (bV (RV.htf (rpV s k))))∧(((iV (RV.x0v (rv1 s k (vrN s k)))) = (iV (RV.x0v (rpV s k))))∧(((bV false) = (bV (RV.x0f (rpV s k))))∧(((iV (RV.x1v (rv1 s k (vrN s k)))) = (iV (RV.x1v (rpV s k))))∧(((bV false) = (bV (RV.x1f (rpV s k))))∧((iV (RV.cnt (rv1 s k (vrN s k)))) = (iV (RV.cnt (rpV s k)))))))))))
@[reducible] noncomputable def Qdp (s : ByteArray) (k : Int) (T_ : Prop) : Prop := ((iV (BV.sk (RV.o (rv1 s k (vrN s k))))) = (iV (BV.sk (RV.o (rpV s k)))))∧(((iV (BV.sr (RV.o (rv1 s k (vrN s k))))) = (iV (BV.sr (RV.o (rpV s k)))))∧(((iV (BV.sw (RV.o (rv1 s k (vrN s k))))) = (iV (BV.sw (RV.o (rpV s k)))))∧(((iV (BV.sh (RV.o (rv1 s k (vrN s k))))) = (iV (BV.sh (RV.o (rpV s k)))))∧(T_))))
@[reducible] noncomputable def Qlt (s : ByteArray) (k : Int) := (sel (Pz.bad (enP s (Prod.snd (Qdt s (Prod.snd (Qfw s (Prod.snd (Qdf s (Prod.snd (Qak s (rpA s k))))))))))) (((Qai s (Prod.snd (Qdt s (Prod.snd (Qfw s (Prod.snd (Qdf s (Prod.snd (Qak s (rpA s k))))))))))∧True)∧((Pz.bad (rpP s k) = true)∧(((SV.v (Value.iface 169 (Value.agg #[.int .i64 (Pz.er (p0 enP [] s (Prod.snd (Qdt s (Prod.snd (Qfw s (Prod.snd (Qdf s (Prod.snd (Qak s (rpA s k)))))))))))]))) = (SV.v (Value.iface 169 (Value.agg #[.int .i64 (Pz.er (rpP s k))]))))∧True))) (((Qai s (Prod.snd (Qdt s (Prod.snd (Qfw s (Prod.snd (Qdf s (Prod.snd (Qak s (rpA s k))))))))))∧True)∧((Pz.bad (rpP s k) = false)∧(∃ c : RC,((((iV (rdT s k 1)) = (iV (rdT s k 1)))∧(((iV (RV.id (rv1 s k (vrN s k)))) = (iV (RV.id (rpV s k))))∧(((iV (rdT s (k + 1 + 4) 1)) = (iV (rdT s (k + 1 + 4) 1)))∧(((iV (rdT s (rpA s k) 4)) = (iV (RV.bs (rpV s k))))∧(((iV (rdT s (rpA s k + 4) 4)) = (iV (RV.bg (rpV s k))))∧(((iV (RV.ver (rv1 s k (vrN s k)))) = (iV (RV.ver (rpV s k))))∧(((iV (RV.gr (rv1 s k (vrN s k)))) = (iV (RV.gr (rpV s k))))∧(Qdp s k (((zS = zS)∧(((0 : Nat) = 0)∧((((rpN s k) : Nat) = 0)∧(((rpN s k + RC.a c) : Nat) = 0))))∧(Qdq s k (((zS = zS)∧(((0 : Nat) = 0)∧((((rpM s k) : Nat) = 0)∧(((rpM s k + RC.b c) : Nat) = 0))))∧(((bV (rdF s (Prod.snd (Qak s (rpA s k))))) = (bV (RV.hit (rpV s k))))∧(((iV (rdI s (Prod.snd (Qdf s (Prod.snd (Qak s (rpA s k))))))) = (iV (RV.htv (rpV s k))))∧(((bV (rdF s (Prod.snd (Qdf s (Prod.snd (Qak s (rpA s k)))) + 8))) = (bV (RV.htf (rpV s k))))∧(((iV (rdI s (Prod.snd (Qfw s (Prod.snd (Qdf s (Prod.snd (Qak s (rpA s k))))))))) = (iV (RV.x0v (rpV s k))))∧(((bV (rdF s (Prod.snd (Qfw s (Prod.snd (Qdf s (Prod.snd (Qak s (rpA s k)))))) + 8))) = (bV (RV.x0f (rpV s k))))∧(((iV (rdI s (Prod.snd (Qfw s (Prod.snd (Qdf s (Prod.snd (Qak s (rpA s k)))))) + 8 + 1))) = (iV (RV.x1v (rpV s k))))∧(((bV (rdF s (Prod.snd (Qfw s (Prod.snd (Qdf s (Prod.snd (Qak s (rpA s k)))))) + 8 + 1 + 8))) = (bV (RV.x1f (rpV s k))))∧((iV (RV.cnt (rv1 s k (vrN s k)))) = (iV (RV.cnt (rpV s k))))))))))))))))))))))∧((((1 : Nat) = 1)∧(((1 : Nat) ≤ 1)∧(∀ i : Nat,(((i : Nat) < 1)→([(SV.v (.string s)),(iV (Prod.snd (Qmh s (Prod.snd (Qdt s (Prod.snd (Qfw s (Prod.snd (Qdf s (Prod.snd (Qak s (rpA s k))))))))))))] = [(SV.v (.string s)),(iV (Qd2 s k))])))))∧(((((rpN s k) : Nat) = 0)∧((((rpN s k + RC.a c) : Nat) = 0)∧True))∧(((((rpM s k) : Nat) = 0)∧((((rpM s k + RC.b c) : Nat) = 0)∧True))∧True))))))))
@[reducible] noncomputable def Qls (s : ByteArray) (k : Int) := (sel (Pz.bad (haP s (rpA s k))) (((Qai s (rpA s k))∧True)∧((Pz.bad (rpP s k) = true)∧(((SV.v (Value.iface 169 (Value.agg #[.int .i64 (Pz.er (p0 haP [] s (rpA s k)))]))) = (SV.v (Value.iface 169 (Value.agg #[.int .i64 (Pz.er (rpP s k))]))))∧True))) (((Qai s (rpA s k))∧True)∧(sel (Pz.bad (Qo1 s (Prod.snd (Qak s (rpA s k))))) (((Qai s (Prod.snd (Qak s (rpA s k))))∧True)∧((Pz.bad (rpP s k) = true)∧(((SV.v (Value.iface 169 (Value.agg #[.int .i64 (Pz.er (p0 Qo1 [] s (Prod.snd (Qak s (rpA s k)))))]))) = (SV.v (Value.iface 169 (Value.agg #[.int .i64 (Pz.er (rpP s k))]))))∧True))) (((Qai s (Prod.snd (Qak s (rpA s k))))∧True)∧(sel (Pz.bad (enP s (Prod.snd (Qln s (Prod.snd (Qak s (rpA s k))))))) (((Qai s (Prod.snd (Qln s (Prod.snd (Qak s (rpA s k))))))∧True)∧((Pz.bad (rpP s k) = true)∧(((SV.v (Value.iface 169 (Value.agg #[.int .i64 (Pz.er (p0 enP [] s (Prod.snd (Qln s (Prod.snd (Qak s (rpA s k)))))))]))) = (SV.v (Value.iface 169 (Value.agg #[.int .i64 (Pz.er (rpP s k))]))))∧True))) (((Qai s (Prod.snd (Qln s (Prod.snd (Qak s (rpA s k))))))∧True)∧((Pz.bad (rpP s k) = false)∧(∃ c : RC,((((iV (rdT s k 1)) = (iV (rdT s k 1)))∧(((iV (RV.id (rv1 s k (vrN s k)))) = (iV (RV.id (rpV s k))))∧(((iV (rdT s (k + 1 + 4) 1)) = (iV (rdT s (k + 1 + 4) 1)))∧(((iV (rdT s (rpA s k) 4)) = (iV (RV.bs (rpV s k))))∧(((iV (rdT s (rpA s k + 4) 4)) = (iV (RV.bg (rpV s k))))∧(((iV (rdT s (Prod.snd (Qak s (rpA s k))) 8)) = (iV (RV.ver (rpV s k))))∧(((iV (RV.gr (rv1 s k (vrN s k)))) = (iV (RV.gr (rpV s k))))∧(Qdp s k (((zS = zS)∧(((0 : Nat) = 0)∧((((rpN s k) : Nat) = 0)∧(((rpN s k + RC.a c) : Nat) = 0))))∧(Qdq s k (((zS = zS)∧(((0 : Nat) = 0)∧((((rpM s k) : Nat) = 0)∧(((rpM s k + RC.b c) : Nat) = 0))))∧(Qef s k))))))))))))∧((((1 : Nat) = 1)∧(((1 : Nat) ≤ 1)∧(∀ i : Nat,(((i : Nat) < 1)→([(SV.v (.string s)),(iV (Prod.snd (Qmh s (Prod.snd (Qln s (Prod.snd (Qak s (rpA s k))))))))] = [(SV.v (.string s)),(iV (Qd2 s k))])))))∧(((((rpN s k) : Nat) = 0)∧((((rpN s k + RC.a c) : Nat) = 0)∧True))∧(((((rpM s k) : Nat) = 0)∧((((rpM s k + RC.b c) : Nat) = 0)∧True))∧True))))))))))))
@[reducible] noncomputable def Qlr (s : ByteArray) (k : Int) (T_ : Prop) : Prop := ((1 : Nat) = 1)∧(((1 : Nat) ≤ 1)∧(((iV (rdT s k 1)) = (iV (rdT s k 1)))∧(((iV (RV.id (rv1 s k (vrN s k)))) = (iV (RV.id (rv1 s k (vrN s k)))))∧(((iV (rdT s (k + 1 + 4) 1)) = (iV (rdT s (k + 1 + 4) 1)))∧(((iV (RV.bs (rv1 s k (vrN s k)))) = (iV (RV.bs (rv1 s k (vrN s k)))))∧(((iV (RV.bg (rv1 s k (vrN s k)))) = (iV (RV.bg (rv1 s k (vrN s k)))))∧(((iV (RV.ver (rv1 s k (vrN s k)))) = (iV (RV.ver (rv1 s k (vrN s k)))))∧(((iV (RV.gr (rv1 s k (vrN s k)))) = (iV (RV.gr (rv1 s k (vrN s k)))))∧(((iV (BV.sk (RV.o (rv1 s k (vrN s k))))) = (iV (BV.sk (RV.o (rv1 s k (vrN s k))))))∧(((iV (BV.sr (RV.o (rv1 s k (vrN s k))))) = (iV (BV.sr (RV.o (rv1 s k (vrN s k))))))∧(((iV (BV.sw (RV.o (rv1 s k (vrN s k))))) = (iV (BV.sw (RV.o (rv1 s k (vrN s k))))))∧(((iV (BV.sh (RV.o (rv1 s k (vrN s k))))) = (iV (BV.sh (RV.o (rv1 s k (vrN s k))))))∧((zS = zS)∧(((iV (BV.p0v (RV.o (rv1 s k (vrN s k))))) = (iV (BV.p0v (RV.o (rv1 s k (vrN s k))))))∧(((bV false) = (bV false))∧(((iV (BV.p1v (RV.o (rv1 s k (vrN s k))))) = (iV (BV.p1v (RV.o (rv1 s k (vrN s k))))))∧(((bV false) = (bV false))∧(((iV (BV.p2v (RV.o (rv1 s k (vrN s k))))) = (iV (BV.p2v (RV.o (rv1 s k (vrN s k))))))∧(((bV false) = (bV false))∧(((iV (BV.p3v (RV.o (rv1 s k (vrN s k))))) = (iV (BV.p3v (RV.o (rv1 s k (vrN s k))))))∧(((bV false) = (bV false))∧(((iV (BV.v0v (RV.o (rv1 s k (vrN s k))))) = (iV (BV.v0v (RV.o (rv1 s k (vrN s k))))))∧(((bV false) = (bV false))∧(((iV (BV.v1v (RV.o (rv1 s k (vrN s k))))) = (iV (BV.v1v (RV.o (rv1 s k (vrN s k))))))∧(((bV false) = (bV false))∧(((iV (BV.w0v (RV.o (rv1 s k (vrN s k))))) = (iV (BV.w0v (RV.o (rv1 s k (vrN s k))))))∧(((bV false) = (bV false))∧(((iV (BV.m0v (RV.o (rv1 s k (vrN s k))))) = (iV (BV.m0v (RV.o (rv1 s k (vrN s k))))))∧(((bV false) = (bV false))∧(((iV (BV.m1v (RV.o (rv1 s k (vrN s k))))) = (iV (BV.m1v (RV.o (rv1 s k (vrN s k))))))∧(((bV false) = (bV false))∧(((iV (BV.st (RV.o (rv1 s k (vrN s k))))) = (iV (BV.st (RV.o (rv1 s k (vrN s k))))))∧(((bV false) = (bV false))∧(((bV false) = (bV false))∧(((iV (BV.bv (RV.o (rv1 s k (vrN s k))))) = (iV (BV.bv (RV.o (rv1 s k (vrN s k))))))∧(T_))))))))))))))))))))))))))))))))))))
@[reducible] noncomputable def Qlq (s : ByteArray) (k : Int) := (sel (Pz.bad (Qcx s (rpA s k))) (((Qai s (rpA s k))∧True)∧((Pz.bad (rpP s k) = true)∧(((SV.v (Value.iface 169 (Value.agg #[.int .i64 (Pz.er (p0 Qcx [] s (rpA s k)))]))) = (SV.v (Value.iface 169 (Value.agg #[.int .i64 (Pz.er (rpP s k))]))))∧True))) (((Qai s (rpA s k))∧True)∧(sel (Pz.bad (enP s (Prod.snd (Qaj s (rpA s k))))) (((Qai s (Prod.snd (Qaj s (rpA s k))))∧True)∧((Pz.bad (rpP s k) = true)∧(((SV.v (Value.iface 169 (Value.agg #[.int .i64 (Pz.er (p0 enP [] s (Prod.snd (Qaj s (rpA s k)))))]))) = (SV.v (Value.iface 169 (Value.agg #[.int .i64 (Pz.er (rpP s k))]))))∧True))) (((Qai s (Prod.snd (Qaj s (rpA s k))))∧True)∧((Pz.bad (rpP s k) = false)∧(∃ c : RC,((((iV (rdT s k 1)) = (iV (rdT s k 1)))∧(((iV (RV.id (rv1 s k (vrN s k)))) = (iV (RV.id (rpV s k))))∧(((iV (rdT s (k + 1 + 4) 1)) = (iV (rdT s (k + 1 + 4) 1)))∧(((iV (RV.bs (rv1 s k (vrN s k)))) = (iV (RV.bs (rpV s k))))∧(((iV (RV.bg (rv1 s k (vrN s k)))) = (iV (RV.bg (rpV s k))))∧(((iV (RV.ver (rv1 s k (vrN s k)))) = (iV (RV.ver (rpV s k))))∧(((iV (rdT s (rpA s k) 4)) = (iV (RV.gr (rpV s k))))∧(Qdp s k (((zS = zS)∧(((0 : Nat) = 0)∧((((rpN s k) : Nat) = 0)∧(((rpN s k + RC.a c) : Nat) = 0))))∧(Qdq s k (((zS = zS)∧(((0 : Nat) = 0)∧((((rpM s k) : Nat) = 0)∧(((rpM s k + RC.b c) : Nat) = 0))))∧(Qef s k))))))))))))∧((((1 : Nat) = 1)∧(((1 : Nat) ≤ 1)∧(∀ i : Nat,(((i : Nat) < 1)→([(SV.v (.string s)),(iV (Prod.snd (Qmh s (Prod.snd (Qaj s (rpA s k))))))] = [(SV.v (.string s)),(iV (Qd2 s k))])))))∧(((((rpN s k) : Nat) = 0)∧((((rpN s k + RC.a c) : Nat) = 0)∧True))∧(((((rpM s k) : Nat) = 0)∧((((rpM s k + RC.b c) : Nat) = 0)∧True))∧True))))))))))
@[reducible] noncomputable def Qlp (s : ByteArray) (k : Int) := (∃ x : Nat,((Pz.bad (n1P s k) = false)∧(True∧((((1 : Nat) = 1)∧(((1 : Nat) ≤ 1)∧(∀ i : Nat,(((i : Nat) < 1)→([(SV.v (.string s)),(iV (Prod.snd (Qaj s (k + 1))))] = [(SV.v (.string s)),(iV (k + 1 + 4))])))))∧(((1 : Nat) = 1)∧(((1 : Nat) ≤ 1)∧(∀ i : Nat,(((i : Nat) < 1)→([(iV (rdT s k 1)),(iV (rdT s (k + 1) 4)),(iV 0),(iV 0),(iV 0),(iV 0),(iV 0),(iV 0),(iV 0),(iV 0),(iV 0),zS,(iV 0),(bV false),(iV 0),(bV false),(iV 0),(bV false),(iV 0),(bV false),(iV 0),(bV false),(iV 0),(bV false),(iV 0),(bV false),(iV 0),(bV false),(iV 0),(bV false),(iV 0),(bV false),(bV false),(iV 0),zS,(bV false),(iV 0),(bV false),(iV 0),(bV false),(iV 0),(bV false),(iV 0)] = [(iV (rdT s k 1)),(iV (RV.id (rv1 s k 0))),(iV 0),(iV (RV.bs (rv1 s k 0))),(iV (RV.bg (rv1 s k 0))),(iV (RV.ver (rv1 s k 0))),(iV (RV.gr (rv1 s k 0))),(iV (BV.sk (RV.o (rv1 s k 0)))),(iV (BV.sr (RV.o (rv1 s k 0)))),(iV (BV.sw (RV.o (rv1 s k 0)))),(iV (BV.sh (RV.o (rv1 s k 0)))),zS,(iV (BV.p0v (RV.o (rv1 s k 0)))),(bV false),(iV (BV.p1v (RV.o (rv1 s k 0)))),(bV false),(iV (BV.p2v (RV.o (rv1 s k 0)))),(bV false),(iV (BV.p3v (RV.o (rv1 s k 0)))),(bV false),(iV (BV.v0v (RV.o (rv1 s k 0)))),(bV false),(iV (BV.v1v (RV.o (rv1 s k 0)))),(bV false),(iV (BV.w0v (RV.o (rv1 s k 0)))),(bV false),(iV (BV.m0v (RV.o (rv1 s k 0)))),(bV false),(iV (BV.m1v (RV.o (rv1 s k 0)))),(bV false),(iV (BV.st (RV.o (rv1 s k 0)))),(bV false),(bV false),(iV (BV.bv (RV.o (rv1 s k 0)))),zS,(bV false),(iV (RV.htv (rv1 s k 0))),(bV false),(iV (RV.x0v (rv1 s k 0))),(bV false),(iV (RV.x1v (rv1 s k 0))),(bV false),(iV (RV.cnt (rv1 s k 0)))])))))))))
@[reducible] noncomputable def Qkc (s : ByteArray) (k : Int) := (sel (Pz.bad (enP s (rpA s k))) (((Qai s (rpA s k))∧True)∧((Pz.bad (rpP s k) = true)∧(((SV.v (Value.iface 169 (Value.agg #[.int .i64 (Pz.er (p0 enP [] s (rpA s k)))]))) = (SV.v (Value.iface 169 (Value.agg #[.int .i64 (Pz.er (rpP s k))]))))∧True))) (((Qai s (rpA s k))∧True)∧((Pz.bad (rpP s k) = false)∧(∃ c : RC,((((iV (rdT s k 1)) = (iV (rdT s k 1)))∧(((iV (RV.id (rv1 s k (vrN s k)))) = (iV (RV.id (rpV s k))))∧(((iV (rdT s (k + 1 + 4) 1)) = (iV (rdT s (k + 1 + 4) 1)))∧(((iV (RV.bs (rv1 s k (vrN s k)))) = (iV (RV.bs (rpV s k))))∧(((iV (RV.bg (rv1 s k (vrN s k)))) = (iV (RV.bg (rpV s k))))∧(((iV (RV.ver (rv1 s k (vrN s k)))) = (iV (RV.ver (rpV s k))))∧(((iV (RV.gr (rv1 s k (vrN s k)))) = (iV (RV.gr (rpV s k))))∧(Qdp s k (((zS = zS)∧(((0 : Nat) = 0)∧((((rpN s k) : Nat) = 0)∧(((rpN s k + RC.a c) : Nat) = 0))))∧(Qdq s k (((zS = zS)∧(((0 : Nat) = 0)∧((((rpM s k) : Nat) = 0)∧(((rpM s k + RC.b c) : Nat) = 0))))∧(Qef s k))))))))))))∧((((1 : Nat) = 1)∧(((1 : Nat) ≤ 1)∧(∀ i : Nat,(((i : Nat) < 1)→([(SV.v (.string s)),(iV (Prod.snd (Qmh s (rpA s k))))] = [(SV.v (.string s)),(iV (Qd2 s k))])))))∧(((((rpN s k) : Nat) = 0)∧((((rpN s k + RC.a c) : Nat) = 0)∧True))∧(((((rpM s k) : Nat) = 0)∧((((rpM s k + RC.b c) : Nat) = 0)∧True))∧True))))))))
@[reducible] noncomputable def Qkb (s : ByteArray) (k : Int) := [(iV (rdT s k 1)),(iV (RV.id (rv1 s k (vrN s k)))),(iV (rdT s (k + 1 + 4) 1)),(iV (RV.bs (rv1 s k (vrN s k)))),(iV (RV.bg (rv1 s k (vrN s k)))),(iV (RV.ver (rv1 s k (vrN s k)))),(iV (RV.gr (rv1 s k (vrN s k)))),(iV (BV.sk (RV.o (rv1 s k (vrN s k))))),(iV (BV.sr (RV.o (rv1 s k (vrN s k))))),(iV (BV.sw (RV.o (rv1 s k (vrN s k))))),(iV (BV.sh (RV.o (rv1 s k (vrN s k))))),zS,(iV (BV.p0v (RV.o (rv1 s k (vrN s k))))),(bV false),(iV (BV.p1v (RV.o (rv1 s k (vrN s k))))),(bV false),(iV (BV.p2v (RV.o (rv1 s k (vrN s k))))),(bV false),(iV (BV.p3v (RV.o (rv1 s k (vrN s k))))),(bV false),(iV (BV.v0v (RV.o (rv1 s k (vrN s k))))),(bV false),(iV (BV.v1v (RV.o (rv1 s k (vrN s k))))),(bV false),(iV (BV.w0v (RV.o (rv1 s k (vrN s k))))),(bV false),(iV (BV.m0v (RV.o (rv1 s k (vrN s k))))),(bV false),(iV (BV.m1v (RV.o (rv1 s k (vrN s k))))),(bV false),(iV (BV.st (RV.o (rv1 s k (vrN s k))))),(bV false),(bV false),(iV (BV.bv (RV.o (rv1 s k (vrN s k))))),zS,(bV false),(iV (RV.htv (rv1 s k (vrN s k)))),(bV false),(iV (RV.x0v (rv1 s k (vrN s k)))),(bV false),(iV (RV.x1v (rv1 s k (vrN s k)))),(bV false),(iV (RV.cnt (rv1 s k (vrN s k))))]
@[reducible] noncomputable def Qbk (s : ByteArray) (k : Int) := (SV.v (Value.iface 169 (Value.agg #[.int .i64 (Pz.er (rpP s k))])))
@[reducible] noncomputable def Qhx (s : ByteArray) (k : Int) (T_ : Prop) : Prop := ((iV (rdT s k 1)) = (iV (rdT s k 1)))∧(((iV (RV.id (rv1 s k (vrN s k)))) = (iV (RV.id (rpV s k))))∧(((iV (rdT s (k + 1 + 4) 1)) = (iV (rdT s (k + 1 + 4) 1)))∧(((iV (rdT s (rpA s k) 4)) = (iV (RV.bs (rpV s k))))∧(((iV (rdT s (rpA s k + 4) 4)) = (iV (RV.bg (rpV s k))))∧(T_)))))
@[reducible] noncomputable def Qgn (s : ByteArray) (k : Int) := (((Qai s (rpA s k))∧True)∧((Pz.bad (rpP s k) = true)∧(((SV.v (Value.iface 169 (Value.agg #[.int .i64 (Pz.er (p0 haP [] s (rpA s k)))]))) = (Qbk s k))∧True)))
@[reducible] noncomputable def Qka (s : ByteArray) (k : Int) := (((bV false) = (bV false))∧(((iV (RV.htv (rv1 s k (vrN s k)))) = (iV (RV.htv (rv1 s k (vrN s k)))))∧(((bV false) = (bV false))∧(((iV (RV.x0v (rv1 s k (vrN s k)))) = (iV (RV.x0v (rv1 s k (vrN s k)))))∧(((bV false) = (bV false))∧(((iV (RV.x1v (rv1 s k (vrN s k)))) = (iV (RV.x1v (rv1 s k (vrN s k)))))∧(((bV false) = (bV false))∧((iV (RV.cnt (rv1 s k (vrN s k)))) = (iV (RV.cnt (rv1 s k (vrN s k))))))))))))
@[reducible] noncomputable def Qe7 (s : ByteArray) (k : Int) := ((Pz.bad (rpP s k) = true)∧(((SV.v (Value.iface 169 (Value.agg #[.int .i64 4]))) = (Qbk s k))∧True))
@[reducible] noncomputable def Qj9 (s : ByteArray) (k : Int) (T_ : Prop) : Prop := ((iV (RV.id (rv1 s k (vrN s k)))) = (iV (RV.id (rpV s k))))∧(((iV (rdT s (k + 1 + 4) 1)) = (iV (rdT s (k + 1 + 4) 1)))∧(((iV (RV.bs (rv1 s k (vrN s k)))) = (iV (RV.bs (rpV s k))))∧(((iV (RV.bg (rv1 s k (vrN s k)))) = (iV (RV.bg (rpV s k))))∧(((iV (RV.ver (rv1 s k (vrN s k)))) = (iV (RV.ver (rpV s k))))∧(((iV (RV.gr (rv1 s k (vrN s k)))) = (iV (RV.gr (rpV s k))))∧(T_))))))
@[reducible] noncomputable def Qj8 (s : ByteArray) (k : Int) := (∃ x_1 : Nat,((Pz.bad (n2P s k) = false)∧(True∧((((1 : Nat) = 1)∧(((1 : Nat) ≤ 1)∧(∀ i : Nat,(((i : Nat) < 1)→([(SV.v (.string s)),(iV (k + 1 + 4 + 1))] = [(SV.v (.string s)),(iV (k + 1 + 4 + 1))])))))∧(((1 : Nat) = 1)∧(((1 : Nat) ≤ 1)∧(∀ i : Nat,(((i : Nat) < 1)→((Qjg s k) = (Qjg s k))))))))))
theorem Q24 (s : ByteArray) (k : Int) : (Qf9 Try.prog ΓT9 (ΛRp s k) Try.f91 [.vp 0 0] (Qac [rdB s k]) 64 (fun y h' => (rpP s k).bad = false∧Qbh [rdB s k] (rpE s k) y h') (fun y h' => (rpP s k).bad = true∧Qbh [rdB s k] (.det none (pE (rpP s k).er) [(0,Qbz (rdB s k))]) y h')) =
(sel (Pz.bad (kiP s k 0)) (((Qai s k)∧True)∧((Pz.bad (rpP s k) = true)∧(((SV.v (Value.iface 169 (Value.agg #[.int .i64 (Pz.er (Qwz [iV 0] s k))]))) = (Qbk s k))∧True))) (((Qai s k)∧True)∧(sel (Pz.bad (Qcx s (k + 1))) (((Qai s (k + 1))∧True)∧((Pz.bad (rpP s k) = true)∧(((SV.v (Value.iface 169 (Value.agg #[.int .i64 (Pz.er (p0 Qcx [] s (k + 1)))]))) = (Qbk s k))∧True))) (((Qai s (k + 1))∧True)∧( (sel (rdT s k 1 != 0) (Qlp s k) (sel (!rdT s (k + 1) 4 == 0) (Qe7 s k) (Qlp s k)))∧(∀ x : Nat,((Pz.bad (n1P s k) = false)→(sel (Pz.bad (upP s (k + 1 + 4) 14 1)) (((Qai s (k + 1 + 4))∧((((0 : Int) ≤ 1)∧((1 : Int) ≤ 8))∧((14 : Int) ≤ 1099511627776)))∧((Pz.bad (rpP s k) = true)∧(((SV.v (Value.iface 169 (Value.agg #[.int .i64 (Pz.er (Qn0 [SV.v (.int .u64 14),iV 1] s (k + 1 + 4)))]))) = (Qbk s k))∧True))) (((Qai s (k + 1 + 4))∧((((0 : Int) ≤ 1)∧((1 : Int) ≤ 8))∧((14 : Int) ≤ 1099511627776)))∧( (sel (rdT s k 1 != 0) (Qj8 s k) (sel (rdT s (k + 1 + 4) 1 != 0) (sel (!rdT s (k + 1 + 4) 1 != 14) (Qe7 s k) (Qj8 s k)) (Qe7 s k)))∧(∀ x_1 : Nat,((Pz.bad (n2P s k) = false)→( (sel (rdT s (k + 1 + 4) 1 == 14) (sel (Pz.bad (Qo1 s (k + 1 + 4 + 1))) (((Qai s (k + 1 + 4 + 1))∧True)∧((Pz.bad (rpP s k) = true)∧(((SV.v (Value.iface 169 (Value.agg #[.int .i64 (Pz.er (p0 Qo1 [] s (k + 1 + 4 + 1)))]))) = (Qbk s k))∧True))) (((Qai s (k + 1 + 4 + 1))∧True)∧(∃ x_2 : Nat,(((((rdT s (k + 1 + 4) 1) : Int) = 14)→(Pz.bad (upP s (k + 1 + 4 + 1) 1099511627776 8) = false))∧(True∧((((1 : Nat) = 1)∧(((1 : Nat) ≤ 1)∧(∀ i : Nat,(((i : Nat) < 1)→([(SV.v (.string s)),(iV (Prod.snd (Qln s (k + 1 + 4 + 1))))] = [(SV.v (.string s)),(iV (rpA s k))])))))∧(((1 : Nat) = 1)∧(((1 : Nat) ≤ 1)∧(∀ i : Nat,(((i : Nat) < 1)→([(iV (rdT s k 1)),(iV (RV.id (rv1 s k 0))),(iV (rdT s (k + 1 + 4) 1)),(iV (RV.bs (rv1 s k 0))),(iV (RV.bg (rv1 s k 0))),(iV (rdT s (k + 1 + 4 + 1) 8)),(iV (RV.gr (rv1 s k 0))),(iV (BV.sk (RV.o (rv1 s k 0)))),(iV (BV.sr (RV.o (rv1 s k 0)))),(iV (BV.sw (RV.o (rv1 s k 0)))),(iV (BV.sh (RV.o (rv1 s k 0)))),zS,(iV (BV.p0v (RV.o (rv1 s k 0)))),(bV false),(iV (BV.p1v (RV.o (rv1 s k 0)))),(bV false),(iV (BV.p2v (RV.o (rv1 s k 0)))),(bV false),(iV (BV.p3v (RV.o (rv1 s k 0)))),(bV false),(iV (BV.v0v (RV.o (rv1 s k 0)))),(bV false),(iV (BV.v1v (RV.o (rv1 s k 0)))),(bV false),(iV (BV.w0v (RV.o (rv1 s k 0)))),(bV false),(iV (BV.m0v (RV.o (rv1 s k 0)))),(bV false),(iV (BV.m1v (RV.o (rv1 s k 0)))),(bV false),(iV (BV.st (RV.o (rv1 s k 0)))),(bV false),(bV false),(iV (BV.bv (RV.o (rv1 s k 0)))),zS,(bV false),(iV (RV.htv (rv1 s k 0))),(bV false),(iV (RV.x0v (rv1 s k 0))),(bV false),(iV (RV.x1v (rv1 s k 0))),(bV false),(iV (RV.cnt (rv1 s k 0)))] = (Qkb s k)))))))))))) (∃ x_2 : Nat,(((((rdT s (k + 1 + 4) 1) : Int) = 14)→(Pz.bad (upP s (k + 1 + 4 + 1) 1099511627776 8) = false))∧(True∧((((1 : Nat) = 1)∧(((1 : Nat) ≤ 1)∧(∀ i : Nat,(((i : Nat) < 1)→([(SV.v (.string s)),(iV (k + 1 + 4 + 1))] = [(SV.v (.string s)),(iV (rpA s k))])))))∧(((1 : Nat) = 1)∧(((1 : Nat) ≤ 1)∧(∀ i : Nat,(((i : Nat) < 1)→((Qjg s k) = (Qkb s k)))))))))))∧(∀ x_2 : Nat,(((((rdT s (k + 1 + 4) 1) : Int) = 14)→(Pz.bad (upP s (k + 1 + 4 + 1) 1099511627776 8) = false))→(sel (rdT s (k + 1 + 4) 1 != 0) (Qkc s k) (sel (rdT s k 1 == 1) (Qls s k) (sel (rdT s k 1 == 3) (Qls s k) (sel (rdT s k 1 == 2) (sel (Pz.bad (haP s (rpA s k))) (Qgn s k) (((Qai s (rpA s k))∧True)∧(sel (Pz.bad (enP s (Prod.snd (Qak s (rpA s k))))) (((Qai s (Prod.snd (Qak s (rpA s k))))∧True)∧((Pz.bad (rpP s k) = true)∧(((SV.v (Value.iface 169 (Value.agg #[.int .i64 (Pz.er (p0 enP [] s (Prod.snd (Qak s (rpA s k)))))]))) = (Qbk s k))∧True))) (((Qai s (Prod.snd (Qak s (rpA s k))))∧True)∧((Pz.bad (rpP s k) = false)∧(∃ c : RC,((Qhx s k (((iV (RV.ver (rv1 s k (vrN s k)))) = (iV (RV.ver (rpV s k))))∧(((iV (RV.gr (rv1 s k (vrN s k)))) = (iV (RV.gr (rpV s k))))∧(Qdp s k (((zS = zS)∧(((0 : Nat) = 0)∧((((rpN s k) : Nat) = 0)∧(((rpN s k + RC.a c) : Nat) = 0))))∧(Qdq s k (((zS = zS)∧(((0 : Nat) = 0)∧((((rpM s k) : Nat) = 0)∧(((rpM s k + RC.b c) : Nat) = 0))))∧(Qef s k))))))))∧((((1 : Nat) = 1)∧(((1 : Nat) ≤ 1)∧(∀ i : Nat,(((i : Nat) < 1)→([(SV.v (.string s)),(iV (Prod.snd (Qmh s (Prod.snd (Qak s (rpA s k))))))] = [(SV.v (.string s)),(iV (Qd2 s k))])))))∧(((((rpN s k) : Nat) = 0)∧((((rpN s k + RC.a c) : Nat) = 0)∧True))∧(((((rpM s k) : Nat) = 0)∧((((rpM s k + RC.b c) : Nat) = 0)∧True))∧True)))))))))) (sel (rdT s k 1 == 4) (sel (Pz.bad (haP s (rpA s k))) (Qgn s k) (((Qai s (rpA s k))∧True)∧(sel (Pz.bad (Qo1 s (Prod.snd (Qak s (rpA s k))))) (((Qai s (Prod.snd (Qak s (rpA s k))))∧True)∧((Pz.bad (rpP s k) = true)∧(((SV.v (Value.iface 169 (Value.agg #[.int .i64 (Pz.er (p0 Qo1 [] s (Prod.snd (Qak s (rpA s k)))))]))) = (Qbk s k))∧True))) (((Qai s (Prod.snd (Qak s (rpA s k))))∧True)∧(sel (Pz.bad (Qcx s (Prod.snd (Qln s (Prod.snd (Qak s (rpA s k))))))) (((Qai s (Prod.snd (Qln s (Prod.snd (Qak s (rpA s k))))))∧True)∧((Pz.bad (rpP s k) = true)∧(((SV.v (Value.iface 169 (Value.agg #[.int .i64 (Pz.er (p0 Qcx [] s (Prod.snd (Qln s (Prod.snd (Qak s (rpA s k)))))))]))) = (Qbk s k))∧True))) (((Qai s (Prod.snd (Qln s (Prod.snd (Qak s (rpA s k))))))∧True)∧(sel (Pz.bad (enP s (Prod.snd (Qaj s (Prod.snd (Qln s (Prod.snd (Qak s (rpA s k))))))))) (((Qai s (Prod.snd (Qaj s (Prod.snd (Qln s (Prod.snd (Qak s (rpA s k))))))))∧True)∧((Pz.bad (rpP s k) = true)∧(((SV.v (Value.iface 169 (Value.agg #[.int .i64 (Pz.er (p0 enP [] s (Prod.snd (Qaj s (Prod.snd (Qln s (Prod.snd (Qak s (rpA s k)))))))))]))) = (Qbk s k))∧True))) (((Qai s (Prod.snd (Qaj s (Prod.snd (Qln s (Prod.snd (Qak s (rpA s k))))))))∧True)∧((Pz.bad (rpP s k) = false)∧(∃ c : RC,((Qhx s k (((iV (rdT s (Prod.snd (Qak s (rpA s k))) 8)) = (iV (RV.ver (rpV s k))))∧(((iV (rdT s (Prod.snd (Qln s (Prod.snd (Qak s (rpA s k))))) 4)) = (iV (RV.gr (rpV s k))))∧(Qdp s k (((zS = zS)∧(((0 : Nat) = 0)∧((((rpN s k) : Nat) = 0)∧(((rpN s k + RC.a c) : Nat) = 0))))∧(Qdq s k (((zS = zS)∧(((0 : Nat) = 0)∧((((rpM s k) : Nat) = 0)∧(((rpM s k + RC.b c) : Nat) = 0))))∧(Qef s k))))))))∧((((1 : Nat) = 1)∧(((1 : Nat) ≤ 1)∧(∀ i : Nat,(((i : Nat) < 1)→([(SV.v (.string s)),(iV (Prod.snd (Qmh s (Prod.snd (Qaj s (Prod.snd (Qln s (Prod.snd (Qak s (rpA s k))))))))))] = [(SV.v (.string s)),(iV (Qd2 s k))])))))∧(((((rpN s k) : Nat) = 0)∧((((rpN s k + RC.a c) : Nat) = 0)∧True))∧(((((rpM s k) : Nat) = 0)∧((((rpM s k + RC.b c) : Nat) = 0)∧True))∧True)))))))))))))) (sel (rdT s k 1 == 5) (Qlq s k) (sel (rdT s k 1 == 6) (Qlq s k) (sel (rdT s k 1 == 7) (sel (Pz.bad (haP s (rpA s k))) (Qgn s k) (((Qai s (rpA s k))∧True)∧(sel (Pz.bad (bdP s (Prod.snd (Qak s (rpA s k))))) ((Qai s (Prod.snd (Qak s (rpA s k))))∧((Pz.bad (rpP s k) = true)∧(((SV.v (Value.iface 169 (Value.agg #[.int .i64 (Pz.er (bdP s (Prod.snd (Qak s (rpA s k)))))]))) = (Qbk s k))∧True))) ((Qai s (Prod.snd (Qak s (rpA s k))))∧(∀ c : Nat,(sel (Pz.bad (enP s (Qip s (Prod.snd (Qak s (rpA s k)))))) (((Qai s (Qip s (Prod.snd (Qak s (rpA s k)))))∧True)∧((Pz.bad (rpP s k) = true)∧(((SV.v (Value.iface 169 (Value.agg #[.int .i64 (Pz.er (p0 enP [] s (Qip s (Prod.snd (Qak s (rpA s k))))))]))) = (Qbk s k))∧True))) (((Qai s (Qip s (Prod.snd (Qak s (rpA s k)))))∧True)∧((Pz.bad (rpP s k) = false)∧(∃ c_1 : RC,((Qhx s k (((iV (RV.ver (rv1 s k (vrN s k)))) = (iV (RV.ver (rpV s k))))∧(((iV (RV.gr (rv1 s k (vrN s k)))) = (iV (RV.gr (rpV s k))))∧(((iV (BV.sk (bdV s (Prod.snd (Qak s (rpA s k)))))) = (iV (BV.sk (RV.o (rpV s k)))))∧(((iV (BV.sr (bdV s (Prod.snd (Qak s (rpA s k)))))) = (iV (BV.sr (RV.o (rpV s k)))))∧(((iV (BV.sw (bdV s (Prod.snd (Qak s (rpA s k)))))) = (iV (BV.sw (RV.o (rpV s k)))))∧(((iV (BV.sh (bdV s (Prod.snd (Qak s (rpA s k)))))) = (iV (BV.sh (RV.o (rpV s k)))))∧(((SV.sl 632 2 0 (shC s (Prod.snd (Qak s (rpA s k)))) (shC s (Prod.snd (Qak s (rpA s k))) + c)) = (SV.sl 632 2 0 (rpN s k) (rpN s k + RC.a c_1)))∧(((iV (BV.p0v (bdV s (Prod.snd (Qak s (rpA s k)))))) = (iV (BV.p0v (RV.o (rpV s k)))))∧(((bV (BV.p0f (bdV s (Prod.snd (Qak s (rpA s k)))))) = (bV (BV.p0f (RV.o (rpV s k)))))∧(((iV (BV.p1v (bdV s (Prod.snd (Qak s (rpA s k)))))) = (iV (BV.p1v (RV.o (rpV s k)))))∧(((bV (BV.p1f (bdV s (Prod.snd (Qak s (rpA s k)))))) = (bV (BV.p1f (RV.o (rpV s k)))))∧(((iV (BV.p2v (bdV s (Prod.snd (Qak s (rpA s k)))))) = (iV (BV.p2v (RV.o (rpV s k)))))∧(((bV (BV.p2f (bdV s (Prod.snd (Qak s (rpA s k)))))) = (bV (BV.p2f (RV.o (rpV s k)))))∧(((iV (BV.p3v (bdV s (Prod.snd (Qak s (rpA s k)))))) = (iV (BV.p3v (RV.o (rpV s k)))))∧(((bV (BV.p3f (bdV s (Prod.snd (Qak s (rpA s k)))))) = (bV (BV.p3f (RV.o (rpV s k)))))∧(((iV (BV.v0v (bdV s (Prod.snd (Qak s (rpA s k)))))) = (iV (BV.v0v (RV.o (rpV s k)))))∧(((bV (BV.v0f (bdV s (Prod.snd (Qak s (rpA s k)))))) = (bV (BV.v0f (RV.o (rpV s k)))))∧(((iV (BV.v1v (bdV s (Prod.snd (Qak s (rpA s k)))))) = (iV (BV.v1v (RV.o (rpV s k)))))∧(((bV (BV.v1f (bdV s (Prod.snd (Qak s (rpA s k)))))) = (bV (BV.v1f (RV.o (rpV s k)))))∧(((iV (BV.w0v (bdV s (Prod.snd (Qak s (rpA s k)))))) = (iV (BV.w0v (RV.o (rpV s k)))))∧(((bV (BV.w0f (bdV s (Prod.snd (Qak s (rpA s k)))))) = (bV (BV.w0f (RV.o (rpV s k)))))∧(((iV (BV.m0v (bdV s (Prod.snd (Qak s (rpA s k)))))) = (iV (BV.m0v (RV.o (rpV s k)))))∧(((bV (BV.m0f (bdV s (Prod.snd (Qak s (rpA s k)))))) = (bV (BV.m0f (RV.o (rpV s k)))))∧(((iV (BV.m1v (bdV s (Prod.snd (Qak s (rpA s k)))))) = (iV (BV.m1v (RV.o (rpV s k)))))∧(((bV (BV.m1f (bdV s (Prod.snd (Qak s (rpA s k)))))) = (bV (BV.m1f (RV.o (rpV s k)))))∧(((iV (BV.st (bdV s (Prod.snd (Qak s (rpA s k)))))) = (iV (BV.st (RV.o (rpV s k)))))∧(((bV (BV.asl (bdV s (Prod.snd (Qak s (rpA s k)))))) = (bV (BV.asl (RV.o (rpV s k)))))∧(((bV (BV.flt (bdV s (Prod.snd (Qak s (rpA s k)))))) = (bV (BV.flt (RV.o (rpV s k)))))∧(((iV (BV.bv (bdV s (Prod.snd (Qak s (rpA s k)))))) = (iV (BV.bv (RV.o (rpV s k)))))∧(((zS = zS)∧(((0 : Nat) = 0)∧((((rpM s k) : Nat) = 0)∧(((rpM s k + RC.b c_1) : Nat) = 0))))∧(Qef s k))))))))))))))))))))))))))))))))∧((((1 : Nat) = 1)∧(((1 : Nat) ≤ 1)∧(∀ i : Nat,(((i : Nat) < 1)→([(SV.v (.string s)),(iV (Prod.snd (Qmh s (Qip s (Prod.snd (Qak s (rpA s k)))))))] = [(SV.v (.string s)),(iV (Qd2 s k))])))))∧(((((shC s (Prod.snd (Qak s (rpA s k)))) : Nat) = (rpN s k))∧((((rpN s k + RC.a c_1) : Nat) ≤ (shC s (Prod.snd (Qak s (rpA s k))) + c))∧(∀ i : Nat,(((i : Nat) < (rpN s k))→([(iV (Prod.fst (Qf6 s (shA (Prod.snd (Qak s (rpA s k)))) i))),(iV (Prod.snd (Qf6 s (shA (Prod.snd (Qak s (rpA s k)))) i)))] = [(iV (Prod.fst (Qj2 s k i))),(iV (Prod.snd (Qj2 s k i)))])))))∧(((((rpM s k) : Nat) = 0)∧((((rpM s k + RC.b c_1) : Nat) = 0)∧True))∧True))))))))))))) (sel (rdT s k 1 == 8) (sel (Pz.bad (upP s (rpA s k) 64 1)) (((Qai s (rpA s k))∧((((0 : Int) ≤ 1)∧((1 : Int) ≤ 8))∧((64 : Int) ≤ 1099511627776)))∧((Pz.bad (rpP s k) = true)∧(((SV.v (Value.iface 169 (Value.agg #[.int .i64 (Pz.er (Qn0 [SV.v (.int .u64 64),iV 1] s (rpA s k)))]))) = (Qbk s k))∧True))) (((Qai s (rpA s k))∧((((0 : Int) ≤ 1)∧((1 : Int) ≤ 8))∧((64 : Int) ≤ 1099511627776)))∧((∃ x_3 : SX,(((((SX.i x_3) : Nat) ≤ (hdC s k))∧((Pz.bad (Qrw s (k + 1 + 4 + 1 + 1) (SX.i x_3)) = false)∧(((SX.i x_3) : Nat) ≤ (SX.c x_3))))∧(((iV 0) = (iV ((↑(SX.i x_3) : Int))))∧((((1 : Nat) = 1)∧(((1 : Nat) ≤ 1)∧(∀ i : Nat,(((i : Nat) < 1)→([(SV.v (.string s)),(iV (rpA s k + 1))] = [(SV.v (.string s)),(iV (k + 1 + 4 + 1 + 1 + 8 * (↑(SX.i x_3) : Int)))])))))∧((Qlr s k (((zS = zS)∧(((0 : Nat) = 0)∧((((SX.i x_3) : Nat) = 0)∧(((SX.c x_3) : Nat) = 0))))∧(Qka s k)))∧(((((SX.i x_3) : Nat) = 0)∧((((SX.c x_3) : Nat) = 0)∧True))∧True))))))∧(∀ x_3 : SX,(((((SX.i x_3) : Nat) ≤ (hdC s k))∧((Pz.bad (Qrw s (k + 1 + 4 + 1 + 1) (SX.i x_3)) = false)∧(((SX.i x_3) : Nat) ≤ (SX.c x_3))))→(sel (decide ((↑(SX.i x_3) : Int) < rdT s (rpA s k) 1)) (sel (Pz.bad (haP s (k + 1 + 4 + 1 + 1 + 8 * (↑(SX.i x_3) : Int)))) (((Qai s (k + 1 + 4 + 1 + 1 + 8 * (↑(SX.i x_3) : Int)))∧True)∧((Pz.bad (rpP s k) = true)∧(((SV.v (Value.iface 169 (Value.agg #[.int .i64 (Pz.er (p0 haP [] s (k + 1 + 4 + 1 + 1 + 8 * (↑(SX.i x_3) : Int))))]))) = (Qbk s k))∧True))) (((Qai s (k + 1 + 4 + 1 + 1 + 8 * (↑(SX.i x_3) : Int)))∧True)∧((((((SX.i x_3 + 1) * 16) : Nat) ≤ 140737488355328)∧((((0 + SX.c x_3) : Nat) ≤ (SX.c x_3))∧(∀ y : Nat,(((y : Nat) < 1)→True))))∧(∀ c : Nat,(∃ x' : SX,((((((SX.i x') : Nat) ≤ (hdC s k))∧((Pz.bad (Qrw s (k + 1 + 4 + 1 + 1) (SX.i x')) = false)∧(((SX.i x') : Nat) ≤ (SX.c x'))))∧(((iV (IntKind.wrap IntKind.i64 ((↑(SX.i x_3) : Int) + 1))) = (iV ((↑(SX.i x') : Int))))∧((((1 : Nat) = 1)∧(((1 : Nat) ≤ 1)∧(∀ i : Nat,(((i : Nat) < 1)→([(SV.v (.string s)),(iV (Prod.snd (Qak s (k + 1 + 4 + 1 + 1 + 8 * (↑(SX.i x_3) : Int)))))] = [(SV.v (.string s)),(iV (k + 1 + 4 + 1 + 1 + 8 * (↑(SX.i x') : Int)))])))))∧((Qlr s k (((SV.sl 680 2 0 (SX.i x_3 + 1) (SX.i x_3 + 1 + c)) = (SV.sl 680 2 0 (SX.i x') (SX.c x')))∧(Qka s k)))∧((((SX.i x_3 + 1) : Nat) = (SX.i x'))∧((((SX.c x') : Nat) ≤ (SX.i x_3 + 1 + c))∧(∀ i : Nat,(((i : Nat) < (SX.i x'))→([(iV (bop (Nat.blt i (SX.i x_3)) (Prod.fst (Qv0 s (k + 1 + 4 + 1 + 1) (0 + i))) (rdT s (k + 1 + 4 + 1 + 1 + 8 * (↑(SX.i x_3) : Int)) 4))),(iV (bop (Nat.blt i (SX.i x_3)) (Prod.snd (Qv0 s (k + 1 + 4 + 1 + 1) (0 + i))) (rdT s (k + 1 + 4 + 1 + 1 + 8 * (↑(SX.i x_3) : Int) + 4) 4)))] = [(iV (Prod.fst (Qv0 s (k + 1 + 4 + 1 + 1) i))),(iV (Prod.snd (Qv0 s (k + 1 + 4 + 1 + 1) i)))])))))))))∧(((hdC s k - SX.i x') : Nat) < (hdC s k - SX.i x_3)))))))) (sel (Pz.bad (enP s (k + 1 + 4 + 1 + 1 + 8 * (↑(SX.i x_3) : Int)))) (((Qai s (k + 1 + 4 + 1 + 1 + 8 * (↑(SX.i x_3) : Int)))∧True)∧((Pz.bad (rpP s k) = true)∧(((SV.v (Value.iface 169 (Value.agg #[.int .i64 (Pz.er (p0 enP [] s (k + 1 + 4 + 1 + 1 + 8 * (↑(SX.i x_3) : Int))))]))) = (Qbk s k))∧True))) (((Qai s (k + 1 + 4 + 1 + 1 + 8 * (↑(SX.i x_3) : Int)))∧True)∧((Pz.bad (rpP s k) = false)∧(∃ c : RC,((((iV (rdT s k 1)) = (iV (rdT s k 1)))∧(Qj9 s k (Qdp s k (((zS = zS)∧(((0 : Nat) = 0)∧((((rpN s k) : Nat) = 0)∧(((rpN s k + RC.a c) : Nat) = 0))))∧(Qdq s k (((SV.sl 40 2 0 (SX.i x_3) (SX.c x_3)) = (SV.sl 40 2 0 (rpM s k) (rpM s k + RC.b c)))∧(Qef s k)))))))∧((((1 : Nat) = 1)∧(((1 : Nat) ≤ 1)∧(∀ i : Nat,(((i : Nat) < 1)→([(SV.v (.string s)),(iV (Prod.snd (Qmh s (k + 1 + 4 + 1 + 1 + 8 * (↑(SX.i x_3) : Int)))))] = [(SV.v (.string s)),(iV (Qd2 s k))])))))∧(((((rpN s k) : Nat) = 0)∧((((rpN s k + RC.a c) : Nat) = 0)∧True))∧((((SX.i x_3) : Nat) = (rpM s k))∧((((rpM s k + RC.b c) : Nat) ≤ (SX.c x_3))∧(∀ i : Nat,(((i : Nat) < (rpM s k))→([(iV (Prod.fst (Qv0 s (k + 1 + 4 + 1 + 1) i))),(iV (Prod.snd (Qv0 s (k + 1 + 4 + 1 + 1) i)))] = [(iV (Prod.fst (Qi0 s k i))),(iV (Prod.snd (Qi0 s k i)))])))))))))))))))))) (sel (rdT s k 1 == 9) (sel (Pz.bad (haP s (rpA s k))) (Qgn s k) (((Qai s (rpA s k))∧True)∧(sel (Pz.bad (Qkf s (Prod.snd (Qak s (rpA s k))))) (((Qai s (Prod.snd (Qak s (rpA s k))))∧True)∧((Pz.bad (rpP s k) = true)∧(((SV.v (Value.iface 169 (Value.agg #[.int .i64 (Pz.er (p0 Qkf [] s (Prod.snd (Qak s (rpA s k)))))]))) = (Qbk s k))∧True))) (((Qai s (Prod.snd (Qak s (rpA s k))))∧True)∧(sel (Pz.bad (nuP s (Prod.snd (Qdf s (Prod.snd (Qak s (rpA s k))))))) (((Qai s (Prod.snd (Qdf s (Prod.snd (Qak s (rpA s k))))))∧True)∧((Pz.bad (rpP s k) = true)∧(((SV.v (Value.iface 169 (Value.agg #[.int .i64 (Pz.er (p0 nuP [] s (Prod.snd (Qdf s (Prod.snd (Qak s (rpA s k)))))))]))) = (Qbk s k))∧True))) (((Qai s (Prod.snd (Qdf s (Prod.snd (Qak s (rpA s k))))))∧True)∧(sel (Pz.bad (vcP s (Prod.snd (Qfw s (Prod.snd (Qdf s (Prod.snd (Qak s (rpA s k))))))))) (((Qai s (Prod.snd (Qfw s (Prod.snd (Qdf s (Prod.snd (Qak s (rpA s k))))))))∧True)∧((Pz.bad (rpP s k) = true)∧(((SV.v (Value.iface 169 (Value.agg #[.int .i64 (Pz.er (p0 vcP [] s (Prod.snd (Qfw s (Prod.snd (Qdf s (Prod.snd (Qak s (rpA s k)))))))))]))) = (Qbk s k))∧True))) (((Qai s (Prod.snd (Qfw s (Prod.snd (Qdf s (Prod.snd (Qak s (rpA s k))))))))∧True)∧(sel (rdF s (Prod.snd (Qak s (rpA s k)))) (Qlt s k) (sel (rdF s (Prod.snd (Qak s (rpA s k))) == false&&(rdI s (Prod.snd (Qdf s (Prod.snd (Qak s (rpA s k))))) == 0&&rdF s (Prod.snd (Qdf s (Prod.snd (Qak s (rpA s k)))) + 8) == false&&(rdI s (Prod.snd (Qfw s (Prod.snd (Qdf s (Prod.snd (Qak s (rpA s k))))))) == 0&&rdF s (Prod.snd (Qfw s (Prod.snd (Qdf s (Prod.snd (Qak s (rpA s k)))))) + 8) == false&&(rdI s (Prod.snd (Qfw s (Prod.snd (Qdf s (Prod.snd (Qak s (rpA s k)))))) + 8 + 1) == 0&&rdF s (Prod.snd (Qfw s (Prod.snd (Qdf s (Prod.snd (Qak s (rpA s k)))))) + 8 + 1 + 8) == false)))) (sel (!(rdT s (rpA s k) 4 == 0&&rdT s (rpA s k + 4) 4 == 0)) (Qe7 s k) (Qlt s k)) (Qe7 s k))))))))))) (sel (rdT s k 1 == 10) (sel (Pz.bad (Qcx s (rpA s k))) (((Qai s (rpA s k))∧True)∧((Pz.bad (rpP s k) = true)∧(((SV.v (Value.iface 169 (Value.agg #[.int .i64 (Pz.er (p0 Qcx [] s (rpA s k)))]))) = (Qbk s k))∧True))) (((Qai s (rpA s k))∧True)∧(sel (Pz.bad (enP s (Prod.snd (Qaj s (rpA s k))))) (((Qai s (Prod.snd (Qaj s (rpA s k))))∧True)∧((Pz.bad (rpP s k) = true)∧(((SV.v (Value.iface 169 (Value.agg #[.int .i64 (Pz.er (p0 enP [] s (Prod.snd (Qaj s (rpA s k)))))]))) = (Qbk s k))∧True))) (((Qai s (Prod.snd (Qaj s (rpA s k))))∧True)∧((Pz.bad (rpP s k) = false)∧(∃ c : RC,((((iV (rdT s k 1)) = (iV (rdT s k 1)))∧(Qj9 s k (Qdp s k (((zS = zS)∧(((0 : Nat) = 0)∧((((rpN s k) : Nat) = 0)∧(((rpN s k + RC.a c) : Nat) = 0))))∧(Qdq s k (((zS = zS)∧(((0 : Nat) = 0)∧((((rpM s k) : Nat) = 0)∧(((rpM s k + RC.b c) : Nat) = 0))))∧(((bV false) = (bV (RV.hit (rpV s k))))∧(((iV (RV.htv (rv1 s k (vrN s k)))) = (iV (RV.htv (rpV s k))))∧(((bV false) = (bV (RV.htf (rpV s k))))∧(((iV (RV.x0v (rv1 s k (vrN s k)))) = (iV (RV.x0v (rpV s k))))∧(((bV false) = (bV (RV.x0f (rpV s k))))∧(((iV (RV.x1v (rv1 s k (vrN s k)))) = (iV (RV.x1v (rpV s k))))∧(((bV false) = (bV (RV.x1f (rpV s k))))∧((iV (rdT s (rpA s k) 4)) = (iV (RV.cnt (rpV s k)))))))))))))))))∧((((1 : Nat) = 1)∧(((1 : Nat) ≤ 1)∧(∀ i : Nat,(((i : Nat) < 1)→([(SV.v (.string s)),(iV (Prod.snd (Qmh s (Prod.snd (Qaj s (rpA s k))))))] = [(SV.v (.string s)),(iV (Qd2 s k))])))))∧(((((rpN s k) : Nat) = 0)∧((((rpN s k + RC.a c) : Nat) = 0)∧True))∧(((((rpM s k) : Nat) = 0)∧((((rpM s k + RC.b c) : Nat) = 0)∧True))∧True)))))))))) (Qkc s k))))))))))))))))))))))))))) := by kernel_rfl
theorem Q6r {s : ByteArray} {k low : Int} (h : (kiP s k low).bad = false) : low ≤ rdT s k 1 ∧ rdT s k 1 ≤ 10 := by
 have h2 : (!(decide (low ≤ rdT s k 1) && decide (rdT s k 1 ≤ 10))) = false := (Qck h).2
 cases h3 : (decide (low ≤ rdT s k 1) && decide (rdT s k 1 ≤ 10)) with
 | false => rw [h3] at h2; cases h2
 | true =>
   rw [Bool.and_eq_true] at h3
   exact ⟨of_decide_eq_true h3.1, of_decide_eq_true h3.2⟩
theorem Qya : ∀ f g, Zh4 f = some g → g.ok Try.prog f := Qah (Qah (Qah Qtg (Qwp Try.func122 (by kernel_rfl) (by kernel_rfl) Qwm)) (Qkd Try.func120 (by kernel_rfl) (by kernel_rfl) Qpy)) (Qkd Try.func131 (by kernel_rfl) (by kernel_rfl) Qtb)
theorem Zhg {s : ByteArray} {k : Int} (hp : Qai s k) (h : (bdP s k).bad = false) : Qai s (Qip s k) := by
 have f0 := Qck h
 have p0 := Qy7 hp f0.1
 have f1 := Qck f0.2
 have p1 := Qz4 p0 f1.1
 have f2 := Qck f1.2
 have p2 := Qjy p1 f2.1
 have f3 := Qck f2.2
 have p3 := Qg2 p2 f3.1
 have f4 := Qck f3.2
 have p4 := Qg2 p3 f4.1
 have f5 := Qck f4.2
 have p5 := Qg2 p4 f5.1
 have f6 := Qck f5.2
 have p6 := Qcm p5 (by omega) f6.1
 have f7 := Qck f6.2
 have p7 := Qcm p6 (by omega) f7.1
 have p8 := Qcm p7 (by omega) f7.2
 exact p8
theorem Qpz : Qcg Try.prog 92 (sTe bdE) (Qlh (p0 bdP)) (Q35 bdP) := Qqd Qya Try.func92 (Λ := fun _ _ => Qas) (fun s k h => h) fun s k hp => by
 have h_vc := Q9h s k
 repeat (first | unfold Qd1 at h_vc | unfold Qdb at h_vc | unfold Qb3 at h_vc)
 refine Eq.mpr h_vc ?_
 unfold bdP
 refine Qab (fun h => ⟨hp, pan (Qa2 h)⟩) fun g0 => ⟨hp, fun c => ?_⟩
 have g0 : (shP s (k)).bad = false := g0
 have hp_g0 : Qai s (Qag s (k)) := Qy7 hp g0
 rw [Qa1 g0]
 refine Qab (fun h => ⟨⟨hp_g0, trivial⟩, pan (Qa2 h)⟩) fun g1 => ⟨⟨hp_g0, trivial⟩, ?_⟩
 have g1 : (psP s (Qag s (k))).bad = false := g1
 have hp_g0_g1 : Qai s (Qag s (k) + 8 + 1 + 8 + 1 + 8 + 1 + 8 + 1) := Qz4 hp_g0 g1
 rw [Qa1 g1]
 refine Qab (fun h => ⟨⟨hp_g0_g1, trivial⟩, pan (Qa2 h)⟩) fun g2 => ⟨⟨hp_g0_g1, trivial⟩, ?_⟩
 have g2 : (vcP s (Qag s (k) + 8 + 1 + 8 + 1 + 8 + 1 + 8 + 1)).bad = false := g2
 have hp_g0_g1_g2 : Qai s (Qag s (k) + 8 + 1 + 8 + 1 + 8 + 1 + 8 + 1 + 8 + 1 + 8 + 1) := Qjy hp_g0_g1 g2
 rw [Qa1 g2]
 refine Qab (fun h => ⟨⟨hp_g0_g1_g2, trivial⟩, pan (Qa2 h)⟩) fun g3 => ⟨⟨hp_g0_g1_g2, trivial⟩, ?_⟩
 have g3 : (nuP s (Qag s (k) + 8 + 1 + 8 + 1 + 8 + 1 + 8 + 1 + 8 + 1 + 8 + 1)).bad = false := g3
 have hp_g0_g1_g2_g3 : Qai s (Qag s (k) + 8 + 1 + 8 + 1 + 8 + 1 + 8 + 1 + 8 + 1 + 8 + 1 + 8 + 1) := Qg2 hp_g0_g1_g2 g3
 rw [Qa1 g3]
 refine Qab (fun h => ⟨⟨hp_g0_g1_g2_g3, trivial⟩, pan (Qa2 h)⟩) fun g4 => ⟨⟨hp_g0_g1_g2_g3, trivial⟩, ?_⟩
 have g4 : (nuP s (Qag s (k) + 8 + 1 + 8 + 1 + 8 + 1 + 8 + 1 + 8 + 1 + 8 + 1 + 8 + 1)).bad = false := g4
 have hp_g0_g1_g2_g3_g4 : Qai s (Qag s (k) + 8 + 1 + 8 + 1 + 8 + 1 + 8 + 1 + 8 + 1 + 8 + 1 + 8 + 1 + 8 + 1) := Qg2 hp_g0_g1_g2_g3 g4
 rw [Qa1 g4]
 refine Qab (fun h => ⟨⟨hp_g0_g1_g2_g3_g4, trivial⟩, pan (Qa2 h)⟩) fun g5 => ⟨⟨hp_g0_g1_g2_g3_g4, trivial⟩, ?_⟩
 have g5 : (nuP s (Qag s (k) + 8 + 1 + 8 + 1 + 8 + 1 + 8 + 1 + 8 + 1 + 8 + 1 + 8 + 1 + 8 + 1)).bad = false := g5
 have hp_g0_g1_g2_g3_g4_g5 : Qai s (Qag s (k) + 8 + 1 + 8 + 1 + 8 + 1 + 8 + 1 + 8 + 1 + 8 + 1 + 8 + 1 + 8 + 1 + 8 + 1) := Qg2 hp_g0_g1_g2_g3_g4 g5
 rw [Qa1 g5]
 refine Qab (fun h => ⟨⟨hp_g0_g1_g2_g3_g4_g5, trivial⟩, pan (Qa2 h)⟩) fun g6 => ⟨⟨hp_g0_g1_g2_g3_g4_g5, trivial⟩, ?_⟩
 have g6 : (upP s (Qag s (k) + 8 + 1 + 8 + 1 + 8 + 1 + 8 + 1 + 8 + 1 + 8 + 1 + 8 + 1 + 8 + 1 + 8 + 1) 2147483647 4).bad = false := g6
 have hp_g0_g1_g2_g3_g4_g5_g6 : Qai s (Qag s (k) + 8 + 1 + 8 + 1 + 8 + 1 + 8 + 1 + 8 + 1 + 8 + 1 + 8 + 1 + 8 + 1 + 8 + 1 + 4) := Qcm hp_g0_g1_g2_g3_g4_g5 (by omega) g6
 rw [Qa1 g6]
 refine Qab (fun h => ⟨⟨hp_g0_g1_g2_g3_g4_g5_g6, ⟨by omega, by omega⟩, by omega⟩, pan (Qa2 h)⟩) fun g7 => ⟨⟨hp_g0_g1_g2_g3_g4_g5_g6, ⟨by omega, by omega⟩, by omega⟩, ?_⟩
 have g7 : (upP s (Qag s (k) + 8 + 1 + 8 + 1 + 8 + 1 + 8 + 1 + 8 + 1 + 8 + 1 + 8 + 1 + 8 + 1 + 8 + 1 + 4) 3 1).bad = false := g7
 have hp_g0_g1_g2_g3_g4_g5_g6_g7 : Qai s (Qag s (k) + 8 + 1 + 8 + 1 + 8 + 1 + 8 + 1 + 8 + 1 + 8 + 1 + 8 + 1 + 8 + 1 + 8 + 1 + 4 + 1) := Qcm hp_g0_g1_g2_g3_g4_g5_g6 (by omega) g7
 rw [Qa1 g7]
 refine Qab (fun h => ⟨⟨hp_g0_g1_g2_g3_g4_g5_g6_g7, trivial⟩, pan ⟨h, rfl⟩⟩) fun h => ⟨⟨hp_g0_g1_g2_g3_g4_g5_g6_g7, trivial⟩, h, c, by repeat (first | exact rfl | refine ⟨rfl, ?_⟩ | refine ⟨⟨rfl, rfl, rfl, rfl⟩, ?_⟩), ⟨rfl, Nat.le_refl _, fun _ _ => rfl⟩, rfl, Nat.le_refl _, fun _ _ => rfl⟩
theorem Q7p : ∀ f g, ΓT9 f = some g → g.ok Try.prog f := Qah Qya (Qwp Try.func92 (by kernel_rfl) (by kernel_rfl) Qpz)
theorem Qt9 {s : ByteArray} {k : Int} (hp : Qai s k) : ∀ {i : Nat}, (Qrw s k i).bad = false → Qai s (k + 8 * (i : Int))
 | 0, _ => by rw [show k + 8 * ((0 : Nat) : Int) = k by omega]; exact hp
 | i + 1, h => by
   have := Qi8 (Qt9 hp (Qck h).1) (Qck h).2
   rw [show k + 8 * ((i + 1 : Nat) : Int) = k + 8 * (i : Int) + 4 + 4 by omega]
   exact this
theorem Q0n {s : ByteArray} {k : Int} {i : Nat} (h1 : (Qrw s k i).bad = false) (h2 : (haP s (k + 8 * (i : Int))).bad = true) : ∀ {n : Nat}, i < n → (Qrw s k n).bad = true ∧ (haP s (k + 8 * (i : Int))).er = (Qrw s k n).er
 | 0, h => absurd h (Nat.not_lt_zero _)
 | n + 1, h => by
   by_cases hi : i = n
   · subst hi
     unfold Qrw
     rw [Qa1 h1]
     exact ⟨h2, rfl⟩
   · have ih := Q0n h1 h2 (n := n) (by omega)
     unfold Qrw
     have := Qa2 (b := haP s (k + 8 * (n : Int))) ih.1
     exact ⟨this.1, ih.2.trans this.2⟩
theorem Zgn {s : ByteArray} {k : Int} {i : Nat} (h1 : (Qrw s k i).bad = false) (h2 : (haP s (k + 8 * (i : Int))).bad = false) : (Qrw s k (i + 1)).bad = false := by
 unfold Qrw
 rw [Qa1 h1]
 exact h2
theorem Q91 {a b : Pz} {e : Int} (h : a.bad = true ∧ e = a.er) : (a.seq b).bad = true ∧ e = (a.seq b).er := ⟨(Qa2 h.1).1, h.2.trans (Qa2 h.1).2⟩
theorem Zbp (s : ByteArray) (k : Int) : rdT s (k + 1 + 4 + 1) 1 = (hdC s k : Int) := by
 have := (Qez s (k + 1 + 4 + 1) 1).1
 unfold hdC
 omega
theorem Zgg {s : ByteArray} {k : Int} (h : rdT s k 1 ≠ 0 ∨ rdT s (k + 1) 4 = 0) : (n1P s k).bad = false := by
 show (!(rdT s k 1 != 0 || rdT s (k + 1) 4 == 0)) = false
 rcases h with h | h
 · rw [show (rdT s k 1 != 0) = true by simpa using h]; rfl
 · rw [h, show ((0 : Int) == 0) = true from rfl, Bool.or_true]; rfl
theorem Zgf {s : ByteArray} {k : Int} (h : rdT s k 1 ≠ 0 ∨ (rdT s (k + 1 + 4) 1 ≠ 0 ∧ rdT s (k + 1 + 4) 1 ≠ 14)) : (n2P s k).bad = false := by
 show (!(rdT s k 1 != 0 || (rdT s (k + 1 + 4) 1 != 0 && rdT s (k + 1 + 4) 1 != 14))) = false
 rcases h with h | h
 · rw [show (rdT s k 1 != 0) = true by simpa using h]; rfl
 · rw [show (rdT s (k + 1 + 4) 1 != 0) = true by simpa using h.1, show (rdT s (k + 1 + 4) 1 != 14) = true by simpa using h.2, Bool.and_true, Bool.or_true]; rfl
theorem n2_k {s : ByteArray} {k : Int} (h : (n2P s k).bad = false) (he : rdT s (k + 1 + 4) 1 = 0) : rdT s k 1 ≠ 0 := fun hk => by
 have h : (!(rdT s k 1 != 0 || (rdT s (k + 1 + 4) 1 != 0 && rdT s (k + 1 + 4) 1 != 14))) = false := h
 rw [hk, he] at h
 cases h
theorem Qux : Qcg Try.prog 91 (sTe rpE) (Qlh (p0 rpP)) (Q35 rpP) := Qqd Q7p Try.func91 (Λ := ΛRp) (fun s k h => h) fun s k hp => by
 have h_vc := Q24 s k
 repeat (first | unfold Qj8 at h_vc | unfold Qj9 at h_vc | unfold Qe7 at h_vc | unfold Qka at h_vc | unfold Qgn at h_vc | unfold Qhx at h_vc | unfold Qbk at h_vc | unfold Qkb at h_vc | unfold Qkc at h_vc | unfold Qlp at h_vc | unfold Qlq at h_vc | unfold Qlr at h_vc | unfold Qls at h_vc | unfold Qlt at h_vc | unfold Qdp at h_vc | unfold Qef at h_vc | unfold Qjg at h_vc | unfold Qdq at h_vc)
 refine Eq.mpr h_vc (Qab (fun h => ⟨⟨hp, trivial⟩, pan (Qa2 h)⟩) fun h1 => ⟨⟨hp, trivial⟩, ?_⟩)
 have h1 : (kiP s k 0).bad = false := h1
 have hk := Q6r h1
 have p1 : Qai s (k + 1) := Qgp hp (by omega) (Qck h1).1
 rw [show rpP s k = (upP s (k + 1) 2147483647 4).seq ((n1P s k).seq ((upP s (k + 1 + 4) 14 1).seq ((n2P s k).seq (rpR s k)))) from Qa1 h1]
 refine Qab (fun h => ⟨⟨p1, trivial⟩, pan (Qa2 h)⟩) fun h2 => ⟨⟨p1, trivial⟩, ?_⟩
 have h2 : (upP s (k + 1) 2147483647 4).bad = false := h2
 have p2 : Qai s (k + 1 + 4) := Qcm p1 (by omega) h2
 rw [Qa1 h2]
 refine ⟨Qab (fun hK => ⟨0, Zgg (.inl (by simpa using hK)), trivial, ⟨rfl, Nat.le_refl _, fun i _ => rfl⟩, ⟨rfl, Nat.le_refl _, fun i _ => rfl⟩⟩) fun hK => Qab (fun hI => pan (e := 4) (Qa2 (a := n1P s k) ?_)) fun hI => ⟨0, Zgg (.inr (by simpa using hI)), trivial, ⟨rfl, Nat.le_refl _, fun i _ => rfl⟩, ⟨rfl, Nat.le_refl _, fun i _ => rfl⟩⟩, fun _ hn1 => ?_⟩
 · show (!(rdT s k 1 != 0 || rdT s (k + 1) 4 == 0)) = true
   rw [show (rdT s k 1 != 0) = false from hK, show (rdT s (k + 1) 4 == 0) = false by simpa using hI]
   rfl
 rw [Qa1 hn1]
 refine Qab (fun h => ⟨⟨p2, ⟨by omega, by omega⟩, by omega⟩, pan (Qa2 h)⟩) fun h3 => ⟨⟨p2, ⟨by omega, by omega⟩, by omega⟩, ?_⟩
 have h3 : (upP s (k + 1 + 4) 14 1).bad = false := h3
 have p3 : Qai s (k + 1 + 4 + 1) := Qcm p2 (by omega) h3
 rw [Qa1 h3]
 refine ⟨Qab (fun hK => ⟨0, Zgf (.inl (by simpa using hK)), trivial, ⟨rfl, Nat.le_refl _, fun i _ => rfl⟩, ⟨rfl, Nat.le_refl _, fun i _ => rfl⟩⟩) fun hK => Qab (fun hE => Qab (fun h14 => pan (e := 4) (Qa2 (a := n2P s k) ?_)) fun h14 => ⟨0, Zgf (.inr ⟨by simpa using hE, by simpa using h14⟩), trivial, ⟨rfl, Nat.le_refl _, fun i _ => rfl⟩, ⟨rfl, Nat.le_refl _, fun i _ => rfl⟩⟩) fun hE => pan (e := 4) (Qa2 (a := n2P s k) ?_), fun _ hn2 => ?_⟩
 · show (!(rdT s k 1 != 0 || (rdT s (k + 1 + 4) 1 != 0 && rdT s (k + 1 + 4) 1 != 14))) = true
   rw [show (rdT s k 1 != 0) = false from hK, show (rdT s (k + 1 + 4) 1 != 14) = false by simpa using h14, Bool.and_false]
   rfl
 · show (!(rdT s k 1 != 0 || (rdT s (k + 1 + 4) 1 != 0 && rdT s (k + 1 + 4) 1 != 14))) = true
   rw [show (rdT s k 1 != 0) = false from hK, show (rdT s (k + 1 + 4) 1 != 0) = false from hE, Bool.false_and]
   rfl
 rw [Qa1 hn2]
 have qNo : rdT s (k + 1 + 4) 1 ≠ 0 → rpR s k = qPN s k := fun he => by
   unfold rpR
   rw [show (rdT s (k + 1 + 4) 1 == 0) = false by simpa using he]
   rfl
 refine ⟨Qab (fun hE => Qab (fun h => ⟨⟨p3, trivial⟩, pan ?_⟩) fun h => ⟨⟨p3, trivial⟩, 0, fun _ => h, trivial, ⟨rfl, Nat.le_refl _, fun i _ => ?_⟩, ⟨rfl, Nat.le_refl _, fun i _ => ?_⟩⟩) fun hE => ⟨0, fun h => ?_, trivial, ⟨rfl, Nat.le_refl _, fun i _ => ?_⟩, ⟨rfl, Nat.le_refl _, fun i _ => ?_⟩⟩, fun _ h14 => ?_⟩
 · have hE : rdT s (k + 1 + 4) 1 = 14 := by simpa using hE
   rw [qNo (by omega)]
   unfold qPN
   rw [hE]
   exact Qa2 h
 · unfold rpA
   rw [hE]
   rfl
 · have hv : vrN s k = rdT s (k + 1 + 4 + 1) 8 := by
     unfold vrN
     rw [hE]
     rfl
   rw [hv]
   rfl
 · rw [h] at hE
   cases hE
 · unfold rpA
   rw [hE]
   rfl
 · have hv : vrN s k = 0 := by
     unfold vrN
     rw [hE]
     rfl
   rw [hv]
 have pA : Qai s (rpA s k) := by
   unfold rpA
   by_cases h : rdT s (k + 1 + 4) 1 = 14
   · rw [h]
     exact Qcm p3 (by omega) (h14 h)
   · rw [show (rdT s (k + 1 + 4) 1 == 14) = false by simpa using h]
     exact p3
 refine Qab (fun hE => ?_) fun hE => ?_
 · have hE : rdT s (k + 1 + 4) 1 ≠ 0 := by simpa using hE
   have hE0 : (rdT s (k + 1 + 4) 1 == 0) = false := by simpa using hE
   have hP : rpR s k = enP s (rpA s k) := by
     rw [qNo hE]
     unfold qPN rpA
     by_cases h : rdT s (k + 1 + 4) 1 = 14
     · have := h14 h
       rw [h]
       exact Qa1 this
     · rw [show (rdT s (k + 1 + 4) 1 == 14) = false by simpa using h]
       rfl
   have qV : rpV s k = qVN s k := by unfold rpV; rw [hE0]; rfl
   have qE : Qd2 s k = rpA s k := by unfold Qd2; rw [hE0]; rfl
   have qN : rpN s k = 0 := by unfold rpN; rw [hE0]; rfl
   have qM : rpM s k = 0 := by unfold rpM; rw [hE0]; rfl
   rw [hP, qV, qE, qN, qM]
   exact Qab (fun h => ⟨⟨pA, trivial⟩, pan ⟨h, rfl⟩⟩) fun h => ⟨⟨pA, trivial⟩, h, ⟨0, 0⟩, by repeat (first | exact rfl | refine ⟨rfl, ?_⟩ | refine ⟨⟨rfl, rfl, rfl, rfl⟩, ?_⟩), ⟨rfl, Nat.le_refl _, fun i _ => rfl⟩, ⟨rfl, rfl, trivial⟩, ⟨rfl, rfl, trivial⟩, trivial⟩
 have hE : rdT s (k + 1 + 4) 1 = 0 := by simpa using hE
 have hK0 := n2_k hn2 hE
 have hA : rpA s k = k + 1 + 4 + 1 := by unfold rpA; rw [hE]; rfl
 have hV0 : vrN s k = 0 := by unfold vrN; rw [hE]; rfl
 rw [hA] at pA ⊢
 try rw [hV0]
 refine Qab (fun e1 => ?_) fun e1 => Qab (fun e3 => ?_) fun e3 => Qab (fun e2 => ?_) fun e2 => Qab (fun e4 => ?_) fun e4 => Qab (fun e5 => ?_) fun e5 => Qab (fun e6 => ?_) fun e6 => Qab (fun e7 => ?_) fun e7 => Qab (fun e8 => ?_) fun e8 => Qab (fun e9 => ?_) fun e9 => Qab (fun e10 => ?_) fun e10 => ?_
 · have hK : rdT s k 1 = 1 := by simpa using e1
   have qrpR : rpR s k = qP1 s k := by unfold rpR; rw [hE, hK]; rfl
   have qrpV : rpV s k = qV1 s k := by unfold rpV; rw [hE, hK]; rfl
   have qrpEnd : Qd2 s k = qE1 s k := by unfold Qd2; rw [hE, hK]; rfl
   have qN : rpN s k = 0 := by unfold rpN; rw [hE, hK]; rfl
   have qM : rpM s k = 0 := by unfold rpM; rw [hE, hK]; rfl
   rw [qrpR, qrpV, qrpEnd, qN, qM]
   unfold qP1
   refine Qab (fun h => ⟨⟨pA, trivial⟩, pan (Qa2 h)⟩) fun g0 => ⟨⟨pA, trivial⟩, ?_⟩
   have g0 : (haP s (k + 1 + 4 + 1)).bad = false := g0
   have pA_g0 : Qai s (k + 1 + 4 + 1 + 4 + 4) := Qi8 pA g0
   rw [Qa1 g0]
   refine Qab (fun h => ⟨⟨pA_g0, trivial⟩, pan (Qa2 h)⟩) fun g1 => ⟨⟨pA_g0, trivial⟩, ?_⟩
   have g1 : (upP s (k + 1 + 4 + 1 + 4 + 4) 1099511627776 8).bad = false := g1
   have pA_g0_g1 : Qai s (k + 1 + 4 + 1 + 4 + 4 + 8) := Qcm pA_g0 (by omega) g1
   rw [Qa1 g1]
   exact Qab (fun h => ⟨⟨pA_g0_g1, trivial⟩, pan ⟨h, rfl⟩⟩) fun h => ⟨⟨pA_g0_g1, trivial⟩, ⟨h, ⟨0, 0⟩, by repeat (first | exact rfl | refine ⟨rfl, ?_⟩ | refine ⟨⟨rfl, rfl, rfl, rfl⟩, ?_⟩), ⟨rfl, Nat.le_refl _, fun _ _ => rfl⟩, ⟨rfl, rfl, trivial⟩, ⟨rfl, rfl, trivial⟩, trivial⟩⟩
 · have hK : rdT s k 1 = 3 := by simpa using e3
   have qrpR : rpR s k = qP3 s k := by unfold rpR; rw [hE, hK]; rfl
   have qrpV : rpV s k = qV3 s k := by unfold rpV; rw [hE, hK]; rfl
   have qrpEnd : Qd2 s k = qE3 s k := by unfold Qd2; rw [hE, hK]; rfl
   have qN : rpN s k = 0 := by unfold rpN; rw [hE, hK]; rfl
   have qM : rpM s k = 0 := by unfold rpM; rw [hE, hK]; rfl
   rw [qrpR, qrpV, qrpEnd, qN, qM]
   unfold qP3
   refine Qab (fun h => ⟨⟨pA, trivial⟩, pan (Qa2 h)⟩) fun g0 => ⟨⟨pA, trivial⟩, ?_⟩
   have g0 : (haP s (k + 1 + 4 + 1)).bad = false := g0
   have pA_g0 : Qai s (k + 1 + 4 + 1 + 4 + 4) := Qi8 pA g0
   rw [Qa1 g0]
   refine Qab (fun h => ⟨⟨pA_g0, trivial⟩, pan (Qa2 h)⟩) fun g1 => ⟨⟨pA_g0, trivial⟩, ?_⟩
   have g1 : (upP s (k + 1 + 4 + 1 + 4 + 4) 1099511627776 8).bad = false := g1
   have pA_g0_g1 : Qai s (k + 1 + 4 + 1 + 4 + 4 + 8) := Qcm pA_g0 (by omega) g1
   rw [Qa1 g1]
   exact Qab (fun h => ⟨⟨pA_g0_g1, trivial⟩, pan ⟨h, rfl⟩⟩) fun h => ⟨⟨pA_g0_g1, trivial⟩, ⟨h, ⟨0, 0⟩, by repeat (first | exact rfl | refine ⟨rfl, ?_⟩ | refine ⟨⟨rfl, rfl, rfl, rfl⟩, ?_⟩), ⟨rfl, Nat.le_refl _, fun _ _ => rfl⟩, ⟨rfl, rfl, trivial⟩, ⟨rfl, rfl, trivial⟩, trivial⟩⟩
 · have hK : rdT s k 1 = 2 := by simpa using e2
   have qrpR : rpR s k = qP2 s k := by unfold rpR; rw [hE, hK]; rfl
   have qrpV : rpV s k = qV2 s k := by unfold rpV; rw [hE, hK]; rfl
   have qrpEnd : Qd2 s k = qE2 s k := by unfold Qd2; rw [hE, hK]; rfl
   have qN : rpN s k = 0 := by unfold rpN; rw [hE, hK]; rfl
   have qM : rpM s k = 0 := by unfold rpM; rw [hE, hK]; rfl
   rw [qrpR, qrpV, qrpEnd, qN, qM]
   unfold qP2
   refine Qab (fun h => ⟨⟨pA, trivial⟩, pan (Qa2 h)⟩) fun g0 => ⟨⟨pA, trivial⟩, ?_⟩
   have g0 : (haP s (k + 1 + 4 + 1)).bad = false := g0
   have pA_g0 : Qai s (k + 1 + 4 + 1 + 4 + 4) := Qi8 pA g0
   rw [Qa1 g0]
   exact Qab (fun h => ⟨⟨pA_g0, trivial⟩, pan ⟨h, rfl⟩⟩) fun h => ⟨⟨pA_g0, trivial⟩, ⟨h, ⟨0, 0⟩, by repeat (first | exact rfl | refine ⟨rfl, ?_⟩ | refine ⟨⟨rfl, rfl, rfl, rfl⟩, ?_⟩), ⟨rfl, Nat.le_refl _, fun _ _ => rfl⟩, ⟨rfl, rfl, trivial⟩, ⟨rfl, rfl, trivial⟩, trivial⟩⟩
 · have hK : rdT s k 1 = 4 := by simpa using e4
   have qrpR : rpR s k = qP4 s k := by unfold rpR; rw [hE, hK]; rfl
   have qrpV : rpV s k = qV4 s k := by unfold rpV; rw [hE, hK]; rfl
   have qrpEnd : Qd2 s k = qE4 s k := by unfold Qd2; rw [hE, hK]; rfl
   have qN : rpN s k = 0 := by unfold rpN; rw [hE, hK]; rfl
   have qM : rpM s k = 0 := by unfold rpM; rw [hE, hK]; rfl
   rw [qrpR, qrpV, qrpEnd, qN, qM]
   unfold qP4
   refine Qab (fun h => ⟨⟨pA, trivial⟩, pan (Qa2 h)⟩) fun g0 => ⟨⟨pA, trivial⟩, ?_⟩
   have g0 : (haP s (k + 1 + 4 + 1)).bad = false := g0
   have pA_g0 : Qai s (k + 1 + 4 + 1 + 4 + 4) := Qi8 pA g0
   rw [Qa1 g0]
   refine Qab (fun h => ⟨⟨pA_g0, trivial⟩, pan (Qa2 h)⟩) fun g1 => ⟨⟨pA_g0, trivial⟩, ?_⟩
   have g1 : (upP s (k + 1 + 4 + 1 + 4 + 4) 1099511627776 8).bad = false := g1
   have pA_g0_g1 : Qai s (k + 1 + 4 + 1 + 4 + 4 + 8) := Qcm pA_g0 (by omega) g1
   rw [Qa1 g1]
   refine Qab (fun h => ⟨⟨pA_g0_g1, trivial⟩, pan (Qa2 h)⟩) fun g2 => ⟨⟨pA_g0_g1, trivial⟩, ?_⟩
   have g2 : (upP s (k + 1 + 4 + 1 + 4 + 4 + 8) 2147483647 4).bad = false := g2
   have pA_g0_g1_g2 : Qai s (k + 1 + 4 + 1 + 4 + 4 + 8 + 4) := Qcm pA_g0_g1 (by omega) g2
   rw [Qa1 g2]
   exact Qab (fun h => ⟨⟨pA_g0_g1_g2, trivial⟩, pan ⟨h, rfl⟩⟩) fun h => ⟨⟨pA_g0_g1_g2, trivial⟩, ⟨h, ⟨0, 0⟩, by repeat (first | exact rfl | refine ⟨rfl, ?_⟩ | refine ⟨⟨rfl, rfl, rfl, rfl⟩, ?_⟩), ⟨rfl, Nat.le_refl _, fun _ _ => rfl⟩, ⟨rfl, rfl, trivial⟩, ⟨rfl, rfl, trivial⟩, trivial⟩⟩
 · have hK : rdT s k 1 = 5 := by simpa using e5
   have qrpR : rpR s k = qP5 s k := by unfold rpR; rw [hE, hK]; rfl
   have qrpV : rpV s k = qV5 s k := by unfold rpV; rw [hE, hK]; rfl
   have qrpEnd : Qd2 s k = qE5 s k := by unfold Qd2; rw [hE, hK]; rfl
   have qN : rpN s k = 0 := by unfold rpN; rw [hE, hK]; rfl
   have qM : rpM s k = 0 := by unfold rpM; rw [hE, hK]; rfl
   rw [qrpR, qrpV, qrpEnd, qN, qM]
   unfold qP5
   refine Qab (fun h => ⟨⟨pA, trivial⟩, pan (Qa2 h)⟩) fun g0 => ⟨⟨pA, trivial⟩, ?_⟩
   have g0 : (upP s (k + 1 + 4 + 1) 2147483647 4).bad = false := g0
   have pA_g0 : Qai s (k + 1 + 4 + 1 + 4) := Qcm pA (by omega) g0
   rw [Qa1 g0]
   exact Qab (fun h => ⟨⟨pA_g0, trivial⟩, pan ⟨h, rfl⟩⟩) fun h => ⟨⟨pA_g0, trivial⟩, ⟨h, ⟨0, 0⟩, by repeat (first | exact rfl | refine ⟨rfl, ?_⟩ | refine ⟨⟨rfl, rfl, rfl, rfl⟩, ?_⟩), ⟨rfl, Nat.le_refl _, fun _ _ => rfl⟩, ⟨rfl, rfl, trivial⟩, ⟨rfl, rfl, trivial⟩, trivial⟩⟩
 · have hK : rdT s k 1 = 6 := by simpa using e6
   have qrpR : rpR s k = qP6 s k := by unfold rpR; rw [hE, hK]; rfl
   have qrpV : rpV s k = qV6 s k := by unfold rpV; rw [hE, hK]; rfl
   have qrpEnd : Qd2 s k = qE6 s k := by unfold Qd2; rw [hE, hK]; rfl
   have qN : rpN s k = 0 := by unfold rpN; rw [hE, hK]; rfl
   have qM : rpM s k = 0 := by unfold rpM; rw [hE, hK]; rfl
   rw [qrpR, qrpV, qrpEnd, qN, qM]
   unfold qP6
   refine Qab (fun h => ⟨⟨pA, trivial⟩, pan (Qa2 h)⟩) fun g0 => ⟨⟨pA, trivial⟩, ?_⟩
   have g0 : (upP s (k + 1 + 4 + 1) 2147483647 4).bad = false := g0
   have pA_g0 : Qai s (k + 1 + 4 + 1 + 4) := Qcm pA (by omega) g0
   rw [Qa1 g0]
   exact Qab (fun h => ⟨⟨pA_g0, trivial⟩, pan ⟨h, rfl⟩⟩) fun h => ⟨⟨pA_g0, trivial⟩, ⟨h, ⟨0, 0⟩, by repeat (first | exact rfl | refine ⟨rfl, ?_⟩ | refine ⟨⟨rfl, rfl, rfl, rfl⟩, ?_⟩), ⟨rfl, Nat.le_refl _, fun _ _ => rfl⟩, ⟨rfl, rfl, trivial⟩, ⟨rfl, rfl, trivial⟩, trivial⟩⟩
 · have hK : rdT s k 1 = 7 := by simpa using e7
   have qrpR : rpR s k = qP7 s k := by unfold rpR; rw [hE, hK]; rfl
   have qrpV : rpV s k = qV7 s k := by unfold rpV; rw [hE, hK]; rfl
   have qrpEnd : Qd2 s k = qE7 s k := by unfold Qd2; rw [hE, hK]; rfl
   have qN : rpN s k = shC s (k + 1 + 4 + 1 + 4 + 4) := by unfold rpN; rw [hE, hK]; rfl
   have qM : rpM s k = 0 := by unfold rpM; rw [hE, hK]; rfl
   rw [qrpR, qrpV, qrpEnd, qN, qM]
   unfold qP7
   refine Qab (fun h => ⟨⟨pA, trivial⟩, pan (Qa2 h)⟩) fun g0 => ⟨⟨pA, trivial⟩, ?_⟩
   have g0 : (haP s (k + 1 + 4 + 1)).bad = false := g0
   have pA_g0 : Qai s (k + 1 + 4 + 1 + 4 + 4) := Qi8 pA g0
   rw [Qa1 g0]
   refine Qab (fun h => ⟨pA_g0, pan (Qa2 h)⟩) fun g1 => ⟨pA_g0, fun c => ?_⟩
   have g1 : (bdP s (k + 1 + 4 + 1 + 4 + 4)).bad = false := g1
   have pA_g0_g1 : Qai s (Qip s (k + 1 + 4 + 1 + 4 + 4)) := Zhg pA_g0 g1
   rw [Qa1 g1]
   exact Qab (fun h => ⟨⟨pA_g0_g1, trivial⟩, pan ⟨h, rfl⟩⟩) fun h => ⟨⟨pA_g0_g1, trivial⟩, h, ⟨c, 0⟩, by repeat (first | exact rfl | refine ⟨rfl, ?_⟩ | refine ⟨⟨rfl, rfl, rfl, rfl⟩, ?_⟩), ⟨rfl, Nat.le_refl _, fun _ _ => rfl⟩, ⟨rfl, Nat.le_refl _, fun _ _ => rfl⟩, ⟨rfl, rfl, trivial⟩, trivial⟩
 · have hK : rdT s k 1 = 8 := by simpa using e8
   have qrpR : rpR s k = qP8 s k := by unfold rpR; rw [hE, hK]; rfl
   have qrpV : rpV s k = qV8 s k := by unfold rpV; rw [hE, hK]; rfl
   have qrpEnd : Qd2 s k = qE8 s k := by unfold Qd2; rw [hE, hK]; rfl
   have qN : rpN s k = 0 := by unfold rpN; rw [hE, hK]; rfl
   have qM : rpM s k = hdC s k := by unfold rpM; rw [hE, hK]; rfl
   rw [qrpR, qrpV, qrpEnd, qN, qM]
   unfold qP8
   refine Qab (fun h => ⟨⟨pA, ⟨by omega, by omega⟩, by omega⟩, pan (Qa2 h)⟩) fun h8 => ⟨⟨pA, ⟨by omega, by omega⟩, by omega⟩, ?_⟩
   have h8 : (upP s (k + 1 + 4 + 1) 64 1).bad = false := h8
   have p8 : Qai s (k + 1 + 4 + 1 + 1) := Qcm pA (by omega) h8
   rw [Qa1 h8]
   have hC := Zbp s k
   have hC64 : hdC s k ≤ 64 := by
     have := of_decide_eq_false (Qck h8).2
     have : ¬ (64 : Int) < rdT s (k + 1 + 4 + 1) 1 := this
     omega
   refine ⟨⟨⟨0, 0⟩, ⟨Nat.zero_le _, rfl, Nat.le_refl _⟩, rfl, ⟨rfl, Nat.le_refl _, fun i _ => ?_⟩, ⟨rfl, Nat.le_refl _, by repeat (first | exact rfl | refine ⟨rfl, ?_⟩ | refine ⟨⟨rfl, rfl, rfl, rfl⟩, ?_⟩)⟩, ⟨rfl, rfl, trivial⟩, trivial⟩, fun x hx => Qab (fun hlt => ?_) fun hge => ?_⟩
   · show [SV.v (.string s), SV.v (.int .i64 (k + 1 + 4 + 1 + 1))] = [SV.v (.string s), SV.v (.int .i64 (k + 1 + 4 + 1 + 1 + 8 * ((0 : Nat) : Int)))]
     rw [show k + 1 + 4 + 1 + 1 + 8 * ((0 : Nat) : Int) = k + 1 + 4 + 1 + 1 by omega]
   · obtain ⟨hx1, hx2, hx3⟩ := hx
     have hlt := of_decide_eq_true hlt
     have hlt : x.i < hdC s k := by omega
     have p9 := Qt9 p8 hx2
     refine Qab (fun h => ⟨⟨p9, trivial⟩, pan (Q91 (Q0n hx2 h hlt))⟩) fun h6 => ⟨⟨p9, trivial⟩, ⟨by omega, by omega, fun _ _ => trivial⟩, fun c => ⟨⟨x.i + 1, x.i + 1 + c⟩, ⟨⟨hlt, Zgn hx2 h6, by show x.i + 1 ≤ x.i + 1 + c; omega⟩, Qin (Qbn ⟨by omega, by omega⟩), ⟨rfl, Nat.le_refl _, fun i _ => ?_⟩, ⟨rfl, Nat.le_refl _, by repeat (first | exact rfl | refine ⟨rfl, ?_⟩ | refine ⟨⟨rfl, rfl, rfl, rfl⟩, ?_⟩)⟩, rfl, Nat.le_refl _, fun i hi => ?_⟩, by show hdC s k - (x.i + 1) < hdC s k - x.i; omega⟩⟩
     · show [SV.v (.string s), SV.v (.int .i64 (k + 1 + 4 + 1 + 1 + 8 * (x.i : Int) + 4 + 4))] = [SV.v (.string s), SV.v (.int .i64 (k + 1 + 4 + 1 + 1 + 8 * ((x.i + 1 : Nat) : Int)))]
       rw [show k + 1 + 4 + 1 + 1 + 8 * ((x.i + 1 : Nat) : Int) = k + 1 + 4 + 1 + 1 + 8 * (x.i : Int) + 4 + 4 by omega]
     · have hi : i < x.i + 1 := hi
       by_cases hik : i < x.i
       · rw [Qjr hik, Nat.zero_add]
         rfl
       · have hik : i = x.i := by omega
         subst hik
         rw [Qhv (Nat.lt_irrefl _)]
         rfl
   · obtain ⟨hx1, hx2, hx3⟩ := hx
     have hge := of_decide_eq_false hge
     have hn : x.i = hdC s k := by omega
     rw [hn] at hx2 hx3 ⊢
     have p9 := Qt9 p8 hx2
     rw [Qa1 hx2]
     refine Qab (fun h => ⟨⟨p9, trivial⟩, pan ⟨h, rfl⟩⟩) fun h => ⟨⟨p9, trivial⟩, h, ⟨0, x.c - hdC s k⟩, ?_, ⟨rfl, Nat.le_refl _, fun _ _ => rfl⟩, ⟨rfl, rfl, trivial⟩, rfl, by show hdC s k + (x.c - hdC s k) ≤ x.c; omega, fun _ _ => rfl⟩
     have hc : hdC s k + (x.c - hdC s k) = x.c := by omega
     have hsl : SV.sl 40 2 0 (hdC s k) x.c = SV.sl 40 2 0 (hdC s k) (hdC s k + (x.c - hdC s k)) := by rw [hc]
     repeat (first | exact rfl | refine ⟨rfl, ?_⟩ | refine ⟨⟨rfl, rfl, rfl, rfl⟩, ?_⟩ | refine ⟨hsl, ?_⟩)
 · have hK : rdT s k 1 = 9 := by simpa using e9
   have qrpR : rpR s k = qP9 s k := by unfold rpR; rw [hE, hK]; rfl
   have qrpV : rpV s k = qV9 s k := by unfold rpV; rw [hE, hK]; rfl
   have qrpEnd : Qd2 s k = qE9 s k := by unfold Qd2; rw [hE, hK]; rfl
   have qN : rpN s k = 0 := by unfold rpN; rw [hE, hK]; rfl
   have qM : rpM s k = 0 := by unfold rpM; rw [hE, hK]; rfl
   rw [qrpR, qrpV, qrpEnd, qN, qM]
   unfold qP9
   refine Qab (fun h => ⟨⟨pA, trivial⟩, pan (Qa2 h)⟩) fun g0 => ⟨⟨pA, trivial⟩, ?_⟩
   have g0 : (haP s (k + 1 + 4 + 1)).bad = false := g0
   have pA_g0 : Qai s (k + 1 + 4 + 1 + 4 + 4) := Qi8 pA g0
   rw [Qa1 g0]
   refine Qab (fun h => ⟨⟨pA_g0, trivial⟩, pan (Qa2 h)⟩) fun g1 => ⟨⟨pA_g0, trivial⟩, ?_⟩
   have g1 : (upP s (k + 1 + 4 + 1 + 4 + 4) 1 1).bad = false := g1
   have pA_g0_g1 : Qai s (k + 1 + 4 + 1 + 4 + 4 + 1) := Qcm pA_g0 (by omega) g1
   rw [Qa1 g1]
   refine Qab (fun h => ⟨⟨pA_g0_g1, trivial⟩, pan (Qa2 h)⟩) fun g2 => ⟨⟨pA_g0_g1, trivial⟩, ?_⟩
   have g2 : (nuP s (k + 1 + 4 + 1 + 4 + 4 + 1)).bad = false := g2
   have pA_g0_g1_g2 : Qai s (k + 1 + 4 + 1 + 4 + 4 + 1 + 8 + 1) := Qg2 pA_g0_g1 g2
   rw [Qa1 g2]
   refine Qab (fun h => ⟨⟨pA_g0_g1_g2, trivial⟩, pan (Qa2 h)⟩) fun g3 => ⟨⟨pA_g0_g1_g2, trivial⟩, ?_⟩
   have g3 : (vcP s (k + 1 + 4 + 1 + 4 + 4 + 1 + 8 + 1)).bad = false := g3
   have pA_g0_g1_g2_g3 : Qai s (k + 1 + 4 + 1 + 4 + 4 + 1 + 8 + 1 + 8 + 1 + 8 + 1) := Qjy pA_g0_g1_g2 g3
   rw [Qa1 g3]
   refine Qab (fun eh => ?_) fun eh => Qab (fun ez => Qab (fun eb => ?_) fun eb => ?_) fun ez => ?_
   · have hr : (Q4n s k).bad = false := by
       show (!(rdF s (k + 1 + 4 + 1 + 4 + 4) || ((rdI s (k + 1 + 4 + 1 + 4 + 4 + 1) == 0 && rdF s (k + 1 + 4 + 1 + 4 + 4 + 1 + 8) == false && (rdI s (k + 1 + 4 + 1 + 4 + 4 + 1 + 8 + 1) == 0 && rdF s (k + 1 + 4 + 1 + 4 + 4 + 1 + 8 + 1 + 8) == false && (rdI s (k + 1 + 4 + 1 + 4 + 4 + 1 + 8 + 1 + 8 + 1) == 0 && rdF s (k + 1 + 4 + 1 + 4 + 4 + 1 + 8 + 1 + 8 + 1 + 8) == false))) && (rdT s (k + 1 + 4 + 1) 4 == 0 && rdT s (k + 1 + 4 + 1 + 4) 4 == 0)))) = false
       rw [show rdF s (k + 1 + 4 + 1 + 4 + 4) = true from eh, Bool.true_or]
       rfl
     rw [Qa1 hr]
     exact Qab (fun h => ⟨⟨pA_g0_g1_g2_g3, trivial⟩, pan ⟨h, rfl⟩⟩) fun h => ⟨⟨pA_g0_g1_g2_g3, trivial⟩, ⟨h, ⟨0, 0⟩, by repeat (first | exact rfl | refine ⟨rfl, ?_⟩ | refine ⟨⟨rfl, rfl, rfl, rfl⟩, ?_⟩), ⟨rfl, Nat.le_refl _, fun _ _ => rfl⟩, ⟨rfl, rfl, trivial⟩, ⟨rfl, rfl, trivial⟩, trivial⟩⟩
   · have hr : (Q4n s k).bad = true := by
       show (!(rdF s (k + 1 + 4 + 1 + 4 + 4) || ((rdI s (k + 1 + 4 + 1 + 4 + 4 + 1) == 0 && rdF s (k + 1 + 4 + 1 + 4 + 4 + 1 + 8) == false && (rdI s (k + 1 + 4 + 1 + 4 + 4 + 1 + 8 + 1) == 0 && rdF s (k + 1 + 4 + 1 + 4 + 4 + 1 + 8 + 1 + 8) == false && (rdI s (k + 1 + 4 + 1 + 4 + 4 + 1 + 8 + 1 + 8 + 1) == 0 && rdF s (k + 1 + 4 + 1 + 4 + 4 + 1 + 8 + 1 + 8 + 1 + 8) == false))) && (rdT s (k + 1 + 4 + 1) 4 == 0 && rdT s (k + 1 + 4 + 1 + 4) 4 == 0)))) = true
       have eb : (!(rdT s (k + 1 + 4 + 1) 4 == 0 && rdT s (k + 1 + 4 + 1 + 4) 4 == 0)) = true := eb
       have eb : (rdT s (k + 1 + 4 + 1) 4 == 0 && rdT s (k + 1 + 4 + 1 + 4) 4 == 0) = false := by
         cases hb : (rdT s (k + 1 + 4 + 1) 4 == 0 && rdT s (k + 1 + 4 + 1 + 4) 4 == 0) with
         | false => rfl
         | true => rw [hb] at eb; cases eb
       rw [show rdF s (k + 1 + 4 + 1 + 4 + 4) = false from eh, eb, Bool.and_false]
       rfl
     exact pan (e := 4) (Qa2 hr)
   · have hr : (Q4n s k).bad = false := by
       show (!(rdF s (k + 1 + 4 + 1 + 4 + 4) || ((rdI s (k + 1 + 4 + 1 + 4 + 4 + 1) == 0 && rdF s (k + 1 + 4 + 1 + 4 + 4 + 1 + 8) == false && (rdI s (k + 1 + 4 + 1 + 4 + 4 + 1 + 8 + 1) == 0 && rdF s (k + 1 + 4 + 1 + 4 + 4 + 1 + 8 + 1 + 8) == false && (rdI s (k + 1 + 4 + 1 + 4 + 4 + 1 + 8 + 1 + 8 + 1) == 0 && rdF s (k + 1 + 4 + 1 + 4 + 4 + 1 + 8 + 1 + 8 + 1 + 8) == false))) && (rdT s (k + 1 + 4 + 1) 4 == 0 && rdT s (k + 1 + 4 + 1 + 4) 4 == 0)))) = false
       have eb : (!(rdT s (k + 1 + 4 + 1) 4 == 0 && rdT s (k + 1 + 4 + 1 + 4) 4 == 0)) = false := eb
       have eb : (rdT s (k + 1 + 4 + 1) 4 == 0 && rdT s (k + 1 + 4 + 1 + 4) 4 == 0) = true := by
         cases hb : (rdT s (k + 1 + 4 + 1) 4 == 0 && rdT s (k + 1 + 4 + 1 + 4) 4 == 0) with
         | true => rfl
         | false => rw [hb] at eb; cases eb
       have ez : (rdF s (k + 1 + 4 + 1 + 4 + 4) == false && (rdI s (k + 1 + 4 + 1 + 4 + 4 + 1) == 0 && rdF s (k + 1 + 4 + 1 + 4 + 4 + 1 + 8) == false && (rdI s (k + 1 + 4 + 1 + 4 + 4 + 1 + 8 + 1) == 0 && rdF s (k + 1 + 4 + 1 + 4 + 4 + 1 + 8 + 1 + 8) == false && (rdI s (k + 1 + 4 + 1 + 4 + 4 + 1 + 8 + 1 + 8 + 1) == 0 && rdF s (k + 1 + 4 + 1 + 4 + 4 + 1 + 8 + 1 + 8 + 1 + 8) == false)))) = true := ez
       rw [Bool.and_eq_true] at ez
       rw [eb, ez.2, Bool.and_true, Bool.or_true]
       rfl
     rw [Qa1 hr]
     exact Qab (fun h => ⟨⟨pA_g0_g1_g2_g3, trivial⟩, pan ⟨h, rfl⟩⟩) fun h => ⟨⟨pA_g0_g1_g2_g3, trivial⟩, ⟨h, ⟨0, 0⟩, by repeat (first | exact rfl | refine ⟨rfl, ?_⟩ | refine ⟨⟨rfl, rfl, rfl, rfl⟩, ?_⟩), ⟨rfl, Nat.le_refl _, fun _ _ => rfl⟩, ⟨rfl, rfl, trivial⟩, ⟨rfl, rfl, trivial⟩, trivial⟩⟩
   · have hr : (Q4n s k).bad = true := by
       show (!(rdF s (k + 1 + 4 + 1 + 4 + 4) || ((rdI s (k + 1 + 4 + 1 + 4 + 4 + 1) == 0 && rdF s (k + 1 + 4 + 1 + 4 + 4 + 1 + 8) == false && (rdI s (k + 1 + 4 + 1 + 4 + 4 + 1 + 8 + 1) == 0 && rdF s (k + 1 + 4 + 1 + 4 + 4 + 1 + 8 + 1 + 8) == false && (rdI s (k + 1 + 4 + 1 + 4 + 4 + 1 + 8 + 1 + 8 + 1) == 0 && rdF s (k + 1 + 4 + 1 + 4 + 4 + 1 + 8 + 1 + 8 + 1 + 8) == false))) && (rdT s (k + 1 + 4 + 1) 4 == 0 && rdT s (k + 1 + 4 + 1 + 4) 4 == 0)))) = true
       have ez : (rdF s (k + 1 + 4 + 1 + 4 + 4) == false && (rdI s (k + 1 + 4 + 1 + 4 + 4 + 1) == 0 && rdF s (k + 1 + 4 + 1 + 4 + 4 + 1 + 8) == false && (rdI s (k + 1 + 4 + 1 + 4 + 4 + 1 + 8 + 1) == 0 && rdF s (k + 1 + 4 + 1 + 4 + 4 + 1 + 8 + 1 + 8) == false && (rdI s (k + 1 + 4 + 1 + 4 + 4 + 1 + 8 + 1 + 8 + 1) == 0 && rdF s (k + 1 + 4 + 1 + 4 + 4 + 1 + 8 + 1 + 8 + 1 + 8) == false)))) = false := ez
       rw [show rdF s (k + 1 + 4 + 1 + 4 + 4) = false from eh] at ez ⊢
       have ez : (rdI s (k + 1 + 4 + 1 + 4 + 4 + 1) == 0 && rdF s (k + 1 + 4 + 1 + 4 + 4 + 1 + 8) == false && (rdI s (k + 1 + 4 + 1 + 4 + 4 + 1 + 8 + 1) == 0 && rdF s (k + 1 + 4 + 1 + 4 + 4 + 1 + 8 + 1 + 8) == false && (rdI s (k + 1 + 4 + 1 + 4 + 4 + 1 + 8 + 1 + 8 + 1) == 0 && rdF s (k + 1 + 4 + 1 + 4 + 4 + 1 + 8 + 1 + 8 + 1 + 8) == false))) = false := ez
       rw [ez]
       rfl
     exact pan (e := 4) (Qa2 hr)
 · have hK : rdT s k 1 = 10 := by simpa using e10
   have qrpR : rpR s k = Zec s k := by unfold rpR; rw [hE, hK]; rfl
   have qrpV : rpV s k = Za9 s k := by unfold rpV; rw [hE, hK]; rfl
   have qrpEnd : Qd2 s k = qE10 s k := by unfold Qd2; rw [hE, hK]; rfl
   have qN : rpN s k = 0 := by unfold rpN; rw [hE, hK]; rfl
   have qM : rpM s k = 0 := by unfold rpM; rw [hE, hK]; rfl
   rw [qrpR, qrpV, qrpEnd, qN, qM]
   unfold Zec
   refine Qab (fun h => ⟨⟨pA, trivial⟩, pan (Qa2 h)⟩) fun g0 => ⟨⟨pA, trivial⟩, ?_⟩
   have g0 : (upP s (k + 1 + 4 + 1) 2147483647 4).bad = false := g0
   have pA_g0 : Qai s (k + 1 + 4 + 1 + 4) := Qcm pA (by omega) g0
   rw [Qa1 g0]
   exact Qab (fun h => ⟨⟨pA_g0, trivial⟩, pan ⟨h, rfl⟩⟩) fun h => ⟨⟨pA_g0, trivial⟩, ⟨h, ⟨0, 0⟩, by repeat (first | exact rfl | refine ⟨rfl, ?_⟩ | refine ⟨⟨rfl, rfl, rfl, rfl⟩, ?_⟩), ⟨rfl, Nat.le_refl _, fun _ _ => rfl⟩, ⟨rfl, rfl, trivial⟩, ⟨rfl, rfl, trivial⟩, trivial⟩⟩
 · exfalso
   have f1 : rdT s k 1 ≠ 1 := by simpa using e1
   have f3 : rdT s k 1 ≠ 3 := by simpa using e3
   have f2 : rdT s k 1 ≠ 2 := by simpa using e2
   have f4 : rdT s k 1 ≠ 4 := by simpa using e4
   have f5 : rdT s k 1 ≠ 5 := by simpa using e5
   have f6 : rdT s k 1 ≠ 6 := by simpa using e6
   have f7 : rdT s k 1 ≠ 7 := by simpa using e7
   have f8 : rdT s k 1 ≠ 8 := by simpa using e8
   have f9 : rdT s k 1 ≠ 9 := by simpa using e9
   have f10 : rdT s k 1 ≠ 10 := by simpa using e10
   omega
noncomputable def rqK (s : ByteArray) : Int := bif (rpP s 0).bad then 0 else rdT s 0 1
noncomputable def rqE (s : ByteArray) : Int := bif (rpP s 0).bad then 0 else rdT s (0 + 1 + 4) 1
noncomputable def rqV (s : ByteArray) : RV := bif (rpP s 0).bad then zRV else rpV s 0
noncomputable def rqN (s : ByteArray) : Nat := bif (rpP s 0).bad then 0 else rpN s 0
noncomputable def rqM (s : ByteArray) : Nat := bif (rpP s 0).bad then 0 else rpM s 0
noncomputable def Q14 (s : ByteArray) : Int := bif (rpP s 0).bad then (rpP s 0).er else 0
noncomputable def rrE (s : ByteArray) : Eff := .nd (s.size ≤ 1099511627776) RC ⟨0, 0⟩ (fun c => .tup [reS (rqK s) (rqE s) (rqV s) (.sl 1000 2 0 (rqN s) (rqN s + c.a)) (.sl 1001 2 0 (rqM s) (rqM s + c.b)), iV (Q14 s)]) fun c => [(1000, spW (rqN s) (rqN s + c.a) (Qj2 s 0)), (1001, hdW (rqM s) (rqM s + c.b) (Qi0 s 0))]
noncomputable def Zek : Qb6 := Qap (Qap Qaq 91 (Qui rpE rpP)) 92 (Qui bdE bdP)
noncomputable def Qtw (args : List SV) (bs : List Blk) : Option Eff := match args, bs with
 | [.v (.string s)], [] => some (rrE s)
 | _, _ => none
theorem Q26 (s : ByteArray) : (Qow Try.prog Zek Qas Try.f54 Try.f84 (dA Try.f54) (dB Try.f54) (dC Try.f84) 3 5 [.v (.string s)] (Qac []) 64 (fun y h' => Qbh [] (rrE s) y h')) =
(sel (Pz.bad (rpP s 0)) ((Qai s 0)∧(∃ c : RC,((((zI = (yI (rqK s)))∧((zI = (yI (RV.id (rqV s))))∧((zI = (yI (rqE s)))∧((zI = (yI (RV.bs (rqV s))))∧((zI = (yI (RV.bg (rqV s))))∧((zI = (yI (RV.ver (rqV s))))∧((zI = (yI (RV.gr (rqV s))))∧((zI = (yI (BV.sk (RV.o (rqV s)))))∧((zI = (yI (BV.sr (RV.o (rqV s)))))∧((zI = (yI (BV.sw (RV.o (rqV s)))))∧((zI = (yI (BV.sh (RV.o (rqV s)))))∧(((zS = zS)∧(((0 : Nat) = 0)∧((((rqN s) : Nat) = 0)∧(((rqN s + RC.a c) : Nat) = 0))))∧((zI = (yI (BV.p0v (RV.o (rqV s)))))∧((zF = (yF (BV.p0f (RV.o (rqV s)))))∧((zI = (yI (BV.p1v (RV.o (rqV s)))))∧((zF = (yF (BV.p1f (RV.o (rqV s)))))∧((zI = (yI (BV.p2v (RV.o (rqV s)))))∧((zF = (yF (BV.p2f (RV.o (rqV s)))))∧((zI = (yI (BV.p3v (RV.o (rqV s)))))∧((zF = (yF (BV.p3f (RV.o (rqV s)))))∧((zI = (yI (BV.v0v (RV.o (rqV s)))))∧((zF = (yF (BV.v0f (RV.o (rqV s)))))∧((zI = (yI (BV.v1v (RV.o (rqV s)))))∧((zF = (yF (BV.v1f (RV.o (rqV s)))))∧((zI = (yI (BV.w0v (RV.o (rqV s)))))∧((zF = (yF (BV.w0f (RV.o (rqV s)))))∧((zI = (yI (BV.m0v (RV.o (rqV s)))))∧((zF = (yF (BV.m0f (RV.o (rqV s)))))∧((zI = (yI (BV.m1v (RV.o (rqV s)))))∧((zF = (yF (BV.m1f (RV.o (rqV s)))))∧((zI = (yI (BV.st (RV.o (rqV s)))))∧((zF = (yF (BV.asl (RV.o (rqV s)))))∧((zF = (yF (BV.flt (RV.o (rqV s)))))∧((zI = (yI (BV.bv (RV.o (rqV s)))))∧(((zS = zS)∧(((0 : Nat) = 0)∧((((rqM s) : Nat) = 0)∧(((rqM s + RC.b c) : Nat) = 0))))∧((zF = (yF (RV.hit (rqV s))))∧((zI = (yI (RV.htv (rqV s))))∧((zF = (yF (RV.htf (rqV s))))∧((zI = (yI (RV.x0v (rqV s))))∧((zF = (yF (RV.x0f (rqV s))))∧((zI = (yI (RV.x1v (rqV s))))∧((zF = (yF (RV.x1f (rqV s))))∧(zI = (yI (RV.cnt (rqV s))))))))))))))))))))))))))))))))))))))))))))))∧((yI (Pz.er (rpP s 0))) = (yI (Q14 s))))∧(((((rqN s) : Nat) = 0)∧((((rqN s + RC.a c) : Nat) = 0)∧True))∧(((((rqM s) : Nat) = 0)∧((((rqM s + RC.b c) : Nat) = 0)∧True))∧True))))) ((Qai s 0)∧(∀ c : RC,(∃ c_1 : RC,(((((yI (rdT s 0 1)) = (yI (rqK s)))∧(((yI (RV.id (rpV s 0))) = (yI (RV.id (rqV s))))∧(((yI (rdT s 5 1)) = (yI (rqE s)))∧(((yI (RV.bs (rpV s 0))) = (yI (RV.bs (rqV s))))∧(((yI (RV.bg (rpV s 0))) = (yI (RV.bg (rqV s))))∧(((yI (RV.ver (rpV s 0))) = (yI (RV.ver (rqV s))))∧(((yI (RV.gr (rpV s 0))) = (yI (RV.gr (rqV s))))∧(((yI (BV.sk (RV.o (rpV s 0)))) = (yI (BV.sk (RV.o (rqV s)))))∧(((yI (BV.sr (RV.o (rpV s 0)))) = (yI (BV.sr (RV.o (rqV s)))))∧(((yI (BV.sw (RV.o (rpV s 0)))) = (yI (BV.sw (RV.o (rqV s)))))∧(((yI (BV.sh (RV.o (rpV s 0)))) = (yI (BV.sh (RV.o (rqV s)))))∧(((SV.sl 104 2 0 (rpN s 0) (rpN s 0 + RC.a c)) = (SV.sl 104 2 0 (rqN s) (rqN s + RC.a c_1)))∧(((yI (BV.p0v (RV.o (rpV s 0)))) = (yI (BV.p0v (RV.o (rqV s)))))∧(((yF (BV.p0f (RV.o (rpV s 0)))) = (yF (BV.p0f (RV.o (rqV s)))))∧(((yI (BV.p1v (RV.o (rpV s 0)))) = (yI (BV.p1v (RV.o (rqV s)))))∧(((yF (BV.p1f (RV.o (rpV s 0)))) = (yF (BV.p1f (RV.o (rqV s)))))∧(((yI (BV.p2v (RV.o (rpV s 0)))) = (yI (BV.p2v (RV.o (rqV s)))))∧(((yF (BV.p2f (RV.o (rpV s 0)))) = (yF (BV.p2f (RV.o (rqV s)))))∧(((yI (BV.p3v (RV.o (rpV s 0)))) = (yI (BV.p3v (RV.o (rqV s)))))∧(((yF (BV.p3f (RV.o (rpV s 0)))) = (yF (BV.p3f (RV.o (rqV s)))))∧(((yI (BV.v0v (RV.o (rpV s 0)))) = (yI (BV.v0v (RV.o (rqV s)))))∧(((yF (BV.v0f (RV.o (rpV s 0)))) = (yF (BV.v0f (RV.o (rqV s)))))∧(((yI (BV.v1v (RV.o (rpV s 0)))) = (yI (BV.v1v (RV.o (rqV s)))))∧(((yF (BV.v1f (RV.o (rpV s 0)))) = (yF (BV.v1f (RV.o (rqV s)))))∧(((yI (BV.w0v (RV.o (rpV s 0)))) = (yI (BV.w0v (RV.o (rqV s)))))∧(((yF (BV.w0f (RV.o (rpV s 0)))) = (yF (BV.w0f (RV.o (rqV s)))))∧(((yI (BV.m0v (RV.o (rpV s 0)))) = (yI (BV.m0v (RV.o (rqV s)))))∧(((yF (BV.m0f (RV.o (rpV s 0)))) = (yF (BV.m0f (RV.o (rqV s)))))∧(((yI (BV.m1v (RV.o (rpV s 0)))) = (yI (BV.m1v (RV.o (rqV s)))))∧(((yF (BV.m1f (RV.o (rpV s 0)))) = (yF (BV.m1f (RV.o (rqV s)))))∧(((yI (BV.st (RV.o (rpV s 0)))) = (yI (BV.st (RV.o (rqV s)))))∧(((yF (BV.asl (RV.o (rpV s 0)))) = (yF (BV.asl (RV.o (rqV s)))))∧(((yF (BV.flt (RV.o (rpV s 0)))) = (yF (BV.flt (RV.o (rqV s)))))∧(((yI (BV.bv (RV.o (rpV s 0)))) = (yI (BV.bv (RV.o (rqV s)))))∧(((SV.sl 105 2 0 (rpM s 0) (rpM s 0 + RC.b c)) = (SV.sl 105 2 0 (rqM s) (rqM s + RC.b c_1)))∧(((yF (RV.hit (rpV s 0))) = (yF (RV.hit (rqV s))))∧(((yI (RV.htv (rpV s 0))) = (yI (RV.htv (rqV s))))∧(((yF (RV.htf (rpV s 0))) = (yF (RV.htf (rqV s))))∧(((yI (RV.x0v (rpV s 0))) = (yI (RV.x0v (rqV s))))∧(((yF (RV.x0f (rpV s 0))) = (yF (RV.x0f (rqV s))))∧(((yI (RV.x1v (rpV s 0))) = (yI (RV.x1v (rqV s))))∧(((yF (RV.x1f (rpV s 0))) = (yF (RV.x1f (rqV s))))∧((yI (RV.cnt (rpV s 0))) = (yI (RV.cnt (rqV s))))))))))))))))))))))))))))))))))))))))))))))∧(zI = (yI (Q14 s))))∧(((((rpN s 0) : Nat) = (rqN s))∧((((rqN s + RC.a c_1) : Nat) ≤ (rpN s 0 + RC.a c))∧(∀ i : Nat,(((i : Nat) < (rqN s))→([(yI (Prod.fst (Qj2 s 0 i))),(yI (Prod.snd (Qj2 s 0 i)))] = [(yI (Prod.fst (Qj2 s 0 i))),(yI (Prod.snd (Qj2 s 0 i)))])))))∧((((rpM s 0) : Nat) = (rqM s))∧((((rqM s + RC.b c_1) : Nat) ≤ (rpM s 0 + RC.b c))∧(∀ i : Nat,(((i : Nat) < (rqM s))→([(yI (Prod.fst (Qi0 s 0 i))),(yI (Prod.snd (Qi0 s 0 i)))] = [(yI (Prod.fst (Qi0 s 0 i))),(yI (Prod.snd (Qi0 s 0 i)))]))))))))))) := by kernel_rfl
theorem Qx9 : ∀ f g, Zek f = some g → g.ok Try.prog f := Qah (Qah Qax (Qwp Try.func91 (by kernel_rfl) (by kernel_rfl) Qux)) (Qwp Try.func92 (by kernel_rfl) (by kernel_rfl) Qpz)
theorem Zb6 : ∃ o rid, Try.f54.body = some (.seq (dA Try.f54) (.seq (.region rid #[o] false) (dB Try.f54))) ∧ o.guard = none ∧ o.dst = none ∧ ∀ (a : Act) (w : World), (execOp a.eval o).run Try.prog w = .ok (.defer { target := .fn (.func 84) #[], args := #[a.eval (.tmp 3)] }) w :=
 ⟨_, _, rfl, rfl, rfl, fun a w => by simp [execOp, resolve, Act.eval, Deferred.ofValue]⟩
theorem Qot (s : ByteArray) (hs : s.size ≤ 1099511627776) : Qow Try.prog Zek Qas Try.f54 Try.f84 (dA Try.f54) (dB Try.f54) (dC Try.f84) 3 5 [.v (.string s)] (Qac []) 64 (fun y h' => Qbh [] (rrE s) y h') := by
 have p0 : Qai s 0 := ⟨⟨Int.le_refl _, by omega⟩, hs⟩
 refine Eq.mpr (Q26 s) (Qab (fun h => ⟨p0, ?_⟩) fun h => ⟨p0, fun c => ?_⟩)
 · have e0 : rqK s = 0 := by unfold rqK; rw [h]; rfl
   have e1 : rqE s = 0 := by unfold rqE; rw [h]; rfl
   have e2 : rqV s = zRV := by unfold rqV; rw [h]; rfl
   have e3 : rqN s = 0 := by unfold rqN; rw [h]; rfl
   have e4 : rqM s = 0 := by unfold rqM; rw [h]; rfl
   have e5 : Q14 s = (rpP s 0).er := by unfold Q14; rw [h]; rfl
   rw [e0, e1, e2, e3, e4, e5]
   exact ⟨⟨0, 0⟩, ⟨by repeat (first | exact rfl | refine ⟨rfl, ?_⟩ | refine ⟨⟨rfl, rfl, rfl, rfl⟩, ?_⟩), rfl⟩, ⟨rfl, rfl, trivial⟩, ⟨rfl, rfl, trivial⟩, trivial⟩
 · have e0 : rqK s = rdT s 0 1 := by unfold rqK; rw [h]; rfl
   have e1 : rqE s = rdT s (0 + 1 + 4) 1 := by unfold rqE; rw [h]; rfl
   have e2 : rqV s = rpV s 0 := by unfold rqV; rw [h]; rfl
   have e3 : rqN s = rpN s 0 := by unfold rqN; rw [h]; rfl
   have e4 : rqM s = rpM s 0 := by unfold rqM; rw [h]; rfl
   have e5 : Q14 s = 0 := by unfold Q14; rw [h]; rfl
   rw [e0, e1, e2, e3, e4, e5]
   exact ⟨c, ⟨by repeat (first | exact rfl | refine ⟨rfl, ?_⟩ | refine ⟨⟨rfl, rfl, rfl, rfl⟩, ?_⟩), rfl⟩, ⟨rfl, Nat.le_refl _, fun _ _ => rfl⟩, rfl, Nat.le_refl _, fun _ _ => rfl⟩
theorem Quz : Qbt Try.prog 54 Qtw := Qjo fun args bs e hs hp => by
 unfold Qtw at hs
 split at hs
 · rename_i s
   have he := Option.some.inj hs
   subst he
   have hx : s.size ≤ 1099511627776 := hp
   obtain ⟨o, rid, b1, b2, b3, b4⟩ := Zb6
   obtain ⟨o2, rid2, d1, d2, d3, d4⟩ := Qnd
   exact ⟨[], trivial, fun δ w vals ha hr ht => Qk6 hm Qx9 Try.func54 Try.func84 b1 b4 b2 b3 (by kernel_rfl) d1 d4 d2 d3 rfl (by kernel_rfl) (by kernel_rfl) ha hr ht (Qot s hx)⟩
 · cases hs
noncomputable def rbV (s : ByteArray) : BV := bif (bdP s 0).bad then zBV else bdV s 0
noncomputable def rbN (s : ByteArray) : Nat := bif (bdP s 0).bad then 0 else shC s 0
noncomputable def Qhf (s : ByteArray) : Int := bif (bdP s 0).bad then 0 else Qip s 0
noncomputable def Q15 (s : ByteArray) : Int := bif (bdP s 0).bad then (bdP s 0).er else 0
noncomputable def rbE (s : ByteArray) : Eff := .nd (s.size ≤ 1099511627776) Nat 0 (fun c => .tup [boS (rbV s) (.sl 1000 2 0 (rbN s) (rbN s + c)), iV (Qhf s), iV (Q15 s)]) fun c => [(1000, spW (rbN s) (rbN s + c) (Qf6 s (shA 0)))]
noncomputable def Qty (args : List SV) (bs : List Blk) : Option Eff := match args, bs with
 | [.v (.string s)], [] => some (rbE s)
 | _, _ => none
theorem Q28 (s : ByteArray) : (Qow Try.prog Zek (Qsx Qas 4 [(0,fun _ => 64),(4,fun _ => 104),(5,fun _ => 64),(7,fun _ => 80)]) Try.f55 Try.f84 (dA Try.f55) (dB Try.f55) (dC Try.f84) 4 5 [.v (.string s)] (Qac []) 64 (fun y h' => Qbh [] (rbE s) y h')) =
(sel (Pz.bad (bdP s 0)) ((Qai s 0)∧(∃ c : Nat,((((zI = (yI (BV.sk (rbV s))))∧((zI = (yI (BV.sr (rbV s))))∧((zI = (yI (BV.sw (rbV s))))∧((zI = (yI (BV.sh (rbV s))))∧(((zS = zS)∧(((0 : Nat) = 0)∧((((rbN s) : Nat) = 0)∧(((rbN s + c) : Nat) = 0))))∧((zI = (yI (BV.p0v (rbV s))))∧((zF = (yF (BV.p0f (rbV s))))∧((zI = (yI (BV.p1v (rbV s))))∧((zF = (yF (BV.p1f (rbV s))))∧((zI = (yI (BV.p2v (rbV s))))∧((zF = (yF (BV.p2f (rbV s))))∧((zI = (yI (BV.p3v (rbV s))))∧((zF = (yF (BV.p3f (rbV s))))∧((zI = (yI (BV.v0v (rbV s))))∧((zF = (yF (BV.v0f (rbV s))))∧((zI = (yI (BV.v1v (rbV s))))∧((zF = (yF (BV.v1f (rbV s))))∧((zI = (yI (BV.w0v (rbV s))))∧((zF = (yF (BV.w0f (rbV s))))∧((zI = (yI (BV.m0v (rbV s))))∧((zF = (yF (BV.m0f (rbV s))))∧((zI = (yI (BV.m1v (rbV s))))∧((zF = (yF (BV.m1f (rbV s))))∧((zI = (yI (BV.st (rbV s))))∧((zF = (yF (BV.asl (rbV s))))∧((zF = (yF (BV.flt (rbV s))))∧(zI = (yI (BV.bv (rbV s))))))))))))))))))))))))))))))∧((zI = (yI (Qhf s)))∧((yI (Pz.er (bdP s 0))) = (yI (Q15 s)))))∧(((((rbN s) : Nat) = 0)∧((((rbN s + c) : Nat) = 0)∧True))∧True)))) ((Qai s 0)∧(∀ c : Nat,(∃ c_1 : Nat,(((((yI (BV.sk (bdV s 0))) = (yI (BV.sk (rbV s))))∧(((yI (BV.sr (bdV s 0))) = (yI (BV.sr (rbV s))))∧(((yI (BV.sw (bdV s 0))) = (yI (BV.sw (rbV s))))∧(((yI (BV.sh (bdV s 0))) = (yI (BV.sh (rbV s))))∧(((SV.sl 128 2 0 (shC s 0) (shC s 0 + c)) = (SV.sl 128 2 0 (rbN s) (rbN s + c_1)))∧(((yI (BV.p0v (bdV s 0))) = (yI (BV.p0v (rbV s))))∧(((yF (BV.p0f (bdV s 0))) = (yF (BV.p0f (rbV s))))∧(((yI (BV.p1v (bdV s 0))) = (yI (BV.p1v (rbV s))))∧(((yF (BV.p1f (bdV s 0))) = (yF (BV.p1f (rbV s))))∧(((yI (BV.p2v (bdV s 0))) = (yI (BV.p2v (rbV s))))∧(((yF (BV.p2f (bdV s 0))) = (yF (BV.p2f (rbV s))))∧(((yI (BV.p3v (bdV s 0))) = (yI (BV.p3v (rbV s))))∧(((yF (BV.p3f (bdV s 0))) = (yF (BV.p3f (rbV s))))∧(((yI (BV.v0v (bdV s 0))) = (yI (BV.v0v (rbV s))))∧(((yF (BV.v0f (bdV s 0))) = (yF (BV.v0f (rbV s))))∧(((yI (BV.v1v (bdV s 0))) = (yI (BV.v1v (rbV s))))∧(((yF (BV.v1f (bdV s 0))) = (yF (BV.v1f (rbV s))))∧(((yI (BV.w0v (bdV s 0))) = (yI (BV.w0v (rbV s))))∧(((yF (BV.w0f (bdV s 0))) = (yF (BV.w0f (rbV s))))∧(((yI (BV.m0v (bdV s 0))) = (yI (BV.m0v (rbV s))))∧(((yF (BV.m0f (bdV s 0))) = (yF (BV.m0f (rbV s))))∧(((yI (BV.m1v (bdV s 0))) = (yI (BV.m1v (rbV s))))∧(((yF (BV.m1f (bdV s 0))) = (yF (BV.m1f (rbV s))))∧(((yI (BV.st (bdV s 0))) = (yI (BV.st (rbV s))))∧(((yF (BV.asl (bdV s 0))) = (yF (BV.asl (rbV s))))∧(((yF (BV.flt (bdV s 0))) = (yF (BV.flt (rbV s))))∧((yI (BV.bv (bdV s 0))) = (yI (BV.bv (rbV s))))))))))))))))))))))))))))))∧(((yI (Qip s 0)) = (yI (Qhf s)))∧(zI = (yI (Q15 s)))))∧((((shC s 0) : Nat) = (rbN s))∧((((rbN s + c_1) : Nat) ≤ (shC s 0 + c))∧(∀ i : Nat,(((i : Nat) < (rbN s))→([(yI (Prod.fst (Qf6 s 26 i))),(yI (Prod.snd (Qf6 s 26 i)))] = [(yI (Prod.fst (Qf6 s 26 i))),(yI (Prod.snd (Qf6 s 26 i)))])))))))))) := by kernel_rfl
theorem Zb7 : ∃ o rid, Try.f55.body = some (.seq (dA Try.f55) (.seq (.region rid #[o] false) (dB Try.f55))) ∧ o.guard = none ∧ o.dst = none ∧ ∀ (a : Act) (w : World), (execOp a.eval o).run Try.prog w = .ok (.defer { target := .fn (.func 84) #[], args := #[a.eval (.tmp 4)] }) w :=
 ⟨_, _, rfl, rfl, rfl, fun a w => by simp [execOp, resolve, Act.eval, Deferred.ofValue]⟩
theorem Qov (s : ByteArray) (hs : s.size ≤ 1099511627776) : Qow Try.prog Zek (Qsx Qas 4 [(0, fun _ => 64), (4, fun _ => 104), (5, fun _ => 64), (7, fun _ => 80)]) Try.f55 Try.f84 (dA Try.f55) (dB Try.f55) (dC Try.f84) 4 5 [.v (.string s)] (Qac []) 64 (fun y h' => Qbh [] (rbE s) y h') := by
 have p0 : Qai s 0 := ⟨⟨Int.le_refl _, by omega⟩, hs⟩
 refine Eq.mpr (Q28 s) (Qab (fun h => ⟨p0, ?_⟩) fun h => ⟨p0, fun c => ?_⟩)
 · have e0 : rbV s = zBV := by unfold rbV; rw [h]; rfl
   have e1 : rbN s = 0 := by unfold rbN; rw [h]; rfl
   have e2 : Qhf s = 0 := by unfold Qhf; rw [h]; rfl
   have e3 : Q15 s = (bdP s 0).er := by unfold Q15; rw [h]; rfl
   rw [e0, e1, e2, e3]
   exact ⟨0, ⟨by repeat (first | exact rfl | refine ⟨rfl, ?_⟩ | refine ⟨⟨rfl, rfl, rfl, rfl⟩, ?_⟩), rfl, rfl⟩, ⟨rfl, rfl, trivial⟩, trivial⟩
 · have e0 : rbV s = bdV s 0 := by unfold rbV; rw [h]; rfl
   have e1 : rbN s = shC s 0 := by unfold rbN; rw [h]; rfl
   have e2 : Qhf s = Qip s 0 := by unfold Qhf; rw [h]; rfl
   have e3 : Q15 s = 0 := by unfold Q15; rw [h]; rfl
   rw [e0, e1, e2, e3]
   exact ⟨c, ⟨by repeat (first | exact rfl | refine ⟨rfl, ?_⟩ | refine ⟨⟨rfl, rfl, rfl, rfl⟩, ?_⟩), rfl, rfl⟩, rfl, Nat.le_refl _, fun _ _ => rfl⟩
theorem Qu1 : Qbt Try.prog 55 Qty := Qjo fun args bs e hs hp => by
 unfold Qty at hs
 split at hs
 · rename_i s
   have he := Option.some.inj hs
   subst he
   have hx : s.size ≤ 1099511627776 := hp
   obtain ⟨o, rid, b1, b2, b3, b4⟩ := Zb7
   obtain ⟨o2, rid2, d1, d2, d3, d4⟩ := Qnd
   exact ⟨[], trivial, fun δ w vals ha hr ht => Qk6 hm Qx9 Try.func55 Try.func84 b1 b4 b2 b3 (by kernel_rfl) d1 d4 d2 d3 rfl (by kernel_rfl) (by kernel_rfl) ha hr ht (Qov s hx)⟩
 · cases hs
def poB (b : BV) : List Int := Qe3 b.p0v b.p0f b.p1v b.p1f ++ (Qdu b.p2v b.p2f ++ Qdu b.p3v b.p3f)
def voB (b : BV) : List Int := Qe3 b.v0v b.v0f b.v1v b.v1f
def wmB (b : BV) : List Int := Qdu b.w0v b.w0f ++ Qdu b.m0v b.m0f ++ Qdu b.m1v b.m1f
def bmk (b : BV) : Int := (bif b.asl then 1 else 0) + (bif b.flt then 2 else 0)
def boT (b : BV) : List Int := poB b ++ (voB b ++ (wmB b ++ (c4 b.st ++ ([bmk b] ++ i8 b.bv))))
def boL (b : BV) (n : Nat) (x y : Nat → Int) : List Int := shL b.sk b.sr b.sw b.sh n x y ++ boT b
def boN (n : Nat) : Nat := shN n + 94
def Qd4 (b : BV) (n : Nat) : Bool := Qc5 b.sk n || ((Qbq b.p0v || Qbq b.p1v || (Qbq b.p2v || Qbq b.p3v)) || ((Qbq b.v0v || Qbq b.v1v) || ((Qbq b.w0v || Qbq b.m0v || Qbq b.m1v) || (Qal b.st 2147483647 || Qal b.bv 1099511627776))))
def Qx6 (b : BV) : Prop := I64 b.sk ∧ I64 b.sr ∧ I64 b.sw ∧ I64 b.sh ∧ I64 b.p0v ∧ I64 b.p1v ∧ I64 b.p2v ∧ I64 b.p3v ∧ I64 b.v0v ∧ I64 b.v1v ∧ I64 b.w0v ∧ I64 b.m0v ∧ I64 b.m1v ∧ I64 b.st ∧ I64 b.bv
def Qfz (c : RV) : Prop := I64 c.id ∧ I64 c.bs ∧ I64 c.bg ∧ I64 c.ver ∧ I64 c.gr ∧ I64 c.htv ∧ I64 c.x0v ∧ I64 c.x1v ∧ I64 c.cnt ∧ Qx6 c.o
def NB2 : Nat := 800000000
def Zh9 : Qb6 := Qap (Qap Q77 118 (Qca true Qnt)) 97 (Qca true Qvm)
@[reducible] noncomputable def Qhm (n0 : Nat) (g : Nat→Int) (o : BV) (n : Nat) (x : Nat→Int) (y : Nat→Int) := (fun i => SE.Qad [SV.v (.int .u8 (apG (n0 + shN n + 36 + 18) (fun i => SE.Qad [SV.v (.int .u8 (apG (n0 + shN n + 36) (fun i => SE.Qad [SV.v (.int .u8 (apG (n0 + shN n) (fun i => SE.Qad [SV.v (.int .u8 (apG n0 (fun i => SE.Qad [SV.v (.int .u8 (g i))]) (shL (BV.sk o) (BV.sr o) (BV.sw o) (BV.sh o) n (fun i => pX [SV.v (.int .i64 (x (0 + i))),SV.v (.int .i64 (y (0 + i)))]) fun i => pY [SV.v (.int .i64 (x (0 + i))),SV.v (.int .i64 (y (0 + i)))]) i))]) (Qe3 (BV.p0v o) (BV.p0f o) (BV.p1v o) (BV.p1f o)++(Qdu (BV.p2v o) (BV.p2f o)++Qdu (BV.p3v o) (BV.p3f o))) i))]) (Qe3 (BV.v0v o) (BV.v0f o) (BV.v1v o) (BV.v1f o)) i))]) (Qft (fun i => nV [SV.v (.int .i64 (bop (Nat.beq (0 + i) 0) (BV.w0v o) (bop (Nat.beq (0 + i) 1) (BV.m0v o) (BV.m1v o)))),SV.v (.bool (bop (Nat.beq (0 + i) 0) (BV.w0f o) (bop (Nat.beq (0 + i) 1) (BV.m0f o) (BV.m1f o))))]) (fun i => nF [SV.v (.int .i64 (bop (Nat.beq (0 + i) 0) (BV.w0v o) (bop (Nat.beq (0 + i) 1) (BV.m0v o) (BV.m1v o)))),SV.v (.bool (bop (Nat.beq (0 + i) 0) (BV.w0f o) (bop (Nat.beq (0 + i) 1) (BV.m0f o) (BV.m1f o))))]) 3) i))])
@[reducible] noncomputable def Qit (b : Bool) (o : BV) (n : Nat) := ((SV.v (.bool (b||Qc5 (BV.sk o) n||(Qbq (BV.p0v o)||Qbq (BV.p1v o)||(Qbq (BV.p2v o)||Qbq (BV.p3v o)))||(Qbq (BV.v0v o)||Qbq (BV.v1v o))||Qbv (fun i => nV [SV.v (.int .i64 (bop (Nat.beq (0 + i) 0) (BV.w0v o) (bop (Nat.beq (0 + i) 1) (BV.m0v o) (BV.m1v o)))),SV.v (.bool (bop (Nat.beq (0 + i) 0) (BV.w0f o) (bop (Nat.beq (0 + i) 1) (BV.m0f o) (BV.m1f o))))]) 3||Qal (BV.st o) 2147483647||false||Qal (BV.bv o) 1099511627776))) = (SV.v (.bool (b||Qd4 o n))))
@[reducible] noncomputable def Qew (n0 : Nat) (g : Nat→Int) (o : BV) (n : Nat) (x : Nat→Int) (y : Nat→Int) := (fun i => SE.Qad [SV.v (.int .u8 (apG (n0 + shN n + 36 + 18 + 27) (Qhm n0 g o n x y) (be (BV.st o % 4294967296) 4) i))])
@[reducible] noncomputable def Qks (n0 : Nat) (g : Nat→Int) (o : BV) (n : Nat) (x : Nat→Int) (y : Nat→Int) := (fun i => SE.Qad [SV.v (.int .u8 (apG n0 (fun i => SE.Qad [SV.v (.int .u8 (g i))]) (shL (BV.sk o) (BV.sr o) (BV.sw o) (BV.sh o) n (fun i => pX [SV.v (.int .i64 (x (0 + i))),SV.v (.int .i64 (y (0 + i)))]) fun i => pY [SV.v (.int .i64 (x (0 + i))),SV.v (.int .i64 (y (0 + i)))]) i))])
theorem Q9g (b : Bool) (n0 : Nat) (g : Nat→Int) (c : Nat) (o : BV) (e n m cap xt : Nat) (x y : Nat→Int) (wh : Bool) : (Qa6 Try.prog Zh9 Qas Try.f93 [.vp 0 0,boS o (.sl 2 2 0 n cap)] (Qac [wB (some b) false (.sl 1 1 0 n0 c),bG n0 g c,ptB e m x y xt wh]) 64 (fun y' h' => Qbh [wB (some b) false (.sl 1 1 0 n0 c),bG n0 g c,ptB e m x y xt wh] (apE (.used (some b) n0 g c True) 0 True (boN n) (boL o n x y) (Qd4 o n)) y' h')) =
((((Qaf n0 c {elem:=5,size:=1,rw:=true,lock:=false,lit:=false,flat:=true,n:=n0,row:=fun i => [yU (g i)],ext:=c})∧((n0 : Nat) ≤ NB1))∧((((I64 (BV.sk o))∧((I64 (BV.sr o))∧((I64 (BV.sw o))∧(I64 (BV.sh o)))))∧(((n : Nat) = n)∧((n : Nat) < 100)))∧(∀ i : Nat,(((i : Nat) < n)→(Qht [yI (x (0 + i)),yI (y (0 + i))])))))∧(∀ c_1 : Nat,((((Qaf (n0 + shN n) (n0 + shN n + c_1) {elem:=5,size:=1,rw:=true,lock:=false,lit:=false,flat:=true,n:=n0 + shN n,row:=fun i => [yU (apG n0 (fun i => SE.Qad [yU (g i)]) (shL (BV.sk o) (BV.sr o) (BV.sw o) (BV.sh o) n (fun i => pX [yI (x (0 + i)),yI (y (0 + i))]) fun i => pY [yI (x (0 + i)),yI (y (0 + i))]) i)],ext:=n0 + shN n + c_1})∧(((n0 + shN n) : Nat) ≤ NB0))∧((I64 (BV.p0v o))∧((I64 (BV.p1v o))∧((I64 (BV.p2v o))∧(I64 (BV.p3v o))))))∧(∀ c_2 : Nat,((((Qaf (n0 + shN n + 36) (n0 + shN n + 36 + c_2) {elem:=5,size:=1,rw:=true,lock:=false,lit:=false,flat:=true,n:=n0 + shN n + 36,row:=fun i => [yU (apG (n0 + shN n) (Qks n0 g o n x y) (Qe3 (BV.p0v o) (BV.p0f o) (BV.p1v o) (BV.p1f o)++(Qdu (BV.p2v o) (BV.p2f o)++Qdu (BV.p3v o) (BV.p3f o))) i)],ext:=n0 + shN n + 36 + c_2})∧(((n0 + shN n + 36) : Nat) ≤ NB0))∧((I64 (BV.v0v o))∧(I64 (BV.v1v o))))∧(∀ c_3 : Nat,((((Qaf (n0 + shN n + 36 + 18) (n0 + shN n + 36 + 18 + c_3) {elem:=5,size:=1,rw:=true,lock:=false,lit:=false,flat:=true,n:=n0 + shN n + 36 + 18,row:=fun i => [yU (apG (n0 + shN n + 36) (fun i => SE.Qad [yU (apG (n0 + shN n) (Qks n0 g o n x y) (Qe3 (BV.p0v o) (BV.p0f o) (BV.p1v o) (BV.p1f o)++(Qdu (BV.p2v o) (BV.p2f o)++Qdu (BV.p3v o) (BV.p3f o))) i)]) (Qe3 (BV.v0v o) (BV.v0f o) (BV.v1v o) (BV.v1f o)) i)],ext:=n0 + shN n + 36 + 18 + c_3})∧(((n0 + shN n + 36 + 18) : Nat) ≤ NB0))∧(((3 : Nat) = 3)∧(((1 : Nat) ≤ 3)∧(((3 : Nat) ≤ 100)∧(∀ i : Nat,(((i : Nat) < 3)→(Qn7 [yI (bop (Nat.beq (0 + i) 0) (BV.w0v o) (bop (Nat.beq (0 + i) 1) (BV.m0v o) (BV.m1v o))),yF (bop (Nat.beq (0 + i) 0) (BV.w0f o) (bop (Nat.beq (0 + i) 1) (BV.m0f o) (BV.m1f o)))])))))))∧(∀ c_4 : Nat,((((Qaf (n0 + shN n + 36 + 18 + 27) (n0 + shN n + 36 + 18 + 27 + c_4) {elem:=5,size:=1,rw:=true,lock:=false,lit:=false,flat:=true,n:=n0 + shN n + 36 + 18 + 27,row:=fun i => [yU (apG (n0 + shN n + 36 + 18) (fun i => SE.Qad [yU (apG (n0 + shN n + 36) (fun i => SE.Qad [yU (apG (n0 + shN n) (Qks n0 g o n x y) (Qe3 (BV.p0v o) (BV.p0f o) (BV.p1v o) (BV.p1f o)++(Qdu (BV.p2v o) (BV.p2f o)++Qdu (BV.p3v o) (BV.p3f o))) i)]) (Qe3 (BV.v0v o) (BV.v0f o) (BV.v1v o) (BV.v1f o)) i)]) (Qft (fun i => nV [yI (bop (Nat.beq (0 + i) 0) (BV.w0v o) (bop (Nat.beq (0 + i) 1) (BV.m0v o) (BV.m1v o))),yF (bop (Nat.beq (0 + i) 0) (BV.w0f o) (bop (Nat.beq (0 + i) 1) (BV.m0f o) (BV.m1f o)))]) (fun i => nF [yI (bop (Nat.beq (0 + i) 0) (BV.w0v o) (bop (Nat.beq (0 + i) 1) (BV.m0v o) (BV.m1v o))),yF (bop (Nat.beq (0 + i) 0) (BV.w0f o) (bop (Nat.beq (0 + i) 1) (BV.m0f o) (BV.m1f o)))]) 3) i)],ext:=n0 + shN n + 36 + 18 + 27 + c_4})∧(((n0 + shN n + 36 + 18 + 27) : Nat) ≤ M0))∧(I64 (BV.st o)))∧(∀ c_5 : Nat,(sel (BV.asl o) (sel (BV.flt o) ((((Qaf (n0 + shN n + 36 + 18 + 27 + 4) (n0 + shN n + 36 + 18 + 27 + 4 + c_5) {elem:=5,size:=1,rw:=true,lock:=false,lit:=false,flat:=true,n:=n0 + shN n + 36 + 18 + 27 + 4,row:=fun i => [yU (apG (n0 + shN n + 36 + 18 + 27) (Qhm n0 g o n x y) (be (BV.st o % 4294967296) 4) i)],ext:=n0 + shN n + 36 + 18 + 27 + 4 + c_5})∧(((n0 + shN n + 36 + 18 + 27 + 4) : Nat) ≤ M0))∧(I64 3))∧(∀ c_6 : Nat,((((Qaf (n0 + shN n + 36 + 18 + 27 + 4 + 1) (n0 + shN n + 36 + 18 + 27 + 4 + 1 + c_6) {elem:=5,size:=1,rw:=true,lock:=false,lit:=false,flat:=true,n:=n0 + shN n + 36 + 18 + 27 + 4 + 1,row:=fun i => [yU (apG (n0 + shN n + 36 + 18 + 27 + 4) (Qew n0 g o n x y) [3] i)],ext:=n0 + shN n + 36 + 18 + 27 + 4 + 1 + c_6})∧(((n0 + shN n + 36 + 18 + 27 + 4 + 1) : Nat) ≤ M0))∧(I64 (BV.bv o)))∧(∀ c_7 : Nat,(∃ c_8 : Nat,(True∧((((1 : Nat) = 1)∧(((1 : Nat) ≤ 1)∧(((SV.sl 440 1 0 (n0 + shN n + 36 + 18 + 27 + 4 + 1 + 8) (n0 + shN n + 36 + 18 + 27 + 4 + 1 + 8 + c_7)) = (SV.sl 440 1 0 (n0 + boN n) (n0 + boN n + c_8)))∧(Qit b o n))))∧((((n0 + shN n + 36 + 18 + 27 + 4 + 1 + 8) : Nat) = (n0 + boN n))∧((((n0 + boN n + c_8) : Nat) ≤ (n0 + shN n + 36 + 18 + 27 + 4 + 1 + 8 + c_7))∧(∀ i : Nat,(((i : Nat) < (n0 + boN n))→([(yU (apG (n0 + shN n + 36 + 18 + 27 + 4 + 1) (fun i => SE.Qad [yU (apG (n0 + shN n + 36 + 18 + 27 + 4) (Qew n0 g o n x y) [3] i)]) (be (BV.bv o % 18446744073709551616) 8) i))] = [(yU (apG n0 g (boL o n x y) i))])))))))))))) ((((Qaf (n0 + shN n + 36 + 18 + 27 + 4) (n0 + shN n + 36 + 18 + 27 + 4 + c_5) {elem:=5,size:=1,rw:=true,lock:=false,lit:=false,flat:=true,n:=n0 + shN n + 36 + 18 + 27 + 4,row:=fun i => [yU (apG (n0 + shN n + 36 + 18 + 27) (Qhm n0 g o n x y) (be (BV.st o % 4294967296) 4) i)],ext:=n0 + shN n + 36 + 18 + 27 + 4 + c_5})∧(((n0 + shN n + 36 + 18 + 27 + 4) : Nat) ≤ M0))∧(I64 1))∧(∀ c_6 : Nat,((((Qaf (n0 + shN n + 36 + 18 + 27 + 4 + 1) (n0 + shN n + 36 + 18 + 27 + 4 + 1 + c_6) {elem:=5,size:=1,rw:=true,lock:=false,lit:=false,flat:=true,n:=n0 + shN n + 36 + 18 + 27 + 4 + 1,row:=fun i => [yU (apG (n0 + shN n + 36 + 18 + 27 + 4) (Qew n0 g o n x y) [1] i)],ext:=n0 + shN n + 36 + 18 + 27 + 4 + 1 + c_6})∧(((n0 + shN n + 36 + 18 + 27 + 4 + 1) : Nat) ≤ M0))∧(I64 (BV.bv o)))∧(∀ c_7 : Nat,(∃ c_8 : Nat,(True∧((((1 : Nat) = 1)∧(((1 : Nat) ≤ 1)∧(((SV.sl 440 1 0 (n0 + shN n + 36 + 18 + 27 + 4 + 1 + 8) (n0 + shN n + 36 + 18 + 27 + 4 + 1 + 8 + c_7)) = (SV.sl 440 1 0 (n0 + boN n) (n0 + boN n + c_8)))∧(Qit b o n))))∧((((n0 + shN n + 36 + 18 + 27 + 4 + 1 + 8) : Nat) = (n0 + boN n))∧((((n0 + boN n + c_8) : Nat) ≤ (n0 + shN n + 36 + 18 + 27 + 4 + 1 + 8 + c_7))∧(∀ i : Nat,(((i : Nat) < (n0 + boN n))→([(yU (apG (n0 + shN n + 36 + 18 + 27 + 4 + 1) (fun i => SE.Qad [yU (apG (n0 + shN n + 36 + 18 + 27 + 4) (Qew n0 g o n x y) [1] i)]) (be (BV.bv o % 18446744073709551616) 8) i))] = [(yU (apG n0 g (boL o n x y) i))]))))))))))))) (sel (BV.flt o) ((((Qaf (n0 + shN n + 36 + 18 + 27 + 4) (n0 + shN n + 36 + 18 + 27 + 4 + c_5) {elem:=5,size:=1,rw:=true,lock:=false,lit:=false,flat:=true,n:=n0 + shN n + 36 + 18 + 27 + 4,row:=fun i => [yU (apG (n0 + shN n + 36 + 18 + 27) (Qhm n0 g o n x y) (be (BV.st o % 4294967296) 4) i)],ext:=n0 + shN n + 36 + 18 + 27 + 4 + c_5})∧(((n0 + shN n + 36 + 18 + 27 + 4) : Nat) ≤ M0))∧(I64 2))∧(∀ c_6 : Nat,((((Qaf (n0 + shN n + 36 + 18 + 27 + 4 + 1) (n0 + shN n + 36 + 18 + 27 + 4 + 1 + c_6) {elem:=5,size:=1,rw:=true,lock:=false,lit:=false,flat:=true,n:=n0 + shN n + 36 + 18 + 27 + 4 + 1,row:=fun i => [yU (apG (n0 + shN n + 36 + 18 + 27 + 4) (Qew n0 g o n x y) [2] i)],ext:=n0 + shN n + 36 + 18 + 27 + 4 + 1 + c_6})∧(((n0 + shN n + 36 + 18 + 27 + 4 + 1) : Nat) ≤ M0))∧(I64 (BV.bv o)))∧(∀ c_7 : Nat,(∃ c_8 : Nat,(True∧((((1 : Nat) = 1)∧(((1 : Nat) ≤ 1)∧(((SV.sl 440 1 0 (n0 + shN n + 36 + 18 + 27 + 4 + 1 + 8) (n0 + shN n + 36 + 18 + 27 + 4 + 1 + 8 + c_7)) = (SV.sl 440 1 0 (n0 + boN n) (n0 + boN n + c_8)))∧(Qit b o n))))∧((((n0 + shN n + 36 + 18 + 27 + 4 + 1 + 8) : Nat) = (n0 + boN n))∧((((n0 + boN n + c_8) : Nat) ≤ (n0 + shN n + 36 + 18 + 27 + 4 + 1 + 8 + c_7))∧(∀ i : Nat,(((i : Nat) < (n0 + boN n))→([(yU (apG (n0 + shN n + 36 + 18 + 27 + 4 + 1) (fun i => SE.Qad [yU (apG (n0 + shN n + 36 + 18 + 27 + 4) (Qew n0 g o n x y) [2] i)]) (be (BV.bv o % 18446744073709551616) 8) i))] = [(yU (apG n0 g (boL o n x y) i))])))))))))))) ((((Qaf (n0 + shN n + 36 + 18 + 27 + 4) (n0 + shN n + 36 + 18 + 27 + 4 + c_5) {elem:=5,size:=1,rw:=true,lock:=false,lit:=false,flat:=true,n:=n0 + shN n + 36 + 18 + 27 + 4,row:=fun i => [yU (apG (n0 + shN n + 36 + 18 + 27) (Qhm n0 g o n x y) (be (BV.st o % 4294967296) 4) i)],ext:=n0 + shN n + 36 + 18 + 27 + 4 + c_5})∧(((n0 + shN n + 36 + 18 + 27 + 4) : Nat) ≤ M0))∧(I64 0))∧(∀ c_6 : Nat,((((Qaf (n0 + shN n + 36 + 18 + 27 + 4 + 1) (n0 + shN n + 36 + 18 + 27 + 4 + 1 + c_6) {elem:=5,size:=1,rw:=true,lock:=false,lit:=false,flat:=true,n:=n0 + shN n + 36 + 18 + 27 + 4 + 1,row:=fun i => [yU (apG (n0 + shN n + 36 + 18 + 27 + 4) (Qew n0 g o n x y) [0] i)],ext:=n0 + shN n + 36 + 18 + 27 + 4 + 1 + c_6})∧(((n0 + shN n + 36 + 18 + 27 + 4 + 1) : Nat) ≤ M0))∧(I64 (BV.bv o)))∧(∀ c_7 : Nat,(∃ c_8 : Nat,(True∧((((1 : Nat) = 1)∧(((1 : Nat) ≤ 1)∧(((SV.sl 440 1 0 (n0 + shN n + 36 + 18 + 27 + 4 + 1 + 8) (n0 + shN n + 36 + 18 + 27 + 4 + 1 + 8 + c_7)) = (SV.sl 440 1 0 (n0 + boN n) (n0 + boN n + c_8)))∧(Qit b o n))))∧((((n0 + shN n + 36 + 18 + 27 + 4 + 1 + 8) : Nat) = (n0 + boN n))∧((((n0 + boN n + c_8) : Nat) ≤ (n0 + shN n + 36 + 18 + 27 + 4 + 1 + 8 + c_7))∧(∀ i : Nat,(((i : Nat) < (n0 + boN n))→([(yU (apG (n0 + shN n + 36 + 18 + 27 + 4 + 1) (fun i => SE.Qad [yU (apG (n0 + shN n + 36 + 18 + 27 + 4) (Qew n0 g o n x y) [0] i)]) (be (BV.bv o % 18446744073709551616) 8) i))] = [(yU (apG n0 g (boL o n x y) i))])))))))))))))))))))))))) := by kernel_rfl
def Zac (args : List SV) (bs : List Blk) : Option Eff := match args with
 | [.vp 0 0, .agg l] => match Qii l, bs with
   | some (o, .sl 2 2 0 n _), [B, D, S] => match Qmt [B, D] with
     | some (.used (some b) n0 g c p) => bif okB S then some (apE (.used (some b) n0 g c p) NB2 (Qx6 o ∧ Qbg n S ∧ n < 100) (boN n) (boL o n (gX S) (gY S)) (Qd4 o n)) else none
     | _ => none
   | _, _ => none
 | _ => none
def hsL (u v : Nat → Int) : Nat → List Int
 | 0 => []
 | n + 1 => hsL u v n ++ hL (u n) (v n)
def Qwk (u v : Nat → Int) : Nat → Bool
 | 0 => false
 | n + 1 => Qwk u v n || Qei (u n) (v n)
def rT1 (c : RV) (n : Nat) (x y : Nat → Int) (m : Nat) (u v : Nat → Int) : List Int := hL c.bs c.bg ++ i8 c.ver
def rN1 (n m : Nat) : Nat := 16
def rB1 (c : RV) (n : Nat) (m : Nat) (u v : Nat → Int) : Bool := Qei c.bs c.bg || Qal c.ver 1099511627776
def rT2 (c : RV) (n : Nat) (x y : Nat → Int) (m : Nat) (u v : Nat → Int) : List Int := hL c.bs c.bg
def rN2 (n m : Nat) : Nat := 8
def rB2 (c : RV) (n : Nat) (m : Nat) (u v : Nat → Int) : Bool := Qei c.bs c.bg
def rT3 (c : RV) (n : Nat) (x y : Nat → Int) (m : Nat) (u v : Nat → Int) : List Int := hL c.bs c.bg ++ i8 c.ver
def rN3 (n m : Nat) : Nat := 16
def rB3 (c : RV) (n : Nat) (m : Nat) (u v : Nat → Int) : Bool := Qei c.bs c.bg || Qal c.ver 1099511627776
def rT4 (c : RV) (n : Nat) (x y : Nat → Int) (m : Nat) (u v : Nat → Int) : List Int := hL c.bs c.bg ++ (i8 c.ver ++ c4 c.gr)
def rN4 (n m : Nat) : Nat := 20
def rB4 (c : RV) (n : Nat) (m : Nat) (u v : Nat → Int) : Bool := Qei c.bs c.bg || (Qal c.ver 1099511627776 || Qal c.gr 2147483647)
def rT5 (c : RV) (n : Nat) (x y : Nat → Int) (m : Nat) (u v : Nat → Int) : List Int := c4 c.gr
def rN5 (n m : Nat) : Nat := 4
def rB5 (c : RV) (n : Nat) (m : Nat) (u v : Nat → Int) : Bool := Qal c.gr 2147483647
def rT6 (c : RV) (n : Nat) (x y : Nat → Int) (m : Nat) (u v : Nat → Int) : List Int := c4 c.gr
def rN6 (n m : Nat) : Nat := 4
def rB6 (c : RV) (n : Nat) (m : Nat) (u v : Nat → Int) : Bool := Qal c.gr 2147483647
def rT7 (c : RV) (n : Nat) (x y : Nat → Int) (m : Nat) (u v : Nat → Int) : List Int := hL c.bs c.bg ++ boL c.o n x y
def rN7 (n m : Nat) : Nat := 8 + boN n
def rB7 (c : RV) (n : Nat) (m : Nat) (u v : Nat → Int) : Bool := Qei c.bs c.bg || Qd4 c.o n
def rT8 (c : RV) (n : Nat) (x y : Nat → Int) (m : Nat) (u v : Nat → Int) : List Int := [(m : Int) % 256] ++ hsL u v m
def rN8 (n m : Nat) : Nat := 1 + 8 * m
def rB8 (c : RV) (n : Nat) (m : Nat) (u v : Nat → Int) : Bool := Qal (m : Int) 64 || Qwk u v m
def rT9 (c : RV) (n : Nat) (x y : Nat → Int) (m : Nat) (u v : Nat → Int) : List Int := hL c.bs c.bg ++ (flB c.hit ++ (Qdu c.htv c.htf ++ Qdu c.x0v c.x0f ++ Qdu c.x1v c.x1f))
def rN9 (n m : Nat) : Nat := 36
def rB9 (c : RV) (n : Nat) (m : Nat) (u v : Nat → Int) : Bool := Qei c.bs c.bg || (Qbq c.htv || Qbq c.x0v || Qbq c.x1v)
def Q6n (c : RV) (n : Nat) (x y : Nat → Int) (m : Nat) (u v : Nat → Int) : List Int := c4 c.cnt
def Q16 (n m : Nat) : Nat := 4
def Q4q (c : RV) (n : Nat) (m : Nat) (u v : Nat → Int) : Bool := Qal c.cnt 2147483647
def rNK (k e : Int) (n m : Nat) : Nat := bif e == 0 then (bif decide (k = 1) then rN1 n m else (bif decide (k = 2) then rN2 n m else (bif decide (k = 3) then rN3 n m else (bif decide (k = 4) then rN4 n m else (bif decide (k = 5) then rN5 n m else (bif decide (k = 6) then rN6 n m else (bif decide (k = 7) then rN7 n m else (bif decide (k = 8) then rN8 n m else (bif decide (k = 9) then rN9 n m else (bif decide (k = 10) then Q16 n m else (0))))))))))) else (bif e == 14 then 8 else 0)
def rTK (k e : Int) (c : RV) (n : Nat) (x y : Nat → Int) (m : Nat) (u v : Nat → Int) : List Int := bif e == 0 then (bif decide (k = 1) then rT1 c n x y m u v else (bif decide (k = 2) then rT2 c n x y m u v else (bif decide (k = 3) then rT3 c n x y m u v else (bif decide (k = 4) then rT4 c n x y m u v else (bif decide (k = 5) then rT5 c n x y m u v else (bif decide (k = 6) then rT6 c n x y m u v else (bif decide (k = 7) then rT7 c n x y m u v else (bif decide (k = 8) then rT8 c n x y m u v else (bif decide (k = 9) then rT9 c n x y m u v else (bif decide (k = 10) then Q6n c n x y m u v else ([]))))))))))) else (bif e == 14 then i8 c.ver else [])
def rBK (k e : Int) (c : RV) (n m : Nat) (u v : Nat → Int) : Bool := bif e == 0 then (bif decide (k = 1) then rB1 c n m u v else (bif decide (k = 2) then rB2 c n m u v else (bif decide (k = 3) then rB3 c n m u v else (bif decide (k = 4) then rB4 c n m u v else (bif decide (k = 5) then rB5 c n m u v else (bif decide (k = 6) then rB6 c n m u v else (bif decide (k = 7) then rB7 c n m u v else (bif decide (k = 8) then rB8 c n m u v else (bif decide (k = 9) then rB9 c n m u v else (bif decide (k = 10) then Q4q c n m u v else (false))))))))))) else (bif e == 14 then Qal c.ver 1099511627776 else false)
def rpL (k e : Int) (c : RV) (T : List Int) : List Int := [k % 256] ++ (c4 c.id ++ ([e % 256] ++ T))
def rpB (e : Int) (c : RV) (b : Bool) : Bool := Qal c.id 2147483647 || (Qal e 14 || b)
def Qms : Qb6 := Qap (Qap Q77 118 (Qca true Qnt)) 93 (Qca true Zac)
noncomputable def Q7l (b : Bool) (L : List Int) (m : Nat) (u v : Nat → Int) : Nat → Option LoopSpec := Qjs Qas Try.f78 1 NX (fun z => z.i ≤ m ∧ 7 + 8 * z.i ≤ z.c) (fun z => m - z.i) [(90, fun z => .v (.int .i64 z.i))] [(0, fun z => wB (some (b || Qwk u v z.i)) false (.sl 40 1 0 (7 + 8 * z.i) z.c))] [(40, fun z => bG (7 + 8 * z.i) (fun i => (L ++ hsL u v z.i).getD i 0) z.c, Qw4 0 0)]
theorem Zir (b : Bool) (c : RV) (e1 n cap xt : Nat) (x y : Nat→Int) (wh : Bool) (e2 m cp xt2 : Nat) (u v : Nat→Int) (wh2 : Bool) : (Qa6 Try.prog Qms Qas Try.f78 [.vp 0 0,reS 1 0 c (.sl 1 2 0 n cap) (.sl 2 2 0 m cp)] (Qac [wB (some b) true Qa8,ptB e1 n x y xt wh,ptB e2 m u v xt2 wh2]) 64 (fun y' h' => Qbh [wB (some b) true Qa8,ptB e1 n x y xt wh,ptB e2 m u v xt2 wh2] (apE (.fresh (some b)) 0 True (6 + rN1 n m) (rpL 1 0 c (rT1 c n x y m u v)) (rpB 0 c (rB1 c n m u v))) y' h')) =
((I64 1)∧(∀ c_1 : Nat,((((Qaf 1 (1 + c_1) {elem:=5,size:=1,rw:=true,lock:=false,lit:=false,flat:=true,n:=1,row:=fun i => [yU ((fun i => List.getD [1] i 0) i)],ext:=1 + c_1})∧((1 : Nat) ≤ M0))∧(I64 (RV.id c)))∧(∀ c_2 : Nat,((((Qaf 5 (5 + c_2) {elem:=5,size:=1,rw:=true,lock:=false,lit:=false,flat:=true,n:=5,row:=fun i => [yU (apG 1 (fun i => SE.Qad [yU ((fun i => List.getD [1] i 0) i)]) (be (RV.id c % 4294967296) 4) i)],ext:=5 + c_2})∧((5 : Nat) ≤ M0))∧(I64 0))∧(∀ c_3 : Nat,((((Qaf 6 (6 + c_3) {elem:=5,size:=1,rw:=true,lock:=false,lit:=false,flat:=true,n:=6,row:=fun i => [yU (apG 5 (fun i => SE.Qad [yU (apG 1 (fun i => SE.Qad [yU ((fun i => List.getD [1] i 0) i)]) (be (RV.id c % 4294967296) 4) i)]) [0] i)],ext:=6 + c_3})∧((6 : Nat) ≤ NB0))∧((I64 (RV.bs c))∧(I64 (RV.bg c))))∧(∀ c_4 : Nat,((((Qaf 14 (14 + c_4) {elem:=5,size:=1,rw:=true,lock:=false,lit:=false,flat:=true,n:=14,row:=fun i => [yU (apG 6 (fun i => SE.Qad [yU (apG 5 (fun i => SE.Qad [yU (apG 1 (fun i => SE.Qad [yU ((fun i => List.getD [1] i 0) i)]) (be (RV.id c % 4294967296) 4) i)]) [0] i)]) (c4 (RV.bs c)++c4 (RV.bg c)) i)],ext:=14 + c_4})∧((14 : Nat) ≤ M0))∧(I64 (RV.ver c)))∧(∀ c_5 : Nat,(∃ c_6 : Nat,(True∧((((1 : Nat) = 1)∧(((1 : Nat) ≤ 1)∧(((SV.sl 368 1 0 22 (22 + c_5)) = (SV.sl 368 1 0 22 (6 + rN1 n m + c_6)))∧((yF (b||false||Qal (RV.id c) 2147483647||false||(Qal (RV.bs c) 2147483647||Qal (RV.bg c) 2147483647)||Qal (RV.ver c) 1099511627776)) = (yF (b||rpB 0 c (rB1 c n m u v)))))))∧(((22 : Nat) = (6 + rN1 n m))∧((((6 + rN1 n m + c_6) : Nat) ≤ (22 + c_5))∧(∀ i : Nat,(((i : Nat) < (6 + rN1 n m))→([(yU (apG 14 (fun i => SE.Qad [yU (apG 6 (fun i => SE.Qad [yU (apG 5 (fun i => SE.Qad [yU (apG 1 (fun i => SE.Qad [yU ((fun i => List.getD [1] i 0) i)]) (be (RV.id c % 4294967296) 4) i)]) [0] i)]) (c4 (RV.bs c)++c4 (RV.bg c)) i)]) (be (RV.ver c % 18446744073709551616) 8) i))] = [(yU (List.getD (rpL 1 0 c (rT1 c n x y m u v)) i 0))])))))))))))))))))) := by kernel_rfl
theorem Ziq (b : Bool) (c : RV) (e1 n cap xt : Nat) (x y : Nat→Int) (wh : Bool) (e2 m cp xt2 : Nat) (u v : Nat→Int) (wh2 : Bool) : (Qa6 Try.prog Qms Qas Try.f78 [.vp 0 0,reS 2 0 c (.sl 1 2 0 n cap) (.sl 2 2 0 m cp)] (Qac [wB (some b) true Qa8,ptB e1 n x y xt wh,ptB e2 m u v xt2 wh2]) 64 (fun y' h' => Qbh [wB (some b) true Qa8,ptB e1 n x y xt wh,ptB e2 m u v xt2 wh2] (apE (.fresh (some b)) 0 True (6 + rN2 n m) (rpL 2 0 c (rT2 c n x y m u v)) (rpB 0 c (rB2 c n m u v))) y' h')) =
((I64 2)∧(∀ c_1 : Nat,((((Qaf 1 (1 + c_1) {elem:=5,size:=1,rw:=true,lock:=false,lit:=false,flat:=true,n:=1,row:=fun i => [yU ((fun i => List.getD [2] i 0) i)],ext:=1 + c_1})∧((1 : Nat) ≤ M0))∧(I64 (RV.id c)))∧(∀ c_2 : Nat,((((Qaf 5 (5 + c_2) {elem:=5,size:=1,rw:=true,lock:=false,lit:=false,flat:=true,n:=5,row:=fun i => [yU (apG 1 (fun i => SE.Qad [yU ((fun i => List.getD [2] i 0) i)]) (be (RV.id c % 4294967296) 4) i)],ext:=5 + c_2})∧((5 : Nat) ≤ M0))∧(I64 0))∧(∀ c_3 : Nat,((((Qaf 6 (6 + c_3) {elem:=5,size:=1,rw:=true,lock:=false,lit:=false,flat:=true,n:=6,row:=fun i => [yU (apG 5 (fun i => SE.Qad [yU (apG 1 (fun i => SE.Qad [yU ((fun i => List.getD [2] i 0) i)]) (be (RV.id c % 4294967296) 4) i)]) [0] i)],ext:=6 + c_3})∧((6 : Nat) ≤ NB0))∧((I64 (RV.bs c))∧(I64 (RV.bg c))))∧(∀ c_4 : Nat,(∃ c_5 : Nat,(True∧((((1 : Nat) = 1)∧(((1 : Nat) ≤ 1)∧(((SV.sl 352 1 0 14 (14 + c_4)) = (SV.sl 352 1 0 14 (6 + rN2 n m + c_5)))∧((yF (b||false||Qal (RV.id c) 2147483647||false||(Qal (RV.bs c) 2147483647||Qal (RV.bg c) 2147483647))) = (yF (b||rpB 0 c (rB2 c n m u v)))))))∧(((14 : Nat) = (6 + rN2 n m))∧((((6 + rN2 n m + c_5) : Nat) ≤ (14 + c_4))∧(∀ i : Nat,(((i : Nat) < (6 + rN2 n m))→([(yU (apG 6 (fun i => SE.Qad [yU (apG 5 (fun i => SE.Qad [yU (apG 1 (fun i => SE.Qad [yU ((fun i => List.getD [2] i 0) i)]) (be (RV.id c % 4294967296) 4) i)]) [0] i)]) (c4 (RV.bs c)++c4 (RV.bg c)) i))] = [(yU (List.getD (rpL 2 0 c (rT2 c n x y m u v)) i 0))])))))))))))))))) := by kernel_rfl
theorem Zip (b : Bool) (c : RV) (e1 n cap xt : Nat) (x y : Nat→Int) (wh : Bool) (e2 m cp xt2 : Nat) (u v : Nat→Int) (wh2 : Bool) : (Qa6 Try.prog Qms Qas Try.f78 [.vp 0 0,reS 3 0 c (.sl 1 2 0 n cap) (.sl 2 2 0 m cp)] (Qac [wB (some b) true Qa8,ptB e1 n x y xt wh,ptB e2 m u v xt2 wh2]) 64 (fun y' h' => Qbh [wB (some b) true Qa8,ptB e1 n x y xt wh,ptB e2 m u v xt2 wh2] (apE (.fresh (some b)) 0 True (6 + rN3 n m) (rpL 3 0 c (rT3 c n x y m u v)) (rpB 0 c (rB3 c n m u v))) y' h')) =
((I64 3)∧(∀ c_1 : Nat,((((Qaf 1 (1 + c_1) {elem:=5,size:=1,rw:=true,lock:=false,lit:=false,flat:=true,n:=1,row:=fun i => [yU ((fun i => List.getD [3] i 0) i)],ext:=1 + c_1})∧((1 : Nat) ≤ M0))∧(I64 (RV.id c)))∧(∀ c_2 : Nat,((((Qaf 5 (5 + c_2) {elem:=5,size:=1,rw:=true,lock:=false,lit:=false,flat:=true,n:=5,row:=fun i => [yU (apG 1 (fun i => SE.Qad [yU ((fun i => List.getD [3] i 0) i)]) (be (RV.id c % 4294967296) 4) i)],ext:=5 + c_2})∧((5 : Nat) ≤ M0))∧(I64 0))∧(∀ c_3 : Nat,((((Qaf 6 (6 + c_3) {elem:=5,size:=1,rw:=true,lock:=false,lit:=false,flat:=true,n:=6,row:=fun i => [yU (apG 5 (fun i => SE.Qad [yU (apG 1 (fun i => SE.Qad [yU ((fun i => List.getD [3] i 0) i)]) (be (RV.id c % 4294967296) 4) i)]) [0] i)],ext:=6 + c_3})∧((6 : Nat) ≤ NB0))∧((I64 (RV.bs c))∧(I64 (RV.bg c))))∧(∀ c_4 : Nat,((((Qaf 14 (14 + c_4) {elem:=5,size:=1,rw:=true,lock:=false,lit:=false,flat:=true,n:=14,row:=fun i => [yU (apG 6 (fun i => SE.Qad [yU (apG 5 (fun i => SE.Qad [yU (apG 1 (fun i => SE.Qad [yU ((fun i => List.getD [3] i 0) i)]) (be (RV.id c % 4294967296) 4) i)]) [0] i)]) (c4 (RV.bs c)++c4 (RV.bg c)) i)],ext:=14 + c_4})∧((14 : Nat) ≤ M0))∧(I64 (RV.ver c)))∧(∀ c_5 : Nat,(∃ c_6 : Nat,(True∧((((1 : Nat) = 1)∧(((1 : Nat) ≤ 1)∧(((SV.sl 368 1 0 22 (22 + c_5)) = (SV.sl 368 1 0 22 (6 + rN3 n m + c_6)))∧((yF (b||false||Qal (RV.id c) 2147483647||false||(Qal (RV.bs c) 2147483647||Qal (RV.bg c) 2147483647)||Qal (RV.ver c) 1099511627776)) = (yF (b||rpB 0 c (rB3 c n m u v)))))))∧(((22 : Nat) = (6 + rN3 n m))∧((((6 + rN3 n m + c_6) : Nat) ≤ (22 + c_5))∧(∀ i : Nat,(((i : Nat) < (6 + rN3 n m))→([(yU (apG 14 (fun i => SE.Qad [yU (apG 6 (fun i => SE.Qad [yU (apG 5 (fun i => SE.Qad [yU (apG 1 (fun i => SE.Qad [yU ((fun i => List.getD [3] i 0) i)]) (be (RV.id c % 4294967296) 4) i)]) [0] i)]) (c4 (RV.bs c)++c4 (RV.bg c)) i)]) (be (RV.ver c % 18446744073709551616) 8) i))] = [(yU (List.getD (rpL 3 0 c (rT3 c n x y m u v)) i 0))])))))))))))))))))) := by kernel_rfl
@[reducible] noncomputable def Qnl (c : RV) := (fun i => SE.Qad [SV.v (.int .u8 (apG 1 (fun i => SE.Qad [SV.v (.int .u8 ((fun i => List.getD [4] i 0) i))]) (be (RV.id c % 4294967296) 4) i))])
theorem Zio (b : Bool) (c : RV) (e1 n cap xt : Nat) (x y : Nat→Int) (wh : Bool) (e2 m cp xt2 : Nat) (u v : Nat→Int) (wh2 : Bool) : (Qa6 Try.prog Qms Qas Try.f78 [.vp 0 0,reS 4 0 c (.sl 1 2 0 n cap) (.sl 2 2 0 m cp)] (Qac [wB (some b) true Qa8,ptB e1 n x y xt wh,ptB e2 m u v xt2 wh2]) 64 (fun y' h' => Qbh [wB (some b) true Qa8,ptB e1 n x y xt wh,ptB e2 m u v xt2 wh2] (apE (.fresh (some b)) 0 True (6 + rN4 n m) (rpL 4 0 c (rT4 c n x y m u v)) (rpB 0 c (rB4 c n m u v))) y' h')) =
((I64 4)∧(∀ c_1 : Nat,((((Qaf 1 (1 + c_1) {elem:=5,size:=1,rw:=true,lock:=false,lit:=false,flat:=true,n:=1,row:=fun i => [yU ((fun i => List.getD [4] i 0) i)],ext:=1 + c_1})∧((1 : Nat) ≤ M0))∧(I64 (RV.id c)))∧(∀ c_2 : Nat,((((Qaf 5 (5 + c_2) {elem:=5,size:=1,rw:=true,lock:=false,lit:=false,flat:=true,n:=5,row:=fun i => [yU (apG 1 (fun i => SE.Qad [yU ((fun i => List.getD [4] i 0) i)]) (be (RV.id c % 4294967296) 4) i)],ext:=5 + c_2})∧((5 : Nat) ≤ M0))∧(I64 0))∧(∀ c_3 : Nat,((((Qaf 6 (6 + c_3) {elem:=5,size:=1,rw:=true,lock:=false,lit:=false,flat:=true,n:=6,row:=fun i => [yU (apG 5 (Qnl c) [0] i)],ext:=6 + c_3})∧((6 : Nat) ≤ NB0))∧((I64 (RV.bs c))∧(I64 (RV.bg c))))∧(∀ c_4 : Nat,((((Qaf 14 (14 + c_4) {elem:=5,size:=1,rw:=true,lock:=false,lit:=false,flat:=true,n:=14,row:=fun i => [yU (apG 6 (fun i => SE.Qad [yU (apG 5 (Qnl c) [0] i)]) (c4 (RV.bs c)++c4 (RV.bg c)) i)],ext:=14 + c_4})∧((14 : Nat) ≤ M0))∧(I64 (RV.ver c)))∧(∀ c_5 : Nat,((((Qaf 22 (22 + c_5) {elem:=5,size:=1,rw:=true,lock:=false,lit:=false,flat:=true,n:=22,row:=fun i => [yU (apG 14 (fun i => SE.Qad [yU (apG 6 (fun i => SE.Qad [yU (apG 5 (Qnl c) [0] i)]) (c4 (RV.bs c)++c4 (RV.bg c)) i)]) (be (RV.ver c % 18446744073709551616) 8) i)],ext:=22 + c_5})∧((22 : Nat) ≤ M0))∧(I64 (RV.gr c)))∧(∀ c_6 : Nat,(∃ c_7 : Nat,(True∧((((1 : Nat) = 1)∧(((1 : Nat) ≤ 1)∧(((SV.sl 432 1 0 26 (26 + c_6)) = (SV.sl 432 1 0 26 (6 + rN4 n m + c_7)))∧((yF (b||false||Qal (RV.id c) 2147483647||false||(Qal (RV.bs c) 2147483647||Qal (RV.bg c) 2147483647)||Qal (RV.ver c) 1099511627776||Qal (RV.gr c) 2147483647)) = (yF (b||rpB 0 c (rB4 c n m u v)))))))∧(((26 : Nat) = (6 + rN4 n m))∧((((6 + rN4 n m + c_7) : Nat) ≤ (26 + c_6))∧(∀ i : Nat,(((i : Nat) < (6 + rN4 n m))→([(yU (apG 22 (fun i => SE.Qad [yU (apG 14 (fun i => SE.Qad [yU (apG 6 (fun i => SE.Qad [yU (apG 5 (Qnl c) [0] i)]) (c4 (RV.bs c)++c4 (RV.bg c)) i)]) (be (RV.ver c % 18446744073709551616) 8) i)]) (be (RV.gr c % 4294967296) 4) i))] = [(yU (List.getD (rpL 4 0 c (rT4 c n x y m u v)) i 0))])))))))))))))))))))) := by kernel_rfl
theorem Zin (b : Bool) (c : RV) (e1 n cap xt : Nat) (x y : Nat→Int) (wh : Bool) (e2 m cp xt2 : Nat) (u v : Nat→Int) (wh2 : Bool) : (Qa6 Try.prog Qms Qas Try.f78 [.vp 0 0,reS 5 0 c (.sl 1 2 0 n cap) (.sl 2 2 0 m cp)] (Qac [wB (some b) true Qa8,ptB e1 n x y xt wh,ptB e2 m u v xt2 wh2]) 64 (fun y' h' => Qbh [wB (some b) true Qa8,ptB e1 n x y xt wh,ptB e2 m u v xt2 wh2] (apE (.fresh (some b)) 0 True (6 + rN5 n m) (rpL 5 0 c (rT5 c n x y m u v)) (rpB 0 c (rB5 c n m u v))) y' h')) =
((I64 5)∧(∀ c_1 : Nat,((((Qaf 1 (1 + c_1) {elem:=5,size:=1,rw:=true,lock:=false,lit:=false,flat:=true,n:=1,row:=fun i => [yU ((fun i => List.getD [5] i 0) i)],ext:=1 + c_1})∧((1 : Nat) ≤ M0))∧(I64 (RV.id c)))∧(∀ c_2 : Nat,((((Qaf 5 (5 + c_2) {elem:=5,size:=1,rw:=true,lock:=false,lit:=false,flat:=true,n:=5,row:=fun i => [yU (apG 1 (fun i => SE.Qad [yU ((fun i => List.getD [5] i 0) i)]) (be (RV.id c % 4294967296) 4) i)],ext:=5 + c_2})∧((5 : Nat) ≤ M0))∧(I64 0))∧(∀ c_3 : Nat,((((Qaf 6 (6 + c_3) {elem:=5,size:=1,rw:=true,lock:=false,lit:=false,flat:=true,n:=6,row:=fun i => [yU (apG 5 (fun i => SE.Qad [yU (apG 1 (fun i => SE.Qad [yU ((fun i => List.getD [5] i 0) i)]) (be (RV.id c % 4294967296) 4) i)]) [0] i)],ext:=6 + c_3})∧((6 : Nat) ≤ M0))∧(I64 (RV.gr c)))∧(∀ c_4 : Nat,(∃ c_5 : Nat,(True∧((((1 : Nat) = 1)∧(((1 : Nat) ≤ 1)∧(((SV.sl 400 1 0 10 (10 + c_4)) = (SV.sl 400 1 0 10 (6 + rN5 n m + c_5)))∧((yF (b||false||Qal (RV.id c) 2147483647||false||Qal (RV.gr c) 2147483647)) = (yF (b||rpB 0 c (rB5 c n m u v)))))))∧(((10 : Nat) = (6 + rN5 n m))∧((((6 + rN5 n m + c_5) : Nat) ≤ (10 + c_4))∧(∀ i : Nat,(((i : Nat) < (6 + rN5 n m))→([(yU (apG 6 (fun i => SE.Qad [yU (apG 5 (fun i => SE.Qad [yU (apG 1 (fun i => SE.Qad [yU ((fun i => List.getD [5] i 0) i)]) (be (RV.id c % 4294967296) 4) i)]) [0] i)]) (be (RV.gr c % 4294967296) 4) i))] = [(yU (List.getD (rpL 5 0 c (rT5 c n x y m u v)) i 0))])))))))))))))))) := by kernel_rfl
theorem Zim (b : Bool) (c : RV) (e1 n cap xt : Nat) (x y : Nat→Int) (wh : Bool) (e2 m cp xt2 : Nat) (u v : Nat→Int) (wh2 : Bool) : (Qa6 Try.prog Qms Qas Try.f78 [.vp 0 0,reS 6 0 c (.sl 1 2 0 n cap) (.sl 2 2 0 m cp)] (Qac [wB (some b) true Qa8,ptB e1 n x y xt wh,ptB e2 m u v xt2 wh2]) 64 (fun y' h' => Qbh [wB (some b) true Qa8,ptB e1 n x y xt wh,ptB e2 m u v xt2 wh2] (apE (.fresh (some b)) 0 True (6 + rN6 n m) (rpL 6 0 c (rT6 c n x y m u v)) (rpB 0 c (rB6 c n m u v))) y' h')) =
((I64 6)∧(∀ c_1 : Nat,((((Qaf 1 (1 + c_1) {elem:=5,size:=1,rw:=true,lock:=false,lit:=false,flat:=true,n:=1,row:=fun i => [yU ((fun i => List.getD [6] i 0) i)],ext:=1 + c_1})∧((1 : Nat) ≤ M0))∧(I64 (RV.id c)))∧(∀ c_2 : Nat,((((Qaf 5 (5 + c_2) {elem:=5,size:=1,rw:=true,lock:=false,lit:=false,flat:=true,n:=5,row:=fun i => [yU (apG 1 (fun i => SE.Qad [yU ((fun i => List.getD [6] i 0) i)]) (be (RV.id c % 4294967296) 4) i)],ext:=5 + c_2})∧((5 : Nat) ≤ M0))∧(I64 0))∧(∀ c_3 : Nat,((((Qaf 6 (6 + c_3) {elem:=5,size:=1,rw:=true,lock:=false,lit:=false,flat:=true,n:=6,row:=fun i => [yU (apG 5 (fun i => SE.Qad [yU (apG 1 (fun i => SE.Qad [yU ((fun i => List.getD [6] i 0) i)]) (be (RV.id c % 4294967296) 4) i)]) [0] i)],ext:=6 + c_3})∧((6 : Nat) ≤ M0))∧(I64 (RV.gr c)))∧(∀ c_4 : Nat,(∃ c_5 : Nat,(True∧((((1 : Nat) = 1)∧(((1 : Nat) ≤ 1)∧(((SV.sl 400 1 0 10 (10 + c_4)) = (SV.sl 400 1 0 10 (6 + rN6 n m + c_5)))∧((yF (b||false||Qal (RV.id c) 2147483647||false||Qal (RV.gr c) 2147483647)) = (yF (b||rpB 0 c (rB6 c n m u v)))))))∧(((10 : Nat) = (6 + rN6 n m))∧((((6 + rN6 n m + c_5) : Nat) ≤ (10 + c_4))∧(∀ i : Nat,(((i : Nat) < (6 + rN6 n m))→([(yU (apG 6 (fun i => SE.Qad [yU (apG 5 (fun i => SE.Qad [yU (apG 1 (fun i => SE.Qad [yU ((fun i => List.getD [6] i 0) i)]) (be (RV.id c % 4294967296) 4) i)]) [0] i)]) (be (RV.gr c % 4294967296) 4) i))] = [(yU (List.getD (rpL 6 0 c (rT6 c n x y m u v)) i 0))])))))))))))))))) := by kernel_rfl
theorem Zil (b : Bool) (c : RV) (e1 n cap xt : Nat) (x y : Nat→Int) (wh : Bool) (e2 m cp xt2 : Nat) (u v : Nat→Int) (wh2 : Bool) : (Qa6 Try.prog Qms Qas Try.f78 [.vp 0 0,reS 7 0 c (.sl 1 2 0 n cap) (.sl 2 2 0 m cp)] (Qac [wB (some b) true Qa8,ptB e1 n x y xt wh,ptB e2 m u v xt2 wh2]) 64 (fun y' h' => Qbh [wB (some b) true Qa8,ptB e1 n x y xt wh,ptB e2 m u v xt2 wh2] (apE (.fresh (some b)) 0 True (6 + rN7 n m) (rpL 7 0 c (rT7 c n x y m u v)) (rpB 0 c (rB7 c n m u v))) y' h')) =
((I64 7)∧(∀ c_1 : Nat,((((Qaf 1 (1 + c_1) {elem:=5,size:=1,rw:=true,lock:=false,lit:=false,flat:=true,n:=1,row:=fun i => [yU ((fun i => List.getD [7] i 0) i)],ext:=1 + c_1})∧((1 : Nat) ≤ M0))∧(I64 (RV.id c)))∧(∀ c_2 : Nat,((((Qaf 5 (5 + c_2) {elem:=5,size:=1,rw:=true,lock:=false,lit:=false,flat:=true,n:=5,row:=fun i => [yU (apG 1 (fun i => SE.Qad [yU ((fun i => List.getD [7] i 0) i)]) (be (RV.id c % 4294967296) 4) i)],ext:=5 + c_2})∧((5 : Nat) ≤ M0))∧(I64 0))∧(∀ c_3 : Nat,((((Qaf 6 (6 + c_3) {elem:=5,size:=1,rw:=true,lock:=false,lit:=false,flat:=true,n:=6,row:=fun i => [yU (apG 5 (fun i => SE.Qad [yU (apG 1 (fun i => SE.Qad [yU ((fun i => List.getD [7] i 0) i)]) (be (RV.id c % 4294967296) 4) i)]) [0] i)],ext:=6 + c_3})∧((6 : Nat) ≤ NB0))∧((I64 (RV.bs c))∧(I64 (RV.bg c))))∧(∀ c_4 : Nat,((((Qaf 14 (14 + c_4) {elem:=5,size:=1,rw:=true,lock:=false,lit:=false,flat:=true,n:=14,row:=fun i => [yU (apG 6 (fun i => SE.Qad [yU (apG 5 (fun i => SE.Qad [yU (apG 1 (fun i => SE.Qad [yU ((fun i => List.getD [7] i 0) i)]) (be (RV.id c % 4294967296) 4) i)]) [0] i)]) (c4 (RV.bs c)++c4 (RV.bg c)) i)],ext:=14 + c_4})∧((14 : Nat) ≤ NB2))∧((Qx6 (RV.o c))∧((Qbg n (Qaz (ptB e1 n x y xt wh) 2 0 n))∧((n : Nat) < 100))))∧(∀ c_5 : Nat,(∃ c_6 : Nat,(True∧((((1 : Nat) = 1)∧(((1 : Nat) ≤ 1)∧(((SV.sl 448 1 0 (14 + boN n) (14 + boN n + c_5)) = (SV.sl 448 1 0 (6 + rN7 n m) (6 + rN7 n m + c_6)))∧((yF (b||false||Qal (RV.id c) 2147483647||false||(Qal (RV.bs c) 2147483647||Qal (RV.bg c) 2147483647)||Qd4 (RV.o c) n)) = (yF (b||rpB 0 c (rB7 c n m u v)))))))∧((((14 + boN n) : Nat) = (6 + rN7 n m))∧((((6 + rN7 n m + c_6) : Nat) ≤ (14 + boN n + c_5))∧(∀ i : Nat,(((i : Nat) < (6 + rN7 n m))→([(yU (apG 14 (fun i => SE.Qad [yU (apG 6 (fun i => SE.Qad [yU (apG 5 (fun i => SE.Qad [yU (apG 1 (fun i => SE.Qad [yU ((fun i => List.getD [7] i 0) i)]) (be (RV.id c % 4294967296) 4) i)]) [0] i)]) (c4 (RV.bs c)++c4 (RV.bg c)) i)]) (boL (RV.o c) n (gX (Qaz (ptB e1 n x y xt wh) 2 0 n)) (gY (Qaz (ptB e1 n x y xt wh) 2 0 n))) i))] = [(yU (List.getD (rpL 7 0 c (rT7 c n x y m u v)) i 0))])))))))))))))))))) := by kernel_rfl
theorem Zik (b : Bool) (c : RV) (e1 n cap xt : Nat) (x y : Nat→Int) (wh : Bool) (e2 m cp xt2 : Nat) (u v : Nat→Int) (wh2 : Bool) : (Qa6 Try.prog Qms (Q7l (b||(Qal c.id 2147483647||Qal (m : Int) 64)) ([8]++(c4 c.id++([0]++[(m : Int) % 256]))) m u v) Try.f78 [.vp 0 0,reS 8 0 c (.sl 1 2 0 n cap) (.sl 2 2 0 m cp)] (Qac [wB (some b) true Qa8,ptB e1 n x y xt wh,ptB e2 m u v xt2 wh2]) 64 (fun y' h' => Qbh [wB (some b) true Qa8,ptB e1 n x y xt wh,ptB e2 m u v xt2 wh2] (apE (.fresh (some b)) 0 True (6 + rN8 n m) (rpL 8 0 c (rT8 c n x y m u v)) (rpB 0 c (rB8 c n m u v))) y' h')) =
((I64 8)∧(∀ c_1 : Nat,((((Qaf 1 (1 + c_1) {elem:=5,size:=1,rw:=true,lock:=false,lit:=false,flat:=true,n:=1,row:=fun i => [yU ((fun i => List.getD [8] i 0) i)],ext:=1 + c_1})∧((1 : Nat) ≤ M0))∧(I64 (RV.id c)))∧(∀ c_2 : Nat,((((Qaf 5 (5 + c_2) {elem:=5,size:=1,rw:=true,lock:=false,lit:=false,flat:=true,n:=5,row:=fun i => [yU (apG 1 (fun i => SE.Qad [yU ((fun i => List.getD [8] i 0) i)]) (be (RV.id c % 4294967296) 4) i)],ext:=5 + c_2})∧((5 : Nat) ≤ M0))∧(I64 0))∧(∀ c_3 : Nat,((((Qaf 6 (6 + c_3) {elem:=5,size:=1,rw:=true,lock:=false,lit:=false,flat:=true,n:=6,row:=fun i => [yU (apG 5 (fun i => SE.Qad [yU (apG 1 (fun i => SE.Qad [yU ((fun i => List.getD [8] i 0) i)]) (be (RV.id c % 4294967296) 4) i)]) [0] i)],ext:=6 + c_3})∧((6 : Nat) ≤ M0))∧(I64 (↑m : Int)))∧(∀ c_4 : Nat,((∃ x_1 : NX,(((((NX.i x_1) : Nat) ≤ m)∧(((7 + 8 * NX.i x_1) : Nat) ≤ (NX.c x_1)))∧((zI = (yI ((↑(NX.i x_1) : Int))))∧((((1 : Nat) = 1)∧(((1 : Nat) ≤ 1)∧(((SV.sl 440 1 0 7 (7 + c_4)) = (SV.sl 440 1 0 (7 + 8 * NX.i x_1) (NX.c x_1)))∧((yF (b||false||Qal (RV.id c) 2147483647||false||Qal (↑m : Int) 64)) = (yF (b||(Qal (RV.id c) 2147483647||Qal (↑m : Int) 64)||Qwk u v (NX.i x_1)))))))∧(((7 : Nat) = (7 + 8 * NX.i x_1))∧((((NX.c x_1) : Nat) ≤ (7 + c_4))∧(∀ i : Nat,(((i : Nat) < (7 + 8 * NX.i x_1))→([(yU (apG 6 (fun i => SE.Qad [yU (apG 5 (fun i => SE.Qad [yU (apG 1 (fun i => SE.Qad [yU ((fun i => List.getD [8] i 0) i)]) (be (RV.id c % 4294967296) 4) i)]) [0] i)]) [(↑m : Int) % 256] i))] = [(yU (List.getD ([8]++(c4 (RV.id c)++([0]++[(↑m : Int) % 256]))++hsL u v (NX.i x_1)) i 0))])))))))))∧(∀ x_1 : NX,(((((NX.i x_1) : Nat) ≤ m)∧(((7 + 8 * NX.i x_1) : Nat) ≤ (NX.c x_1)))→(sel (decide ((↑(NX.i x_1) : Int) < (↑m : Int))) ((((0 : Int) ≤ ((↑(NX.i x_1) : Int)))∧((((↑(NX.i x_1) : Int)) : Int) < ((↑m : Int))))∧((((Qaf (7 + 8 * NX.i x_1) (NX.c x_1) {elem:=5,size:=1,rw:=true,lock:=false,lit:=false,flat:=true,n:=7 + 8 * NX.i x_1,row:=fun i => [yU ((fun i => List.getD ([8]++(c4 (RV.id c)++([0]++[(↑m : Int) % 256]))++hsL u v (NX.i x_1)) i 0) i)],ext:=NX.c x_1})∧(((7 + 8 * NX.i x_1) : Nat) ≤ NB0))∧((I64 (u (0 + Int.toNat (↑(NX.i x_1) : Int))))∧(I64 (v (0 + Int.toNat (↑(NX.i x_1) : Int))))))∧(∀ c_5 : Nat,(∃ x' : NX,((((((NX.i x') : Nat) ≤ m)∧(((7 + 8 * NX.i x') : Nat) ≤ (NX.c x')))∧(((yI (IntKind.wrap IntKind.i64 ((↑(NX.i x_1) : Int) + 1))) = (yI ((↑(NX.i x') : Int))))∧((((1 : Nat) = 1)∧(((1 : Nat) ≤ 1)∧(((SV.sl 536 1 0 (7 + 8 * NX.i x_1 + 8) (7 + 8 * NX.i x_1 + 8 + c_5)) = (SV.sl 536 1 0 (7 + 8 * NX.i x') (NX.c x')))∧((yF (b||(Qal (RV.id c) 2147483647||Qal (↑m : Int) 64)||Qwk u v (NX.i x_1)||(Qal (u (0 + Int.toNat (↑(NX.i x_1) : Int))) 2147483647||Qal (v (0 + Int.toNat (↑(NX.i x_1) : Int))) 2147483647))) = (yF (b||(Qal (RV.id c) 2147483647||Qal (↑m : Int) 64)||Qwk u v (NX.i x')))))))∧((((7 + 8 * NX.i x_1 + 8) : Nat) = (7 + 8 * NX.i x'))∧((((NX.c x') : Nat) ≤ (7 + 8 * NX.i x_1 + 8 + c_5))∧(∀ i : Nat,(((i : Nat) < (7 + 8 * NX.i x'))→([(yU (apG (7 + 8 * NX.i x_1) (fun i => SE.Qad [yU ((fun i => List.getD ([8]++(c4 (RV.id c)++([0]++[(↑m : Int) % 256]))++hsL u v (NX.i x_1)) i 0) i)]) (c4 (u (0 + Int.toNat (↑(NX.i x_1) : Int)))++c4 (v (0 + Int.toNat (↑(NX.i x_1) : Int)))) i))] = [(yU (List.getD ([8]++(c4 (RV.id c)++([0]++[(↑m : Int) % 256]))++hsL u v (NX.i x')) i 0))]))))))))∧(((m - NX.i x') : Nat) < (m - NX.i x_1))))))) (∃ c_5 : Nat,(True∧((((1 : Nat) = 1)∧(((1 : Nat) ≤ 1)∧(((SV.sl 40 1 0 (7 + 8 * NX.i x_1) (NX.c x_1)) = (SV.sl 40 1 0 (6 + rN8 n m) (6 + rN8 n m + c_5)))∧((yF (b||(Qal (RV.id c) 2147483647||Qal (↑m : Int) 64)||Qwk u v (NX.i x_1))) = (yF (b||rpB 0 c (rB8 c n m u v)))))))∧((((7 + 8 * NX.i x_1) : Nat) = (6 + rN8 n m))∧((((6 + rN8 n m + c_5) : Nat) ≤ (NX.c x_1))∧(∀ i : Nat,(((i : Nat) < (6 + rN8 n m))→([(yU (List.getD ([8]++(c4 (RV.id c)++([0]++[(↑m : Int) % 256]))++hsL u v (NX.i x_1)) i 0))] = [(yU (List.getD (rpL 8 0 c (rT8 c n x y m u v)) i 0))])))))))))))))))))))) := by kernel_rfl
@[reducible] noncomputable def Qnk (c : RV) := (fun i => SE.Qad [SV.v (.int .u8 (apG 1 (fun i => SE.Qad [SV.v (.int .u8 ((fun i => List.getD [9] i 0) i))]) (be (RV.id c % 4294967296) 4) i))])
theorem Zij (b : Bool) (c : RV) (e1 n cap xt : Nat) (x y : Nat→Int) (wh : Bool) (e2 m cp xt2 : Nat) (u v : Nat→Int) (wh2 : Bool) : (Qa6 Try.prog Qms Qas Try.f78 [.vp 0 0,reS 9 0 c (.sl 1 2 0 n cap) (.sl 2 2 0 m cp)] (Qac [wB (some b) true Qa8,ptB e1 n x y xt wh,ptB e2 m u v xt2 wh2]) 64 (fun y' h' => Qbh [wB (some b) true Qa8,ptB e1 n x y xt wh,ptB e2 m u v xt2 wh2] (apE (.fresh (some b)) 0 True (6 + rN9 n m) (rpL 9 0 c (rT9 c n x y m u v)) (rpB 0 c (rB9 c n m u v))) y' h')) =
((I64 9)∧(∀ c_1 : Nat,((((Qaf 1 (1 + c_1) {elem:=5,size:=1,rw:=true,lock:=false,lit:=false,flat:=true,n:=1,row:=fun i => [yU ((fun i => List.getD [9] i 0) i)],ext:=1 + c_1})∧((1 : Nat) ≤ M0))∧(I64 (RV.id c)))∧(∀ c_2 : Nat,((((Qaf 5 (5 + c_2) {elem:=5,size:=1,rw:=true,lock:=false,lit:=false,flat:=true,n:=5,row:=fun i => [yU (apG 1 (fun i => SE.Qad [yU ((fun i => List.getD [9] i 0) i)]) (be (RV.id c % 4294967296) 4) i)],ext:=5 + c_2})∧((5 : Nat) ≤ M0))∧(I64 0))∧(∀ c_3 : Nat,((((Qaf 6 (6 + c_3) {elem:=5,size:=1,rw:=true,lock:=false,lit:=false,flat:=true,n:=6,row:=fun i => [yU (apG 5 (Qnk c) [0] i)],ext:=6 + c_3})∧((6 : Nat) ≤ NB0))∧((I64 (RV.bs c))∧(I64 (RV.bg c))))∧(∀ c_4 : Nat,((((Qaf 14 (14 + c_4) {elem:=5,size:=1,rw:=true,lock:=false,lit:=false,flat:=true,n:=14,row:=fun i => [yU (apG 6 (fun i => SE.Qad [yU (apG 5 (Qnk c) [0] i)]) (c4 (RV.bs c)++c4 (RV.bg c)) i)],ext:=14 + c_4})∧((14 : Nat) ≤ M0))∧True)∧(∀ c_5 : Nat,((((Qaf 15 (15 + c_5) {elem:=5,size:=1,rw:=true,lock:=false,lit:=false,flat:=true,n:=15,row:=fun i => [yU (apG 14 (fun i => SE.Qad [yU (apG 6 (fun i => SE.Qad [yU (apG 5 (Qnk c) [0] i)]) (c4 (RV.bs c)++c4 (RV.bg c)) i)]) [bif RV.hit c then 1 else 0] i)],ext:=15 + c_5})∧((15 : Nat) ≤ NB0))∧(((3 : Nat) = 3)∧(((1 : Nat) ≤ 3)∧(((3 : Nat) ≤ 100)∧(∀ i : Nat,(((i : Nat) < 3)→(Qn7 [yI (bop (Nat.beq (0 + i) 0) (RV.htv c) (bop (Nat.beq (0 + i) 1) (RV.x0v c) (RV.x1v c))),yF (bop (Nat.beq (0 + i) 0) (RV.htf c) (bop (Nat.beq (0 + i) 1) (RV.x0f c) (RV.x1f c)))])))))))∧(∀ c_6 : Nat,(∃ c_7 : Nat,(True∧((((1 : Nat) = 1)∧(((1 : Nat) ≤ 1)∧(((SV.sl 600 1 0 42 (42 + c_6)) = (SV.sl 600 1 0 42 (6 + rN9 n m + c_7)))∧((yF (b||false||Qal (RV.id c) 2147483647||false||(Qal (RV.bs c) 2147483647||Qal (RV.bg c) 2147483647)||false||Qbv (fun i => nV [yI (bop (Nat.beq (0 + i) 0) (RV.htv c) (bop (Nat.beq (0 + i) 1) (RV.x0v c) (RV.x1v c))),yF (bop (Nat.beq (0 + i) 0) (RV.htf c) (bop (Nat.beq (0 + i) 1) (RV.x0f c) (RV.x1f c)))]) 3)) = (yF (b||rpB 0 c (rB9 c n m u v)))))))∧(((42 : Nat) = (6 + rN9 n m))∧((((6 + rN9 n m + c_7) : Nat) ≤ (42 + c_6))∧(∀ i : Nat,(((i : Nat) < (6 + rN9 n m))→([(yU (apG 15 (fun i => SE.Qad [yU (apG 14 (fun i => SE.Qad [yU (apG 6 (fun i => SE.Qad [yU (apG 5 (Qnk c) [0] i)]) (c4 (RV.bs c)++c4 (RV.bg c)) i)]) [bif RV.hit c then 1 else 0] i)]) (Qft (fun i => nV [yI (bop (Nat.beq (0 + i) 0) (RV.htv c) (bop (Nat.beq (0 + i) 1) (RV.x0v c) (RV.x1v c))),yF (bop (Nat.beq (0 + i) 0) (RV.htf c) (bop (Nat.beq (0 + i) 1) (RV.x0f c) (RV.x1f c)))]) (fun i => nF [yI (bop (Nat.beq (0 + i) 0) (RV.htv c) (bop (Nat.beq (0 + i) 1) (RV.x0v c) (RV.x1v c))),yF (bop (Nat.beq (0 + i) 0) (RV.htf c) (bop (Nat.beq (0 + i) 1) (RV.x0f c) (RV.x1f c)))]) 3) i))] = [(yU (List.getD (rpL 9 0 c (rT9 c n x y m u v)) i 0))])))))))))))))))))))) := by kernel_rfl
theorem Zeu (b : Bool) (c : RV) (e1 n cap xt : Nat) (x y : Nat→Int) (wh : Bool) (e2 m cp xt2 : Nat) (u v : Nat→Int) (wh2 : Bool) : (Qa6 Try.prog Qms Qas Try.f78 [.vp 0 0,reS 10 0 c (.sl 1 2 0 n cap) (.sl 2 2 0 m cp)] (Qac [wB (some b) true Qa8,ptB e1 n x y xt wh,ptB e2 m u v xt2 wh2]) 64 (fun y' h' => Qbh [wB (some b) true Qa8,ptB e1 n x y xt wh,ptB e2 m u v xt2 wh2] (apE (.fresh (some b)) 0 True (6 + Q16 n m) (rpL 10 0 c (Q6n c n x y m u v)) (rpB 0 c (Q4q c n m u v))) y' h')) =
((I64 10)∧(∀ c_1 : Nat,((((Qaf 1 (1 + c_1) {elem:=5,size:=1,rw:=true,lock:=false,lit:=false,flat:=true,n:=1,row:=fun i => [yU ((fun i => List.getD [10] i 0) i)],ext:=1 + c_1})∧((1 : Nat) ≤ M0))∧(I64 (RV.id c)))∧(∀ c_2 : Nat,((((Qaf 5 (5 + c_2) {elem:=5,size:=1,rw:=true,lock:=false,lit:=false,flat:=true,n:=5,row:=fun i => [yU (apG 1 (fun i => SE.Qad [yU ((fun i => List.getD [10] i 0) i)]) (be (RV.id c % 4294967296) 4) i)],ext:=5 + c_2})∧((5 : Nat) ≤ M0))∧(I64 0))∧(∀ c_3 : Nat,((((Qaf 6 (6 + c_3) {elem:=5,size:=1,rw:=true,lock:=false,lit:=false,flat:=true,n:=6,row:=fun i => [yU (apG 5 (fun i => SE.Qad [yU (apG 1 (fun i => SE.Qad [yU ((fun i => List.getD [10] i 0) i)]) (be (RV.id c % 4294967296) 4) i)]) [0] i)],ext:=6 + c_3})∧((6 : Nat) ≤ M0))∧(I64 (RV.cnt c)))∧(∀ c_4 : Nat,(∃ c_5 : Nat,(True∧((((1 : Nat) = 1)∧(((1 : Nat) ≤ 1)∧(((SV.sl 464 1 0 10 (10 + c_4)) = (SV.sl 464 1 0 10 (6 + Q16 n m + c_5)))∧((yF (b||false||Qal (RV.id c) 2147483647||false||Qal (RV.cnt c) 2147483647)) = (yF (b||rpB 0 c (Q4q c n m u v)))))))∧(((10 : Nat) = (6 + Q16 n m))∧((((6 + Q16 n m + c_5) : Nat) ≤ (10 + c_4))∧(∀ i : Nat,(((i : Nat) < (6 + Q16 n m))→([(yU (apG 6 (fun i => SE.Qad [yU (apG 5 (fun i => SE.Qad [yU (apG 1 (fun i => SE.Qad [yU ((fun i => List.getD [10] i 0) i)]) (be (RV.id c % 4294967296) 4) i)]) [0] i)]) (be (RV.cnt c % 4294967296) 4) i))] = [(yU (List.getD (rpL 10 0 c (Q6n c n x y m u v)) i 0))])))))))))))))))) := by kernel_rfl
@[reducible] noncomputable def Qp4 (k : Int) (c : RV) := (fun i => SE.Qad [SV.v (.int .u8 (apG 1 (fun i => SE.Qad [SV.v (.int .u8 ((fun i => List.getD [k % 256] i 0) i))]) (be (RV.id c % 4294967296) 4) i))])
theorem Zih (k : Int) (a : Nat) (b : Bool) (c : RV) (e1 n cap xt : Nat) (x y : Nat→Int) (wh : Bool) (e2 m cp xt2 : Nat) (u v : Nat→Int) (wh2 : Bool) : (Qa6 Try.prog Qms Qas Try.f78 [.vp 0 0,reS k (Int.ofNat (a + 1)) c (.sl 1 2 0 n cap) (.sl 2 2 0 m cp)] (Qac [wB (some b) true Qa8,ptB e1 n x y xt wh,ptB e2 m u v xt2 wh2]) 64 (fun y' h' => Qbh [wB (some b) true Qa8,ptB e1 n x y xt wh,ptB e2 m u v xt2 wh2] (apE (.fresh (some b)) 0 True (6 + (bif Int.ofNat (a + 1) == 14 then 8 else 0)) (rpL k (Int.ofNat (a + 1)) c ((bif Int.ofNat (a + 1) == 14 then i8 c.ver else []))) (rpB (Int.ofNat (a + 1)) c ((bif Int.ofNat (a + 1) == 14 then Qal c.ver 1099511627776 else false)))) y' h')) =
((I64 k)∧(∀ c_1 : Nat,((((Qaf 1 (1 + c_1) {elem:=5,size:=1,rw:=true,lock:=false,lit:=false,flat:=true,n:=1,row:=fun i => [yU ((fun i => List.getD [k % 256] i 0) i)],ext:=1 + c_1})∧((1 : Nat) ≤ M0))∧(I64 (RV.id c)))∧(∀ c_2 : Nat,((((Qaf 5 (5 + c_2) {elem:=5,size:=1,rw:=true,lock:=false,lit:=false,flat:=true,n:=5,row:=fun i => [yU (apG 1 (fun i => SE.Qad [yU ((fun i => List.getD [k % 256] i 0) i)]) (be (RV.id c % 4294967296) 4) i)],ext:=5 + c_2})∧((5 : Nat) ≤ M0))∧(I64 (Int.ofNat (a + 1))))∧(∀ c_3 : Nat,(sel (Int.ofNat (a + 1) == 14) ((((Qaf 6 (6 + c_3) {elem:=5,size:=1,rw:=true,lock:=false,lit:=false,flat:=true,n:=6,row:=fun i => [yU (apG 5 (Qp4 k c) [Int.ofNat (a + 1) % 256] i)],ext:=6 + c_3})∧((6 : Nat) ≤ M0))∧(I64 (RV.ver c)))∧(∀ c_4 : Nat,(∃ c_5 : Nat,(True∧((((1 : Nat) = 1)∧(((1 : Nat) ≤ 1)∧(((SV.sl 232 1 0 14 (14 + c_4)) = (SV.sl 232 1 0 (6 + bif Int.ofNat (a + 1) == 14 then 8 else 0) ((6 + bif Int.ofNat (a + 1) == 14 then 8 else 0) + c_5)))∧((yF (b||false||Qal (RV.id c) 2147483647||Qal (Int.ofNat (a + 1)) 14||Qal (RV.ver c) 1099511627776)) = (yF (b||rpB (Int.ofNat (a + 1)) c (bif Int.ofNat (a + 1) == 14 then Qal (RV.ver c) 1099511627776 else false)))))))∧(((14 : Nat) = (6 + bif Int.ofNat (a + 1) == 14 then 8 else 0))∧(((((6 + bif Int.ofNat (a + 1) == 14 then 8 else 0) + c_5) : Nat) ≤ (14 + c_4))∧(∀ i : Nat,(((i : Nat) < (6 + bif Int.ofNat (a + 1) == 14 then 8 else 0))→([(yU (apG 6 (fun i => SE.Qad [yU (apG 5 (Qp4 k c) [Int.ofNat (a + 1) % 256] i)]) (be (RV.ver c % 18446744073709551616) 8) i))] = [(yU (List.getD (rpL k (Int.ofNat (a + 1)) c (bif Int.ofNat (a + 1) == 14 then i8 (RV.ver c) else [])) i 0))])))))))))) (∃ c_4 : Nat,(True∧((((1 : Nat) = 1)∧(((1 : Nat) ≤ 1)∧(((SV.sl 176 1 0 6 (6 + c_3)) = (SV.sl 176 1 0 (6 + bif Int.ofNat (a + 1) == 14 then 8 else 0) ((6 + bif Int.ofNat (a + 1) == 14 then 8 else 0) + c_4)))∧((yF (b||false||Qal (RV.id c) 2147483647||Qal (Int.ofNat (a + 1)) 14)) = (yF (b||rpB (Int.ofNat (a + 1)) c (bif Int.ofNat (a + 1) == 14 then Qal (RV.ver c) 1099511627776 else false)))))))∧(((6 : Nat) = (6 + bif Int.ofNat (a + 1) == 14 then 8 else 0))∧(((((6 + bif Int.ofNat (a + 1) == 14 then 8 else 0) + c_4) : Nat) ≤ (6 + c_3))∧(∀ i : Nat,(((i : Nat) < (6 + bif Int.ofNat (a + 1) == 14 then 8 else 0))→([(yU (apG 5 (Qp4 k c) [Int.ofNat (a + 1) % 256] i))] = [(yU (List.getD (rpL k (Int.ofNat (a + 1)) c (bif Int.ofNat (a + 1) == 14 then i8 (RV.ver c) else [])) i 0))]))))))))))))))) := by kernel_rfl
theorem Zii (k : Int) (a : Nat) (b : Bool) (c : RV) (e1 n cap xt : Nat) (x y : Nat→Int) (wh : Bool) (e2 m cp xt2 : Nat) (u v : Nat→Int) (wh2 : Bool) : (Qa6 Try.prog Qms Qas Try.f78 [.vp 0 0,reS k (Int.negSucc a) c (.sl 1 2 0 n cap) (.sl 2 2 0 m cp)] (Qac [wB (some b) true Qa8,ptB e1 n x y xt wh,ptB e2 m u v xt2 wh2]) 64 (fun y' h' => Qbh [wB (some b) true Qa8,ptB e1 n x y xt wh,ptB e2 m u v xt2 wh2] (apE (.fresh (some b)) 0 True (6 + 0) (rpL k (Int.negSucc a) c ([])) (rpB (Int.negSucc a) c (false))) y' h')) =
((I64 k)∧(∀ c_1 : Nat,((((Qaf 1 (1 + c_1) {elem:=5,size:=1,rw:=true,lock:=false,lit:=false,flat:=true,n:=1,row:=fun i => [yU ((fun i => List.getD [k % 256] i 0) i)],ext:=1 + c_1})∧((1 : Nat) ≤ M0))∧(I64 (RV.id c)))∧(∀ c_2 : Nat,((((Qaf 5 (5 + c_2) {elem:=5,size:=1,rw:=true,lock:=false,lit:=false,flat:=true,n:=5,row:=fun i => [yU (apG 1 (fun i => SE.Qad [yU ((fun i => List.getD [k % 256] i 0) i)]) (be (RV.id c % 4294967296) 4) i)],ext:=5 + c_2})∧((5 : Nat) ≤ M0))∧(I64 (Int.negSucc a)))∧(∀ c_3 : Nat,(∃ c_4 : Nat,(True∧((((1 : Nat) = 1)∧(((1 : Nat) ≤ 1)∧(((SV.sl 176 1 0 6 (6 + c_3)) = (SV.sl 176 1 0 6 (6 + c_4)))∧((yF (b||false||Qal (RV.id c) 2147483647||Qal (Int.negSucc a) 14)) = (yF (b||rpB (Int.negSucc a) c false))))))∧(((6 : Nat) = 6)∧((((6 + c_4) : Nat) ≤ (6 + c_3))∧(∀ i : Nat,(((i : Nat) < 6)→([(yU (apG 5 (fun i => SE.Qad [yU (apG 1 (fun i => SE.Qad [yU ((fun i => List.getD [k % 256] i 0) i)]) (be (RV.id c % 4294967296) 4) i)]) [Int.negSucc a % 256] i))] = [(yU (List.getD (rpL k (Int.negSucc a) c []) i 0))])))))))))))))) := by kernel_rfl
end Go.Proofs.Ytjdldadmaaeimaa
end
