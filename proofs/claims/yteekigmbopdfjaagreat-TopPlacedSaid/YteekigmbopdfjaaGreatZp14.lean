/-
 What the proof uses, part 14.
-/
import Derived.Test.YteekigmbopdfjaaGreatZp13
set_option maxRecDepth 100000
set_option linter.unusedSimpArgs false
set_option linter.unusedVariables false

section
namespace Go.Proofs.YteekigmbopdfjaaGreat
open Go.SE Go.RowKit
def plgB (n cap : Nat) : Blk := Qep 275 [.sl 0 2 0 n cap]
def Q9t (n cap : Nat) : Eff := .det none (.fn 267 [.vp 1000 0]) [(1000, plgB n cap)]
def Q1j (args : List SV) (bs : List Blk) : Option Eff := match args, bs with
 | [.agg [.sl 0 2 0 n cap]], [b] => bif !b.rw && !b.dead && Nat.beq b.size 2 then some (Q9t n cap) else none
 | _, _ => none
theorem Zbx (el n cap n' ext : Nat) (lo li fl wh : Bool) (row : Nat→List SV) : (Qcm Tryz.prog Qbi Qax Tryz.f186 [.agg [.sl 0 2 0 n cap]] (Qa1 [roS el lo li fl wh n' ext row]) 64 (fun y h' => Qj9 [roS el lo li fl wh n' ext row] (Q9t n cap) y h')) = (((267 = 267)∧((SV.vp 64 0) = (SV.vp 64 0)))∧(((1 : Nat) = 1)∧(((1 : Nat) ≤ 1)∧((SV.sl 0 2 0 n cap) = (SV.sl 0 2 0 n cap))))):=by kernel_rfl
def Zji : Qb7 := Qah (Qah Qbi 186 (Qgv false Q1j)) 266 (Qaj Zll)
def spF (n : Nat) (row : Nat → List SV) : Prop := ∀ i, i < n → row i = [.v (.int .i64 (gi (row i)).1), .v (.int .i64 (gi (row i)).2)] ∧ P21 (gi (row i)).1 ∧ P21 (gi (row i)).2
noncomputable def Qzb (n : Nat) : Nat → Option LoopSpec := Qq9 Qax 0 Qqx Nat (fun k => k ≤ n) (fun k => k) [(80, fun _ => Qsl)]
def Zco : List SV → List Ro → Option (Option Prop × SV)
 | [.agg [.sl 0 2 0 n _], .agg [.v (.int .i64 a), .v (.int .i64 b)]], [⟨2, n', row⟩] => some (some (n' = n ∧ n < 1099511627776 ∧ spF n row ∧ (P21 a ∧ P21 b) ∧ ∀ k, k < n → 0 ≤ Qrh (gi (row k)) (gi (row ((k + 1) % n))) (a, b)), .v (.bool true))
 | _, _ => none
theorem Zgg (n n' cap : Nat) (p : Int × Int) (g : Nat→Int × Int) : (Qcm Tryz.prog Zji (Qzb n) Tryz.f185 [.agg [.sl 0 2 0 n cap],pS2 p] (Qbe [⟨2,n',Qco g⟩]) 64 (fun y _ => y = .v (.bool true))) =
(((It.P Qqx = Tryz.prog)∧(((n : Nat) ≤ 1099511627776)∧((((0 + n) : Nat) ≤ (Ro.n {s:=2,n:=n',row:=fun i => [yI (Prod.fst (g i)),yI (Prod.snd (g i))]}))∧(∀ j : Nat,(((j : Nat) < n)→([(yI (Prod.fst (g (0 + j)))),(yI (Prod.snd (g (0 + j))))] = [(yI (Prod.fst (gi [yI (Prod.fst (g (0 + j))),yI (Prod.snd (g (0 + j)))]))),(yI (Prod.snd (gi [yI (Prod.fst (g (0 + j))),yI (Prod.snd (g (0 + j)))])))]))))))∧((∃ x : Nat,(((x : Nat) = 0)∧((Nat.le x n)∧(True∧(((1 : Nat) = 1)∧(((1 : Nat) ≤ 1)∧(∀ i : Nat,(((i : Nat) < 1)→([(yF false)] = [(yF false)])))))))))∧((∀ x : Nat,((Nat.le x n)→(((x : Nat) < n)→((((P21 (Prod.fst (gi [yI (Prod.fst (g (0 + x))),yI (Prod.snd (g (0 + x)))])))∧(P21 (Prod.snd (gi [yI (Prod.fst (g (0 + x))),yI (Prod.snd (g (0 + x)))]))))∧(((P21 (Prod.fst (gi [yI (Prod.fst (g (0 + (x + 1) % n))),yI (Prod.snd (g (0 + (x + 1) % n)))])))∧(P21 (Prod.snd (gi [yI (Prod.fst (g (0 + (x + 1) % n))),yI (Prod.snd (g (0 + (x + 1) % n)))]))))∧((P21 (Prod.fst p))∧(P21 (Prod.snd p)))))∧(sel (decide (Qrh (Prod.fst (gi [yI (Prod.fst (g (0 + x))),yI (Prod.snd (g (0 + x)))]),Prod.snd (gi [yI (Prod.fst (g (0 + x))),yI (Prod.snd (g (0 + x)))])) (Prod.fst (gi [yI (Prod.fst (g (0 + (x + 1) % n))),yI (Prod.snd (g (0 + (x + 1) % n)))]),Prod.snd (gi [yI (Prod.fst (g (0 + (x + 1) % n))),yI (Prod.snd (g (0 + (x + 1) % n)))])) (Prod.fst p,Prod.snd p) < 0)) ((yF false) = (yF true)) (∃ x' : Nat,(((x' : Nat) = (x + 1))∧((Nat.le x' n)∧(True∧(((1 : Nat) = 1)∧(((1 : Nat) ≤ 1)∧(∀ i : Nat,(((i : Nat) < 1)→([(yF false)] = [(yF false)]))))))))))))))∧(∀ x : Nat,((Nat.le x n)→(((x : Nat) = n)→((yF true) = (yF true)))))))) := by kernel_rfl
def Zkd : Qb7 := Qah Zji 101 (Qcv Qxn)
noncomputable def Zag (n : Nat) : Nat → Option LoopSpec := Qb9 (Qq9 Qax 0 Qqx Nat (fun k => k ≤ n) (fun k => k) [(72, fun _ => Qsl), (152, fun k => Qep 3 [.v (.int .i64 k)])]) Tryz.f239 2 Nat (fun i => i ≤ n) (fun i => n - i) [(23, fun i => .v (.int .i64 i))] [(72, fun _ => Qsl)]
def Zjx (n : Nat) (g : Nat → Int × Int) : Prop := ∀ k i, k < n → i < n → i ≠ k → i ≠ (k + 1) % n → 0 < Qrh (g k) (g ((k + 1) % n)) (g i)
def Zly : List SV → List Ro → Option (Option Prop × SV)
 | [.sl 0 2 0 n _], [⟨2, n', row⟩] => some (some (n' = n ∧ (3 ≤ n ∧ n < 1099511627776) ∧ spF n row ∧ Zjx n (fun i => gi (row i))), .v (.bool true))
 | _, _ => none
@[reducible] noncomputable def Qiz  := (((1 : Nat) = 1)∧(((1 : Nat) ≤ 1)∧(∀ i : Nat,(((i : Nat) < 1)→([(SV.v (.bool false))] = [(SV.v (.bool false))])))))
theorem Zk7 (n n' cap : Nat) (g : Nat→Int × Int) : (Qcm Tryz.prog Zkd (Zag n) Tryz.f239 [.sl 0 2 0 n cap] (Qbe [⟨2,n',Qco g⟩]) 64 (fun y _ => y = .v (.bool true))) =
(sel (decide ((↑n : Int) < 3)) ((yF false) = (yF true)) (((∀ i : Nat,(((i : Nat) < n)→(([(yI (Prod.fst (g (0 + i)))),(yI (Prod.snd (g (0 + i))))] = [(yI (Prod.fst (gi [yI (Prod.fst (g (0 + i))),yI (Prod.snd (g (0 + i)))]))),(yI (Prod.snd (gi [yI (Prod.fst (g (0 + i))),yI (Prod.snd (g (0 + i)))])))])∧((P21 (Prod.fst (gi [yI (Prod.fst (g (0 + i))),yI (Prod.snd (g (0 + i)))])))∧(P21 (Prod.snd (gi [yI (Prod.fst (g (0 + i))),yI (Prod.snd (g (0 + i)))])))))))∧(((n : Nat) = n)∧((n : Nat) < 1099511627776)))∧(((It.P Qqx = Tryz.prog)∧(((n : Nat) ≤ 1099511627776)∧((((0 + n) : Nat) ≤ (Ro.n {s:=2,n:=n',row:=fun i => [yI (Prod.fst (g i)),yI (Prod.snd (g i))]}))∧(∀ j : Nat,(((j : Nat) < n)→([(yI (Prod.fst (g (0 + j)))),(yI (Prod.snd (g (0 + j))))] = [(yI (Prod.fst (gi [yI (Prod.fst (g (0 + j))),yI (Prod.snd (g (0 + j)))]))),(yI (Prod.snd (gi [yI (Prod.fst (g (0 + j))),yI (Prod.snd (g (0 + j)))])))]))))))∧((∃ x : Nat,(((x : Nat) = 0)∧((Nat.le x n)∧(True∧((Qiz)∧(((1 : Nat) = 1)∧(((1 : Nat) ≤ 1)∧(∀ i : Nat,(((i : Nat) < 1)→([(yI 0)] = [(yI ((↑x : Int)))]))))))))))∧((∀ x : Nat,((Nat.le x n)→(((x : Nat) < n)→((∃ x_1 : Nat,((Nat.le x_1 n)∧(((yI 0) = (yI ((↑x_1 : Int))))∧(Qiz))))∧(∀ x_1 : Nat,((Nat.le x_1 n)→(sel (decide ((↑x_1 : Int) < (↑n : Int))) ((((0 : Int) ≤ ((↑x_1 : Int)))∧((((↑x_1 : Int)) : Int) < ((↑n : Int))))∧(sel ((↑x_1 : Int) != (↑x : Int)) (((((↑n : Int)) : Int) ≠ 0)∧(sel ((↑x_1 : Int) != Int.tmod (IntKind.wrap IntKind.i64 ((↑x : Int) + 1)) (↑n : Int)) ((((P21 (Prod.fst (gi [yI (Prod.fst (g (0 + x))),yI (Prod.snd (g (0 + x)))])))∧(P21 (Prod.snd (gi [yI (Prod.fst (g (0 + x))),yI (Prod.snd (g (0 + x)))]))))∧(((P21 (Prod.fst (gi [yI (Prod.fst (g (0 + (x + 1) % n))),yI (Prod.snd (g (0 + (x + 1) % n)))])))∧(P21 (Prod.snd (gi [yI (Prod.fst (g (0 + (x + 1) % n))),yI (Prod.snd (g (0 + (x + 1) % n)))]))))∧((P21 (Prod.fst (g (0 + Int.toNat (↑x_1 : Int)))))∧(P21 (Prod.snd (g (0 + Int.toNat (↑x_1 : Int))))))))∧(sel (decide (Qrh (Prod.fst (gi [yI (Prod.fst (g (0 + x))),yI (Prod.snd (g (0 + x)))]),Prod.snd (gi [yI (Prod.fst (g (0 + x))),yI (Prod.snd (g (0 + x)))])) (Prod.fst (gi [yI (Prod.fst (g (0 + (x + 1) % n))),yI (Prod.snd (g (0 + (x + 1) % n)))]),Prod.snd (gi [yI (Prod.fst (g (0 + (x + 1) % n))),yI (Prod.snd (g (0 + (x + 1) % n)))])) (Prod.fst (g (0 + Int.toNat (↑x_1 : Int))),Prod.snd (g (0 + Int.toNat (↑x_1 : Int)))) ≤ 0)) ((yF false) = (yF true)) (∃ x' : Nat,(((Nat.le x' n)∧(((yI (IntKind.wrap IntKind.i64 ((↑x_1 : Int) + 1))) = (yI ((↑x' : Int))))∧(Qiz)))∧(((n - x') : Nat) < (n - x_1)))))) (∃ x' : Nat,(((Nat.le x' n)∧(((yI (IntKind.wrap IntKind.i64 ((↑x_1 : Int) + 1))) = (yI ((↑x' : Int))))∧(Qiz)))∧(((n - x') : Nat) < (n - x_1)))))) (∃ x' : Nat,(((Nat.le x' n)∧(((yI (IntKind.wrap IntKind.i64 ((↑x_1 : Int) + 1))) = (yI ((↑x' : Int))))∧(Qiz)))∧(((n - x') : Nat) < (n - x_1)))))) (∃ x' : Nat,(((x' : Nat) = (x + 1))∧((Nat.le x' n)∧(True∧((Qiz)∧(((1 : Nat) = 1)∧(((1 : Nat) ≤ 1)∧(∀ i : Nat,(((i : Nat) < 1)→([(yI (IntKind.wrap IntKind.i64 ((↑x : Int) + 1)))] = [(yI ((↑x' : Int)))])))))))))))))))))∧(∀ x : Nat,((Nat.le x n)→(((x : Nat) = n)→((yF true) = (yF true)))))))))) := by kernel_rfl
theorem Qy0 : Qex Tryz.prog 186 Q1j := Qd7 hm Qas Tryz.func186 (Λ := fun _ _ => Qax) fun args bs e hs hp => by
 unfold Q1j at hs
 split at hs <;> try (cases hs; done)
 rename_i n cap b
 obtain ⟨el, sz, rw, lo, li, fl, n', row, ext, de, wh⟩ := b
 cases hc : (!rw && !de && Nat.beq sz 2) with
 | false => simp only [hc, cond_false] at hs; cases hs
 | true =>
   simp only [hc, cond_true, Option.some.injEq] at hs
   subst hs
   simp only [Bool.and_eq_true, Bool.not_eq_true', Nat.beq_eq] at hc
   obtain ⟨⟨rfl, rfl⟩, rfl⟩ := hc
   refine ⟨[roS el lo li fl wh n' ext row], ⟨BlkSame.refl _, trivial⟩, ?_⟩
   refine Eq.mpr (Zbx el n cap n' ext lo li fl wh row) ?_
   exact ⟨⟨rfl, rfl⟩, rfl, Nat.le_refl _, rfl⟩
theorem Qzn : ∀ f g, Zji f = some g → g.ok Tryz.prog f := Qab (Qab Qas (Qhu Tryz.func186 (by kernel_rfl) (by kernel_rfl) Qy0)) (Qak Tryz.func266 (by kernel_rfl) (by kernel_rfl) Q70)
theorem Zax : ∀ f g, Zkd f = some g → g.ok Tryz.prog f := Qab Qzn (Qc0 Tryz.func101 (by kernel_rfl) (by kernel_rfl) Qka)
theorem Zde {n cap : Nat} {p : Int × Int} {g : Nat → Int × Int} (hn : n < 1099511627776) (hg : ∀ i, i < n → P21 (g i).1 ∧ P21 (g i).2) (hp : P21 p.1 ∧ P21 p.2) (h : ∀ k, k < n → 0 ≤ Qrh (g k) (g ((k + 1) % n)) p) : Qcm Tryz.prog Zji (Qzb n) Tryz.f185 [.agg [.sl 0 2 0 n cap], pS2 p] (Qbe [⟨2, n, Qco g⟩]) 64 (fun y _ => y = .v (.bool true)) := by
 refine Eq.mpr (Zgg n n cap p g) ?_
 simp only [gi, Nat.zero_add]
 refine ⟨⟨rfl, by omega, Nat.le_refl _, fun _ _ => trivial⟩, ⟨0, rfl, Nat.zero_le _, trivial, trivial, Nat.le_refl _, fun _ _ => trivial⟩, fun x _ hx => ?_, fun _ _ _ => trivial⟩
 have l1 : (x + 1) % n < n := Nat.mod_lt _ (by omega)
 refine ⟨⟨hg x hx, hg _ l1, hp⟩, sF (decide_eq_false ?_) ⟨x + 1, rfl, hx, trivial, trivial, Nat.le_refl _, fun _ _ => trivial⟩⟩
 have := h x hx
 show ¬ Qrh (g x) (g ((x + 1) % n)) p < 0
 omega
theorem Q4e : Qca Tryz.prog 185 Zco := Qbw hm Qzn Tryz.func185 (Λ := fun args _ => match args with | [.agg [.sl 0 2 0 n _], _] => Qzb n | _ => Qax) fun args bs p x h hp => by
 unfold Zco at h
 split at h <;> try (cases h; done)
 rename_i n c a b n' row
 cases h
 obtain ⟨rfl, hn, h0, h1, h2⟩ := hp _ rfl
 exact ⟨rfl, [⟨2, n', Qco fun i => gi (row i)⟩], ⟨⟨rfl, rfl, fun i hi => (h0 i hi).1⟩, trivial⟩, Zde (p := (a, b)) hn (fun i hi => (h0 i hi).2) h1 h2⟩
theorem Zit {n cap : Nat} {g : Nat → Int × Int} (h3 : 3 ≤ n) (hn : n < 1099511627776) (hg : ∀ i, i < n → P21 (g i).1 ∧ P21 (g i).2) (h : Zjx n g) : Qcm Tryz.prog Zkd (Zag n) Tryz.f239 [.sl 0 2 0 n cap] (Qbe [⟨2, n, Qco g⟩]) 64 (fun y _ => y = .v (.bool true)) := by
 have h_vc := Zk7 n n cap g
 repeat (first | unfold Qiz at h_vc)
 refine Eq.mpr h_vc (sF (decide_eq_false (by omega)) ?_)
 simp only [gi, Nat.zero_add]
 refine ⟨⟨fun i hi => ⟨trivial, hg i hi⟩, trivial, hn⟩, ⟨rfl, by omega, Nat.le_refl _, fun _ _ => trivial⟩, ⟨0, rfl, Nat.zero_le _, trivial, ⟨trivial, Nat.le_refl _, fun _ _ => trivial⟩, trivial, Nat.le_refl _, fun _ _ => rfl⟩, fun k _ hk => ?_, fun _ _ _ => trivial⟩
 have l1 : (k + 1) % n < n := Nat.mod_lt _ (by omega)
 refine ⟨⟨0, Nat.zero_le _, rfl, trivial, Nat.le_refl _, fun _ _ => trivial⟩, fun i hi => ?_⟩
 have ew : i < n → IntKind.i64.wrap ((i : Int) + 1) = ((i + 1 : Nat) : Int) := fun h => by rw [Qag ⟨by omega, by omega⟩]; rfl
 have em : (IntKind.i64.wrap ((k : Int) + 1)).tmod (n : Int) = (((k + 1) % n : Nat) : Int) := by
   rw [Qag ⟨by omega, by omega⟩, Int.tmod_eq_emod_of_nonneg (by omega), Int.natCast_emod]; rfl
 refine Qaf (fun hlt => ?_) fun hge => ?_
 · have hlt : i < n := by simpa using hlt
   have next : ∃ x' : Nat, (x'.le n ∧ SV.v (.int .i64 (IntKind.i64.wrap ((i : Int) + 1))) = SV.v (.int .i64 (x' : Int)) ∧ True ∧ 1 ≤ 1 ∧ ∀ j : Nat, j < 1 → True) ∧ n - x' < n - i := ⟨i + 1, ⟨hlt, by rw [ew hlt], trivial, Nat.le_refl _, fun _ _ => trivial⟩, by omega⟩
   refine ⟨⟨by omega, by omega⟩, Qaf (fun h4 => ⟨by omega, Qaf (fun h5 => ?_) fun h5 => next⟩) fun h4 => next⟩
   rw [em] at h5
   have n1 : i ≠ k := fun e => by rw [e] at h4; simp at h4
   have n2 : i ≠ (k + 1) % n := fun e => by rw [← e] at h5; simp at h5
   have ht := h k i hk hlt n1 n2
   rw [Int.toNat_natCast]
   refine ⟨⟨hg k hk, hg _ l1, hg i hlt⟩, sF (decide_eq_false ?_) next⟩
   show ¬ Qrh (g k) (g ((k + 1) % n)) (g i) ≤ 0
   omega
 · exact ⟨k + 1, rfl, hk, trivial, ⟨trivial, Nat.le_refl _, fun _ _ => trivial⟩, trivial, Nat.le_refl _, fun _ _ => by rw [Qag ⟨by omega, by omega⟩]; rfl⟩
theorem Q8n : Qca Tryz.prog 239 Zly := Qbw hm Zax Tryz.func239 (Λ := fun args _ => match args with | [.sl 0 2 0 n _] => Zag n | _ => Qax) fun args bs p x h hp => by
 unfold Zly at h
 split at h <;> try (cases h; done)
 rename_i n c n' row
 cases h
 obtain ⟨rfl, ⟨h3, hn⟩, h0, h1⟩ := hp _ rfl
 exact ⟨rfl, [⟨2, n', Qco fun i => gi (row i)⟩], ⟨⟨rfl, rfl, fun i hi => (h0 i hi).1⟩, trivial⟩, Zit h3 hn (fun i hi => (h0 i hi).2) h1⟩
def dskP (c : Int × Int) (r : Int) : Prop := (P21 c.1 ∧ P21 c.2) ∧ (1 ≤ r ∧ r ≤ 1048576) ∧ (P21 (c.1 - r) ∧ P21 (c.2 - r)) ∧ P21 (c.1 + r) ∧ P21 (c.2 + r)
def Zl2 (c : Int × Int) (n : Nat) (g : Nat → Int × Int) : Prop := (P21 c.1 ∧ P21 c.2) ∧ (3 ≤ n ∧ n ≤ 8) ∧ (∀ i, i < n → P21 (g i).1 ∧ P21 (g i).2) ∧ Zjx n g
def Qwn (k : Int) (c : Int × Int) (r : Int) (n : Nat) (g : Nat → Int × Int) : Prop := (k = 1 ∧ n = 0 ∧ dskP c r) ∨ (k = 2 ∧ r = 0 ∧ Zl2 c n g)
def Qi2 (n : Nat) (row : Nat → List SV) : Prop := ∀ i, i < n → row i = [.v (.int .i64 (gi (row i)).1), .v (.int .i64 (gi (row i)).2)]
noncomputable def Qzo : Qb7 := Qah (Qah (Qah (Qah Qbi 101 (Qcv Qxn)) 238 (Qaj Q1h)) 107 (Qaj Qua)) 239 (Qcv Zly)
def Zc3 : List SV → List Ro → Option (Option Prop × SV)
 | [.agg [.v (.int .i64 k), .v (.int .i64 a), .v (.int .i64 b), .v (.int .i64 r), .sl 0 2 0 n _]], [⟨2, n', row⟩] => some (some (n' = n ∧ Qi2 n row ∧ Qwn k (a, b) r n (fun i => gi (row i))), iV 0)
 | _, _ => none
theorem Zg2 (c : Int × Int) (r : Int) (n' cap : Nat) (g : Nat→Int × Int) : (Qcm Tryz.prog Qzo Qax Tryz.f169 [fmS 1 c r (.sl 0 2 0 0 cap)] (Qbe [⟨2,n',Qco g⟩]) 64 (fun y _ => y = iV 0)) =
(((∀ i : Nat,(((i : Nat) < 1)→(([(yI (Prod.fst c)),(yI (Prod.snd c))] = [(yI (Prod.fst (gi [yI (Prod.fst c),yI (Prod.snd c)]))),(yI (Prod.snd (gi [yI (Prod.fst c),yI (Prod.snd c)])))])∧((P21 (Prod.fst (gi [yI (Prod.fst c),yI (Prod.snd c)])))∧(P21 (Prod.snd (gi [yI (Prod.fst c),yI (Prod.snd c)])))))))∧(((1 : Nat) = 1)∧((1 : Nat) < 1099511627776)))∧(((∀ i : Nat,(((i : Nat) < 0)→(([(yI (Prod.fst (g (0 + i)))),(yI (Prod.snd (g (0 + i))))] = [(yI (Prod.fst (gi [yI (Prod.fst (g (0 + i))),yI (Prod.snd (g (0 + i)))]))),(yI (Prod.snd (gi [yI (Prod.fst (g (0 + i))),yI (Prod.snd (g (0 + i)))])))])∧((P21 (Prod.fst (gi [yI (Prod.fst (g (0 + i))),yI (Prod.snd (g (0 + i)))])))∧(P21 (Prod.snd (gi [yI (Prod.fst (g (0 + i))),yI (Prod.snd (g (0 + i)))])))))))∧(((0 : Nat) = 0)∧((0 : Nat) < 1099511627776)))∧(sel (decide (r > 0)) (sel (decide (r > 2097152)) ((yI 3) = (yI 0)) (((P21 (Prod.fst c))∧((P21 (Prod.snd c))∧(P21 r)))∧((((P21 (Prod.fst c - r))∧(P21 (Prod.snd c - r)))∧(((P21 (Prod.fst c + r))∧(P21 (Prod.snd c + r)))∧((((Prod.fst c - r) : Int) ≤ (Prod.fst c + r))∧(((Prod.snd c - r) : Int) ≤ (Prod.snd c + r)))))∧(sel (decide (r < 1)) ((yI 5) = (yI 0)) ((yI 0) = (yI 0)))))) (sel (decide (r < 1)) ((yI 5) = (yI 0)) ((yI 0) = (yI 0)))))) := by kernel_rfl
theorem Zg1 (c : Int × Int) (n n' cap : Nat) (g : Nat→Int × Int) : (Qcm Tryz.prog Qzo Qax Tryz.f169 [fmS 2 c 0 (.sl 0 2 0 n cap)] (Qbe [⟨2,n',Qco g⟩]) 64 (fun y _ => y = iV 0)) =
(((∀ i : Nat,(((i : Nat) < 1)→(([(yI (Prod.fst c)),(yI (Prod.snd c))] = [(yI (Prod.fst (gi [yI (Prod.fst c),yI (Prod.snd c)]))),(yI (Prod.snd (gi [yI (Prod.fst c),yI (Prod.snd c)])))])∧((P21 (Prod.fst (gi [yI (Prod.fst c),yI (Prod.snd c)])))∧(P21 (Prod.snd (gi [yI (Prod.fst c),yI (Prod.snd c)])))))))∧(((1 : Nat) = 1)∧((1 : Nat) < 1099511627776)))∧(((∀ i : Nat,(((i : Nat) < n)→(([(yI (Prod.fst (g (0 + i)))),(yI (Prod.snd (g (0 + i))))] = [(yI (Prod.fst (gi [yI (Prod.fst (g (0 + i))),yI (Prod.snd (g (0 + i)))]))),(yI (Prod.snd (gi [yI (Prod.fst (g (0 + i))),yI (Prod.snd (g (0 + i)))])))])∧((P21 (Prod.fst (gi [yI (Prod.fst (g (0 + i))),yI (Prod.snd (g (0 + i)))])))∧(P21 (Prod.snd (gi [yI (Prod.fst (g (0 + i))),yI (Prod.snd (g (0 + i)))])))))))∧(((n : Nat) = n)∧((n : Nat) < 1099511627776)))∧(sel (decide ((↑n : Int) > 8)) ((yI 5) = (yI 0)) ((((n : Nat) = n)∧((((3 : Nat) ≤ n)∧((n : Nat) < 1099511627776))∧((spF n fun y => [yI (Prod.fst (g (0 + y))),yI (Prod.snd (g (0 + y)))])∧(Zjx n fun i => gi [yI (Prod.fst (g (0 + i))),yI (Prod.snd (g (0 + i)))]))))∧((yI 0) = (yI 0)))))) := by kernel_rfl
noncomputable def Zaw : Qb7 := Qah Qbi 169 (Qcv Zc3)
def Zjv (q : Prop) (k : Int) (c : Int × Int) (r : Int) (n cap : Nat) : Eff := bif k == 1 then .det (some q) (.v (.iface 273 (.agg #[.int .i64 c.1, .int .i64 c.2, .int .i64 r]))) [] else .det (some q) (.ifc 275 (.agg [.sl 0 2 0 n cap])) []
def Zlv (args : List SV) (bs : List Blk) : Option Eff := match args, bs with
 | [.agg [.v (.int .i64 k), .v (.int .i64 a), .v (.int .i64 b), .v (.int .i64 r), .sl 0 2 0 n cap]], [B] => bif okB B then some (Zjv (Qfd n B ∧ Qwn k (a, b) r n (Qbz B)) k (a, b) r n cap) else none
 | _, _ => none
theorem Zgq (c : Int × Int) (r : Int) (cap : Nat) (B : Blk) (g : Nat→Int × Int) (q : Prop) : (Qcm Tryz.prog Zaw Qax Tryz.f100 [fmS 1 c r (.sl 0 2 0 0 cap)] (Qa1 [rdB B 0 g]) 64 (fun y h' => Qj9 [rdB B 0 g] (Zjv q 1 c r 0 cap) y h')) = ((((0 : Nat) = 0)∧((Qi2 0 fun y => [yI (Prod.fst (g (0 + y))),yI (Prod.snd (g (0 + y)))])∧(Qwn 1 (Prod.fst c,Prod.snd c) r 0 fun i => gi [yI (Prod.fst (g (0 + i))),yI (Prod.snd (g (0 + i)))])))∧(((SV.v (Value.iface 273 (Value.agg #[.int .i64 (Prod.fst c),.int .i64 (Prod.snd c),.int .i64 r]))) = (SV.v (Value.iface 273 (Value.agg #[.int .i64 (Prod.fst c),.int .i64 (Prod.snd c),.int .i64 r]))))∧True)):=by kernel_rfl
theorem Zgp (c : Int × Int) (n cap : Nat) (B : Blk) (g : Nat→Int × Int) (q : Prop) : (Qcm Tryz.prog Zaw Qax Tryz.f100 [fmS 2 c 0 (.sl 0 2 0 n cap)] (Qa1 [rdB B n g]) 64 (fun y h' => Qj9 [rdB B n g] (Zjv q 2 c 0 n cap) y h')) = ((((n : Nat) = n)∧((Qi2 n fun y => [yI (Prod.fst (g (0 + y))),yI (Prod.snd (g (0 + y)))])∧(Qwn 2 (Prod.fst c,Prod.snd c) 0 n fun i => gi [yI (Prod.fst (g (0 + i))),yI (Prod.snd (g (0 + i)))])))∧(((275 = 275)∧((SV.sl 0 2 0 n cap) = (SV.sl 0 2 0 n cap)))∧True)):=by kernel_rfl
noncomputable def Qtq : Qb7 := Qah (Qah (Qah (Qah Qbi 101 (Qcv Qxn)) 100 (Qgv false Zlv)) 363 (Qaj Zc0)) 185 (Qcv Zco)
def Zim (k : Int) (c : Int × Int) (n : Nat) (g : Nat → Int × Int) (p : Int × Int) : Prop := (P21 p.1 ∧ P21 p.2) ∧ ((k = 1 ∧ p = c) ∨ (k = 2 ∧ ∀ j, j < n → 0 ≤ Qrh (g j) (g ((j + 1) % n)) p))
def Zil : SV := .agg [.v (.bool true), .v (.int .i64 0), .v (.bool false), .v (.int .i64 0), .v (.bool false), .v (.int .i64 0), .v (.bool false)]
def Zc4 : List SV → List Ro → Option (Option Prop × SV)
 | [.agg [.v (.int .i64 k), .v (.int .i64 a), .v (.int .i64 b), .v (.int .i64 r), .sl 0 2 0 n _], .agg [.v (.int .i64 x), .v (.int .i64 y)], .agg [.v (.int .i64 u), .v (.int .i64 v)]], [⟨2, n', row⟩] => some (some (n' = n ∧ Qi2 n row ∧ Qwn k (a, b) r n (fun i => gi (row i)) ∧ Zim k (a, b) n (fun i => gi (row i)) (x, y) ∧ P21 u ∧ P21 v), Zil)
 | _, _ => none
theorem Zb2 (c p q : Int × Int) (r : Int) (n' cap : Nat) (g : Nat→Int × Int) : (Qcm Tryz.prog Qtq Qax Tryz.f32 [fmS 1 c r (.sl 0 2 0 0 cap),pS2 p,pS2 q] (Qbe [⟨2,n',Qco g⟩]) 64 (fun y _ => y = Zil)) =
(((Qfd 0 (Qaw (Ro.blk {s:=2,n:=n',row:=fun i => [yI (Prod.fst (g i)),yI (Prod.snd (g i))]}) 2 0 0))∧(Qwn 1 (Prod.fst c,Prod.snd c) r 0 (Qbz (Qaw (Ro.blk {s:=2,n:=n',row:=fun i => [yI (Prod.fst (g i)),yI (Prod.snd (g i))]}) 2 0 0))))∧(((∀ i : Nat,(((i : Nat) < 2)→(([(yI (bop (Nat.beq (0 + i) 0) (Prod.fst p) (Prod.fst q))),(yI (bop (Nat.beq (0 + i) 0) (Prod.snd p) (Prod.snd q)))] = [(yI (Prod.fst (gi [yI (bop (Nat.beq (0 + i) 0) (Prod.fst p) (Prod.fst q)),yI (bop (Nat.beq (0 + i) 0) (Prod.snd p) (Prod.snd q))]))),(yI (Prod.snd (gi [yI (bop (Nat.beq (0 + i) 0) (Prod.fst p) (Prod.fst q)),yI (bop (Nat.beq (0 + i) 0) (Prod.snd p) (Prod.snd q))])))])∧((P21 (Prod.fst (gi [yI (bop (Nat.beq (0 + i) 0) (Prod.fst p) (Prod.fst q)),yI (bop (Nat.beq (0 + i) 0) (Prod.snd p) (Prod.snd q))])))∧(P21 (Prod.snd (gi [yI (bop (Nat.beq (0 + i) 0) (Prod.fst p) (Prod.fst q)),yI (bop (Nat.beq (0 + i) 0) (Prod.snd p) (Prod.snd q))])))))))∧(((2 : Nat) = 2)∧((2 : Nat) < 1099511627776)))∧((((P21 (Prod.fst (Prod.fst c,Prod.snd c)))∧(P21 (Prod.snd (Prod.fst c,Prod.snd c))))∧((P21 r)∧((((Prod.fst p) : Int) = (Prod.fst (Prod.fst c,Prod.snd c)))∧(((Prod.snd p) : Int) = (Prod.snd (Prod.fst c,Prod.snd c))))))∧((SV.agg [(yF true),(yI 0),(yF false),(yI 0),(yF false),(yI 0),(yF false)]) = (SV.agg [(yF true),(yI 0),(yF false),(yI 0),(yF false),(yI 0),(yF false)]))))) := by kernel_rfl
theorem Zb1 (c p q : Int × Int) (n n' cap : Nat) (g : Nat→Int × Int) : (Qcm Tryz.prog Qtq Qax Tryz.f32 [fmS 2 c 0 (.sl 0 2 0 n cap),pS2 p,pS2 q] (Qbe [⟨2,n',Qco g⟩]) 64 (fun y _ => y = Zil)) =
(((Qfd n (Qaw (Ro.blk {s:=2,n:=n',row:=fun i => [yI (Prod.fst (g i)),yI (Prod.snd (g i))]}) 2 0 n))∧(Qwn 2 (Prod.fst c,Prod.snd c) 0 n (Qbz (Qaw (Ro.blk {s:=2,n:=n',row:=fun i => [yI (Prod.fst (g i)),yI (Prod.snd (g i))]}) 2 0 n))))∧(((∀ i : Nat,(((i : Nat) < 2)→(([(yI (bop (Nat.beq (0 + i) 0) (Prod.fst p) (Prod.fst q))),(yI (bop (Nat.beq (0 + i) 0) (Prod.snd p) (Prod.snd q)))] = [(yI (Prod.fst (gi [yI (bop (Nat.beq (0 + i) 0) (Prod.fst p) (Prod.fst q)),yI (bop (Nat.beq (0 + i) 0) (Prod.snd p) (Prod.snd q))]))),(yI (Prod.snd (gi [yI (bop (Nat.beq (0 + i) 0) (Prod.fst p) (Prod.fst q)),yI (bop (Nat.beq (0 + i) 0) (Prod.snd p) (Prod.snd q))])))])∧((P21 (Prod.fst (gi [yI (bop (Nat.beq (0 + i) 0) (Prod.fst p) (Prod.fst q)),yI (bop (Nat.beq (0 + i) 0) (Prod.snd p) (Prod.snd q))])))∧(P21 (Prod.snd (gi [yI (bop (Nat.beq (0 + i) 0) (Prod.fst p) (Prod.fst q)),yI (bop (Nat.beq (0 + i) 0) (Prod.snd p) (Prod.snd q))])))))))∧(((2 : Nat) = 2)∧((2 : Nat) < 1099511627776)))∧((((n : Nat) = n)∧(((n : Nat) < 1099511627776)∧((spF n fun y => [yI (Prod.fst (g (0 + y))),yI (Prod.snd (g (0 + y)))])∧(((P21 (Prod.fst p))∧(P21 (Prod.snd p)))∧(∀ k : Nat,(((k : Nat) < n)→((0 : Int) ≤ (Qrh (gi [yI (Prod.fst (g (0 + k))),yI (Prod.snd (g (0 + k)))]) (gi [yI (Prod.fst (g (0 + (k + 1) % n))),yI (Prod.snd (g (0 + (k + 1) % n)))]) (Prod.fst p,Prod.snd p)))))))))∧((SV.agg [(yF true),(yI 0),(yF false),(yI 0),(yF false),(yI 0),(yF false)]) = (SV.agg [(yF true),(yI 0),(yF false),(yI 0),(yF false),(yI 0),(yF false)]))))) := by kernel_rfl
def Zcw : List SV → List Ro → Option (Option Prop × SV)
 | [.agg [.v (.int .i64 k), .v (.int .i64 a), .v (.int .i64 b), .v (.int .i64 r), .sl 0 2 0 n _], .agg [.v (.int .i64 x), .v (.int .i64 y)]], [⟨2, n', row⟩] => some (some (n' = n ∧ Qi2 n row ∧ Qwn k (a, b) r n (fun i => gi (row i)) ∧ Zim k (a, b) n (fun i => gi (row i)) (x, y)), bV true)
 | _, _ => none
theorem Zbs (c p : Int × Int) (r : Int) (n' cap : Nat) (g : Nat→Int × Int) : (Qcm Tryz.prog Qtq Qax Tryz.f33 [fmS 1 c r (.sl 0 2 0 0 cap),pS2 p] (Qbe [⟨2,n',Qco g⟩]) 64 (fun y _ => y = bV true)) =
(((Qfd 0 (Qaw (Ro.blk {s:=2,n:=n',row:=fun i => [yI (Prod.fst (g i)),yI (Prod.snd (g i))]}) 2 0 0))∧(Qwn 1 (Prod.fst c,Prod.snd c) r 0 (Qbz (Qaw (Ro.blk {s:=2,n:=n',row:=fun i => [yI (Prod.fst (g i)),yI (Prod.snd (g i))]}) 2 0 0))))∧(((∀ i : Nat,(((i : Nat) < 1)→(([(yI (Prod.fst p)),(yI (Prod.snd p))] = [(yI (Prod.fst (gi [yI (Prod.fst p),yI (Prod.snd p)]))),(yI (Prod.snd (gi [yI (Prod.fst p),yI (Prod.snd p)])))])∧((P21 (Prod.fst (gi [yI (Prod.fst p),yI (Prod.snd p)])))∧(P21 (Prod.snd (gi [yI (Prod.fst p),yI (Prod.snd p)])))))))∧(((1 : Nat) = 1)∧((1 : Nat) < 1099511627776)))∧((((P21 (Prod.fst (Prod.fst c,Prod.snd c)))∧(P21 (Prod.snd (Prod.fst c,Prod.snd c))))∧((P21 r)∧((((Prod.fst p) : Int) = (Prod.fst (Prod.fst c,Prod.snd c)))∧(((Prod.snd p) : Int) = (Prod.snd (Prod.fst c,Prod.snd c))))))∧((yF true) = (yF true))))) := by kernel_rfl
theorem Zbr (c p : Int × Int) (n n' cap : Nat) (g : Nat→Int × Int) : (Qcm Tryz.prog Qtq Qax Tryz.f33 [fmS 2 c 0 (.sl 0 2 0 n cap),pS2 p] (Qbe [⟨2,n',Qco g⟩]) 64 (fun y _ => y = bV true)) =
(((Qfd n (Qaw (Ro.blk {s:=2,n:=n',row:=fun i => [yI (Prod.fst (g i)),yI (Prod.snd (g i))]}) 2 0 n))∧(Qwn 2 (Prod.fst c,Prod.snd c) 0 n (Qbz (Qaw (Ro.blk {s:=2,n:=n',row:=fun i => [yI (Prod.fst (g i)),yI (Prod.snd (g i))]}) 2 0 n))))∧(((∀ i : Nat,(((i : Nat) < 1)→(([(yI (Prod.fst p)),(yI (Prod.snd p))] = [(yI (Prod.fst (gi [yI (Prod.fst p),yI (Prod.snd p)]))),(yI (Prod.snd (gi [yI (Prod.fst p),yI (Prod.snd p)])))])∧((P21 (Prod.fst (gi [yI (Prod.fst p),yI (Prod.snd p)])))∧(P21 (Prod.snd (gi [yI (Prod.fst p),yI (Prod.snd p)])))))))∧(((1 : Nat) = 1)∧((1 : Nat) < 1099511627776)))∧((((n : Nat) = n)∧(((n : Nat) < 1099511627776)∧((spF n fun y => [yI (Prod.fst (g (0 + y))),yI (Prod.snd (g (0 + y)))])∧(((P21 (Prod.fst p))∧(P21 (Prod.snd p)))∧(∀ k : Nat,(((k : Nat) < n)→((0 : Int) ≤ (Qrh (gi [yI (Prod.fst (g (0 + k))),yI (Prod.snd (g (0 + k)))]) (gi [yI (Prod.fst (g (0 + (k + 1) % n))),yI (Prod.snd (g (0 + (k + 1) % n)))]) (Prod.fst p,Prod.snd p)))))))))∧((yF true) = (yF true))))) := by kernel_rfl
def Qy5 (a n : NB) : Bool := !a.f && decide (Qac (Qaa a.v) ≤ Qaa n.v)
def Zlj : List SV → Option (Option Prop × SV)
 | [.agg [.v (.int .i64 a), .v (.bool f)], .agg [.v (.int .i64 b), .v (.bool g)]] => some (some (I64 a ∧ I64 b), bV (Qy5 ⟨a, f⟩ ⟨b, g⟩))
 | _ => none
theorem Zkh (a b : NB) (R : SV→Prop) : (Qau Tryz.prog Zaz Qax Tryz.f30 [nS a,nS b] R) = (sel (!NB.f a) ((I64 (NB.v a))∧(R (yF (decide (Qec (Qaa (Qac (Qaa (NB.v a)))) (Qaa (NB.v b)) ≤ 0))))) (R (yF false))):=by kernel_rfl
theorem P21.i64 {x : Int} (h : P21 x) : I64 x := ⟨by have := h.1; omega, by have := h.2; omega⟩
theorem gz (g : Nat → Int × Int) : (fun i => gi [SV.v (.int .i64 (g (0 + i)).1), SV.v (.int .i64 (g (0 + i)).2)]) = g := funext fun i => by
 show g (0 + i) = g i
 rw [Nat.zero_add]
theorem Q6l {n : Nat} {g : Nat → Int × Int} (hg : ∀ i, i < n → P21 (g i).1 ∧ P21 (g i).2) : spF n fun y => [SV.v (.int .i64 (g (0 + y)).1), SV.v (.int .i64 (g (0 + y)).2)] := fun i hi => ⟨rfl, by
 show P21 (g (0 + i)).1 ∧ P21 (g (0 + i)).2
 rw [Nat.zero_add]; exact hg i hi⟩
theorem Q5c : ∀ f g, Qzo f = some g → g.ok Tryz.prog f := Qab (Qab (Qab (Qab Qas (Qc0 Tryz.func101 (by kernel_rfl) (by kernel_rfl) Qka)) (Qak Tryz.func238 (by kernel_rfl) (by kernel_rfl) Qyx)) (Qak Tryz.func107 (by kernel_rfl) (by kernel_rfl) Qvf)) (Qc0 Tryz.func239 (by kernel_rfl) (by kernel_rfl) Q8n)
theorem Zeg {c : Int × Int} {r : Int} {n' cap : Nat} {g : Nat → Int × Int} (h : dskP c r) : Qcm Tryz.prog Qzo Qax Tryz.f169 [fmS 1 c r (.sl 0 2 0 0 cap)] (Qbe [⟨2, n', Qco g⟩]) 64 (fun y _ => y = iV 0) := by
 obtain ⟨⟨c1, c2⟩, ⟨r1, r2⟩, ⟨l1, l2⟩, u1, u2⟩ := h
 exact Eq.mpr (Zg2 c r n' cap g) ⟨⟨fun i hi => ⟨rfl, c1, c2⟩, rfl, by decide⟩, ⟨fun i hi => absurd hi (Nat.not_lt_zero _), rfl, by decide⟩, sT (decide_eq_true (by omega)) (sF (decide_eq_false (by omega)) ⟨⟨c1, c2, by omega, by omega⟩, ⟨⟨l1, l2⟩, ⟨u1, u2⟩, by omega, by omega⟩, sF (decide_eq_false (by omega)) rfl⟩)⟩
theorem Zef {c : Int × Int} {n n' cap : Nat} {g : Nat → Int × Int} (h : Zl2 c n g) : Qcm Tryz.prog Qzo Qax Tryz.f169 [fmS 2 c 0 (.sl 0 2 0 n cap)] (Qbe [⟨2, n', Qco g⟩]) 64 (fun y _ => y = iV 0) := by
 obtain ⟨⟨c1, c2⟩, ⟨h3, h8⟩, hg, hc⟩ := h
 refine Eq.mpr (Zg1 c n n' cap g) ⟨⟨fun i hi => ⟨rfl, c1, c2⟩, rfl, by decide⟩, ⟨Q6l hg, rfl, by omega⟩, sF (decide_eq_false (by omega)) ⟨⟨rfl, ⟨h3, by omega⟩, Q6l hg, ?_⟩, rfl⟩⟩
 rw [gz]; exact hc
theorem Q4y : Qca Tryz.prog 169 Zc3 := Qbw hm Q5c Tryz.func169 (Λ := fun _ _ => Qax) fun args bs p x h hp => by
 unfold Zc3 at h
 split at h <;> try (cases h; done)
 rename_i k a b r n c n' row
 cases h
 obtain ⟨rfl, h0, hf⟩ := hp _ rfl
 refine ⟨rfl, [⟨2, n', Qco fun i => gi (row i)⟩], ⟨⟨rfl, rfl, fun i hi => h0 i hi⟩, trivial⟩, ?_⟩
 rcases hf with ⟨rfl, rfl, hd⟩ | ⟨rfl, rfl, hd⟩
 · exact Zeg (c := (a, b)) hd
 · exact Zef (c := (a, b)) hd
theorem Q5b : ∀ f g, Zaw f = some g → g.ok Tryz.prog f := Qab Qas (Qc0 Tryz.func169 (by kernel_rfl) (by kernel_rfl) Q4y)
theorem Q8j : Qex Tryz.prog 100 Zlv := Qd7 hm Q5b Tryz.func100 (Λ := fun _ _ => Qax) fun args bs e hs hp => by
 unfold Zlv at hs
 split at hs <;> try (cases hs; done)
 rename_i k a b r n cap B
 obtain ⟨hB, he⟩ := Qw0 hs
 subst he
 have hq : Qfd n B ∧ Qwn k (a, b) r n (Qbz B) := by
   unfold Zjv at hp
   cases hk : (k == 1) with
   | true => rw [hk, cond_true] at hp; exact hp _ rfl
   | false => rw [hk, cond_false] at hp; exact hp _ rfl
 obtain ⟨hpre, hf⟩ := hq
 rcases hf with ⟨rfl, rfl, hd⟩ | ⟨rfl, rfl, hd⟩
 · refine ⟨[rdB B 0 (Qbz B)], ⟨Qkk hB hpre, trivial⟩, Eq.mpr (Zgq (a, b) r cap B (Qbz B) _) ⟨⟨rfl, fun i hi => absurd hi (Nat.not_lt_zero _), ?_⟩, rfl, trivial⟩⟩
   rw [gz]; exact Or.inl ⟨rfl, rfl, hd⟩
 · refine ⟨[rdB B n (Qbz B)], ⟨Qkk hB hpre, trivial⟩, Eq.mpr (Zgp (a, b) n cap B (Qbz B) _) ⟨⟨rfl, fun i hi => rfl, ?_⟩, ⟨rfl, rfl⟩, trivial⟩⟩
   rw [gz]; exact Or.inr ⟨rfl, rfl, hd⟩
theorem Qvk : ∀ f g, Qtq f = some g → g.ok Tryz.prog f := Qab (Qab (Qab (Qab Qas (Qc0 Tryz.func101 (by kernel_rfl) (by kernel_rfl) Qka)) (Qhu Tryz.func100 (by kernel_rfl) (by kernel_rfl) Q8j)) (Qak Tryz.func363 (by kernel_rfl) (by kernel_rfl) Q4s)) (Qc0 Tryz.func185 (by kernel_rfl) (by kernel_rfl) Q4e)
theorem Zin {p q : Int × Int} (hp : P21 p.1 ∧ P21 p.2) (hq : P21 q.1 ∧ P21 q.2) : ∀ i : Nat, i < 2 → [SV.v (.int .i64 (bop (Nat.beq (0 + i) 0) p.1 q.1)), SV.v (.int .i64 (bop (Nat.beq (0 + i) 0) p.2 q.2))] = [SV.v (.int .i64 (gi [SV.v (.int .i64 (bop (Nat.beq (0 + i) 0) p.1 q.1)), SV.v (.int .i64 (bop (Nat.beq (0 + i) 0) p.2 q.2))]).1), SV.v (.int .i64 (gi [SV.v (.int .i64 (bop (Nat.beq (0 + i) 0) p.1 q.1)), SV.v (.int .i64 (bop (Nat.beq (0 + i) 0) p.2 q.2))]).2)] ∧ P21 (gi [SV.v (.int .i64 (bop (Nat.beq (0 + i) 0) p.1 q.1)), SV.v (.int .i64 (bop (Nat.beq (0 + i) 0) p.2 q.2))]).1 ∧ P21 (gi [SV.v (.int .i64 (bop (Nat.beq (0 + i) 0) p.1 q.1)), SV.v (.int .i64 (bop (Nat.beq (0 + i) 0) p.2 q.2))]).2 := fun i hi => by
 have : i = 0 ∨ i = 1 := by omega
 rcases this with rfl | rfl
 · exact ⟨rfl, hp⟩
 · exact ⟨rfl, hq⟩
theorem dskP.r21 {c : Int × Int} {r : Int} (h : dskP c r) : P21 r := ⟨by have := h.2.1.1; omega, by have := h.2.1.2; omega⟩
theorem Q7o {c p q : Int × Int} {r : Int} {n' cap : Nat} {g : Nat → Int × Int} (h : dskP c r) (hpc : p = c) (hq : P21 q.1 ∧ P21 q.2) : Qcm Tryz.prog Qtq Qax Tryz.f32 [fmS 1 c r (.sl 0 2 0 0 cap), pS2 p, pS2 q] (Qbe [⟨2, n', Qco g⟩]) 64 (fun y _ => y = Zil) := by
 subst hpc
 refine Eq.mpr (Zb2 p p q r n' cap g) ⟨⟨Qh6 (by decide) (fun i hi => absurd hi (Nat.not_lt_zero _)), Or.inl ⟨rfl, rfl, h⟩⟩, ⟨Zin h.1 hq, rfl, by decide⟩, ⟨h.1, h.r21, rfl, rfl⟩, rfl⟩
theorem Q7n {c p q : Int × Int} {n n' cap : Nat} {g : Nat → Int × Int} (h : Zl2 c n g) (hp : P21 p.1 ∧ P21 p.2) (hh : ∀ j, j < n → 0 ≤ Qrh (g j) (g ((j + 1) % n)) p) (hq : P21 q.1 ∧ P21 q.2) : Qcm Tryz.prog Qtq Qax Tryz.f32 [fmS 2 c 0 (.sl 0 2 0 n cap), pS2 p, pS2 q] (Qbe [⟨2, n', Qco g⟩]) 64 (fun y _ => y = Zil) := by
 have h8 := h.2.1
 refine Eq.mpr (Zb1 c p q n n' cap g) ⟨⟨Qh6 (by omega) (fun i hi => ⟨(h.2.2.1 i hi).1.i64, (h.2.2.1 i hi).2.i64⟩), ?_⟩, ⟨Zin hp hq, rfl, by decide⟩, ⟨rfl, by omega, Q6l h.2.2.1, hp, fun k hk => ?_⟩, rfl⟩
 · rw [Q5h]; exact Or.inr ⟨rfl, rfl, h⟩
 · show 0 ≤ Qrh (g (0 + k)) (g (0 + (k + 1) % n)) p
   rw [Nat.zero_add, Nat.zero_add]; exact hh k hk
theorem Q4z : Qca Tryz.prog 32 Zc4 := Qbw hm Qvk Tryz.func32 (Λ := fun _ _ => Qax) fun args bs p x h hp => by
 unfold Zc4 at h
 split at h <;> try (cases h; done)
 rename_i k a b r n c x y u v n' row
 cases h
 obtain ⟨rfl, h0, hf, ⟨hpp, hh⟩, hu⟩ := hp _ rfl
 refine ⟨rfl, [⟨2, n', Qco fun i => gi (row i)⟩], ⟨⟨rfl, rfl, fun i hi => h0 i hi⟩, trivial⟩, ?_⟩
 rcases hf with ⟨rfl, rfl, hd⟩ | ⟨rfl, rfl, hd⟩
 · rcases hh with ⟨_, he⟩ | ⟨h2, _⟩
   · exact Q7o (c := (a, b)) (p := (x, y)) (q := (u, v)) hd he hu
   · cases h2
 · rcases hh with ⟨h2, _⟩ | ⟨_, hh⟩
   · cases h2
   · exact Q7n (c := (a, b)) (p := (x, y)) (q := (u, v)) hd hpp hh hu
theorem Q4n : Qca Tryz.prog 33 Zcw := Qbw hm Qvk Tryz.func33 (Λ := fun _ _ => Qax) fun args bs p x h hp => by
 unfold Zcw at h
 split at h <;> try (cases h; done)
 rename_i k a b r n c x y n' row
 cases h
 obtain ⟨rfl, h0, hf, hpp, hh⟩ := hp _ rfl
 refine ⟨rfl, [⟨2, n', Qco fun i => gi (row i)⟩], ⟨⟨rfl, rfl, fun i hi => h0 i hi⟩, trivial⟩, ?_⟩
 rcases hf with ⟨rfl, rfl, hd⟩ | ⟨rfl, rfl, hd⟩
 · rcases hh with ⟨_, he⟩ | ⟨h2, _⟩
   · exact Eq.mpr (Zbs (a, b) (x, y) r 0 c (fun i => gi (row i))) ⟨⟨Qh6 (by decide) (fun i hi => absurd hi (Nat.not_lt_zero _)), Or.inl ⟨rfl, rfl, hd⟩⟩, ⟨fun i hi => ⟨rfl, hpp⟩, rfl, by decide⟩, ⟨hd.1, hd.r21, congrArg Prod.fst he, congrArg Prod.snd he⟩, rfl⟩
   · cases h2
 · rcases hh with ⟨h2, _⟩ | ⟨_, hh⟩
   · cases h2
   · have h8 := hd.2.1
     refine Eq.mpr (Zbr (a, b) (x, y) n' n' c (fun i => gi (row i))) ⟨⟨Qh6 (by omega) (fun i hi => ⟨(hd.2.2.1 i hi).1.i64, (hd.2.2.1 i hi).2.i64⟩), ?_⟩, ⟨fun i hi => ⟨rfl, hpp⟩, rfl, by decide⟩, ⟨rfl, by omega, Q6l hd.2.2.1, hpp, fun k hk => ?_⟩, rfl⟩
     · rw [Q5h]; exact Or.inr ⟨rfl, rfl, hd⟩
     · show 0 ≤ Qrh (gi (row (0 + k))) (gi (row (0 + (k + 1) % n'))) (x, y)
       rw [Nat.zero_add, Nat.zero_add]; exact hh k hk
theorem Q7y : Qai Tryz.prog 30 Zlj := Qan hm Qkf Tryz.func30 (Λ := fun _ => Qax) fun args p x h hp => by
 unfold Zlj at h
 split at h <;> try (cases h; done)
 rename_i a f b g
 cases h
 obtain ⟨h1, h2⟩ := hp _ rfl
 have hb := Qd5 h1
 refine ⟨rfl, rfl, Eq.mpr (Zkh ⟨a, f⟩ ⟨b, g⟩ _) (Qaf (fun e => ⟨h1, ?_⟩) fun e => ?_)⟩
 · show bV _ = bV (!f && decide (Qac (Qaa a) ≤ Qaa b))
   have e : (!f) = true := e
   rw [e, Q9y, show Qaa (Qac (Qaa a)) = Qac (Qaa a) from Qby (by unfold Qac; split <;> omega)]
   by_cases hl : Qac (Qaa a) ≤ Qaa b
   · rw [decide_eq_true hl, decide_eq_false (p := Qac (Qaa a) > Qaa b) (by omega)]; rfl
   · rw [decide_eq_false hl, decide_eq_true (p := Qac (Qaa a) > Qaa b) (by omega)]; rfl
 · show bV _ = bV (!f && decide (Qac (Qaa a) ≤ Qaa b))
   have e : (!f) = false := e
   rw [e]; rfl
theorem Qe6 {n : Nat} {g : Nat → Int × Int} {k : Nat} {A B C D : Int} (hk : k < n) (h1 : 0 < Qad (g k) (g ((k + 1) % n)))
   (he : ((Qay (g ((k + 1) % n)) (g k)).1 ≤ A ∧ -(Qay (g ((k + 1) % n)) (g k)).1 ≤ A) ∧ (Qay (g ((k + 1) % n)) (g k)).2 ≤ B ∧ -(Qay (g ((k + 1) % n)) (g k)).2 ≤ B)
   (hf : ((Qay (g ((k + 2) % n)) (g ((k + 1) % n))).1 ≤ C ∧ -(Qay (g ((k + 2) % n)) (g ((k + 1) % n))).1 ≤ C) ∧ (Qay (g ((k + 2) % n)) (g ((k + 1) % n))).2 ≤ D ∧ -(Qay (g ((k + 2) % n)) (g ((k + 1) % n))).2 ≤ D)
   (h2 : 4 * (A + B + C + D) ≤ Qad (Qay (g ((k + 1) % n)) (g k)) (Qay (g ((k + 2) % n)) (g ((k + 1) % n))))
   (h3 : ∀ m, 2 ≤ m → m < n → 0 < Qad (Qay (g ((k + 1) % n)) (g k)) (Qay (g ((k + m) % n)) (g k))) : okC n g k = true := by
 have hR : (List.range n).all (okR n g k) = true := Q9g hk fun m m2 hm => by
   have := h3 m m2 hm
   unfold okS
   rw [Bool.not_eq_true', decide_eq_false_iff_not]
   omega
 have hE : okE n g k = true := by
   unfold okE Qt0 Qik
   rw [Bool.and_eq_true, Bool.not_eq_true', Bool.not_eq_true', decide_eq_false_iff_not, decide_eq_false_iff_not]
   omega
 unfold okC
 rw [hE, hR]
 rfl
def G3 (k h : Int) : Nat → Int × Int
 | 0 => (-k, -h)
 | 1 => (k, -h)
 | _ => (0, h)
def G5 (k h a : Int) : Nat → Int × Int
 | 0 => (-a, -h)
 | 1 => (a, -h)
 | 2 => (k, 0)
 | 3 => (0, h)
 | _ => (-k, 0)
def G8 (k a : Int) : Nat → Int × Int
 | 0 => (k, -a)
 | 1 => (k, a)
 | 2 => (a, k)
 | 3 => (-a, k)
 | 4 => (-k, a)
 | 5 => (-k, -a)
 | 6 => (-a, -k)
 | _ => (a, -k)
theorem Zed {k h : Int} (hk : 64 ≤ k ∧ k ≤ 4096) (hh : 64 ≤ h ∧ h ≤ 4096) : Qdi 3 (G3 k h) = true := by
 have p1 : 64 * k ≤ k * h := by have := Int.mul_le_mul_of_nonneg_left hh.1 (show (0 : Int) ≤ k by omega); grind
 have p2 : 64 * h ≤ k * h := Int.mul_le_mul_of_nonneg_right hk.1 (by omega)
 refine Qh4 fun j hj => ?_
 have hj' : j = 0 ∨ j = 1 ∨ j = 2 := by omega
 rcases hj' with rfl | rfl | rfl
 · refine Qe6 (A := 2 * k) (B := 0) (C := 1 * k) (D := 2 * h) (by omega) ?_ ?_ ?_ ?_ ?_
   · show 0 < Qad (-k, -h) (k, -h)
     unfold Qad Qap
     grind
   · show (((k, -h).1 - (-k, -h).1 ≤ _ ∧ -((k, -h).1 - (-k, -h).1) ≤ _) ∧ (k, -h).2 - (-k, -h).2 ≤ _ ∧ -((k, -h).2 - (-k, -h).2) ≤ _)
     simp only
     omega
   · show ((((0 : Int), h).1 - (k, -h).1 ≤ _ ∧ -(((0 : Int), h).1 - (k, -h).1) ≤ _) ∧ ((0 : Int), h).2 - (k, -h).2 ≤ _ ∧ -(((0 : Int), h).2 - (k, -h).2) ≤ _)
     simp only
     omega
   · show _ ≤ Qad (Qay (k, -h) (-k, -h)) (Qay (0, h) (k, -h))
     unfold Qad Qap Qay
     grind
   · intro m m2 hm
     have hm' : m = 2 := by omega
     rcases hm' with rfl
     · show 0 < Qad (Qay (k, -h) (-k, -h)) (Qay (0, h) (-k, -h))
       unfold Qad Qap Qay
       grind
 · refine Qe6 (A := 1 * k) (B := 2 * h) (C := 1 * k) (D := 2 * h) (by omega) ?_ ?_ ?_ ?_ ?_
   · show 0 < Qad (k, -h) (0, h)
     unfold Qad Qap
     grind
   · show ((((0 : Int), h).1 - (k, -h).1 ≤ _ ∧ -(((0 : Int), h).1 - (k, -h).1) ≤ _) ∧ ((0 : Int), h).2 - (k, -h).2 ≤ _ ∧ -(((0 : Int), h).2 - (k, -h).2) ≤ _)
     simp only
     omega
   · show (((-k, -h).1 - ((0 : Int), h).1 ≤ _ ∧ -((-k, -h).1 - ((0 : Int), h).1) ≤ _) ∧ (-k, -h).2 - ((0 : Int), h).2 ≤ _ ∧ -((-k, -h).2 - ((0 : Int), h).2) ≤ _)
     simp only
     omega
   · show _ ≤ Qad (Qay (0, h) (k, -h)) (Qay (-k, -h) (0, h))
     unfold Qad Qap Qay
     grind
   · intro m m2 hm
     have hm' : m = 2 := by omega
     rcases hm' with rfl
     · show 0 < Qad (Qay (0, h) (k, -h)) (Qay (-k, -h) (k, -h))
       unfold Qad Qap Qay
       grind
 · refine Qe6 (A := 1 * k) (B := 2 * h) (C := 2 * k) (D := 0) (by omega) ?_ ?_ ?_ ?_ ?_
   · show 0 < Qad (0, h) (-k, -h)
     unfold Qad Qap
     grind
   · show (((-k, -h).1 - ((0 : Int), h).1 ≤ _ ∧ -((-k, -h).1 - ((0 : Int), h).1) ≤ _) ∧ (-k, -h).2 - ((0 : Int), h).2 ≤ _ ∧ -((-k, -h).2 - ((0 : Int), h).2) ≤ _)
     simp only
     omega
   · show (((k, -h).1 - (-k, -h).1 ≤ _ ∧ -((k, -h).1 - (-k, -h).1) ≤ _) ∧ (k, -h).2 - (-k, -h).2 ≤ _ ∧ -((k, -h).2 - (-k, -h).2) ≤ _)
     simp only
     omega
   · show _ ≤ Qad (Qay (-k, -h) (0, h)) (Qay (k, -h) (-k, -h))
     unfold Qad Qap Qay
     grind
   · intro m m2 hm
     have hm' : m = 2 := by omega
     rcases hm' with rfl
     · show 0 < Qad (Qay (-k, -h) (0, h)) (Qay (k, -h) (0, h))
       unfold Qad Qap Qay
       grind
theorem Zec {k h a : Int} (hk : 64 ≤ k ∧ k ≤ 4096) (hh : 64 ≤ h ∧ h ≤ 4096) (ha : 2 * a ≤ k ∧ k ≤ 2 * a + 1) : Qdi 5 (G5 k h a) = true := by
 have p1 : 64 * k ≤ k * h := by have := Int.mul_le_mul_of_nonneg_left hh.1 (show (0 : Int) ≤ k by omega); grind
 have p2 : 64 * h ≤ k * h := Int.mul_le_mul_of_nonneg_right hk.1 (by omega)
 have p3 : 64 * a ≤ a * h := by have := Int.mul_le_mul_of_nonneg_left hh.1 (show (0 : Int) ≤ a by omega); grind
 have p4 : 32 * h ≤ a * h := Int.mul_le_mul_of_nonneg_right (by omega) (by omega)
 have p5 : 2 * (a * h) ≤ k * h := by have := Int.mul_le_mul_of_nonneg_right ha.1 (show (0 : Int) ≤ h by omega); grind
 have p6 : k * h ≤ 2 * (a * h) + h := by have := Int.mul_le_mul_of_nonneg_right ha.2 (show (0 : Int) ≤ h by omega); grind
 refine Qh4 fun j hj => ?_
 have hj' : j = 0 ∨ j = 1 ∨ j = 2 ∨ j = 3 ∨ j = 4 := by omega
 rcases hj' with rfl | rfl | rfl | rfl | rfl
 · refine Qe6 (A := 2 * a) (B := 0) (C := 1 * k + (-1) * a) (D := 1 * h) (by omega) ?_ ?_ ?_ ?_ ?_
   · show 0 < Qad (-a, -h) (a, -h)
     unfold Qad Qap
     grind
   · show (((a, -h).1 - (-a, -h).1 ≤ _ ∧ -((a, -h).1 - (-a, -h).1) ≤ _) ∧ (a, -h).2 - (-a, -h).2 ≤ _ ∧ -((a, -h).2 - (-a, -h).2) ≤ _)
     simp only
     omega
   · show (((k, (0 : Int)).1 - (a, -h).1 ≤ _ ∧ -((k, (0 : Int)).1 - (a, -h).1) ≤ _) ∧ (k, (0 : Int)).2 - (a, -h).2 ≤ _ ∧ -((k, (0 : Int)).2 - (a, -h).2) ≤ _)
     simp only
     omega
   · show _ ≤ Qad (Qay (a, -h) (-a, -h)) (Qay (k, 0) (a, -h))
     unfold Qad Qap Qay
     grind
   · intro m m2 hm
     have hm' : m = 2 ∨ m = 3 ∨ m = 4 := by omega
     rcases hm' with rfl | rfl | rfl
     · show 0 < Qad (Qay (a, -h) (-a, -h)) (Qay (k, 0) (-a, -h))
       unfold Qad Qap Qay
       grind
     · show 0 < Qad (Qay (a, -h) (-a, -h)) (Qay (0, h) (-a, -h))
       unfold Qad Qap Qay
       grind
     · show 0 < Qad (Qay (a, -h) (-a, -h)) (Qay (-k, 0) (-a, -h))
       unfold Qad Qap Qay
       grind
 · refine Qe6 (A := 1 * k + (-1) * a) (B := 1 * h) (C := 1 * k) (D := 1 * h) (by omega) ?_ ?_ ?_ ?_ ?_
   · show 0 < Qad (a, -h) (k, 0)
     unfold Qad Qap
     grind
   · show (((k, (0 : Int)).1 - (a, -h).1 ≤ _ ∧ -((k, (0 : Int)).1 - (a, -h).1) ≤ _) ∧ (k, (0 : Int)).2 - (a, -h).2 ≤ _ ∧ -((k, (0 : Int)).2 - (a, -h).2) ≤ _)
     simp only
     omega
   · show ((((0 : Int), h).1 - (k, (0 : Int)).1 ≤ _ ∧ -(((0 : Int), h).1 - (k, (0 : Int)).1) ≤ _) ∧ ((0 : Int), h).2 - (k, (0 : Int)).2 ≤ _ ∧ -(((0 : Int), h).2 - (k, (0 : Int)).2) ≤ _)
     simp only
     omega
   · show _ ≤ Qad (Qay (k, 0) (a, -h)) (Qay (0, h) (k, 0))
     unfold Qad Qap Qay
     grind
   · intro m m2 hm
     have hm' : m = 2 ∨ m = 3 ∨ m = 4 := by omega
     rcases hm' with rfl | rfl | rfl
     · show 0 < Qad (Qay (k, 0) (a, -h)) (Qay (0, h) (a, -h))
       unfold Qad Qap Qay
       grind
     · show 0 < Qad (Qay (k, 0) (a, -h)) (Qay (-k, 0) (a, -h))
       unfold Qad Qap Qay
       grind
     · show 0 < Qad (Qay (k, 0) (a, -h)) (Qay (-a, -h) (a, -h))
       unfold Qad Qap Qay
       grind
 · refine Qe6 (A := 1 * k) (B := 1 * h) (C := 1 * k) (D := 1 * h) (by omega) ?_ ?_ ?_ ?_ ?_
   · show 0 < Qad (k, 0) (0, h)
     unfold Qad Qap
     grind
   · show ((((0 : Int), h).1 - (k, (0 : Int)).1 ≤ _ ∧ -(((0 : Int), h).1 - (k, (0 : Int)).1) ≤ _) ∧ ((0 : Int), h).2 - (k, (0 : Int)).2 ≤ _ ∧ -(((0 : Int), h).2 - (k, (0 : Int)).2) ≤ _)
     simp only
     omega
   · show (((-k, (0 : Int)).1 - ((0 : Int), h).1 ≤ _ ∧ -((-k, (0 : Int)).1 - ((0 : Int), h).1) ≤ _) ∧ (-k, (0 : Int)).2 - ((0 : Int), h).2 ≤ _ ∧ -((-k, (0 : Int)).2 - ((0 : Int), h).2) ≤ _)
     simp only
     omega
   · show _ ≤ Qad (Qay (0, h) (k, 0)) (Qay (-k, 0) (0, h))
     unfold Qad Qap Qay
     grind
   · intro m m2 hm
     have hm' : m = 2 ∨ m = 3 ∨ m = 4 := by omega
     rcases hm' with rfl | rfl | rfl
     · show 0 < Qad (Qay (0, h) (k, 0)) (Qay (-k, 0) (k, 0))
       unfold Qad Qap Qay
       grind
     · show 0 < Qad (Qay (0, h) (k, 0)) (Qay (-a, -h) (k, 0))
       unfold Qad Qap Qay
       grind
     · show 0 < Qad (Qay (0, h) (k, 0)) (Qay (a, -h) (k, 0))
       unfold Qad Qap Qay
       grind
 · refine Qe6 (A := 1 * k) (B := 1 * h) (C := 1 * k + (-1) * a) (D := 1 * h) (by omega) ?_ ?_ ?_ ?_ ?_
   · show 0 < Qad (0, h) (-k, 0)
     unfold Qad Qap
     grind
   · show (((-k, (0 : Int)).1 - ((0 : Int), h).1 ≤ _ ∧ -((-k, (0 : Int)).1 - ((0 : Int), h).1) ≤ _) ∧ (-k, (0 : Int)).2 - ((0 : Int), h).2 ≤ _ ∧ -((-k, (0 : Int)).2 - ((0 : Int), h).2) ≤ _)
     simp only
     omega
   · show (((-a, -h).1 - (-k, (0 : Int)).1 ≤ _ ∧ -((-a, -h).1 - (-k, (0 : Int)).1) ≤ _) ∧ (-a, -h).2 - (-k, (0 : Int)).2 ≤ _ ∧ -((-a, -h).2 - (-k, (0 : Int)).2) ≤ _)
     simp only
     omega
   · show _ ≤ Qad (Qay (-k, 0) (0, h)) (Qay (-a, -h) (-k, 0))
     unfold Qad Qap Qay
     grind
   · intro m m2 hm
     have hm' : m = 2 ∨ m = 3 ∨ m = 4 := by omega
     rcases hm' with rfl | rfl | rfl
     · show 0 < Qad (Qay (-k, 0) (0, h)) (Qay (-a, -h) (0, h))
       unfold Qad Qap Qay
       grind
     · show 0 < Qad (Qay (-k, 0) (0, h)) (Qay (a, -h) (0, h))
       unfold Qad Qap Qay
       grind
     · show 0 < Qad (Qay (-k, 0) (0, h)) (Qay (k, 0) (0, h))
       unfold Qad Qap Qay
       grind
 · refine Qe6 (A := 1 * k + (-1) * a) (B := 1 * h) (C := 2 * a) (D := 0) (by omega) ?_ ?_ ?_ ?_ ?_
   · show 0 < Qad (-k, 0) (-a, -h)
     unfold Qad Qap
     grind
   · show (((-a, -h).1 - (-k, (0 : Int)).1 ≤ _ ∧ -((-a, -h).1 - (-k, (0 : Int)).1) ≤ _) ∧ (-a, -h).2 - (-k, (0 : Int)).2 ≤ _ ∧ -((-a, -h).2 - (-k, (0 : Int)).2) ≤ _)
     simp only
     omega
   · show (((a, -h).1 - (-a, -h).1 ≤ _ ∧ -((a, -h).1 - (-a, -h).1) ≤ _) ∧ (a, -h).2 - (-a, -h).2 ≤ _ ∧ -((a, -h).2 - (-a, -h).2) ≤ _)
     simp only
     omega
   · show _ ≤ Qad (Qay (-a, -h) (-k, 0)) (Qay (a, -h) (-a, -h))
     unfold Qad Qap Qay
     grind
   · intro m m2 hm
     have hm' : m = 2 ∨ m = 3 ∨ m = 4 := by omega
     rcases hm' with rfl | rfl | rfl
     · show 0 < Qad (Qay (-a, -h) (-k, 0)) (Qay (a, -h) (-k, 0))
       unfold Qad Qap Qay
       grind
     · show 0 < Qad (Qay (-a, -h) (-k, 0)) (Qay (k, 0) (-k, 0))
       unfold Qad Qap Qay
       grind
     · show 0 < Qad (Qay (-a, -h) (-k, 0)) (Qay (0, h) (-k, 0))
       unfold Qad Qap Qay
       grind
theorem Zeb {k a : Int} (hk : 64 ≤ k ∧ k ≤ 4096) (ha : 2 * a ≤ k ∧ k ≤ 2 * a + 1) : Qdi 8 (G8 k a) = true := by
 have p1 : 64 * k ≤ k * k := Int.mul_le_mul_of_nonneg_right hk.1 (by omega)
 have p2 : 2 * (a * k) ≤ k * k := by have := Int.mul_le_mul_of_nonneg_right ha.1 (show (0 : Int) ≤ k by omega); grind
 have p3 : k * k ≤ 2 * (a * k) + k := by have := Int.mul_le_mul_of_nonneg_right ha.2 (show (0 : Int) ≤ k by omega); grind
 have p4 : 2 * (a * a) ≤ a * k := by have := Int.mul_le_mul_of_nonneg_left ha.1 (show (0 : Int) ≤ a by omega); grind
 have p5 : a * k ≤ 2 * (a * a) + a := by have := Int.mul_le_mul_of_nonneg_left ha.2 (show (0 : Int) ≤ a by omega); grind
 refine Qh4 fun j hj => ?_
 have hj' : j = 0 ∨ j = 1 ∨ j = 2 ∨ j = 3 ∨ j = 4 ∨ j = 5 ∨ j = 6 ∨ j = 7 := by omega
 rcases hj' with rfl | rfl | rfl | rfl | rfl | rfl | rfl | rfl
 · refine Qe6 (A := 0) (B := 2 * a) (C := 1 * k + (-1) * a) (D := 1 * k + (-1) * a) (by omega) ?_ ?_ ?_ ?_ ?_
   · show 0 < Qad (k, -a) (k, a)
     unfold Qad Qap
     grind
   · show (((k, a).1 - (k, -a).1 ≤ _ ∧ -((k, a).1 - (k, -a).1) ≤ _) ∧ (k, a).2 - (k, -a).2 ≤ _ ∧ -((k, a).2 - (k, -a).2) ≤ _)
     simp only
     omega
   · show (((a, k).1 - (k, a).1 ≤ _ ∧ -((a, k).1 - (k, a).1) ≤ _) ∧ (a, k).2 - (k, a).2 ≤ _ ∧ -((a, k).2 - (k, a).2) ≤ _)
     simp only
     omega
   · show _ ≤ Qad (Qay (k, a) (k, -a)) (Qay (a, k) (k, a))
     unfold Qad Qap Qay
     grind
   · intro m m2 hm
     have hm' : m = 2 ∨ m = 3 ∨ m = 4 ∨ m = 5 ∨ m = 6 ∨ m = 7 := by omega
     rcases hm' with rfl | rfl | rfl | rfl | rfl | rfl
     · show 0 < Qad (Qay (k, a) (k, -a)) (Qay (a, k) (k, -a))
       unfold Qad Qap Qay
       grind
     · show 0 < Qad (Qay (k, a) (k, -a)) (Qay (-a, k) (k, -a))
       unfold Qad Qap Qay
       grind
     · show 0 < Qad (Qay (k, a) (k, -a)) (Qay (-k, a) (k, -a))
       unfold Qad Qap Qay
       grind
     · show 0 < Qad (Qay (k, a) (k, -a)) (Qay (-k, -a) (k, -a))
       unfold Qad Qap Qay
       grind
     · show 0 < Qad (Qay (k, a) (k, -a)) (Qay (-a, -k) (k, -a))
       unfold Qad Qap Qay
       grind
     · show 0 < Qad (Qay (k, a) (k, -a)) (Qay (a, -k) (k, -a))
       unfold Qad Qap Qay
       grind
 · refine Qe6 (A := 1 * k + (-1) * a) (B := 1 * k + (-1) * a) (C := 2 * a) (D := 0) (by omega) ?_ ?_ ?_ ?_ ?_
   · show 0 < Qad (k, a) (a, k)
     unfold Qad Qap
     grind
   · show (((a, k).1 - (k, a).1 ≤ _ ∧ -((a, k).1 - (k, a).1) ≤ _) ∧ (a, k).2 - (k, a).2 ≤ _ ∧ -((a, k).2 - (k, a).2) ≤ _)
     simp only
     omega
   · show (((-a, k).1 - (a, k).1 ≤ _ ∧ -((-a, k).1 - (a, k).1) ≤ _) ∧ (-a, k).2 - (a, k).2 ≤ _ ∧ -((-a, k).2 - (a, k).2) ≤ _)
     simp only
     omega
   · show _ ≤ Qad (Qay (a, k) (k, a)) (Qay (-a, k) (a, k))
     unfold Qad Qap Qay
     grind
   · intro m m2 hm
     have hm' : m = 2 ∨ m = 3 ∨ m = 4 ∨ m = 5 ∨ m = 6 ∨ m = 7 := by omega
     rcases hm' with rfl | rfl | rfl | rfl | rfl | rfl
     · show 0 < Qad (Qay (a, k) (k, a)) (Qay (-a, k) (k, a))
       unfold Qad Qap Qay
       grind
     · show 0 < Qad (Qay (a, k) (k, a)) (Qay (-k, a) (k, a))
       unfold Qad Qap Qay
       grind
     · show 0 < Qad (Qay (a, k) (k, a)) (Qay (-k, -a) (k, a))
       unfold Qad Qap Qay
       grind
     · show 0 < Qad (Qay (a, k) (k, a)) (Qay (-a, -k) (k, a))
       unfold Qad Qap Qay
       grind
     · show 0 < Qad (Qay (a, k) (k, a)) (Qay (a, -k) (k, a))
       unfold Qad Qap Qay
       grind
     · show 0 < Qad (Qay (a, k) (k, a)) (Qay (k, -a) (k, a))
       unfold Qad Qap Qay
       grind
 · refine Qe6 (A := 2 * a) (B := 0) (C := 1 * k + (-1) * a) (D := 1 * k + (-1) * a) (by omega) ?_ ?_ ?_ ?_ ?_
   · show 0 < Qad (a, k) (-a, k)
     unfold Qad Qap
     grind
   · show (((-a, k).1 - (a, k).1 ≤ _ ∧ -((-a, k).1 - (a, k).1) ≤ _) ∧ (-a, k).2 - (a, k).2 ≤ _ ∧ -((-a, k).2 - (a, k).2) ≤ _)
     simp only
     omega
   · show (((-k, a).1 - (-a, k).1 ≤ _ ∧ -((-k, a).1 - (-a, k).1) ≤ _) ∧ (-k, a).2 - (-a, k).2 ≤ _ ∧ -((-k, a).2 - (-a, k).2) ≤ _)
     simp only
     omega
   · show _ ≤ Qad (Qay (-a, k) (a, k)) (Qay (-k, a) (-a, k))
     unfold Qad Qap Qay
     grind
   · intro m m2 hm
     have hm' : m = 2 ∨ m = 3 ∨ m = 4 ∨ m = 5 ∨ m = 6 ∨ m = 7 := by omega
     rcases hm' with rfl | rfl | rfl | rfl | rfl | rfl
     · show 0 < Qad (Qay (-a, k) (a, k)) (Qay (-k, a) (a, k))
       unfold Qad Qap Qay
       grind
     · show 0 < Qad (Qay (-a, k) (a, k)) (Qay (-k, -a) (a, k))
       unfold Qad Qap Qay
       grind
     · show 0 < Qad (Qay (-a, k) (a, k)) (Qay (-a, -k) (a, k))
       unfold Qad Qap Qay
       grind
     · show 0 < Qad (Qay (-a, k) (a, k)) (Qay (a, -k) (a, k))
       unfold Qad Qap Qay
       grind
     · show 0 < Qad (Qay (-a, k) (a, k)) (Qay (k, -a) (a, k))
       unfold Qad Qap Qay
       grind
     · show 0 < Qad (Qay (-a, k) (a, k)) (Qay (k, a) (a, k))
       unfold Qad Qap Qay
       grind
 · refine Qe6 (A := 1 * k + (-1) * a) (B := 1 * k + (-1) * a) (C := 0) (D := 2 * a) (by omega) ?_ ?_ ?_ ?_ ?_
   · show 0 < Qad (-a, k) (-k, a)
     unfold Qad Qap
     grind
   · show (((-k, a).1 - (-a, k).1 ≤ _ ∧ -((-k, a).1 - (-a, k).1) ≤ _) ∧ (-k, a).2 - (-a, k).2 ≤ _ ∧ -((-k, a).2 - (-a, k).2) ≤ _)
     simp only
     omega
   · show (((-k, -a).1 - (-k, a).1 ≤ _ ∧ -((-k, -a).1 - (-k, a).1) ≤ _) ∧ (-k, -a).2 - (-k, a).2 ≤ _ ∧ -((-k, -a).2 - (-k, a).2) ≤ _)
     simp only
     omega
   · show _ ≤ Qad (Qay (-k, a) (-a, k)) (Qay (-k, -a) (-k, a))
     unfold Qad Qap Qay
     grind
   · intro m m2 hm
     have hm' : m = 2 ∨ m = 3 ∨ m = 4 ∨ m = 5 ∨ m = 6 ∨ m = 7 := by omega
     rcases hm' with rfl | rfl | rfl | rfl | rfl | rfl
     · show 0 < Qad (Qay (-k, a) (-a, k)) (Qay (-k, -a) (-a, k))
       unfold Qad Qap Qay
       grind
     · show 0 < Qad (Qay (-k, a) (-a, k)) (Qay (-a, -k) (-a, k))
       unfold Qad Qap Qay
       grind
     · show 0 < Qad (Qay (-k, a) (-a, k)) (Qay (a, -k) (-a, k))
       unfold Qad Qap Qay
       grind
     · show 0 < Qad (Qay (-k, a) (-a, k)) (Qay (k, -a) (-a, k))
       unfold Qad Qap Qay
       grind
     · show 0 < Qad (Qay (-k, a) (-a, k)) (Qay (k, a) (-a, k))
       unfold Qad Qap Qay
       grind
     · show 0 < Qad (Qay (-k, a) (-a, k)) (Qay (a, k) (-a, k))
       unfold Qad Qap Qay
       grind
 · refine Qe6 (A := 0) (B := 2 * a) (C := 1 * k + (-1) * a) (D := 1 * k + (-1) * a) (by omega) ?_ ?_ ?_ ?_ ?_
   · show 0 < Qad (-k, a) (-k, -a)
     unfold Qad Qap
     grind
   · show (((-k, -a).1 - (-k, a).1 ≤ _ ∧ -((-k, -a).1 - (-k, a).1) ≤ _) ∧ (-k, -a).2 - (-k, a).2 ≤ _ ∧ -((-k, -a).2 - (-k, a).2) ≤ _)
     simp only
     omega
   · show (((-a, -k).1 - (-k, -a).1 ≤ _ ∧ -((-a, -k).1 - (-k, -a).1) ≤ _) ∧ (-a, -k).2 - (-k, -a).2 ≤ _ ∧ -((-a, -k).2 - (-k, -a).2) ≤ _)
     simp only
     omega
   · show _ ≤ Qad (Qay (-k, -a) (-k, a)) (Qay (-a, -k) (-k, -a))
     unfold Qad Qap Qay
     grind
   · intro m m2 hm
     have hm' : m = 2 ∨ m = 3 ∨ m = 4 ∨ m = 5 ∨ m = 6 ∨ m = 7 := by omega
     rcases hm' with rfl | rfl | rfl | rfl | rfl | rfl
     · show 0 < Qad (Qay (-k, -a) (-k, a)) (Qay (-a, -k) (-k, a))
       unfold Qad Qap Qay
       grind
     · show 0 < Qad (Qay (-k, -a) (-k, a)) (Qay (a, -k) (-k, a))
       unfold Qad Qap Qay
       grind
     · show 0 < Qad (Qay (-k, -a) (-k, a)) (Qay (k, -a) (-k, a))
       unfold Qad Qap Qay
       grind
     · show 0 < Qad (Qay (-k, -a) (-k, a)) (Qay (k, a) (-k, a))
       unfold Qad Qap Qay
       grind
     · show 0 < Qad (Qay (-k, -a) (-k, a)) (Qay (a, k) (-k, a))
       unfold Qad Qap Qay
       grind
     · show 0 < Qad (Qay (-k, -a) (-k, a)) (Qay (-a, k) (-k, a))
       unfold Qad Qap Qay
       grind
 · refine Qe6 (A := 1 * k + (-1) * a) (B := 1 * k + (-1) * a) (C := 2 * a) (D := 0) (by omega) ?_ ?_ ?_ ?_ ?_
   · show 0 < Qad (-k, -a) (-a, -k)
     unfold Qad Qap
     grind
   · show (((-a, -k).1 - (-k, -a).1 ≤ _ ∧ -((-a, -k).1 - (-k, -a).1) ≤ _) ∧ (-a, -k).2 - (-k, -a).2 ≤ _ ∧ -((-a, -k).2 - (-k, -a).2) ≤ _)
     simp only
     omega
   · show (((a, -k).1 - (-a, -k).1 ≤ _ ∧ -((a, -k).1 - (-a, -k).1) ≤ _) ∧ (a, -k).2 - (-a, -k).2 ≤ _ ∧ -((a, -k).2 - (-a, -k).2) ≤ _)
     simp only
     omega
   · show _ ≤ Qad (Qay (-a, -k) (-k, -a)) (Qay (a, -k) (-a, -k))
     unfold Qad Qap Qay
     grind
   · intro m m2 hm
     have hm' : m = 2 ∨ m = 3 ∨ m = 4 ∨ m = 5 ∨ m = 6 ∨ m = 7 := by omega
     rcases hm' with rfl | rfl | rfl | rfl | rfl | rfl
     · show 0 < Qad (Qay (-a, -k) (-k, -a)) (Qay (a, -k) (-k, -a))
       unfold Qad Qap Qay
       grind
     · show 0 < Qad (Qay (-a, -k) (-k, -a)) (Qay (k, -a) (-k, -a))
       unfold Qad Qap Qay
       grind
     · show 0 < Qad (Qay (-a, -k) (-k, -a)) (Qay (k, a) (-k, -a))
       unfold Qad Qap Qay
       grind
     · show 0 < Qad (Qay (-a, -k) (-k, -a)) (Qay (a, k) (-k, -a))
       unfold Qad Qap Qay
       grind
     · show 0 < Qad (Qay (-a, -k) (-k, -a)) (Qay (-a, k) (-k, -a))
       unfold Qad Qap Qay
       grind
     · show 0 < Qad (Qay (-a, -k) (-k, -a)) (Qay (-k, a) (-k, -a))
       unfold Qad Qap Qay
       grind
 · refine Qe6 (A := 2 * a) (B := 0) (C := 1 * k + (-1) * a) (D := 1 * k + (-1) * a) (by omega) ?_ ?_ ?_ ?_ ?_
   · show 0 < Qad (-a, -k) (a, -k)
     unfold Qad Qap
     grind
   · show (((a, -k).1 - (-a, -k).1 ≤ _ ∧ -((a, -k).1 - (-a, -k).1) ≤ _) ∧ (a, -k).2 - (-a, -k).2 ≤ _ ∧ -((a, -k).2 - (-a, -k).2) ≤ _)
     simp only
     omega
   · show (((k, -a).1 - (a, -k).1 ≤ _ ∧ -((k, -a).1 - (a, -k).1) ≤ _) ∧ (k, -a).2 - (a, -k).2 ≤ _ ∧ -((k, -a).2 - (a, -k).2) ≤ _)
     simp only
     omega
   · show _ ≤ Qad (Qay (a, -k) (-a, -k)) (Qay (k, -a) (a, -k))
     unfold Qad Qap Qay
     grind
   · intro m m2 hm
     have hm' : m = 2 ∨ m = 3 ∨ m = 4 ∨ m = 5 ∨ m = 6 ∨ m = 7 := by omega
     rcases hm' with rfl | rfl | rfl | rfl | rfl | rfl
     · show 0 < Qad (Qay (a, -k) (-a, -k)) (Qay (k, -a) (-a, -k))
       unfold Qad Qap Qay
       grind
     · show 0 < Qad (Qay (a, -k) (-a, -k)) (Qay (k, a) (-a, -k))
       unfold Qad Qap Qay
       grind
     · show 0 < Qad (Qay (a, -k) (-a, -k)) (Qay (a, k) (-a, -k))
       unfold Qad Qap Qay
       grind
     · show 0 < Qad (Qay (a, -k) (-a, -k)) (Qay (-a, k) (-a, -k))
       unfold Qad Qap Qay
       grind
     · show 0 < Qad (Qay (a, -k) (-a, -k)) (Qay (-k, a) (-a, -k))
       unfold Qad Qap Qay
       grind
     · show 0 < Qad (Qay (a, -k) (-a, -k)) (Qay (-k, -a) (-a, -k))
       unfold Qad Qap Qay
       grind
 · refine Qe6 (A := 1 * k + (-1) * a) (B := 1 * k + (-1) * a) (C := 0) (D := 2 * a) (by omega) ?_ ?_ ?_ ?_ ?_
   · show 0 < Qad (a, -k) (k, -a)
     unfold Qad Qap
     grind
   · show (((k, -a).1 - (a, -k).1 ≤ _ ∧ -((k, -a).1 - (a, -k).1) ≤ _) ∧ (k, -a).2 - (a, -k).2 ≤ _ ∧ -((k, -a).2 - (a, -k).2) ≤ _)
     simp only
     omega
   · show (((k, a).1 - (k, -a).1 ≤ _ ∧ -((k, a).1 - (k, -a).1) ≤ _) ∧ (k, a).2 - (k, -a).2 ≤ _ ∧ -((k, a).2 - (k, -a).2) ≤ _)
     simp only
     omega
   · show _ ≤ Qad (Qay (k, -a) (a, -k)) (Qay (k, a) (k, -a))
     unfold Qad Qap Qay
     grind
   · intro m m2 hm
     have hm' : m = 2 ∨ m = 3 ∨ m = 4 ∨ m = 5 ∨ m = 6 ∨ m = 7 := by omega
     rcases hm' with rfl | rfl | rfl | rfl | rfl | rfl
     · show 0 < Qad (Qay (k, -a) (a, -k)) (Qay (k, a) (a, -k))
       unfold Qad Qap Qay
       grind
     · show 0 < Qad (Qay (k, -a) (a, -k)) (Qay (a, k) (a, -k))
       unfold Qad Qap Qay
       grind
     · show 0 < Qad (Qay (k, -a) (a, -k)) (Qay (-a, k) (a, -k))
       unfold Qad Qap Qay
       grind
     · show 0 < Qad (Qay (k, -a) (a, -k)) (Qay (-k, a) (a, -k))
       unfold Qad Qap Qay
       grind
     · show 0 < Qad (Qay (k, -a) (a, -k)) (Qay (-k, -a) (a, -k))
       unfold Qad Qap Qay
       grind
     · show 0 < Qad (Qay (k, -a) (a, -k)) (Qay (-a, -k) (a, -k))
       unfold Qad Qap Qay
       grind
section
variable {P : Program} {f : FuncId}
end
theorem Q6h {m d : Int} (h1 : 0 < d) (h : d ≤ m) : 0 < Int.tdiv m d := by
 rw [Int.tdiv_eq_ediv_of_nonneg (by omega)]
 have := Int.le_ediv_of_mul_le (a := 1) (b := m) h1 (by omega)
 omega
theorem Ql7 {a b L U : Int} (ha : 0 ≤ a) (hb : 0 < b) (h0 : 0 ≤ L) (hL : L * b ≤ a * 4294967296) (hU : a * 4294967296 ≤ U * b) (h1 : U ≤ 9223372036854775807) : ∃ q, Qd2 a b = ⟨q, false⟩ ∧ L ≤ q ∧ q ≤ U := by
 refine ⟨a * 4294967296 / b, ?_, Int.le_ediv_of_mul_le hb hL, Int.ediv_le_of_le_mul hb hU⟩
 have l := Int.le_ediv_of_mul_le hb hL
 have u := Int.ediv_le_of_le_mul hb hU
 have e : Q6w a b = a * 4294967296 / b := Int.tdiv_eq_ediv_of_nonneg (by omega)
 unfold Qd2 Qc4 Qjg
 rw [if_neg (by omega), if_neg (by omega), e, Qeu ⟨by omega, by omega⟩, Qet ⟨by omega, by omega⟩]
theorem Qwp {q : Int} (h0 : 0 ≤ q) (h1 : q ≤ 4503599627370496) : Qda ⟨q, false⟩ Zdv = ⟨q * 4294967296 / 13493037704, false⟩ := by
 have e : Q6w q 13493037704 = q * 4294967296 / 13493037704 := Int.tdiv_eq_ediv_of_nonneg (by omega)
 have sq : Sd q := ⟨by omega, by omega⟩
 have sh : Sd 13493037704 := ⟨by decide, by decide⟩
 show (⟨Qc4 (Qaa q) (Qaa 13493037704), Qjg (Qaa q) (Qaa 13493037704) || (Qav q false || Qav 13493037704 false)⟩ : NB) = _
 rw [sq.self, sh.self, sq.flag, sh.flag]
 unfold Qc4 Qjg
 rw [if_neg (by decide), if_neg (by decide), e, Qeu ⟨by omega, by omega⟩, Qet ⟨by omega, by omega⟩]
 rfl
theorem Zli {r : Int} (h : 16 ≤ r ∧ r ≤ 4096) : (256 ≤ r * r ∧ r * r ≤ 16777216) ∧ 65536 ≤ r * r * r * r ∧ r * r * r * r ≤ 281474976710656 := by
 obtain ⟨_, ⟨_, _⟩, p5, p6⟩ := Q18 (r := r) ⟨by omega, h.2⟩
 have a1 := Int.mul_le_mul (a := 16) (b := 16) (c := r) (d := r) h.1 h.1 (by decide) (by omega)
 have a2 := Int.mul_le_mul (a := 256) (b := 16) (c := r * r) (d := r) (by omega) h.1 (by decide) (by omega)
 have a3 := Int.mul_le_mul (a := 4096) (b := 16) (c := r * r * r) (d := r) (by omega) h.1 (by decide) (by omega)
 have a4 := (Q18 (r := r) ⟨by omega, h.2⟩).1
 exact ⟨⟨by omega, a4.2⟩, by omega, p6⟩
theorem Q7s (w h : Int) : Qfi 4 (Q7t w h) 4 = 8 * (w * h) := by
 show 0 + (-w * -h - -h * w) + (w * h - -h * w) + (w * h - h * -w) + (-w * -h - h * -w) = 8 * (w * h)
 simp only [Int.neg_mul, Int.mul_neg, Int.neg_neg, Int.mul_comm h w]
 omega
theorem Zei (w h : Int) : Qmd 4 (Q7t w h) 4 = 2 * (w * h) * (8 * (w * w + h * h)) := by
 show 0 + (-w * -h - -h * w) * ((-w * -w + -h * -h) + (-w * w + -h * -h) + (w * w + -h * -h)) + (w * h - -h * w) * ((w * w + -h * -h) + (w * w + -h * h) + (w * w + h * h)) + (w * h - h * -w) * ((w * w + h * h) + (w * -w + h * h) + (-w * -w + h * h)) + (-w * -h - h * -w) * ((-w * -w + h * h) + (-w * -w + h * -h) + (-w * -w + -h * -h)) = _
 simp only [Int.neg_mul, Int.mul_neg, Int.neg_neg, Int.mul_comm h w]
 have c : w * h + w * h = 2 * (w * h) := by omega
 have c' : w * h - -(w * h) = 2 * (w * h) := by omega
 simp only [c', Int.zero_add, ← Int.mul_add]
 congr 1
 omega
theorem Qp5 {x : Int} (h : 16 ≤ x ∧ x ≤ 4096) : Qeb x = true := by unfold Qeb; rw [decide_eq_true h.1, decide_eq_true h.2]; rfl
theorem Q7l {r : Int} (h : 16 ≤ r ∧ r ≤ 4096) : Qck (Q27 r) 0 zP = 0 := by
 show (bif Qeb r then (0 : Int) else 3) = 0
 rw [Qp5 h]; rfl
theorem Q7m {w h : Int} (hw : 16 ≤ w ∧ w ≤ 4096) (hh : 16 ≤ h ∧ h ≤ 4096) : Qck (boxS w h) 0 zP = 0 := by
 show (bif Qeb w && Qeb h then (0 : Int) else 3) = 0
 rw [Qp5 hw, Qp5 hh]; rfl
def PW (v : VB) : Prop := (v.x.f = false ∧ v.y.f = false) ∧ (0 < v.x.v ∧ v.x.v ≤ 4611686018427387903) ∧ 0 < v.y.v ∧ v.y.v ≤ 4611686018427387903
theorem Zhp {m i d : Int} (hm : 1000 ≤ m ∧ m ≤ 4611686018427387903) (hi : 1000 ≤ i ∧ i ≤ 4611686018427387903) (hd : 1 ≤ d ∧ d ≤ 1000) : PW ⟨⟨Int.tdiv m d, false⟩, ⟨Int.tdiv i d, false⟩⟩ := by
 have key : ∀ x : Int, 1000 ≤ x ∧ x ≤ 4611686018427387903 → 0 < Int.tdiv x d ∧ Int.tdiv x d ≤ 4611686018427387903 := fun x hx => by
   have h0 := Q6h (m := x) (d := d) (by omega) (by omega)
   have h1 : Int.tdiv x d ≤ x := by
     rw [Int.tdiv_eq_ediv_of_nonneg (by omega)]
     exact Int.ediv_le_self _ (by omega)
   exact ⟨h0, by omega⟩
 exact ⟨⟨rfl, rfl⟩, key m hm, key i hi⟩
theorem Q14 {A M d : Int} (hA : 1 ≤ A ∧ A ≤ 1000000000) (hM : 64 ≤ M ∧ M ≤ 100000000000000000) (hd : 1 ≤ d ∧ d ≤ 1000) : PW (Qrs A M d) := by
 obtain ⟨q, e1, l1, u1⟩ := Ql7 (a := 131072) (b := A) (L := 1000) (U := 562949953421312) (by decide) (by omega) (by decide) (by omega) (by omega) (by decide)
 obtain ⟨p, e2, l2, u2⟩ := Ql7 (a := 51539607552) (b := M) (L := 1000) (U := 3458764513820540928) (by decide) (by omega) (by decide) (by omega) (by omega) (by decide)
 unfold Qrs
 rw [e1, e2, Qjy ⟨by show (-9223372036854775807 : Int) ≤ q; omega, by show q ≤ 9223372036854775807; omega⟩ (by omega) (by omega), Qjy ⟨by show (-9223372036854775807 : Int) ≤ p; omega, by show p ≤ 9223372036854775807; omega⟩ (by omega) (by omega)]
 exact Zhp (by show 1000 ≤ q ∧ q ≤ _; omega) (by show 1000 ≤ p ∧ p ≤ _; omega) hd
theorem Zdb {r d : Int} (hr : 16 ≤ r ∧ r ≤ 4096) (hd : 1 ≤ d ∧ d ≤ 1000) : PW (Qzz r d) := by
 obtain ⟨⟨s1, s2⟩, s3, s4⟩ := Zli hr
 obtain ⟨q, e1, l1, u1⟩ := Ql7 (a := 65536) (b := r * r) (L := 16777216) (U := 1099511627776) (by decide) (by omega) (by decide) (by omega) (by omega) (by decide)
 obtain ⟨p, e2, l2, u2⟩ := Ql7 (a := 8589934592) (b := r * r * r * r) (L := 131072) (U := 562949953421312) (by decide) (by omega) (by decide) (by omega) (by omega) (by decide)
 unfold Qzz
 rw [e1, e2, Qwp (by omega) (by omega), Qwp (by omega) (by omega)]
 rw [Qjy ⟨by simp only; omega, by simp only; omega⟩ (by omega) (by omega), Qjy ⟨by simp only; omega, by simp only; omega⟩ (by omega) (by omega)]
 exact Zhp ⟨by simp only; omega, by simp only; omega⟩ ⟨by simp only; omega, by simp only; omega⟩ hd
theorem Zip {p q : Int × Int} (h : 64 ≤ Qad p q) : 1 ≤ Qea p p + Qea p q + Qea q q := by
 obtain ⟨a, b⟩ := p
 obtain ⟨c, d⟩ := q
 have h : 64 ≤ a * d - b * c := h
 show 1 ≤ (a * a + b * b) + (a * c + b * d) + (c * c + d * d)
 have e : 2 * ((a * a + b * b) + (a * c + b * d) + (c * c + d * d)) = a * a + b * b + c * c + d * d + (a + c) * (a + c) + (b + d) * (b + d) := by grind
 have h1 := Qbs a
 have h2 := Qbs b
 have h3 := Qbs c
 have h4 := Qbs d
 have h5 := Qbs (a + c)
 have h6 := Qbs (b + d)
 rcases Int.lt_or_le 0 (a * a + b * b) with hp | hp
 · omega
 · have za : a * a = 0 := by omega
   have zb : b * b = 0 := by omega
   have za : a = 0 := by rcases Int.mul_eq_zero.1 za with z | z <;> exact z
   have zb : b = 0 := by rcases Int.mul_eq_zero.1 zb with z | z <;> exact z
   subst za zb
   simp at h
theorem Q3j {n : Nat} {g : Nat → Int × Int} (hq : ∀ i, i < n → Q12 (g i).1 ∧ Q12 (g i).2) (hx : ∀ i, i < n → 64 ≤ Qad (g i) (g ((i + 1) % n))) : ∀ k : Nat, k ≤ n → 64 * (k : Int) ≤ Qfi n g k ∧ Qfi n g k ≤ 33554432 * (k : Int)
 | 0, _ => ⟨Int.le_refl _, Int.le_refl _⟩
 | k + 1, hk => by
   obtain ⟨l, u⟩ := Q3j hq hx k (by omega)
   have a := hx k (by omega)
   have b := (Qj1 (hq k (by omega)) (hq ((k + 1) % n) (Nat.mod_lt _ (by omega)))).2
   show _ ≤ Qfi n g k + Qad (g k) (g ((k + 1) % n)) ∧ Qfi n g k + Qad (g k) (g ((k + 1) % n)) ≤ _
   omega
theorem Q9i {n : Nat} {g : Nat → Int × Int} (hq : ∀ i, i < n → Q12 (g i).1 ∧ Q12 (g i).2) (hx : ∀ i, i < n → 64 ≤ Qad (g i) (g ((i + 1) % n))) : ∀ k : Nat, k ≤ n → 64 * (k : Int) ≤ Qmd n g k ∧ Qmd n g k ≤ 4503599627370496 * (k : Int)
 | 0, _ => ⟨Int.le_refl _, Int.le_refl _⟩
 | k + 1, hk => by
   obtain ⟨l, u⟩ := Q9i hq hx k (by omega)
   have l2 : (k + 1) % n < n := Nat.mod_lt _ (by omega)
   have a := hx k (by omega)
   have b := (Qj1 (hq k (by omega)) (hq _ l2)).2
   have c := Zip a
   have d1 := (Qgf (hq k (by omega)) (hq k (by omega))).2
   have d2 := (Qgf (hq k (by omega)) (hq _ l2)).2
   have d3 := (Qgf (hq _ l2) (hq _ l2)).2
   have d4 : Qea (g k) (g k) + Qea (g k) (g ((k + 1) % n)) + Qea (g ((k + 1) % n)) (g ((k + 1) % n)) ≤ 134217728 := by omega
   show _ ≤ Qmd n g k + Qad (g k) (g ((k + 1) % n)) * (Qea (g k) (g k) + Qea (g k) (g ((k + 1) % n)) + Qea (g ((k + 1) % n)) (g ((k + 1) % n))) ∧ Qmd n g k + Qad (g k) (g ((k + 1) % n)) * (Qea (g k) (g k) + Qea (g k) (g ((k + 1) % n)) + Qea (g ((k + 1) % n)) (g ((k + 1) % n))) ≤ _
   generalize Qea (g k) (g k) + Qea (g k) (g ((k + 1) % n)) + Qea (g ((k + 1) % n)) (g ((k + 1) % n)) = q at *
   generalize Qad (g k) (g ((k + 1) % n)) = x at *
   have m1 := Int.mul_le_mul (a := 64) (b := 1) (c := x) (d := q) a c (by decide) (by omega)
   have m2 := Int.mul_le_mul (a := x) (b := q) (c := 33554432) (d := 134217728) b (by omega) (by omega) (by decide)
   omega
theorem Zho {n : Nat} {g : Nat → Int × Int} {d : Int} (h1 : 1 ≤ n) (h8 : n ≤ 8) (hq : ∀ i, i < n → Q12 (g i).1 ∧ Q12 (g i).2) (hx : ∀ i, i < n → 64 ≤ Qad (g i) (g ((i + 1) % n))) (hd : 1 ≤ d ∧ d ≤ 1000) : PW (Qrs (Qfi n g n) (Qmd n g n) d) := by
 have a := Q3j hq hx n (Nat.le_refl n)
 have m := Q9i hq hx n (Nat.le_refl n)
 exact Q14 (by omega) (by omega) hd
theorem chkP {n : Nat} {g : Nat → Int × Int} (h3 : 3 ≤ n) (h8 : n ≤ 8) (hp : ∀ i, i < n → Qgh (g i) = true) (hc : Qdi n g = true) : Qck Qxu n g = 0 := by
 have h1 : (decide ((n : Int) < 3) || decide ((n : Int) > 8)) = false := by
   rw [decide_eq_false (by omega), decide_eq_false (by omega)]; rfl
 have hall : (List.range n).all (fun i => Qgh (g i)) = true := Qh4 hp
 show (bif ((3 : Int) == 1) then _ else bif (3 : Int) == 2 then _ else bif (3 : Int) == 3 then (bif ((0 : Int) != 0 || ((0 : Int) != 0 || ((0 : Int) != 0 || (decide ((n : Int) < 3) || decide ((n : Int) > 8))))) then 4 else bif (List.range n).all (fun i => Qgh (g i)) then (bif Qdi n g then 0 else 5) else 3) else 8) = _
 rw [h1, hall, hc]
 rfl
theorem ptQ {p : Int × Int} (h : (-4096 ≤ p.1 ∧ p.1 ≤ 4096) ∧ -4096 ≤ p.2 ∧ p.2 ≤ 4096) : Qgh p = true ∧ Q12 p.1 ∧ Q12 p.2 := by
 obtain ⟨⟨_, _⟩, _, _⟩ := h
 refine ⟨?_, ⟨by omega, by omega⟩, by omega, by omega⟩
 unfold Qgh Qju
 simp only [Bool.and_eq_true, decide_eq_true_eq]
 omega
theorem Zht {k h : Int} (hk : 64 ≤ k ∧ k ≤ 4096) (hh : 64 ≤ h ∧ h ≤ 4096) : ∀ i, i < 3 → Qgh (G3 k h i) = true ∧ Q12 (G3 k h i).1 ∧ Q12 (G3 k h i).2 := fun i hi => by
 have hi' : i = 0 ∨ i = 1 ∨ i = 2 := by omega
 rcases hi' with rfl | rfl | rfl
 · exact ptQ (p := (-k, -h)) (by simp only; omega)
 · exact ptQ (p := (k, -h)) (by simp only; omega)
 · exact ptQ (p := (0, h)) (by simp only; omega)
theorem Ziy {k h : Int} (hk : 64 ≤ k ∧ k ≤ 4096) (hh : 64 ≤ h ∧ h ≤ 4096) : ∀ i, i < 3 → 64 ≤ Qad (G3 k h i) (G3 k h ((i + 1) % 3)) := fun i hi => by
 have p1 : 64 * k ≤ k * h := by have := Int.mul_le_mul_of_nonneg_left hh.1 (show (0 : Int) ≤ k by omega); grind
 have hi' : i = 0 ∨ i = 1 ∨ i = 2 := by omega
 rcases hi' with rfl | rfl | rfl
 · show 64 ≤ Qad (-k, -h) (k, -h)
   unfold Qad Qap
   grind
 · show 64 ≤ Qad (k, -h) (0, h)
   unfold Qad Qap
   grind
 · show 64 ≤ Qad (0, h) (-k, -h)
   unfold Qad Qap
   grind
theorem Zhs {k h a : Int} (hk : 64 ≤ k ∧ k ≤ 4096) (hh : 64 ≤ h ∧ h ≤ 4096) (ha : 2 * a ≤ k ∧ k ≤ 2 * a + 1) : ∀ i, i < 5 → Qgh (G5 k h a i) = true ∧ Q12 (G5 k h a i).1 ∧ Q12 (G5 k h a i).2 := fun i hi => by
 have hi' : i = 0 ∨ i = 1 ∨ i = 2 ∨ i = 3 ∨ i = 4 := by omega
 rcases hi' with rfl | rfl | rfl | rfl | rfl
 · exact ptQ (p := (-a, -h)) (by simp only; omega)
 · exact ptQ (p := (a, -h)) (by simp only; omega)
 · exact ptQ (p := (k, 0)) (by simp only; omega)
 · exact ptQ (p := (0, h)) (by simp only; omega)
 · exact ptQ (p := (-k, 0)) (by simp only; omega)
theorem Zix {k h a : Int} (hk : 64 ≤ k ∧ k ≤ 4096) (hh : 64 ≤ h ∧ h ≤ 4096) (ha : 2 * a ≤ k ∧ k ≤ 2 * a + 1) : ∀ i, i < 5 → 64 ≤ Qad (G5 k h a i) (G5 k h a ((i + 1) % 5)) := fun i hi => by
 have p1 : 64 * k ≤ k * h := by have := Int.mul_le_mul_of_nonneg_left hh.1 (show (0 : Int) ≤ k by omega); grind
 have p3 : 64 * a ≤ a * h := by have := Int.mul_le_mul_of_nonneg_left hh.1 (show (0 : Int) ≤ a by omega); grind
 have hi' : i = 0 ∨ i = 1 ∨ i = 2 ∨ i = 3 ∨ i = 4 := by omega
 rcases hi' with rfl | rfl | rfl | rfl | rfl
 · show 64 ≤ Qad (-a, -h) (a, -h)
   unfold Qad Qap
   grind
 · show 64 ≤ Qad (a, -h) (k, 0)
   unfold Qad Qap
   grind
 · show 64 ≤ Qad (k, 0) (0, h)
   unfold Qad Qap
   grind
 · show 64 ≤ Qad (0, h) (-k, 0)
   unfold Qad Qap
   grind
 · show 64 ≤ Qad (-k, 0) (-a, -h)
   unfold Qad Qap
   grind
theorem Zhr {k a : Int} (hk : 64 ≤ k ∧ k ≤ 4096) (ha : 2 * a ≤ k ∧ k ≤ 2 * a + 1) : ∀ i, i < 8 → Qgh (G8 k a i) = true ∧ Q12 (G8 k a i).1 ∧ Q12 (G8 k a i).2 := fun i hi => by
 have hi' : i = 0 ∨ i = 1 ∨ i = 2 ∨ i = 3 ∨ i = 4 ∨ i = 5 ∨ i = 6 ∨ i = 7 := by omega
 rcases hi' with rfl | rfl | rfl | rfl | rfl | rfl | rfl | rfl
 · exact ptQ (p := (k, -a)) (by simp only; omega)
 · exact ptQ (p := (k, a)) (by simp only; omega)
 · exact ptQ (p := (a, k)) (by simp only; omega)
 · exact ptQ (p := (-a, k)) (by simp only; omega)
 · exact ptQ (p := (-k, a)) (by simp only; omega)
 · exact ptQ (p := (-k, -a)) (by simp only; omega)
 · exact ptQ (p := (-a, -k)) (by simp only; omega)
 · exact ptQ (p := (a, -k)) (by simp only; omega)
theorem Ziw {k a : Int} (hk : 64 ≤ k ∧ k ≤ 4096) (ha : 2 * a ≤ k ∧ k ≤ 2 * a + 1) : ∀ i, i < 8 → 64 ≤ Qad (G8 k a i) (G8 k a ((i + 1) % 8)) := fun i hi => by
 have p1 : 64 * k ≤ k * k := Int.mul_le_mul_of_nonneg_right hk.1 (by omega)
 have p2 : 2 * (a * k) ≤ k * k := by have := Int.mul_le_mul_of_nonneg_right ha.1 (show (0 : Int) ≤ k by omega); grind
 have p3 : k * k ≤ 2 * (a * k) + k := by have := Int.mul_le_mul_of_nonneg_right ha.2 (show (0 : Int) ≤ k by omega); grind
 have p4 : 2 * (a * a) ≤ a * k := by have := Int.mul_le_mul_of_nonneg_left ha.1 (show (0 : Int) ≤ a by omega); grind
 have p5 : a * k ≤ 2 * (a * a) + a := by have := Int.mul_le_mul_of_nonneg_left ha.2 (show (0 : Int) ≤ a by omega); grind
 have hi' : i = 0 ∨ i = 1 ∨ i = 2 ∨ i = 3 ∨ i = 4 ∨ i = 5 ∨ i = 6 ∨ i = 7 := by omega
 rcases hi' with rfl | rfl | rfl | rfl | rfl | rfl | rfl | rfl
 · show 64 ≤ Qad (k, -a) (k, a)
   unfold Qad Qap
   grind
 · show 64 ≤ Qad (k, a) (a, k)
   unfold Qad Qap
   grind
 · show 64 ≤ Qad (a, k) (-a, k)
   unfold Qad Qap
   grind
 · show 64 ≤ Qad (-a, k) (-k, a)
   unfold Qad Qap
   grind
 · show 64 ≤ Qad (-k, a) (-k, -a)
   unfold Qad Qap
   grind
 · show 64 ≤ Qad (-k, -a) (-a, -k)
   unfold Qad Qap
   grind
 · show 64 ≤ Qad (-a, -k) (a, -k)
   unfold Qad Qap
   grind
 · show 64 ≤ Qad (a, -k) (k, -a)
   unfold Qad Qap
   grind
structure MD where
 k : Int
 a : Int
 b : Int
 x : Int
 y : Int
 w : Int
def mdL (m : MD) : List SV := [.v (.int .i64 m.k), .v (.int .i64 m.a), .v (.int .i64 m.b), .v (.int .i64 m.x), .v (.int .i64 m.y), .v (.int .i64 m.w)]
def mdS (m : MD) : SV := .agg (mdL m)
def mdI (m : MD) : Prop := I64 m.k ∧ I64 m.a ∧ I64 m.b ∧ I64 m.x ∧ I64 m.y ∧ I64 m.w
def Qc6 (m : MD) (s : Int) : VB := kitV m.x m.y s
def Qd3 (m : MD) : VB := Qtg (Qha m.w 8)
def Zcm : List SV → Option (Option Prop × SV)
 | [.agg [.v (.int .i64 k), .v (.int .i64 a), .v (.int .i64 b), .v (.int .i64 x), .v (.int .i64 y), .v (.int .i64 w)], .v (.int .i64 s)] => some (some (0 < s ∧ s < 1073741824), pS (Qc6 ⟨k, a, b, x, y, w⟩ s) (Qd3 ⟨k, a, b, x, y, w⟩))
 | _ => none
theorem Zge (m : MD) (s : Int) (R : SV→Prop) : (Qau Tryz.prog ΓG Qax Tryz.f23 [mdS m,iV s] R) = ((((0 : Int) < s)∧((s : Int) < 1073741824))∧((((0 : Int) < s)∧((s : Int) < 1073741824))∧((((0 : Int) < 8)∧((8 : Int) < 1073741824))∧((I64 (NB.v (Qha (MD.w m) 8)))∧(R (SV.agg [(yI (NB.v (Qha (MD.x m) s))),(yF false),(yI (NB.v (Qha (MD.y m) s))),(yF false),(yI (NB.v (VB.x (Qtg (Qha (MD.w m) 8))))),(yF (NB.f (VB.x (Qtg (Qha (MD.w m) 8))))),(yI (NB.v (VB.y (Qtg (Qha (MD.w m) 8))))),(yF (NB.f (VB.y (Qtg (Qha (MD.w m) 8)))))])))))):=by kernel_rfl
def ksZ (big : Bool) (x : Int) : Int := bif big then 16 + x % 4081 else 16 + (16 + x % 4081) % 600
def ksB (a : Int) : Bool := Int.tmod a 4 == 0
def ksX (a x : Int) : Int := ksZ (ksB a) x
def ksM (a x : Int) : Int := max 64 (ksX a x)
def ksS (m : MD) : ShB := bif m.k % 5 == 0 then ⟨1, ksX m.a m.a, 0, 0⟩ else bif m.k % 5 == 1 then ⟨2, 0, ksX m.a m.a, ksX m.a m.b⟩ else ⟨3, 0, 0, 0⟩
def ksN (m : MD) : Nat := bif m.k % 5 == 0 then 0 else bif m.k % 5 == 1 then 0 else bif m.k % 5 == 2 then 3 else bif m.k % 5 == 3 then 5 else 8
def ksG (m : MD) : Nat → Int × Int := bif m.k % 5 == 2 then G3 (ksM m.a m.a) (ksM m.a m.b) else bif m.k % 5 == 3 then G5 (ksM m.a m.a) (ksM m.a m.b) (ksM m.a m.a / 2) else G8 (ksM m.a m.a) (ksM m.a m.a / 2)
def ksE (q : Prop) (m : MD) : Eff := .nd q Nat 0 (fun c => .agg [.v (.int .i64 (ksS m).k), .v (.int .i64 (ksS m).r), .v (.int .i64 (ksS m).w), .v (.int .i64 (ksS m).h), .sl 1000 2 0 (ksN m) (ksN m + c)]) fun c => [(1000, spB (ksN m) (ksN m + c) (ksG m))]
def Zln (args : List SV) (bs : List Blk) : Option Eff := match args, bs with
 | [.agg [.v (.int .i64 k), .v (.int .i64 a), .v (.int .i64 b), .v (.int .i64 x), .v (.int .i64 y), .v (.int .i64 w)]], [] => some (ksE (mdI ⟨k, a, b, x, y, w⟩) ⟨k, a, b, x, y, w⟩)
 | _, _ => none
theorem Zko (m : MD) (q : Prop) : (Qcm Tryz.prog ΓG Qax Tryz.f22 [mdS m] (Qa1 []) 64 (fun y h' => Qj9 [] (ksE q m) y h')) = (((I64 (MD.a m))∧(((0 : Int) < 4081)∧(I64 4081)))∧(((I64 (MD.b m))∧(((0 : Int) < 4081)∧(I64 4081)))∧(sel (Int.tmod (MD.a m) 4 != 0) (((I64 (MD.k m))∧(((0 : Int) < 5)∧(I64 5)))∧(sel (MD.k m % 5 == 0) (∃ c : Nat,((((yI 1) = (yI (ShB.k (ksS m))))∧(((yI (IntKind.wrap IntKind.i64 (16 + Int.tmod (IntKind.wrap IntKind.i64 (16 + MD.a m % 4081)) 600))) = (yI (ShB.r (ksS m))))∧(((yI 0) = (yI (ShB.w (ksS m))))∧(((yI 0) = (yI (ShB.h (ksS m))))∧(((SV.v (Value.slice none 0 0)) = (SV.v (Value.slice none 0 0)))∧(((0 : Nat) = 0)∧((((ksN m) : Nat) = 0)∧(((ksN m + c) : Nat) = 0))))))))∧(((((ksN m) : Nat) = 0)∧((((ksN m + c) : Nat) = 0)∧True))∧True))) (sel (MD.k m % 5 == 1) (∃ c : Nat,((((yI 2) = (yI (ShB.k (ksS m))))∧(((yI 0) = (yI (ShB.r (ksS m))))∧(((yI (IntKind.wrap IntKind.i64 (16 + Int.tmod (IntKind.wrap IntKind.i64 (16 + MD.a m % 4081)) 600))) = (yI (ShB.w (ksS m))))∧(((yI (IntKind.wrap IntKind.i64 (16 + Int.tmod (IntKind.wrap IntKind.i64 (16 + MD.b m % 4081)) 600))) = (yI (ShB.h (ksS m))))∧(((SV.v (Value.slice none 0 0)) = (SV.v (Value.slice none 0 0)))∧(((0 : Nat) = 0)∧((((ksN m) : Nat) = 0)∧(((ksN m + c) : Nat) = 0))))))))∧(((((ksN m) : Nat) = 0)∧((((ksN m + c) : Nat) = 0)∧True))∧True))) (sel (MD.k m % 5 == 2) (∃ c : Nat,((((yI 3) = (yI (ShB.k (ksS m))))∧(((yI 0) = (yI (ShB.r (ksS m))))∧(((yI 0) = (yI (ShB.w (ksS m))))∧(((yI 0) = (yI (ShB.h (ksS m))))∧((SV.sl 464 2 0 3 3) = (SV.sl 464 2 0 (ksN m) (ksN m + c)))))))∧(((3 : Nat) = (ksN m))∧((((ksN m + c) : Nat) ≤ 3)∧(∀ i : Nat,(((i : Nat) < (ksN m))→([(yI (bop (Nat.beq i 0) (IntKind.wrap IntKind.i64 (0 - max 64 (IntKind.wrap IntKind.i64 (16 + Int.tmod (IntKind.wrap IntKind.i64 (16 + MD.a m % 4081)) 600)))) (bop (Nat.beq i 1) (max 64 (IntKind.wrap IntKind.i64 (16 + Int.tmod (IntKind.wrap IntKind.i64 (16 + MD.a m % 4081)) 600))) 0))),(yI (bop (Nat.beq i 0) (IntKind.wrap IntKind.i64 (0 - max 64 (IntKind.wrap IntKind.i64 (16 + Int.tmod (IntKind.wrap IntKind.i64 (16 + MD.b m % 4081)) 600)))) (bop (Nat.beq i 1) (IntKind.wrap IntKind.i64 (0 - max 64 (IntKind.wrap IntKind.i64 (16 + Int.tmod (IntKind.wrap IntKind.i64 (16 + MD.b m % 4081)) 600)))) (max 64 (IntKind.wrap IntKind.i64 (16 + Int.tmod (IntKind.wrap IntKind.i64 (16 + MD.b m % 4081)) 600))))))] = [(yI (Prod.fst (ksG m i))),(yI (Prod.snd (ksG m i)))]))))))) (sel (MD.k m % 5 == 3) (∃ c : Nat,((((yI 3) = (yI (ShB.k (ksS m))))∧(((yI 0) = (yI (ShB.r (ksS m))))∧(((yI 0) = (yI (ShB.w (ksS m))))∧(((yI 0) = (yI (ShB.h (ksS m))))∧((SV.sl 536 2 0 5 5) = (SV.sl 536 2 0 (ksN m) (ksN m + c)))))))∧(((5 : Nat) = (ksN m))∧((((ksN m + c) : Nat) ≤ 5)∧(∀ i : Nat,(((i : Nat) < (ksN m))→([(yI (bop (Nat.beq i 0) (IntKind.wrap IntKind.i64 (Int.tdiv (IntKind.wrap IntKind.i64 (0 - max 64 (IntKind.wrap IntKind.i64 (16 + Int.tmod (IntKind.wrap IntKind.i64 (16 + MD.a m % 4081)) 600)))) 2)) (bop (Nat.beq i 1) (IntKind.wrap IntKind.i64 (Int.tdiv (max 64 (IntKind.wrap IntKind.i64 (16 + Int.tmod (IntKind.wrap IntKind.i64 (16 + MD.a m % 4081)) 600))) 2)) (bop (Nat.beq i 2) (max 64 (IntKind.wrap IntKind.i64 (16 + Int.tmod (IntKind.wrap IntKind.i64 (16 + MD.a m % 4081)) 600))) (bop (Nat.beq i 3) 0 (IntKind.wrap IntKind.i64 (0 - max 64 (IntKind.wrap IntKind.i64 (16 + Int.tmod (IntKind.wrap IntKind.i64 (16 + MD.a m % 4081)) 600))))))))),(yI (bop (Nat.beq i 0) (IntKind.wrap IntKind.i64 (0 - max 64 (IntKind.wrap IntKind.i64 (16 + Int.tmod (IntKind.wrap IntKind.i64 (16 + MD.b m % 4081)) 600)))) (bop (Nat.beq i 1) (IntKind.wrap IntKind.i64 (0 - max 64 (IntKind.wrap IntKind.i64 (16 + Int.tmod (IntKind.wrap IntKind.i64 (16 + MD.b m % 4081)) 600)))) (bop (Nat.beq i 2) 0 (bop (Nat.beq i 3) (max 64 (IntKind.wrap IntKind.i64 (16 + Int.tmod (IntKind.wrap IntKind.i64 (16 + MD.b m % 4081)) 600))) 0)))))] = [(yI (Prod.fst (ksG m i))),(yI (Prod.snd (ksG m i)))]))))))) (∃ c : Nat,((((yI 3) = (yI (ShB.k (ksS m))))∧(((yI 0) = (yI (ShB.r (ksS m))))∧(((yI 0) = (yI (ShB.w (ksS m))))∧(((yI 0) = (yI (ShB.h (ksS m))))∧((SV.sl 1048 2 0 8 8) = (SV.sl 1048 2 0 (ksN m) (ksN m + c)))))))∧(((8 : Nat) = (ksN m))∧((((ksN m + c) : Nat) ≤ 8)∧(∀ i : Nat,(((i : Nat) < (ksN m))→([(yI (bop (Nat.beq i 0) (max 64 (IntKind.wrap IntKind.i64 (16 + Int.tmod (IntKind.wrap IntKind.i64 (16 + MD.a m % 4081)) 600))) (bop (Nat.beq i 1) (max 64 (IntKind.wrap IntKind.i64 (16 + Int.tmod (IntKind.wrap IntKind.i64 (16 + MD.a m % 4081)) 600))) (bop (Nat.beq i 2) (IntKind.wrap IntKind.i64 (Int.tdiv (max 64 (IntKind.wrap IntKind.i64 (16 + Int.tmod (IntKind.wrap IntKind.i64 (16 + MD.a m % 4081)) 600))) 2)) (bop (Nat.beq i 3) (IntKind.wrap IntKind.i64 (Int.tdiv (IntKind.wrap IntKind.i64 (0 - max 64 (IntKind.wrap IntKind.i64 (16 + Int.tmod (IntKind.wrap IntKind.i64 (16 + MD.a m % 4081)) 600)))) 2)) (bop (Nat.beq i 4) (IntKind.wrap IntKind.i64 (0 - max 64 (IntKind.wrap IntKind.i64 (16 + Int.tmod (IntKind.wrap IntKind.i64 (16 + MD.a m % 4081)) 600)))) (bop (Nat.beq i 5) (IntKind.wrap IntKind.i64 (0 - max 64 (IntKind.wrap IntKind.i64 (16 + Int.tmod (IntKind.wrap IntKind.i64 (16 + MD.a m % 4081)) 600)))) (bop (Nat.beq i 6) (IntKind.wrap IntKind.i64 (Int.tdiv (IntKind.wrap IntKind.i64 (0 - max 64 (IntKind.wrap IntKind.i64 (16 + Int.tmod (IntKind.wrap IntKind.i64 (16 + MD.a m % 4081)) 600)))) 2)) (IntKind.wrap IntKind.i64 (Int.tdiv (max 64 (IntKind.wrap IntKind.i64 (16 + Int.tmod (IntKind.wrap IntKind.i64 (16 + MD.a m % 4081)) 600))) 2)))))))))),(yI (bop (Nat.beq i 0) (IntKind.wrap IntKind.i64 (Int.tdiv (IntKind.wrap IntKind.i64 (0 - max 64 (IntKind.wrap IntKind.i64 (16 + Int.tmod (IntKind.wrap IntKind.i64 (16 + MD.a m % 4081)) 600)))) 2)) (bop (Nat.beq i 1) (IntKind.wrap IntKind.i64 (Int.tdiv (max 64 (IntKind.wrap IntKind.i64 (16 + Int.tmod (IntKind.wrap IntKind.i64 (16 + MD.a m % 4081)) 600))) 2)) (bop (Nat.beq i 2) (max 64 (IntKind.wrap IntKind.i64 (16 + Int.tmod (IntKind.wrap IntKind.i64 (16 + MD.a m % 4081)) 600))) (bop (Nat.beq i 3) (max 64 (IntKind.wrap IntKind.i64 (16 + Int.tmod (IntKind.wrap IntKind.i64 (16 + MD.a m % 4081)) 600))) (bop (Nat.beq i 4) (IntKind.wrap IntKind.i64 (Int.tdiv (max 64 (IntKind.wrap IntKind.i64 (16 + Int.tmod (IntKind.wrap IntKind.i64 (16 + MD.a m % 4081)) 600))) 2)) (bop (Nat.beq i 5) (IntKind.wrap IntKind.i64 (Int.tdiv (IntKind.wrap IntKind.i64 (0 - max 64 (IntKind.wrap IntKind.i64 (16 + Int.tmod (IntKind.wrap IntKind.i64 (16 + MD.a m % 4081)) 600)))) 2)) (bop (Nat.beq i 6) (IntKind.wrap IntKind.i64 (0 - max 64 (IntKind.wrap IntKind.i64 (16 + Int.tmod (IntKind.wrap IntKind.i64 (16 + MD.a m % 4081)) 600)))) (IntKind.wrap IntKind.i64 (0 - max 64 (IntKind.wrap IntKind.i64 (16 + Int.tmod (IntKind.wrap IntKind.i64 (16 + MD.a m % 4081)) 600))))))))))))] = [(yI (Prod.fst (ksG m i))),(yI (Prod.snd (ksG m i)))])))))))))))) (((I64 (MD.k m))∧(((0 : Int) < 5)∧(I64 5)))∧(sel (MD.k m % 5 == 0) (∃ c : Nat,((((yI 1) = (yI (ShB.k (ksS m))))∧(((yI (IntKind.wrap IntKind.i64 (16 + MD.a m % 4081))) = (yI (ShB.r (ksS m))))∧(((yI 0) = (yI (ShB.w (ksS m))))∧(((yI 0) = (yI (ShB.h (ksS m))))∧(((SV.v (Value.slice none 0 0)) = (SV.v (Value.slice none 0 0)))∧(((0 : Nat) = 0)∧((((ksN m) : Nat) = 0)∧(((ksN m + c) : Nat) = 0))))))))∧(((((ksN m) : Nat) = 0)∧((((ksN m + c) : Nat) = 0)∧True))∧True))) (sel (MD.k m % 5 == 1) (∃ c : Nat,((((yI 2) = (yI (ShB.k (ksS m))))∧(((yI 0) = (yI (ShB.r (ksS m))))∧(((yI (IntKind.wrap IntKind.i64 (16 + MD.a m % 4081))) = (yI (ShB.w (ksS m))))∧(((yI (IntKind.wrap IntKind.i64 (16 + MD.b m % 4081))) = (yI (ShB.h (ksS m))))∧(((SV.v (Value.slice none 0 0)) = (SV.v (Value.slice none 0 0)))∧(((0 : Nat) = 0)∧((((ksN m) : Nat) = 0)∧(((ksN m + c) : Nat) = 0))))))))∧(((((ksN m) : Nat) = 0)∧((((ksN m + c) : Nat) = 0)∧True))∧True))) (sel (MD.k m % 5 == 2) (∃ c : Nat,((((yI 3) = (yI (ShB.k (ksS m))))∧(((yI 0) = (yI (ShB.r (ksS m))))∧(((yI 0) = (yI (ShB.w (ksS m))))∧(((yI 0) = (yI (ShB.h (ksS m))))∧((SV.sl 464 2 0 3 3) = (SV.sl 464 2 0 (ksN m) (ksN m + c)))))))∧(((3 : Nat) = (ksN m))∧((((ksN m + c) : Nat) ≤ 3)∧(∀ i : Nat,(((i : Nat) < (ksN m))→([(yI (bop (Nat.beq i 0) (IntKind.wrap IntKind.i64 (0 - max 64 (IntKind.wrap IntKind.i64 (16 + MD.a m % 4081)))) (bop (Nat.beq i 1) (max 64 (IntKind.wrap IntKind.i64 (16 + MD.a m % 4081))) 0))),(yI (bop (Nat.beq i 0) (IntKind.wrap IntKind.i64 (0 - max 64 (IntKind.wrap IntKind.i64 (16 + MD.b m % 4081)))) (bop (Nat.beq i 1) (IntKind.wrap IntKind.i64 (0 - max 64 (IntKind.wrap IntKind.i64 (16 + MD.b m % 4081)))) (max 64 (IntKind.wrap IntKind.i64 (16 + MD.b m % 4081))))))] = [(yI (Prod.fst (ksG m i))),(yI (Prod.snd (ksG m i)))]))))))) (sel (MD.k m % 5 == 3) (∃ c : Nat,((((yI 3) = (yI (ShB.k (ksS m))))∧(((yI 0) = (yI (ShB.r (ksS m))))∧(((yI 0) = (yI (ShB.w (ksS m))))∧(((yI 0) = (yI (ShB.h (ksS m))))∧((SV.sl 536 2 0 5 5) = (SV.sl 536 2 0 (ksN m) (ksN m + c)))))))∧(((5 : Nat) = (ksN m))∧((((ksN m + c) : Nat) ≤ 5)∧(∀ i : Nat,(((i : Nat) < (ksN m))→([(yI (bop (Nat.beq i 0) (IntKind.wrap IntKind.i64 (Int.tdiv (IntKind.wrap IntKind.i64 (0 - max 64 (IntKind.wrap IntKind.i64 (16 + MD.a m % 4081)))) 2)) (bop (Nat.beq i 1) (IntKind.wrap IntKind.i64 (Int.tdiv (max 64 (IntKind.wrap IntKind.i64 (16 + MD.a m % 4081))) 2)) (bop (Nat.beq i 2) (max 64 (IntKind.wrap IntKind.i64 (16 + MD.a m % 4081))) (bop (Nat.beq i 3) 0 (IntKind.wrap IntKind.i64 (0 - max 64 (IntKind.wrap IntKind.i64 (16 + MD.a m % 4081))))))))),(yI (bop (Nat.beq i 0) (IntKind.wrap IntKind.i64 (0 - max 64 (IntKind.wrap IntKind.i64 (16 + MD.b m % 4081)))) (bop (Nat.beq i 1) (IntKind.wrap IntKind.i64 (0 - max 64 (IntKind.wrap IntKind.i64 (16 + MD.b m % 4081)))) (bop (Nat.beq i 2) 0 (bop (Nat.beq i 3) (max 64 (IntKind.wrap IntKind.i64 (16 + MD.b m % 4081))) 0)))))] = [(yI (Prod.fst (ksG m i))),(yI (Prod.snd (ksG m i)))]))))))) (∃ c : Nat,((((yI 3) = (yI (ShB.k (ksS m))))∧(((yI 0) = (yI (ShB.r (ksS m))))∧(((yI 0) = (yI (ShB.w (ksS m))))∧(((yI 0) = (yI (ShB.h (ksS m))))∧((SV.sl 1048 2 0 8 8) = (SV.sl 1048 2 0 (ksN m) (ksN m + c)))))))∧(((8 : Nat) = (ksN m))∧((((ksN m + c) : Nat) ≤ 8)∧(∀ i : Nat,(((i : Nat) < (ksN m))→([(yI (bop (Nat.beq i 0) (max 64 (IntKind.wrap IntKind.i64 (16 + MD.a m % 4081))) (bop (Nat.beq i 1) (max 64 (IntKind.wrap IntKind.i64 (16 + MD.a m % 4081))) (bop (Nat.beq i 2) (IntKind.wrap IntKind.i64 (Int.tdiv (max 64 (IntKind.wrap IntKind.i64 (16 + MD.a m % 4081))) 2)) (bop (Nat.beq i 3) (IntKind.wrap IntKind.i64 (Int.tdiv (IntKind.wrap IntKind.i64 (0 - max 64 (IntKind.wrap IntKind.i64 (16 + MD.a m % 4081)))) 2)) (bop (Nat.beq i 4) (IntKind.wrap IntKind.i64 (0 - max 64 (IntKind.wrap IntKind.i64 (16 + MD.a m % 4081)))) (bop (Nat.beq i 5) (IntKind.wrap IntKind.i64 (0 - max 64 (IntKind.wrap IntKind.i64 (16 + MD.a m % 4081)))) (bop (Nat.beq i 6) (IntKind.wrap IntKind.i64 (Int.tdiv (IntKind.wrap IntKind.i64 (0 - max 64 (IntKind.wrap IntKind.i64 (16 + MD.a m % 4081)))) 2)) (IntKind.wrap IntKind.i64 (Int.tdiv (max 64 (IntKind.wrap IntKind.i64 (16 + MD.a m % 4081))) 2)))))))))),(yI (bop (Nat.beq i 0) (IntKind.wrap IntKind.i64 (Int.tdiv (IntKind.wrap IntKind.i64 (0 - max 64 (IntKind.wrap IntKind.i64 (16 + MD.a m % 4081)))) 2)) (bop (Nat.beq i 1) (IntKind.wrap IntKind.i64 (Int.tdiv (max 64 (IntKind.wrap IntKind.i64 (16 + MD.a m % 4081))) 2)) (bop (Nat.beq i 2) (max 64 (IntKind.wrap IntKind.i64 (16 + MD.a m % 4081))) (bop (Nat.beq i 3) (max 64 (IntKind.wrap IntKind.i64 (16 + MD.a m % 4081))) (bop (Nat.beq i 4) (IntKind.wrap IntKind.i64 (Int.tdiv (max 64 (IntKind.wrap IntKind.i64 (16 + MD.a m % 4081))) 2)) (bop (Nat.beq i 5) (IntKind.wrap IntKind.i64 (Int.tdiv (IntKind.wrap IntKind.i64 (0 - max 64 (IntKind.wrap IntKind.i64 (16 + MD.a m % 4081)))) 2)) (bop (Nat.beq i 6) (IntKind.wrap IntKind.i64 (0 - max 64 (IntKind.wrap IntKind.i64 (16 + MD.a m % 4081)))) (IntKind.wrap IntKind.i64 (0 - max 64 (IntKind.wrap IntKind.i64 (16 + MD.a m % 4081))))))))))))] = [(yI (Prod.fst (ksG m i))),(yI (Prod.snd (ksG m i)))]))))))))))))))):=by kernel_rfl
theorem Qhq (n : Int) {s m : Int} (hm : IntKind.i64.wrap (s * 4294967296) = m) (h0 : 0 < m) : -m < (Qha n s).v ∧ (Qha n s).v < m := by
 show -m < Int.tmod n (IntKind.i64.wrap (s * 4294967296)) ∧ Int.tmod n (IntKind.i64.wrap (s * 4294967296)) < m
 rw [hm]
 have h := Int.natAbs_tmod n m
 have h1 : n.natAbs % m.natAbs < m.natAbs := Nat.mod_lt _ (by omega)
 omega
theorem Zif (n : Int) {s m : Int} (hm : IntKind.i64.wrap (s * 4294967296) = m) (h0 : 0 < m) (h1 : m < 9223372036854775807) : I64 (Qha n s).v := by
 have := Qhq n hm h0
 exact ⟨by omega, by omega⟩
theorem Q4c : Qai Tryz.prog 23 Zcm := Qan hm Qzm Tryz.func23 (Λ := fun _ => Qax) fun args p x h hp => by
 unfold Zcm at h
 split at h <;> try (cases h; done)
 rename_i k a b x y w s
 cases h
 have h1 : 0 < s ∧ s < 1073741824 := hp _ rfl
 exact ⟨rfl, rfl, Eq.mpr (Zge ⟨k, a, b, x, y, w⟩ s _) ⟨h1, h1, ⟨by decide, by decide⟩, Zif w (m := 34359738368) (by rfl) (by decide) (by decide), rfl⟩⟩
theorem w16 (x : Int) : IntKind.i64.wrap (16 + x % 4081) = 16 + x % 4081 := Qag ⟨by omega, by omega⟩
theorem w600 (x : Int) : IntKind.i64.wrap (16 + Int.tmod (16 + x % 4081) 600) = 16 + (16 + x % 4081) % 600 := by
 rw [Int.tmod_eq_emod_of_nonneg (by omega), Qag ⟨by omega, by omega⟩]
theorem wK {K : Int} (h : 64 ≤ K ∧ K ≤ 4096) : IntKind.i64.wrap (0 - K) = -K := by rw [Qag ⟨by omega, by omega⟩]; omega
theorem wK2 {K : Int} (h : 64 ≤ K ∧ K ≤ 4096) : IntKind.i64.wrap (Int.tdiv K 2) = K / 2 := by
 rw [Int.tdiv_eq_ediv_of_nonneg (by omega), Qag ⟨by omega, by omega⟩]
theorem wK3 {K : Int} (h : 64 ≤ K ∧ K ≤ 4096) : IntKind.i64.wrap (Int.tdiv (-K) 2) = -(K / 2) := by
 rw [Int.neg_tdiv, Int.tdiv_eq_ediv_of_nonneg (by omega), Qag ⟨by omega, by omega⟩]
theorem Qo1 (t : Bool) (x : Int) : 16 ≤ ksZ t x ∧ ksZ t x ≤ 4096 := by
 unfold ksZ; cases t <;> simp only [cond_true, cond_false] <;> omega
theorem Zi8 {m : MD} {q : Prop} (h : mdI m) : Qcm Tryz.prog ΓG Qax Tryz.f22 [mdS m] (Qa1 []) 64 (fun y h' => Qj9 [] (ksE q m) y h') := by
 obtain ⟨hk, ha, hb, -⟩ := h
 have m4081 : (0 : Int) < 4081 ∧ I64 4081 := ⟨by decide, by decide, by decide⟩
 refine Eq.mpr (Zko m q) ⟨⟨ha, m4081⟩, ⟨hb, m4081⟩, ?_⟩
 rw [w16, w16]
 have hXA : ksX m.a m.a = ksZ (ksB m.a) m.a := rfl
 have hXB : ksX m.a m.b = ksZ (ksB m.a) m.b := rfl
 refine Qaf (fun hs => ⟨⟨hk, by decide, by decide, by decide⟩, ?_⟩) fun hs => ⟨⟨hk, by decide, by decide, by decide⟩, ?_⟩
 · have hB : ksB m.a = false := by unfold ksB; simpa using hs
   rw [w600, w600, show 16 + (16 + m.a % 4081) % 600 = ksX m.a m.a from by rw [hXA, hB]; rfl, show 16 + (16 + m.b % 4081) % 600 = ksX m.a m.b from by rw [hXB, hB]; rfl]
   have hKA : 64 ≤ ksM m.a m.a ∧ ksM m.a m.a ≤ 4096 := by have := Qo1 (ksB m.a) m.a; unfold ksM; rw [hXA]; omega
   have hKB : 64 ≤ ksM m.a m.b ∧ ksM m.a m.b ≤ 4096 := by have := Qo1 (ksB m.a) m.b; unfold ksM; rw [hXB]; omega
   rw [show max 64 (ksX m.a m.a) = ksM m.a m.a from rfl, show max 64 (ksX m.a m.b) = ksM m.a m.b from rfl, wK hKA, wK hKB, wK2 hKA, wK3 hKA]
   refine Qaf (fun h0 => ?_) fun h0 => Qaf (fun h1 => ?_) fun h1 => Qaf (fun h2 => ?_) fun h2 => Qaf (fun h3 => ?_) fun h3 => ?_
   · have hS : ksS m = ⟨1, ksX m.a m.a, 0, 0⟩ := by unfold ksS; rw [h0]; rfl
     have hN : ksN m = 0 := by unfold ksN; rw [h0]; rfl
     rw [hS, hN]
     exact ⟨0, ⟨rfl, rfl, rfl, rfl, rfl, rfl, rfl, rfl⟩, ⟨rfl, rfl, trivial⟩, trivial⟩
   · have hS : ksS m = ⟨2, 0, ksX m.a m.a, ksX m.a m.b⟩ := by unfold ksS; rw [h0, h1]; rfl
     have hN : ksN m = 0 := by unfold ksN; rw [h0, h1]; rfl
     rw [hS, hN]
     exact ⟨0, ⟨rfl, rfl, rfl, rfl, rfl, rfl, rfl, rfl⟩, ⟨rfl, rfl, trivial⟩, trivial⟩
   · have hS : ksS m = ⟨3, 0, 0, 0⟩ := by unfold ksS; rw [h0, h1]; rfl
     have hN : ksN m = 3 := by unfold ksN; rw [h0, h1, h2]; rfl
     have hG : ksG m = G3 (ksM m.a m.a) (ksM m.a m.b) := by unfold ksG; rw [h2]; rfl
     rw [hS, hN, hG]
     refine ⟨0, ⟨rfl, rfl, rfl, rfl, rfl⟩, rfl, Nat.le_refl _, fun i hi => ?_⟩
     obtain rfl | rfl | rfl : i = 0 ∨ i = 1 ∨ i = 2 := by omega
     all_goals rfl
   · have hS : ksS m = ⟨3, 0, 0, 0⟩ := by unfold ksS; rw [h0, h1]; rfl
     have hN : ksN m = 5 := by unfold ksN; rw [h0, h1, h2, h3]; rfl
     have hG : ksG m = G5 (ksM m.a m.a) (ksM m.a m.b) (ksM m.a m.a / 2) := by unfold ksG; rw [h2, h3]; rfl
     rw [hS, hN, hG]
     refine ⟨0, ⟨rfl, rfl, rfl, rfl, rfl⟩, rfl, Nat.le_refl _, fun i hi => ?_⟩
     obtain rfl | rfl | rfl | rfl | rfl : i = 0 ∨ i = 1 ∨ i = 2 ∨ i = 3 ∨ i = 4 := by omega
     all_goals rfl
   · have hS : ksS m = ⟨3, 0, 0, 0⟩ := by unfold ksS; rw [h0, h1]; rfl
     have hN : ksN m = 8 := by unfold ksN; rw [h0, h1, h2, h3]; rfl
     have hG : ksG m = G8 (ksM m.a m.a) (ksM m.a m.a / 2) := by unfold ksG; rw [h2, h3]; rfl
     rw [hS, hN, hG]
     refine ⟨0, ⟨rfl, rfl, rfl, rfl, rfl⟩, rfl, Nat.le_refl _, fun i hi => ?_⟩
     obtain rfl | rfl | rfl | rfl | rfl | rfl | rfl | rfl : i = 0 ∨ i = 1 ∨ i = 2 ∨ i = 3 ∨ i = 4 ∨ i = 5 ∨ i = 6 ∨ i = 7 := by omega
     all_goals rfl
 · have hB : ksB m.a = true := by unfold ksB; simpa using hs
   rw [show 16 + m.a % 4081 = ksX m.a m.a from by rw [hXA, hB]; rfl, show 16 + m.b % 4081 = ksX m.a m.b from by rw [hXB, hB]; rfl]
   have hKA : 64 ≤ ksM m.a m.a ∧ ksM m.a m.a ≤ 4096 := by have := Qo1 (ksB m.a) m.a; unfold ksM; rw [hXA]; omega
   have hKB : 64 ≤ ksM m.a m.b ∧ ksM m.a m.b ≤ 4096 := by have := Qo1 (ksB m.a) m.b; unfold ksM; rw [hXB]; omega
   rw [show max 64 (ksX m.a m.a) = ksM m.a m.a from rfl, show max 64 (ksX m.a m.b) = ksM m.a m.b from rfl, wK hKA, wK hKB, wK2 hKA, wK3 hKA]
   refine Qaf (fun h0 => ?_) fun h0 => Qaf (fun h1 => ?_) fun h1 => Qaf (fun h2 => ?_) fun h2 => Qaf (fun h3 => ?_) fun h3 => ?_
   · have hS : ksS m = ⟨1, ksX m.a m.a, 0, 0⟩ := by unfold ksS; rw [h0]; rfl
     have hN : ksN m = 0 := by unfold ksN; rw [h0]; rfl
     rw [hS, hN]
     exact ⟨0, ⟨rfl, rfl, rfl, rfl, rfl, rfl, rfl, rfl⟩, ⟨rfl, rfl, trivial⟩, trivial⟩
   · have hS : ksS m = ⟨2, 0, ksX m.a m.a, ksX m.a m.b⟩ := by unfold ksS; rw [h0, h1]; rfl
     have hN : ksN m = 0 := by unfold ksN; rw [h0, h1]; rfl
     rw [hS, hN]
     exact ⟨0, ⟨rfl, rfl, rfl, rfl, rfl, rfl, rfl, rfl⟩, ⟨rfl, rfl, trivial⟩, trivial⟩
   · have hS : ksS m = ⟨3, 0, 0, 0⟩ := by unfold ksS; rw [h0, h1]; rfl
     have hN : ksN m = 3 := by unfold ksN; rw [h0, h1, h2]; rfl
     have hG : ksG m = G3 (ksM m.a m.a) (ksM m.a m.b) := by unfold ksG; rw [h2]; rfl
     rw [hS, hN, hG]
     refine ⟨0, ⟨rfl, rfl, rfl, rfl, rfl⟩, rfl, Nat.le_refl _, fun i hi => ?_⟩
     obtain rfl | rfl | rfl : i = 0 ∨ i = 1 ∨ i = 2 := by omega
     all_goals rfl
   · have hS : ksS m = ⟨3, 0, 0, 0⟩ := by unfold ksS; rw [h0, h1]; rfl
     have hN : ksN m = 5 := by unfold ksN; rw [h0, h1, h2, h3]; rfl
     have hG : ksG m = G5 (ksM m.a m.a) (ksM m.a m.b) (ksM m.a m.a / 2) := by unfold ksG; rw [h2, h3]; rfl
     rw [hS, hN, hG]
     refine ⟨0, ⟨rfl, rfl, rfl, rfl, rfl⟩, rfl, Nat.le_refl _, fun i hi => ?_⟩
     obtain rfl | rfl | rfl | rfl | rfl : i = 0 ∨ i = 1 ∨ i = 2 ∨ i = 3 ∨ i = 4 := by omega
     all_goals rfl
   · have hS : ksS m = ⟨3, 0, 0, 0⟩ := by unfold ksS; rw [h0, h1]; rfl
     have hN : ksN m = 8 := by unfold ksN; rw [h0, h1, h2, h3]; rfl
     have hG : ksG m = G8 (ksM m.a m.a) (ksM m.a m.a / 2) := by unfold ksG; rw [h2, h3]; rfl
     rw [hS, hN, hG]
     refine ⟨0, ⟨rfl, rfl, rfl, rfl, rfl⟩, rfl, Nat.le_refl _, fun i hi => ?_⟩
     obtain rfl | rfl | rfl | rfl | rfl | rfl | rfl | rfl : i = 0 ∨ i = 1 ∨ i = 2 ∨ i = 3 ∨ i = 4 ∨ i = 5 ∨ i = 6 ∨ i = 7 := by omega
     all_goals rfl
theorem Q75 : Qex Tryz.prog 22 Zln := Qd7 hm Qzm Tryz.func22 (Λ := fun _ _ => Qax) fun args bs e hs hp => by
 unfold Zln at hs
 split at hs <;> try (cases hs; done)
 rename_i k a b x y w
 cases hs
 exact ⟨[], trivial, Zi8 (m := ⟨k, a, b, x, y, w⟩) hp⟩
theorem Za1 {d : Int} (h : 1 ≤ d ∧ d ≤ 1000) : Qtb 0 d = 0 := by
 unfold Qtb
 rw [decide_eq_false (p := d < 1) (by omega), decide_eq_false (p := d > 1000) (by omega)]; rfl
def bL (l : List Int) (c : Nat) : Blk := { elem := 5, size := 1, rw := true, lock := false, lit := false, flat := true, n := l.length, row := fun i => [.v (.int .u8 (l.getD i 0))], ext := c }
def bOk (b : Blk) : Bool := Nat.beq b.elem 5 && Nat.beq b.size 1 && b.rw && !b.dead && b.flat && !b.whole
def Zl4 : SV := .v (.slice none 0 0)
def buB (fl : Bool) (a b : SV) : Blk := { elem := 169, size := 2, rw := true, lock := false, lit := true, flat := fl, n := 1, row := fun _ => [a, b], ext := 1, whole := true }
def Q91 (fl : Bool) (b : Blk) : Bool := Nat.beq b.elem 169 && Nat.beq b.size 2 && b.rw && !b.dead && Nat.beq b.n 1 && Nat.beq b.ext 1 && b.whole && (b.flat == fl)
inductive BuS where
 | fresh
 | used (l : List Int) (c : Nat) (p : Prop)
def Qcj (n c : Nat) (D : Blk) : Prop := D.n = n ∧ D.ext = c ∧ n < 70368744177664 ∧ ∀ i, i < n → Qhs (D.row i)
def Q7r : List Blk → Option BuS
 | [B] => match B.row 0 with
   | [.v (.pointer none), .v (.slice none 0 0)] => bif Q91 true B then some .fresh else none
   | _ => none
 | [B, D] => match B.row 0 with
   | [.vp 0 0, .sl 1 1 0 n c] => bif Q91 false B && bOk D then some (.used (Qao n D.row) c (Qcj n c D)) else none
   | _ => none
 | _ => none
def usB (n c : Nat) : Blk := buB false (.vp 0 0) (.sl 1 1 0 n c)
def Q61 (n c : Nat) : Blk := buB false (.vp 0 0) (.sl 1000 1 0 n c)
def idCtr : Ctr := { writes := false, run := fun args _ _ => match args with | [x] => some (.det none x []) | _ => none }
def Q1m (args : List SV) (bs : List Blk) : Option Eff := match args with
 | [.vp 0 0] => match Q7r bs with
   | some .fresh => some (.det none (.tup []) [(0, buB false (.vp 0 0) Zl4)])
   | some (.used l c p) => some (.det (some p) (.tup []) [(0, usB l.length c), (1, bL l c)])
   | none => none
 | _ => none
def Q03 (args : List SV) (bs : List Blk) : Option Eff := match args with
 | [.vp 0 0, .v (.int .u8 x)] => match Q7r bs with
   | some .fresh => some (.nd True Nat 0 (fun _ => .v .nilIface) fun c' => [(0, Q61 1 (1 + c')), (1000, bL [x] (1 + c'))])
   | some (.used l c p) => some (.nd p Nat 0 (fun _ => .v .nilIface) fun c' => [(0, Q61 (l.length + 1) (l.length + 1 + c')), (1, Qc8 (bL l c)), (1000, bL (l ++ [x]) (l.length + 1 + c'))])
   | none => none
 | _ => none
def roB (e : Nat) (l : List Int) : Blk := { elem := e, size := 1, rw := false, lock := false, lit := false, flat := true, n := l.length, row := fun i => [.v (.int .u8 (l.getD i 0))], ext := 0 }
def Ze5 (S : Blk) : Bool := S.flat && !S.rw && !S.dead && Nat.beq S.size 1 && Nat.beq S.ext 0 && !S.whole
def Q00 (args : List SV) (bs : List Blk) : Option Eff := match args, bs with
 | [.vp 0 0, .sl 1 1 0 m _], [B, S] => match Q7r [B] with
   | some .fresh => bif Ze5 S then some (.nd (S.n = m ∧ 0 < m ∧ m < 70368744177664 ∧ ∀ i, i < m → Qhs (S.row i)) Nat 0 (fun _ => .tup [.v (.int .i64 m), .v .nilIface]) fun c' => [(0, Q61 m (m + c')), (1000, bL (Qao m S.row) (m + c'))]) else none
   | _ => none
 | [.vp 0 0, .sl 2 1 0 m _], [B, D, S] => match Q7r [B, D] with
   | some (.used l c p) => bif Ze5 S then some (.nd (p ∧ S.n = m ∧ m < 70368744177664 ∧ ∀ i, i < m → Qhs (S.row i)) Nat 0 (fun _ => .tup [.v (.int .i64 m), .v .nilIface]) fun c' => [(0, Q61 (l.length + m) (l.length + m + c')), (1, Qc8 (bL l c)), (1000, bL (l ++ Qao m S.row) (l.length + m + c'))]) else none
   | _ => none
 | _, _ => none
def Qt3 (args : List SV) (bs : List Blk) : Option Eff := match args with
 | [.vp 0 0] => match Q7r bs with
   | some (.used l c p) => some (.det (some (p ∧ 0 < l.length ∧ l.length ≤ c)) (.v (.string (strOfNums l))) [(0, usB l.length c), (1, Qc8 (bL l c))])
   | _ => none
 | _ => none
def Zfo : Qb7 := Qah ΓC 232 idCtr
def Zes : Qb7 := Qah Zfo 160 (Qgv true Q1m)
def ΓT2 : Qb7 := Qah (Qah (Qah Zes 83 (Qgv true Q03)) 84 (Qgv true Q00)) 86 (Qgv true Qt3)
def fB : Blk := buB true (.v (.pointer none)) Zl4
theorem Q58 : (Qcm Tryz.prog Zfo Qax Tryz.f160 [.vp 0 0] (Qa1 [fB]) 64 (fun y h' => Qj9 [fB] (.det none (.tup []) [(0,buB false (.vp 0 0) Zl4)]) y h')) = (True∧(((1 : Nat) = 1)∧(((1 : Nat) ≤ 1)∧(((SV.vp 0 0) = (SV.vp 0 0))∧((SV.v (Value.slice none 0 0)) = (SV.v (Value.slice none 0 0))))))):=by kernel_rfl
theorem Q57 (c : Nat) (l : List Int) : (Qcm Tryz.prog Zfo Qax Tryz.f160 [.vp 0 0] (Qa1 [usB l.length c,bL l c]) 64 (fun y h' => Qj9 [usB l.length c,bL l c] (.det none (.tup []) [(0,usB l.length c),(1,bL l c)]) y h')) = (True∧((((1 : Nat) = 1)∧(((1 : Nat) ≤ 1)∧(((SV.vp 0 0) = (SV.vp 0 0))∧((SV.sl 1 1 0 (List.length l) c) = (SV.sl 1 1 0 (List.length l) c)))))∧((((List.length l) : Nat) = (List.length l))∧(((c : Nat) ≤ c)∧(∀ i : Nat,(((i : Nat) < (List.length l))→([(yU (List.getD l i 0))] = [(yU (List.getD l i 0))]))))))):=by kernel_rfl
theorem Q5m (x : Int) : (Qcm Tryz.prog Zes Qax Tryz.f83 [.vp 0 0,.v (.int .u8 x)] (Qa1 [fB]) 64 (fun y h' => Qj9 [fB] (.nd True Nat 0 (fun _ => .v .nilIface) fun c' => [(0,Q61 1 (1 + c')),(1000,bL [x] (1 + c'))]) y h')) = (((1 : Nat) ≤ 140737488355328)∧(∀ c : Nat,(∃ c_1 : Nat,(((SV.v Value.nilIface) = (SV.v Value.nilIface))∧((((1 : Nat) = 1)∧(((1 : Nat) ≤ 1)∧(((SV.vp 0 0) = (SV.vp 0 0))∧((SV.sl 144 1 0 1 (1 + c)) = (SV.sl 144 1 0 1 (1 + c_1))))))∧(((1 : Nat) = (List.length [x]))∧((((1 + c_1) : Nat) ≤ (1 + c))∧(∀ i : Nat,(((i : Nat) < (List.length [x]))→([(yU x)] = [(yU (List.getD [x] i 0))])))))))))):=by kernel_rfl
theorem Q5l (c : Nat) (l : List Int) (x : Int) : (Qcm Tryz.prog Zes Qax Tryz.f83 [.vp 0 0,.v (.int .u8 x)] (Qa1 [usB l.length c,bL l c]) 64 (fun y h' => Qj9 [usB l.length c,bL l c] (.nd True Nat 0 (fun _ => .v .nilIface) fun c' => [(0,Q61 (l.length + 1) (l.length + 1 + c')),(1,Qc8 (bL l c)),(1000,bL (l++[x]) (l.length + 1 + c'))]) y h')) =
((Qcj (List.length l) c {elem:=5,size:=1,rw:=true,lock:=false,lit:=false,flat:=true,n:=List.length l,row:=fun i => [yU (List.getD l i 0)],ext:=c})∧((((((List.length (Qao (List.length l) fun i => [yU (List.getD l i 0)]) + 1) * 1) : Nat) ≤ 140737488355328)∧((((0 + c) : Nat) ≤ c)∧(∀ y : Nat,(((y : Nat) < 1)→True))))∧(∀ c_1 : Nat,(∃ c_2 : Nat,(((SV.v Value.nilIface) = (SV.v Value.nilIface))∧((((1 : Nat) = 1)∧(((1 : Nat) ≤ 1)∧(((SV.vp 0 0) = (SV.vp 0 0))∧((SV.sl 144 1 0 (List.length (Qao (List.length l) fun i => [yU (List.getD l i 0)]) + 1) (List.length (Qao (List.length l) fun i => [yU (List.getD l i 0)]) + 1 + c_1)) = (SV.sl 144 1 0 (List.length l + 1) (List.length l + 1 + c_2))))))∧((((List.length (Qao (List.length l) fun i => [yU (List.getD l i 0)]) + 1) : Nat) = (List.length (l++[x])))∧((((List.length l + 1 + c_2) : Nat) ≤ (List.length (Qao (List.length l) fun i => [yU (List.getD l i 0)]) + 1 + c_1))∧(∀ i : Nat,(((i : Nat) < (List.length (l++[x])))→([(yU (bop (Nat.blt i (List.length (Qao (List.length l) fun i => [yU (List.getD l i 0)]))) (List.getD (Qao (List.length l) fun i => [yU (List.getD l i 0)]) (0 + i) 0) x))] = [(yU (List.getD (l++[x]) i 0))]))))))))))) := by kernel_rfl
theorem Q5k (e : Nat) (r : List Int) (c0 : Nat) : (Qcm Tryz.prog Zes Qax Tryz.f84 [.vp 0 0,.sl 1 1 0 r.length c0] (Qa1 [fB,roB e r]) 64 (fun y h' => Qj9 [fB,roB e r] (.nd True Nat 0 (fun _ => .tup [.v (.int .i64 r.length),.v .nilIface]) fun c' => [(0,Q61 r.length (r.length + c')),(1000,bL r (r.length + c'))]) y h')) = ((((List.length r * 1) : Nat) ≤ 140737488355328)∧(∀ c : Nat,(∃ c_1 : Nat,((((yI ((↑(List.length r) : Int))) = (yI ((↑(List.length r) : Int))))∧((SV.v Value.nilIface) = (SV.v Value.nilIface)))∧((((1 : Nat) = 1)∧(((1 : Nat) ≤ 1)∧(((SV.vp 0 0) = (SV.vp 0 0))∧((SV.sl 144 1 0 (List.length r) (List.length r + c)) = (SV.sl 144 1 0 (List.length r) (List.length r + c_1))))))∧((((List.length r) : Nat) = (List.length r))∧((((List.length r + c_1) : Nat) ≤ (List.length r + c))∧(∀ i : Nat,(((i : Nat) < (List.length r))→([(yU (List.getD r (0 + i) 0))] = [(yU (List.getD r i 0))])))))))))):=by kernel_rfl
theorem Q5j (e : Nat) (c : Nat) (l r : List Int) (c0 : Nat) : (Qcm Tryz.prog Zes Qax Tryz.f84 [.vp 0 0,.sl 2 1 0 r.length c0] (Qa1 [usB l.length c,bL l c,roB e r]) 64 (fun y h' => Qj9 [usB l.length c,bL l c,roB e r] (.nd True Nat 0 (fun _ => .tup [.v (.int .i64 r.length),.v .nilIface]) fun c' => [(0,Q61 (l.length + r.length) (l.length + r.length + c')),(1,Qc8 (bL l c)),(1000,bL (l++r) (l.length + r.length + c'))]) y h')) = ((Qcj (List.length l) c {elem:=5,size:=1,rw:=true,lock:=false,lit:=false,flat:=true,n:=List.length l,row:=fun i => [yU (List.getD l i 0)],ext:=c})∧((((((List.length (Qao (List.length l) fun i => [yU (List.getD l i 0)]) + List.length r) * 1) : Nat) ≤ 140737488355328)∧((((0 + c) : Nat) ≤ c)∧(∀ y : Nat,(((y : Nat) < (List.length r))→True))))∧(∀ c_1 : Nat,(∃ c_2 : Nat,((((yI ((↑(List.length r) : Int))) = (yI ((↑(List.length r) : Int))))∧((SV.v Value.nilIface) = (SV.v Value.nilIface)))∧((((1 : Nat) = 1)∧(((1 : Nat) ≤ 1)∧(((SV.vp 0 0) = (SV.vp 0 0))∧((SV.sl 144 1 0 (List.length (Qao (List.length l) fun i => [yU (List.getD l i 0)]) + List.length r) (List.length (Qao (List.length l) fun i => [yU (List.getD l i 0)]) + List.length r + c_1)) = (SV.sl 144 1 0 (List.length l + List.length r) (List.length l + List.length r + c_2))))))∧((((List.length (Qao (List.length l) fun i => [yU (List.getD l i 0)]) + List.length r) : Nat) = (List.length (l++r)))∧((((List.length l + List.length r + c_2) : Nat) ≤ (List.length (Qao (List.length l) fun i => [yU (List.getD l i 0)]) + List.length r + c_1))∧(∀ i : Nat,(((i : Nat) < (List.length (l++r)))→([(yU (bop (Nat.blt i (List.length (Qao (List.length l) fun i => [yU (List.getD l i 0)]))) (List.getD (Qao (List.length l) fun i => [yU (List.getD l i 0)]) (0 + i) 0) (List.getD r (0 + (i - List.length (Qao (List.length l) fun i => [yU (List.getD l i 0)]))) 0)))] = [(yU (List.getD (l++r) i 0))]))))))))))):=by kernel_rfl
theorem Q5o (c : Nat) (l : List Int) : (Qcm Tryz.prog Zfo Qax Tryz.f86 [.vp 0 0] (Qa1 [usB l.length c,bL l c]) 64 (fun y h' => Qj9 [usB l.length c,bL l c] (.det none (.v (.string (strOfNums l))) [(0,usB l.length c),(1,Qc8 (bL l c))]) y h')) = ((((0 : Nat) < (List.length l))∧(((List.length l) : Nat) ≤ c))∧((((0 : Int) < ((↑(List.length l) : Int)))∧(((((↑(List.length l) : Int)) : Int) ≤ ((↑(List.length l) : Int)))∧(((((↑(List.length l) : Int)) : Int) ≤ 4611686018427387904)∧(∀ y : Nat,(((y : Nat) < (Int.toNat (↑(List.length l) : Int)))→True)))))∧(((SV.v (.string (Q0l (Int.toNat (↑(List.length l) : Int)) fun i => [yU (List.getD l i 0)]))) = (SV.v (.string (strOfNums l))))∧((((1 : Nat) = 1)∧(((1 : Nat) ≤ 1)∧(((SV.vp 0 0) = (SV.vp 0 0))∧((SV.sl 1 1 0 (List.length l) c) = (SV.sl 1 1 0 (List.length l) c)))))∧True)))):=by kernel_rfl
theorem Qih (l : List Int) : (Qao l.length fun i => [SV.v (.int .u8 (l.getD i 0))]) = l := by
 apply List.ext_getElem?
 intro i
 simp only [Qao, List.getElem?_map]
 by_cases h : i < l.length
 · rw [List.getElem?_range' h]
   simp [SE.Qpf, List.getD, List.getElem?_eq_getElem h]
 · rw [List.getElem?_eq_none (by simp; omega), List.getElem?_eq_none (by omega)]
   rfl
theorem Qfx (n : Nat) (row : Nat → List SV) : (Qao n row).length = n := by simp [Qao]
theorem Qny {n : Nat} {row : Nat → List SV} (hb : ∀ i, i < n → Qhs (row i)) (i : Nat) (hi : i < n) : row i = [.v (.int .u8 ((Qao n row).getD i 0))] := by
 have h3 := hb i hi
 unfold Qhs at h3
 split at h3
 · rename_i k hk
   rw [hk]
   simp [Qao, List.getD, List.getElem?_range' hi, SE.Qpf, hk]
 · exact h3.elim
theorem Zcd {n c : Nat} {D : Blk} (h1 : bOk D = true) (h2 : Qcj n c D) : BlkSame D (bL (Qao n D.row) c) := by
 simp only [bOk, Bool.and_eq_true, Bool.not_eq_true'] at h1
 obtain ⟨⟨⟨⟨⟨a1, a2⟩, a3⟩, a4⟩, a5⟩, a6⟩ := h1
 obtain ⟨b1, b2, _, b4⟩ := h2
 exact ⟨Nat.eq_of_beq_eq_true a2, a3, a5, by rw [b1]; exact (Qfx _ _).symm, b2, a4, Nat.eq_of_beq_eq_true a1, a6, fun i hi => Qny b4 i (by omega)⟩
theorem Qvt {fl : Bool} {a b : SV} {B : Blk} (h1 : Q91 fl B = true) (h2 : B.row 0 = [a, b]) : BlkSame B (buB fl a b) := by
 simp only [Q91, Bool.and_eq_true, Bool.not_eq_true', beq_iff_eq] at h1
 obtain ⟨⟨⟨⟨⟨⟨⟨a1, a2⟩, a3⟩, a4⟩, a5⟩, a6⟩, a7⟩, a8⟩ := h1
 have hn := Nat.eq_of_beq_eq_true a5
 exact ⟨Nat.eq_of_beq_eq_true a2, a3, a8, hn, Nat.eq_of_beq_eq_true a6, a4, Nat.eq_of_beq_eq_true a1, a7, fun i hi => by
   have : i = 0 := by omega
   subst this
   exact h2⟩
theorem Qk9 {bs : List Blk} (h : Q7r bs = some .fresh) : Qd8 bs [fB] := by
 unfold Q7r at h
 split at h
 · split at h <;> try (cases h; done)
   rename_i B _ hB
   cases hb : Q91 true B with
   | false => rw [hb] at h; cases h
   | true => exact ⟨Qvt hb hB, trivial⟩
 · split at h <;> try (cases h; done)
   rename_i B D _ n c hB
   cases hb : (Q91 false B && bOk D) with
   | false => rw [hb] at h; cases h
   | true => rw [hb] at h; cases h
 · cases h
theorem Qj5 {bs : List Blk} {l : List Int} {c : Nat} {p : Prop} (h : Q7r bs = some (.used l c p)) (hp : p) : Qd8 bs [usB l.length c, bL l c] ∧ l.length < 70368744177664 := by
 unfold Q7r at h
 split at h
 · split at h <;> try (cases h; done)
   rename_i B _ hB
   cases hb : Q91 true B with
   | false => rw [hb] at h; cases h
   | true => rw [hb] at h; cases h
 · split at h <;> try (cases h; done)
   rename_i B D _ n c' hB
   cases hb : (Q91 false B && bOk D) with
   | false => rw [hb] at h; cases h
   | true =>
     rw [hb] at h
     cases h
     rw [Bool.and_eq_true] at hb
     rw [Qfx]
     exact ⟨⟨Qvt hb.1 hB, Zcd hb.2 hp, trivial⟩, hp.2.2.1⟩
 · cases h
theorem Qpe (l : List Int) (c : Nat) (h : l.length < 70368744177664) : Qcj l.length c { elem := 5, size := 1, rw := true, lock := false, lit := false, flat := true, n := l.length, row := fun i => [SV.v (.int .u8 (l.getD i 0))], ext := c } :=
 ⟨rfl, rfl, h, fun _ _ => trivial⟩
theorem Qvy (l r : List Int) (i : Nat) (_ : i < (l ++ r).length) : (bop (Nat.blt i l.length) (l.getD (0 + i) 0) (r.getD (0 + (i - l.length)) 0)) = (l ++ r).getD i 0 := by
 rw [Nat.zero_add, Nat.zero_add]
 by_cases h : i < l.length
 · rw [show Nat.blt i l.length = true from Nat.ble_eq_true_of_le h]
   simp [bop, List.getD, List.getElem?_append_left h]
 · have : Nat.blt i l.length = false := by
     cases hb : Nat.blt i l.length with
     | false => rfl
     | true => exact absurd (Nat.le_of_ble_eq_true hb) h
   rw [this]
   simp [bop, List.getD, List.getElem?_append_right (Nat.le_of_not_lt h)]
theorem Qvs {S : Blk} {m : Nat} (hS : Ze5 S = true) (h1 : S.n = m) (h2 : ∀ i, i < m → Qhs (S.row i)) : BlkSame S (roB S.elem (Qao m S.row)) := by
 simp only [Ze5, Bool.and_eq_true, Bool.not_eq_true'] at hS
 obtain ⟨⟨⟨⟨⟨a1, a2⟩, a3⟩, a4⟩, a5⟩, a6⟩ := hS
 exact ⟨Nat.eq_of_beq_eq_true a4, a2, a1, by rw [h1]; exact (Qfx _ _).symm, Nat.eq_of_beq_eq_true a5, a3, rfl, a6, fun i hi => Qny h2 i (by omega)⟩
theorem Q8c : idCtr.ok Tryz.prog 232 := Ctr.ok_of (fun _ _ _ _ => rfl) fun args h base e he δ w vals ha hr hp hf => by
 show Qj7 Tryz.prog δ h w e _
 simp only [idCtr] at he
 split at he <;> try (cases he; done)
 rename_i x
 cases he
 match vals, ha with
 | [r], ha =>
   simp only [Qa7, and_true] at ha
   rw [run_callFunc_extern Tryz.func232 (by kernel_rfl) (by kernel_rfl) (by kernel_rfl) (e := Extern.AbiNoEscape.same) (by kernel_rfl)]
   exact ⟨x, [], δ, ⟨rfl, rfl⟩, ha, Upd.same hr⟩
 | [], ha => simp only [Qa7] at ha
 | _ :: _ :: _, ha => simp [Qa7] at ha
theorem Qtm : ∀ f g, Zfo f = some g → g.ok Tryz.prog f := Qab Qc5 Q8c
theorem Qy3 : Qex Tryz.prog 160 Q1m := Qd7 hm Qtm Tryz.func160 (Λ := fun _ _ => Qax) fun args bs e hs hp => by
 unfold Q1m at hs
 split at hs <;> try (cases hs; done)
 split at hs <;> try (cases hs; done)
 · rename_i hb
   cases hs
   refine ⟨_, Qk9 hb, ?_⟩
   rw [Q58]
   simp
 · rename_i l c p hb
   cases hs
   refine ⟨_, (Qj5 hb (hp _ rfl)).1, ?_⟩
   show Qcm _ _ _ _ _ _ _ (fun y h' => Qj9 [usB l.length c, bL l c] (.det none (.tup []) [(0, usB l.length c), (1, bL l c)]) y h')
   rw [Q57]
   simp
theorem Qtl : ∀ f g, Zes f = some g → g.ok Tryz.prog f := Qab Qtm (Qhu Tryz.func160 (by kernel_rfl) (by kernel_rfl) Qy3)
theorem Qya : Qex Tryz.prog 83 Q03 := Qd7 hm Qtl Tryz.func83 (Λ := fun _ _ => Qax) fun args bs e hs hp => by
 unfold Q03 at hs
 split at hs <;> try (cases hs; done)
 rename_i x
 split at hs <;> try (cases hs; done)
 · rename_i hb
   cases hs
   refine ⟨_, Qk9 hb, ?_⟩
   rw [Q5m]
   refine ⟨by omega, fun c => ⟨c, rfl, ⟨rfl, Nat.le_refl _, rfl, rfl⟩, rfl, Nat.le_refl _, fun i hi => ?_⟩⟩
   have : i = 0 := by simp at hi; omega
   subst this; rfl
 · rename_i l c p hb
   cases hs
   obtain ⟨h1, h2⟩ := Qj5 hb hp
   refine ⟨_, h1, ?_⟩
   show Qcm _ _ _ _ _ _ _ (fun y h' => Qj9 [usB l.length c, bL l c] (.nd True Nat 0 (fun _ => .v .nilIface) fun c' => [(0, Q61 (l.length + 1) (l.length + 1 + c')), (1, Qc8 (bL l c)), (1000, bL (l ++ [x]) (l.length + 1 + c'))]) y h')
   rw [Q5l, Qih]
   refine ⟨Qpe _ _ h2, ⟨by omega, by omega, fun _ _ => trivial⟩, fun c' => ⟨c', rfl, ⟨rfl, Nat.le_refl _, rfl, rfl⟩, by simp, Nat.le_refl _, fun i hi => ?_⟩⟩
   have := Qvy l [x] i hi
   rw [← this]
   have hx : ∀ k, k = 0 → ([x] : List Int).getD (0 + k) 0 = x := fun k hk => by subst hk; rfl
   by_cases hl : i < l.length
   · rw [show Nat.blt i l.length = true from Nat.ble_eq_true_of_le hl]
     rfl
   · rw [hx (i - l.length) (by simp at hi; omega)]
theorem Qx8 : Qex Tryz.prog 84 Q00 := Qd7 hm Qtl Tryz.func84 (Λ := fun _ _ => Qax) fun args bs e hs hp => by
 unfold Q00 at hs
 split at hs <;> try (cases hs; done)
 · rename_i m c0 B S
   split at hs <;> try (cases hs; done)
   rename_i hb
   cases hS : Ze5 S with
   | false => rw [hS] at hs; cases hs
   | true =>
     rw [hS] at hs
     cases hs
     obtain ⟨p1, p2, p3, p4⟩ := hp
     refine ⟨[fB, roB S.elem (Qao m S.row)], ⟨(Qk9 hb).1, Qvs hS p1 p4, trivial⟩, ?_⟩
     have e1 := Qfx m S.row
     have key := Q5k S.elem (Qao m S.row) c0
     rw [e1] at key
     refine Eq.mpr key ?_
     refine ⟨by omega, fun c => ⟨c, ⟨rfl, rfl⟩, ⟨rfl, Nat.le_refl _, rfl, rfl⟩, rfl, Nat.le_refl _, fun i hi => ?_⟩⟩
     rw [Nat.zero_add]
 · rename_i m c0 B D S
   split at hs <;> try (cases hs; done)
   rename_i l c p hb
   cases hS : Ze5 S with
   | false => rw [hS] at hs; cases hs
   | true =>
     rw [hS] at hs
     cases hs
     obtain ⟨p0, p1, p3, p4⟩ := hp
     obtain ⟨h1, h2⟩ := Qj5 hb p0
     refine ⟨[usB l.length c, bL l c, roB S.elem (Qao m S.row)], ⟨h1.1, h1.2.1, Qvs hS p1 p4, trivial⟩, ?_⟩
     have e1 := Qfx m S.row
     have key := Q5j S.elem c l (Qao m S.row) c0
     rw [Qih, e1] at key
     refine Eq.mpr key ?_
     refine ⟨Qpe _ _ h2, ⟨by omega, by omega, fun _ _ => trivial⟩, fun c' => ⟨c', ⟨rfl, rfl⟩, ⟨rfl, Nat.le_refl _, rfl, rfl⟩, by simp [e1], Nat.le_refl _, fun i hi => ?_⟩⟩
     rw [Qvy l (Qao m S.row) i hi]
theorem Qu1 : Qex Tryz.prog 86 Qt3 := Qd7 hm Qtm Tryz.func86 (Λ := fun _ _ => Qax) fun args bs e hs hp => by
 unfold Qt3 at hs
 split at hs <;> try (cases hs; done)
 split at hs <;> try (cases hs; done)
 rename_i l c p hb
 cases hs
 obtain ⟨p0, p1, p2⟩ := hp _ rfl
 obtain ⟨h1, h2⟩ := Qj5 hb p0
 refine ⟨_, h1, ?_⟩
 show Qcm _ _ _ _ _ _ _ (fun y h' => Qj9 [usB l.length c, bL l c] (.det none (.v (.string (strOfNums l))) [(0, usB l.length c), (1, Qc8 (bL l c))]) y h')
 rw [Q5o, Qpz, Int.toNat_natCast, Qih]
 exact ⟨⟨p1, p2⟩, ⟨by omega, Int.le_refl _, by omega, fun _ _ => trivial⟩, rfl, ⟨rfl, Nat.le_refl _, rfl, rfl⟩, trivial⟩
theorem Zaq : ∀ f g, ΓT2 f = some g → g.ok Tryz.prog f := Qab (Qab (Qab Qtl (Qhu Tryz.func83 (by kernel_rfl) (by kernel_rfl) Qya)) (Qhu Tryz.func84 (by kernel_rfl) (by kernel_rfl) Qx8)) (Qhu Tryz.func86 (by kernel_rfl) (by kernel_rfl) Qu1)
def Q7f : Nat → Nat → List Int
 | 0, _ => []
 | k + 1, n => if n < 10 then [48 + (n : Int)] else Q7f k (n / 10) ++ [48 + ((n % 10 : Nat) : Int)]
def Qbr (n : Nat) : List Int := Q7f 20 n
def Qg6 (n k i : Nat) : Int := if 20 - k ≤ i ∧ i < 20 then 48 + ((n / 10 ^ (19 - i) % 10 : Nat) : Int) else 0
def arB (f : Nat → Int) : Blk := { elem := 0, size := 1, rw := true, lock := false, lit := false, flat := true, n := 20, row := fun i => [.v (.int .u8 (f i))] }
noncomputable def Zaf (n : Nat) : Nat → Option LoopSpec := Qb9 Qax Tryz.f85 0 Nat (fun k => k < 20 ∧ (k = 0 ∨ n / 10 ^ k ≠ 0)) (fun k => 20 - k) [(0, fun k => .v (.int .u64 ((n / 10 ^ k : Nat) : Int))), (4, fun k => .v (.int .i64 (20 - k))), (6, fun k => .v (.int .i64 k))] [(72, fun k => arB (Qg6 n k))]
def Qqa (args : List SV) (bs : List Blk) : Option Eff := match args, bs with
 | [.v (.int .u64 n)], [] => some (.det (some (U64 n)) (.sl 1000 1 0 (Qbr n.toNat).length (Qbr n.toNat).length) [(1000, bL (Qbr n.toNat) (Qbr n.toNat).length)])
 | _, _ => none
theorem Qz9 (n : Nat) : (Qcm Tryz.prog Qbi (Zaf n) Tryz.f85 [.v (.int .u64 (n : Int))] (Qa1 []) 64 (fun y h' => Qj9 [] (.det none (.sl 1000 1 0 (Qbr n).length (Qbr n).length) [(1000,bL (Qbr n) (Qbr n).length)]) y h')) =
((∃ x : Nat,((((x : Nat) < 20)∧(x = 0 ∨ n / 10 ^ x ≠ 0))∧((((SV.v (.int .u64 ((↑n : Int)))) = (SV.v (.int .u64 ((↑(n / 10 ^ x) : Int)))))∧(((yI 20) = (yI (20 - (↑x : Int))))∧((yI 0) = (yI ((↑x : Int))))))∧(((20 : Nat) = 20)∧(((20 : Nat) ≤ 20)∧(∀ i : Nat,(((i : Nat) < 20)→([(yU 0)] = [(yU (Qg6 n x i))]))))))))∧(∀ x : Nat,((((x : Nat) < 20)∧(x = 0 ∨ n / 10 ^ x ≠ 0))→(sel (decide ((↑x : Int) < 20)) ((((0 : Int) ≤ (IntKind.wrap IntKind.i64 (20 - (↑x : Int) - 1)))∧(((IntKind.wrap IntKind.i64 (20 - (↑x : Int) - 1)) : Int) < 20))∧(sel (IntKind.wrap IntKind.u64 (Int.tdiv (↑(n / 10 ^ x) : Int) 10) == 0) ((((0 : Int) ≤ (IntKind.wrap IntKind.i64 (20 - IntKind.wrap IntKind.i64 (20 - (↑x : Int) - 1))))∧((((IntKind.wrap IntKind.i64 (20 - IntKind.wrap IntKind.i64 (20 - (↑x : Int) - 1))) : Int) ≤ (IntKind.wrap IntKind.i64 (20 - IntKind.wrap IntKind.i64 (20 - (↑x : Int) - 1))))∧(((1 * IntKind.wrap IntKind.i64 (20 - IntKind.wrap IntKind.i64 (20 - (↑x : Int) - 1))) : Int) ≤ 140737488355328)))∧((((0 : Int) ≤ (Option.getD (some (IntKind.wrap IntKind.i64 (20 - (↑x : Int) - 1))) 0))∧((((Option.getD (some (IntKind.wrap IntKind.i64 (20 - (↑x : Int) - 1))) 0) : Int) ≤ 20)∧((20 : Int) ≤ 20)))∧((∀ y : Nat,(((y : Nat) < (20 - Int.toNat (Option.getD (some (IntKind.wrap IntKind.i64 (20 - (↑x : Int) - 1))) 0)))→True))∧(((SV.sl 256 1 0 (Int.toNat (IntKind.wrap IntKind.i64 (20 - IntKind.wrap IntKind.i64 (20 - (↑x : Int) - 1)))) (Int.toNat (IntKind.wrap IntKind.i64 (20 - IntKind.wrap IntKind.i64 (20 - (↑x : Int) - 1))))) = (SV.sl 256 1 0 (List.length (Qbr n)) (List.length (Qbr n))))∧((((Int.toNat (IntKind.wrap IntKind.i64 (20 - IntKind.wrap IntKind.i64 (20 - (↑x : Int) - 1)))) : Nat) = (List.length (Qbr n)))∧((((List.length (Qbr n)) : Nat) ≤ (Int.toNat (IntKind.wrap IntKind.i64 (20 - IntKind.wrap IntKind.i64 (20 - (↑x : Int) - 1)))))∧(∀ i : Nat,(((i : Nat) < (List.length (Qbr n)))→([(yU (bop (Nat.ble 0 i&&Nat.blt i (0 + min (Int.toNat (IntKind.wrap IntKind.i64 (20 - IntKind.wrap IntKind.i64 (20 - (↑x : Int) - 1)))) (20 - Int.toNat (Option.getD (some (IntKind.wrap IntKind.i64 (20 - (↑x : Int) - 1))) 0)))) (bop (Nat.beq (Int.toNat (Option.getD (some (IntKind.wrap IntKind.i64 (20 - (↑x : Int) - 1))) 0) + (i - 0)) (Int.toNat (IntKind.wrap IntKind.i64 (20 - (↑x : Int) - 1)))) (IntKind.wrap IntKind.u8 (IntKind.wrap IntKind.u64 (48 + Int.tmod (↑(n / 10 ^ x) : Int) 10))) (Qg6 n x (Int.toNat (Option.getD (some (IntKind.wrap IntKind.i64 (20 - (↑x : Int) - 1))) 0) + (i - 0)))) 0))] = [(yU (List.getD (Qbr n) i 0))]))))))))) (∃ x' : Nat,(((((x' : Nat) < 20)∧(x' = 0 ∨ n / 10 ^ x' ≠ 0))∧((((SV.v (.int .u64 (IntKind.wrap IntKind.u64 (Int.tdiv (↑(n / 10 ^ x) : Int) 10)))) = (SV.v (.int .u64 ((↑(n / 10 ^ x') : Int)))))∧(((yI (IntKind.wrap IntKind.i64 (20 - (↑x : Int) - 1))) = (yI (20 - (↑x' : Int))))∧((yI (IntKind.wrap IntKind.i64 ((↑x : Int) + 1))) = (yI ((↑x' : Int))))))∧(((20 : Nat) = 20)∧(((20 : Nat) ≤ 20)∧(∀ i : Nat,(((i : Nat) < 20)→([(yU (bop (Nat.beq i (Int.toNat (IntKind.wrap IntKind.i64 (20 - (↑x : Int) - 1)))) (IntKind.wrap IntKind.u8 (IntKind.wrap IntKind.u64 (48 + Int.tmod (↑(n / 10 ^ x) : Int) 10))) (Qg6 n x i)))] = [(yU (Qg6 n x' i))])))))))∧(((20 - x') : Nat) < (20 - x)))))) ((((0 : Int) ≤ (IntKind.wrap IntKind.i64 (20 - (20 - (↑x : Int)))))∧((((IntKind.wrap IntKind.i64 (20 - (20 - (↑x : Int)))) : Int) ≤ (IntKind.wrap IntKind.i64 (20 - (20 - (↑x : Int)))))∧(((1 * IntKind.wrap IntKind.i64 (20 - (20 - (↑x : Int)))) : Int) ≤ 140737488355328)))∧((((0 : Int) ≤ (Option.getD (some (20 - (↑x : Int))) 0))∧((((Option.getD (some (20 - (↑x : Int))) 0) : Int) ≤ 20)∧((20 : Int) ≤ 20)))∧((∀ y : Nat,(((y : Nat) < (20 - Int.toNat (Option.getD (some (20 - (↑x : Int))) 0)))→True))∧(((SV.sl 256 1 0 (Int.toNat (IntKind.wrap IntKind.i64 (20 - (20 - (↑x : Int))))) (Int.toNat (IntKind.wrap IntKind.i64 (20 - (20 - (↑x : Int)))))) = (SV.sl 256 1 0 (List.length (Qbr n)) (List.length (Qbr n))))∧((((Int.toNat (IntKind.wrap IntKind.i64 (20 - (20 - (↑x : Int))))) : Nat) = (List.length (Qbr n)))∧((((List.length (Qbr n)) : Nat) ≤ (Int.toNat (IntKind.wrap IntKind.i64 (20 - (20 - (↑x : Int))))))∧(∀ i : Nat,(((i : Nat) < (List.length (Qbr n)))→([(yU (bop (Nat.ble 0 i&&Nat.blt i (0 + min (Int.toNat (IntKind.wrap IntKind.i64 (20 - (20 - (↑x : Int))))) (20 - Int.toNat (Option.getD (some (20 - (↑x : Int))) 0)))) (Qg6 n x (Int.toNat (Option.getD (some (20 - (↑x : Int))) 0) + (i - 0))) 0))] = [(yU (List.getD (Qbr n) i 0))]))))))))))))) := by kernel_rfl
theorem Qsq : ∀ (f k n : Nat), k < f → (k = 0 ∨ n / 10 ^ k ≠ 0) → n / 10 ^ (k + 1) = 0 → (Q7f f n).length = k + 1 ∧ ∀ i, i ≤ k → (Q7f f n).getD i 0 = 48 + ((n / 10 ^ (k - i) % 10 : Nat) : Int)
 | 0, k, n, h, _, _ => by omega
 | f + 1, k, n, hf, h1, h2 => by
   unfold Q7f
   by_cases hn : n < 10
   · have hk : k = 0 := by
       rcases h1 with h1 | h1
       · exact h1
       · rcases Nat.eq_zero_or_pos k with h0 | h0
         · exact h0
         · exfalso
           apply h1
           have : 10 ^ 1 ≤ 10 ^ k := Nat.pow_le_pow_right (by decide) h0
           exact Nat.div_eq_of_lt (by omega)
     subst hk
     rw [if_pos hn]
     refine ⟨rfl, fun i hi => ?_⟩
     have : i = 0 := by omega
     subst this
     simp
     omega
   · rw [if_neg hn]
     have hk : k ≠ 0 := fun h0 => by
       subst h0
       rw [Nat.zero_add, Nat.pow_one] at h2
       omega
     obtain ⟨k', rfl⟩ : ∃ k', k = k' + 1 := ⟨k - 1, by omega⟩
     have e : ∀ j, n / 10 / 10 ^ j = n / 10 ^ (j + 1) := fun j => by rw [Nat.div_div_eq_div_mul, Nat.pow_succ, Nat.mul_comm]
     obtain ⟨g1, g2⟩ := Qsq f k' (n / 10) (by omega) (by rw [e]; rcases h1 with h1 | h1 <;> first | (exact absurd h1 hk) | exact .inr h1) (by rw [e]; exact h2)
     refine ⟨by simp [g1], fun i hi => ?_⟩
     by_cases hik : i ≤ k'
     · have := g2 i hik
       rw [e, show k' - i + 1 = k' + 1 - i by omega] at this
       rw [← this]
       simp only [List.getD]
       rw [List.getElem?_append_left (by omega)]
     · have : i = k' + 1 := by omega
       subst this
       simp only [List.getD]
       rw [List.getElem?_append_right (by omega), g1]
       simp
theorem Q28 {k n : Nat} (hk : k < 20) (h1 : k = 0 ∨ n / 10 ^ k ≠ 0) (h2 : n / 10 ^ (k + 1) = 0) : (Qbr n).length = k + 1 ∧ ∀ i, i ≤ k → (Qbr n).getD i 0 = 48 + ((n / 10 ^ (k - i) % 10 : Nat) : Int) := Qsq 20 k n hk h1 h2
theorem Zhe (a : Nat) : Int.tdiv (a : Int) 10 = ((a / 10 : Nat) : Int) := by
 rw [Int.tdiv_eq_ediv_of_nonneg (by omega)]; omega
theorem Zhd (a : Nat) : Int.tmod (a : Int) 10 = ((a % 10 : Nat) : Int) := by
 rw [Int.tmod_eq_emod_of_nonneg (by omega)]; omega
theorem Qs7 : Qex Tryz.prog 85 Qqa := Qd7 hm Qas Tryz.func85 (Λ := fun args _ => match args with | [.v (.int .u64 n)] => Zaf n.toNat | _ => Qax) fun args bs e hs hp => by
 unfold Qqa at hs
 split at hs <;> try (cases hs; done)
 rename_i n0
 cases hs
 obtain ⟨h0, h1⟩ := hp _ rfl
 obtain ⟨n, rfl⟩ := Int.eq_ofNat_of_zero_le h0
 rw [Int.toNat_natCast]
 refine ⟨[], trivial, ?_⟩
 have hn : n < 18446744073709551616 := by omega
 show Qcm _ _ (Zaf (Int.toNat (n : Int))) _ _ _ _ _
 rw [Int.toNat_natCast]
 refine Eq.mpr (Qz9 n) ?_
 refine ⟨⟨0, ⟨by omega, .inl rfl⟩, ⟨by simp, by simp, by simp⟩, rfl, Nat.le_refl _, fun i hi => ?_⟩, fun x hx => ?_⟩
 · unfold Qg6; rw [if_neg (by omega)]
 obtain ⟨hx1, hx2⟩ := hx
 have w1 : IntKind.i64.wrap (20 - (x : Int) - 1) = 19 - x := by rw [Qag ⟨by omega, by omega⟩]; omega
 have w2 : IntKind.i64.wrap (20 - (19 - (x : Int))) = x + 1 := by rw [Qag ⟨by omega, by omega⟩]; omega
 have hle : n / 10 ^ x ≤ n := Nat.div_le_self _ _
 have e1 : n / 10 ^ (x + 1) = n / 10 ^ x / 10 := by rw [Nat.div_div_eq_div_mul, Nat.pow_succ]
 have w3 : IntKind.u64.wrap (Int.tdiv ((n / 10 ^ x : Nat) : Int) 10) = ((n / 10 ^ (x + 1) : Nat) : Int) := by rw [Zhe, Qbt, e1]; generalize n / 10 ^ x = a at hle; omega
 have w4 : IntKind.u8.wrap (IntKind.u64.wrap (48 + Int.tmod ((n / 10 ^ x : Nat) : Int) 10)) = 48 + ((n / 10 ^ x % 10 : Nat) : Int) := by rw [Zhd, Qbt, Qtr]; generalize n / 10 ^ x = a; omega
 have w5 : IntKind.i64.wrap ((x : Int) + 1) = x + 1 := Qag ⟨by omega, by omega⟩
 have t1 : Int.toNat (19 - (x : Int)) = 19 - x := by omega
 have t2 : Int.toNat ((x : Int) + 1) = x + 1 := by omega
 simp only [w1, w2, w3, w4, w5, Option.getD_some, t1, t2]
 refine Qaf (fun _ => ?_) fun h => absurd (of_decide_eq_false h) (by omega)
 -- what is laid
 have hrow : ∀ i, i < 20 → bop (Nat.beq i (19 - x)) (48 + ((n / 10 ^ x % 10 : Nat) : Int)) (Qg6 n x i) = Qg6 n (x + 1) i := fun i hi => by
   by_cases he : i = 19 - x
   · subst he
     rw [Nat.beq_refl]
     rw [show ∀ a b : Int, bop true a b = a from fun _ _ => rfl]
     unfold Qg6
     rw [if_pos ⟨by omega, by omega⟩, show 19 - (19 - x) = x by omega]
   · rw [Qb0 he]
     rw [show ∀ a b : Int, bop false a b = b from fun _ _ => rfl]
     unfold Qg6
     by_cases hc : 20 - x ≤ i
     · rw [if_pos ⟨by omega, hi⟩, if_pos ⟨by omega, hi⟩]
     · rw [if_neg (by omega), if_neg (by omega)]
 refine ⟨⟨by omega, by omega⟩, Qaf (fun hz => ?_) fun hz => ?_⟩
 · have hz : n / 10 ^ (x + 1) = 0 := by have h := eq_of_beq hz; generalize n / 10 ^ (x + 1) = a at h; omega
   obtain ⟨l1, l2⟩ := Q28 hx1 hx2 hz
   refine ⟨⟨by omega, by omega, by omega⟩, ⟨by omega, by omega, by omega⟩, fun _ _ => trivial, by rw [l1], l1.symm, by omega, fun i hi => ?_⟩
   rw [l1] at hi
   have hb : (Nat.ble 0 i && Nat.blt i (0 + min (x + 1) (20 - (19 - x)))) = true := by
     rw [Nat.ble_eq_true_of_le (Nat.zero_le i), Bool.true_and]
     exact Nat.ble_eq_true_of_le (by omega)
   rw [hb]
   show [SV.v (.int .u8 (bop (Nat.beq (19 - x + (i - 0)) (19 - x)) _ _))] = _
   rw [hrow (19 - x + (i - 0)) (by omega), l2 i (by omega)]
   unfold Qg6
   rw [if_pos ⟨by omega, by omega⟩, show 19 - (19 - x + (i - 0)) = x - i by omega]
 · have hz : n / 10 ^ (x + 1) ≠ 0 := fun h => by rw [h] at hz; exact absurd hz (by decide)
   have hx3 : x + 1 < 20 := by
     rcases Nat.lt_or_ge (x + 1) 20 with h | h
     · exact h
     · exfalso
       apply hz
       have : 10 ^ 20 ≤ 10 ^ (x + 1) := Nat.pow_le_pow_right (by decide) h
       exact Nat.div_eq_of_lt (Nat.lt_of_lt_of_le (by omega) this)
   refine ⟨x + 1, ⟨⟨hx3, .inr hz⟩, ⟨rfl, Qbj (by omega), Qbj (by omega)⟩, by trivial, Nat.le_refl _, fun i hi => ?_⟩, by omega⟩
   rw [hrow i hi]
def Qi9 : Nat → Nat → List Int
 | 0, _ => []
 | k + 1, r => if r = 0 then [] else (48 + ((r * 10 / 4294967296 : Nat) : Int)) :: Qi9 k (r * 10 % 4294967296)
def Zcc (v : Int) : List Int := if v < 0 then [45] else []
def Q66 (v : Int) : List Int := Zcc v ++ Qbr (Int.toNat (Qac v / 4294967296))
def Q6u (v : Int) : Nat := Int.toNat (Qac v % 4294967296)
def Qv6 (v : Int) : List Int := if Q6u v = 0 then [] else 46 :: Qi9 32 (Q6u v)
def Qof (f : Bool) : List Int := if f then [33] else []
def Q0g (v : Int) (f : Bool) : List Int := Q66 v ++ Qv6 v ++ Qof f
def Zcg : List SV → Option (Option Prop × SV)
 | [.agg [.v (.int .i64 v), .v (.bool f)]] => some (some (I64 v), .v (.string (strOfNums (Q0g (Qaa v) (Qav v f)))))
 | _ => none
structure TX where
 k : Nat
 r : Nat
 l : List Int
 c : Nat
def invT (T : List Int) (x : TX) : Prop := x.k ≤ 32 ∧ x.r < 4294967296 ∧ x.r % 2 ^ x.k = 0 ∧ x.l.length ≤ x.c ∧ x.l.length ≤ 40 + x.k ∧ x.l ++ Qi9 (32 - x.k) x.r = T
noncomputable def Q8t (T : List Int) : Nat → Option LoopSpec := Qq8 Qax Tryz.f21 0 TX (invT T) (fun x => 32 - x.k) [(5, fun x => .v (.int .u64 x.r))] [(104, fun x => buB false (.vp 104 0) (.sl 40 1 0 x.l.length x.c))] [(40, fun x => bL x.l x.c, Zih 104 1)]
def ΓU : Qb7 := Qah ΓT2 85 (Qgv false Qqa)
@[reducible] noncomputable def Qb4 (v : Int) := (Qao (1 + List.length (Qbr (Int.toNat (Qac (Qaa v) / 4294967296)))) fun i => [SV.v (.int .u8 (List.getD ((Qao 1 fun i => [SV.v (.int .u8 (List.getD [45] i 0))])++Qao (List.length (Qbr (Int.toNat (Qac (Qaa v) / 4294967296)))) fun y => [SV.v (.int .u8 (List.getD (Qbr (Int.toNat (Qac (Qaa v) / 4294967296))) (0 + y) 0))]) i 0))])
@[reducible] noncomputable def Qb3 (v : Int) := (Qao (List.length (Qbr (Int.toNat (Qac (Qaa v) / 4294967296)))) fun i => [SV.v (.int .u8 (List.getD (Qao (List.length (Qbr (Int.toNat (Qac (Qaa v) / 4294967296)))) fun y => [SV.v (.int .u8 (List.getD (Qbr (Int.toNat (Qac (Qaa v) / 4294967296))) (0 + y) 0))]) i 0))])
@[reducible] noncomputable def Qgj (v : Int) := ((Qao 1 fun i => [SV.v (.int .u8 (List.getD [45] i 0))])++Qao (List.length (Qbr (Int.toNat (Qac (Qaa v) / 4294967296)))) fun y => [SV.v (.int .u8 (List.getD (Qbr (Int.toNat (Qac (Qaa v) / 4294967296))) (0 + y) 0))])
@[reducible] noncomputable def Qgi (v : Int) := (Qao (List.length (Qbr (Int.toNat (Qac (Qaa v) / 4294967296)))) fun y => [SV.v (.int .u8 (List.getD (Qbr (Int.toNat (Qac (Qaa v) / 4294967296))) (0 + y) 0))])
@[reducible] noncomputable def Qdg (v : Int) := (List.length (Qbr (Int.toNat (Qac (Qaa v) / 4294967296))))
theorem Zfw (v : Int) (f : Bool) (T : List Int) (R : SV→Prop) : (Qau Tryz.prog ΓU (Q8t T) Tryz.f21 [Qcr v f] R) =
(sel (decide (Qaa v < 0)) (True∧(∀ c : Nat,((I64 (Qaa v))∧((U64 (Qac (Qaa v) / 4294967296))∧(((Qcj 1 (1 + c) {elem:=5,size:=1,rw:=true,lock:=false,lit:=false,flat:=true,n:=1,row:=fun i => [yU (List.getD [45] i 0)],ext:=1 + c})∧((((Qdg v) : Nat) = (Qdg v))∧((((Qdg v) : Nat) < 70368744177664)∧(∀ i : Nat,(((i : Nat) < (Qdg v))→True)))))∧(∀ c_1 : Nat,(sel (bits BinOp.and IntKind.u64 (Qac (Qaa v)) 4294967295 != 0) ((Qcj (1 + List.length (Qbr (Int.toNat (Qac (Qaa v) / 4294967296)))) (1 + List.length (Qbr (Int.toNat (Qac (Qaa v) / 4294967296))) + c_1) {elem:=5,size:=1,rw:=true,lock:=false,lit:=false,flat:=true,n:=List.length (Qgj v),row:=fun i => [yU (List.getD (Qgj v) i 0)],ext:=1 + List.length (Qbr (Int.toNat (Qac (Qaa v) / 4294967296))) + c_1})∧(∀ c_2 : Nat,((∃ x : TX,(((((TX.k x) : Nat) ≤ 32)∧((((TX.r x) : Nat) < 4294967296)∧((((TX.r x % 2 ^ TX.k x) : Nat) = 0)∧((((List.length (TX.l x)) : Nat) ≤ (TX.c x))∧((((List.length (TX.l x)) : Nat) ≤ (40 + TX.k x))∧(TX.l x++Qi9 (32 - TX.k x) (TX.r x) = T))))))∧(((SV.v (.int .u64 (bits BinOp.and IntKind.u64 (Qac (Qaa v)) 4294967295))) = (SV.v (.int .u64 ((↑(TX.r x) : Int)))))∧((((1 : Nat) = 1)∧(((1 : Nat) ≤ 1)∧(((SV.vp 104 0) = (SV.vp 104 0))∧((SV.sl 264 1 0 (List.length (Qb4 v) + 1) (List.length (Qb4 v) + 1 + c_2)) = (SV.sl 264 1 0 (List.length (TX.l x)) (TX.c x))))))∧((((List.length ((Qb4 v)++[46])) : Nat) = (List.length (TX.l x)))∧((((TX.c x) : Nat) ≤ (List.length (Qb4 v) + 1 + c_2))∧(∀ i : Nat,(((i : Nat) < (List.length (TX.l x)))→([(yU (List.getD ((Qb4 v)++[46]) i 0))] = [(yU (List.getD (TX.l x) i 0))])))))))))∧(∀ x : TX,(((((TX.k x) : Nat) ≤ 32)∧((((TX.r x) : Nat) < 4294967296)∧((((TX.r x % 2 ^ TX.k x) : Nat) = 0)∧((((List.length (TX.l x)) : Nat) ≤ (TX.c x))∧((((List.length (TX.l x)) : Nat) ≤ (40 + TX.k x))∧(TX.l x++Qi9 (32 - TX.k x) (TX.r x) = T))))))→(sel ((↑(TX.r x) : Int) != 0) ((Qcj (List.length (TX.l x)) (TX.c x) {elem:=5,size:=1,rw:=true,lock:=false,lit:=false,flat:=true,n:=List.length (TX.l x),row:=fun i => [yU (List.getD (TX.l x) i 0)],ext:=TX.c x})∧(∀ c_3 : Nat,(∃ x' : TX,((((((TX.k x') : Nat) ≤ 32)∧((((TX.r x') : Nat) < 4294967296)∧((((TX.r x' % 2 ^ TX.k x') : Nat) = 0)∧((((List.length (TX.l x')) : Nat) ≤ (TX.c x'))∧((((List.length (TX.l x')) : Nat) ≤ (40 + TX.k x'))∧(TX.l x'++Qi9 (32 - TX.k x') (TX.r x') = T))))))∧(((SV.v (.int .u64 (bits BinOp.and IntKind.u64 (IntKind.wrap IntKind.u64 ((↑(TX.r x) : Int) * 10)) 4294967295))) = (SV.v (.int .u64 ((↑(TX.r x') : Int)))))∧((((1 : Nat) = 1)∧(((1 : Nat) ≤ 1)∧(((SV.vp 104 0) = (SV.vp 104 0))∧((SV.sl 344 1 0 (List.length (Qao (List.length (TX.l x)) fun i => [yU (List.getD (TX.l x) i 0)]) + 1) (List.length (Qao (List.length (TX.l x)) fun i => [yU (List.getD (TX.l x) i 0)]) + 1 + c_3)) = (SV.sl 344 1 0 (List.length (TX.l x')) (TX.c x'))))))∧((((List.length ((Qao (List.length (TX.l x)) fun i => [yU (List.getD (TX.l x) i 0)])++[IntKind.wrap IntKind.u8 (IntKind.wrap IntKind.u64 (48 + IntKind.wrap IntKind.u64 ((↑(TX.r x) : Int) * 10) / 4294967296))])) : Nat) = (List.length (TX.l x')))∧((((TX.c x') : Nat) ≤ (List.length (Qao (List.length (TX.l x)) fun i => [yU (List.getD (TX.l x) i 0)]) + 1 + c_3))∧(∀ i : Nat,(((i : Nat) < (List.length (TX.l x')))→([(yU (List.getD ((Qao (List.length (TX.l x)) fun i => [yU (List.getD (TX.l x) i 0)])++[IntKind.wrap IntKind.u8 (IntKind.wrap IntKind.u64 (48 + IntKind.wrap IntKind.u64 ((↑(TX.r x) : Int) * 10) / 4294967296))]) i 0))] = [(yU (List.getD (TX.l x') i 0))]))))))))∧(((32 - TX.k x') : Nat) < (32 - TX.k x)))))) (sel (Qav v f) ((Qcj (List.length (TX.l x)) (TX.c x) {elem:=5,size:=1,rw:=true,lock:=false,lit:=false,flat:=true,n:=List.length (TX.l x),row:=fun i => [yU (List.getD (TX.l x) i 0)],ext:=TX.c x})∧(∀ c_3 : Nat,(((Qcj (List.length (Qao (List.length (TX.l x)) fun i => [yU (List.getD (TX.l x) i 0)]) + 1) (List.length (Qao (List.length (TX.l x)) fun i => [yU (List.getD (TX.l x) i 0)]) + 1 + c_3) {elem:=5,size:=1,rw:=true,lock:=false,lit:=false,flat:=true,n:=List.length ((Qao (List.length (TX.l x)) fun i => [yU (List.getD (TX.l x) i 0)])++[33]),row:=fun i => [yU (List.getD ((Qao (List.length (TX.l x)) fun i => [yU (List.getD (TX.l x) i 0)])++[33]) i 0)],ext:=List.length (Qao (List.length (TX.l x)) fun i => [yU (List.getD (TX.l x) i 0)]) + 1 + c_3})∧(((0 : Nat) < (List.length (Qao (List.length (Qao (List.length (TX.l x)) fun i => [yU (List.getD (TX.l x) i 0)]) + 1) fun i => [yU (List.getD ((Qao (List.length (TX.l x)) fun i => [yU (List.getD (TX.l x) i 0)])++[33]) i 0)])))∧(((List.length (Qao (List.length (Qao (List.length (TX.l x)) fun i => [yU (List.getD (TX.l x) i 0)]) + 1) fun i => [yU (List.getD ((Qao (List.length (TX.l x)) fun i => [yU (List.getD (TX.l x) i 0)])++[33]) i 0)])) : Nat) ≤ (List.length (Qao (List.length (TX.l x)) fun i => [yU (List.getD (TX.l x) i 0)]) + 1 + c_3))))∧(R (SV.v (.string (strOfNums (Qao (List.length (Qao (List.length (TX.l x)) fun i => [yU (List.getD (TX.l x) i 0)]) + 1) fun i => [yU (List.getD ((Qao (List.length (TX.l x)) fun i => [yU (List.getD (TX.l x) i 0)])++[33]) i 0)])))))))) (((Qcj (List.length (TX.l x)) (TX.c x) {elem:=5,size:=1,rw:=true,lock:=false,lit:=false,flat:=true,n:=List.length (TX.l x),row:=fun i => [yU (List.getD (TX.l x) i 0)],ext:=TX.c x})∧(((0 : Nat) < (List.length (Qao (List.length (TX.l x)) fun i => [yU (List.getD (TX.l x) i 0)])))∧(((List.length (Qao (List.length (TX.l x)) fun i => [yU (List.getD (TX.l x) i 0)])) : Nat) ≤ (TX.c x))))∧(R (SV.v (.string (strOfNums (Qao (List.length (TX.l x)) fun i => [yU (List.getD (TX.l x) i 0)]))))))))))))) (sel (Qav v f) ((Qcj (1 + List.length (Qbr (Int.toNat (Qac (Qaa v) / 4294967296)))) (1 + List.length (Qbr (Int.toNat (Qac (Qaa v) / 4294967296))) + c_1) {elem:=5,size:=1,rw:=true,lock:=false,lit:=false,flat:=true,n:=List.length (Qgj v),row:=fun i => [yU (List.getD (Qgj v) i 0)],ext:=1 + List.length (Qbr (Int.toNat (Qac (Qaa v) / 4294967296))) + c_1})∧(∀ c_2 : Nat,(((Qcj (List.length (Qb4 v) + 1) (List.length (Qb4 v) + 1 + c_2) {elem:=5,size:=1,rw:=true,lock:=false,lit:=false,flat:=true,n:=List.length ((Qb4 v)++[33]),row:=fun i => [yU (List.getD ((Qb4 v)++[33]) i 0)],ext:=List.length (Qb4 v) + 1 + c_2})∧(((0 : Nat) < (List.length (Qao (List.length (Qb4 v) + 1) fun i => [yU (List.getD ((Qb4 v)++[33]) i 0)])))∧(((List.length (Qao (List.length (Qb4 v) + 1) fun i => [yU (List.getD ((Qb4 v)++[33]) i 0)])) : Nat) ≤ (List.length (Qb4 v) + 1 + c_2))))∧(R (SV.v (.string (strOfNums (Qao (List.length (Qb4 v) + 1) fun i => [yU (List.getD ((Qb4 v)++[33]) i 0)])))))))) (((Qcj (1 + List.length (Qbr (Int.toNat (Qac (Qaa v) / 4294967296)))) (1 + List.length (Qbr (Int.toNat (Qac (Qaa v) / 4294967296))) + c_1) {elem:=5,size:=1,rw:=true,lock:=false,lit:=false,flat:=true,n:=List.length (Qgj v),row:=fun i => [yU (List.getD (Qgj v) i 0)],ext:=1 + List.length (Qbr (Int.toNat (Qac (Qaa v) / 4294967296))) + c_1})∧(((0 : Nat) < (List.length (Qb4 v)))∧(((List.length (Qb4 v)) : Nat) ≤ (1 + List.length (Qbr (Int.toNat (Qac (Qaa v) / 4294967296))) + c_1))))∧(R (SV.v (.string (strOfNums (Qb4 v)))))))))))))) ((I64 (Qaa v))∧((U64 (Qac (Qaa v) / 4294967296))∧(((((Qdg v) : Nat) = (Qdg v))∧(((0 : Nat) < (Qdg v))∧((((Qdg v) : Nat) < 70368744177664)∧(∀ i : Nat,(((i : Nat) < (Qdg v))→True)))))∧(∀ c : Nat,(sel (bits BinOp.and IntKind.u64 (Qac (Qaa v)) 4294967295 != 0) ((Qcj (Qdg v) (List.length (Qbr (Int.toNat (Qac (Qaa v) / 4294967296))) + c) {elem:=5,size:=1,rw:=true,lock:=false,lit:=false,flat:=true,n:=List.length (Qgi v),row:=fun i => [yU (List.getD (Qgi v) i 0)],ext:=List.length (Qbr (Int.toNat (Qac (Qaa v) / 4294967296))) + c})∧(∀ c_1 : Nat,((∃ x : TX,(((((TX.k x) : Nat) ≤ 32)∧((((TX.r x) : Nat) < 4294967296)∧((((TX.r x % 2 ^ TX.k x) : Nat) = 0)∧((((List.length (TX.l x)) : Nat) ≤ (TX.c x))∧((((List.length (TX.l x)) : Nat) ≤ (40 + TX.k x))∧(TX.l x++Qi9 (32 - TX.k x) (TX.r x) = T))))))∧(((SV.v (.int .u64 (bits BinOp.and IntKind.u64 (Qac (Qaa v)) 4294967295))) = (SV.v (.int .u64 ((↑(TX.r x) : Int)))))∧((((1 : Nat) = 1)∧(((1 : Nat) ≤ 1)∧(((SV.vp 104 0) = (SV.vp 104 0))∧((SV.sl 264 1 0 (List.length (Qb3 v) + 1) (List.length (Qb3 v) + 1 + c_1)) = (SV.sl 264 1 0 (List.length (TX.l x)) (TX.c x))))))∧((((List.length ((Qb3 v)++[46])) : Nat) = (List.length (TX.l x)))∧((((TX.c x) : Nat) ≤ (List.length (Qb3 v) + 1 + c_1))∧(∀ i : Nat,(((i : Nat) < (List.length (TX.l x)))→([(yU (List.getD ((Qb3 v)++[46]) i 0))] = [(yU (List.getD (TX.l x) i 0))])))))))))∧(∀ x : TX,(((((TX.k x) : Nat) ≤ 32)∧((((TX.r x) : Nat) < 4294967296)∧((((TX.r x % 2 ^ TX.k x) : Nat) = 0)∧((((List.length (TX.l x)) : Nat) ≤ (TX.c x))∧((((List.length (TX.l x)) : Nat) ≤ (40 + TX.k x))∧(TX.l x++Qi9 (32 - TX.k x) (TX.r x) = T))))))→(sel ((↑(TX.r x) : Int) != 0) ((Qcj (List.length (TX.l x)) (TX.c x) {elem:=5,size:=1,rw:=true,lock:=false,lit:=false,flat:=true,n:=List.length (TX.l x),row:=fun i => [yU (List.getD (TX.l x) i 0)],ext:=TX.c x})∧(∀ c_2 : Nat,(∃ x' : TX,((((((TX.k x') : Nat) ≤ 32)∧((((TX.r x') : Nat) < 4294967296)∧((((TX.r x' % 2 ^ TX.k x') : Nat) = 0)∧((((List.length (TX.l x')) : Nat) ≤ (TX.c x'))∧((((List.length (TX.l x')) : Nat) ≤ (40 + TX.k x'))∧(TX.l x'++Qi9 (32 - TX.k x') (TX.r x') = T))))))∧(((SV.v (.int .u64 (bits BinOp.and IntKind.u64 (IntKind.wrap IntKind.u64 ((↑(TX.r x) : Int) * 10)) 4294967295))) = (SV.v (.int .u64 ((↑(TX.r x') : Int)))))∧((((1 : Nat) = 1)∧(((1 : Nat) ≤ 1)∧(((SV.vp 104 0) = (SV.vp 104 0))∧((SV.sl 344 1 0 (List.length (Qao (List.length (TX.l x)) fun i => [yU (List.getD (TX.l x) i 0)]) + 1) (List.length (Qao (List.length (TX.l x)) fun i => [yU (List.getD (TX.l x) i 0)]) + 1 + c_2)) = (SV.sl 344 1 0 (List.length (TX.l x')) (TX.c x'))))))∧((((List.length ((Qao (List.length (TX.l x)) fun i => [yU (List.getD (TX.l x) i 0)])++[IntKind.wrap IntKind.u8 (IntKind.wrap IntKind.u64 (48 + IntKind.wrap IntKind.u64 ((↑(TX.r x) : Int) * 10) / 4294967296))])) : Nat) = (List.length (TX.l x')))∧((((TX.c x') : Nat) ≤ (List.length (Qao (List.length (TX.l x)) fun i => [yU (List.getD (TX.l x) i 0)]) + 1 + c_2))∧(∀ i : Nat,(((i : Nat) < (List.length (TX.l x')))→([(yU (List.getD ((Qao (List.length (TX.l x)) fun i => [yU (List.getD (TX.l x) i 0)])++[IntKind.wrap IntKind.u8 (IntKind.wrap IntKind.u64 (48 + IntKind.wrap IntKind.u64 ((↑(TX.r x) : Int) * 10) / 4294967296))]) i 0))] = [(yU (List.getD (TX.l x') i 0))]))))))))∧(((32 - TX.k x') : Nat) < (32 - TX.k x)))))) (sel (Qav v f) ((Qcj (List.length (TX.l x)) (TX.c x) {elem:=5,size:=1,rw:=true,lock:=false,lit:=false,flat:=true,n:=List.length (TX.l x),row:=fun i => [yU (List.getD (TX.l x) i 0)],ext:=TX.c x})∧(∀ c_2 : Nat,(((Qcj (List.length (Qao (List.length (TX.l x)) fun i => [yU (List.getD (TX.l x) i 0)]) + 1) (List.length (Qao (List.length (TX.l x)) fun i => [yU (List.getD (TX.l x) i 0)]) + 1 + c_2) {elem:=5,size:=1,rw:=true,lock:=false,lit:=false,flat:=true,n:=List.length ((Qao (List.length (TX.l x)) fun i => [yU (List.getD (TX.l x) i 0)])++[33]),row:=fun i => [yU (List.getD ((Qao (List.length (TX.l x)) fun i => [yU (List.getD (TX.l x) i 0)])++[33]) i 0)],ext:=List.length (Qao (List.length (TX.l x)) fun i => [yU (List.getD (TX.l x) i 0)]) + 1 + c_2})∧(((0 : Nat) < (List.length (Qao (List.length (Qao (List.length (TX.l x)) fun i => [yU (List.getD (TX.l x) i 0)]) + 1) fun i => [yU (List.getD ((Qao (List.length (TX.l x)) fun i => [yU (List.getD (TX.l x) i 0)])++[33]) i 0)])))∧(((List.length (Qao (List.length (Qao (List.length (TX.l x)) fun i => [yU (List.getD (TX.l x) i 0)]) + 1) fun i => [yU (List.getD ((Qao (List.length (TX.l x)) fun i => [yU (List.getD (TX.l x) i 0)])++[33]) i 0)])) : Nat) ≤ (List.length (Qao (List.length (TX.l x)) fun i => [yU (List.getD (TX.l x) i 0)]) + 1 + c_2))))∧(R (SV.v (.string (strOfNums (Qao (List.length (Qao (List.length (TX.l x)) fun i => [yU (List.getD (TX.l x) i 0)]) + 1) fun i => [yU (List.getD ((Qao (List.length (TX.l x)) fun i => [yU (List.getD (TX.l x) i 0)])++[33]) i 0)])))))))) (((Qcj (List.length (TX.l x)) (TX.c x) {elem:=5,size:=1,rw:=true,lock:=false,lit:=false,flat:=true,n:=List.length (TX.l x),row:=fun i => [yU (List.getD (TX.l x) i 0)],ext:=TX.c x})∧(((0 : Nat) < (List.length (Qao (List.length (TX.l x)) fun i => [yU (List.getD (TX.l x) i 0)])))∧(((List.length (Qao (List.length (TX.l x)) fun i => [yU (List.getD (TX.l x) i 0)])) : Nat) ≤ (TX.c x))))∧(R (SV.v (.string (strOfNums (Qao (List.length (TX.l x)) fun i => [yU (List.getD (TX.l x) i 0)]))))))))))))) (sel (Qav v f) ((Qcj (Qdg v) (List.length (Qbr (Int.toNat (Qac (Qaa v) / 4294967296))) + c) {elem:=5,size:=1,rw:=true,lock:=false,lit:=false,flat:=true,n:=List.length (Qgi v),row:=fun i => [yU (List.getD (Qgi v) i 0)],ext:=List.length (Qbr (Int.toNat (Qac (Qaa v) / 4294967296))) + c})∧(∀ c_1 : Nat,(((Qcj (List.length (Qb3 v) + 1) (List.length (Qb3 v) + 1 + c_1) {elem:=5,size:=1,rw:=true,lock:=false,lit:=false,flat:=true,n:=List.length ((Qb3 v)++[33]),row:=fun i => [yU (List.getD ((Qb3 v)++[33]) i 0)],ext:=List.length (Qb3 v) + 1 + c_1})∧(((0 : Nat) < (List.length (Qao (List.length (Qb3 v) + 1) fun i => [yU (List.getD ((Qb3 v)++[33]) i 0)])))∧(((List.length (Qao (List.length (Qb3 v) + 1) fun i => [yU (List.getD ((Qb3 v)++[33]) i 0)])) : Nat) ≤ (List.length (Qb3 v) + 1 + c_1))))∧(R (SV.v (.string (strOfNums (Qao (List.length (Qb3 v) + 1) fun i => [yU (List.getD ((Qb3 v)++[33]) i 0)])))))))) (((Qcj (Qdg v) (List.length (Qbr (Int.toNat (Qac (Qaa v) / 4294967296))) + c) {elem:=5,size:=1,rw:=true,lock:=false,lit:=false,flat:=true,n:=List.length (Qgi v),row:=fun i => [yU (List.getD (Qgi v) i 0)],ext:=List.length (Qbr (Int.toNat (Qac (Qaa v) / 4294967296))) + c})∧(((0 : Nat) < (List.length (Qb3 v)))∧(((List.length (Qb3 v)) : Nat) ≤ (List.length (Qbr (Int.toNat (Qac (Qaa v) / 4294967296))) + c))))∧(R (SV.v (.string (strOfNums (Qb3 v))))))))))))) := by kernel_rfl
theorem Zfn : ∀ f g, ΓU f = some g → g.ok Tryz.prog f := Qab Zaq (Qhu Tryz.func85 (by kernel_rfl) (by kernel_rfl) Qs7)
theorem Quv {n : Nat} {L : List Int} (h : n = L.length) : (Qao n fun i => [SV.v (.int .u8 (L.getD i 0))]) = L := by subst h; exact Qih L
theorem Quu {n c m c' : Nat} {g : Nat → Int} : Qcj n c { elem := 5, size := 1, rw := true, lock := false, lit := false, flat := true, n := m, row := fun i => [SV.v (.int .u8 (g i))], ext := c' } ↔ (m = n ∧ c' = c ∧ n < 70368744177664) := by
 simp [Qcj, Qhs]
theorem Q7g {n : Nat} : 1 ≤ (Qbr n).length ∧ (Qbr n).length ≤ 20 := by
 have key : ∀ f n, (Q7f f n).length ≤ f := by
   intro f
   induction f with
   | zero => intro n; simp [Q7f]
   | succ f ih =>
     intro n
     unfold Q7f
     split
     · simp
     · simp; exact ih _
 refine ⟨?_, key 20 n⟩
 unfold Qbr Q7f
 split <;> simp
theorem Qo3 (k : Nat) : Qi9 k 0 = [] := by cases k <;> simp [Qi9]
theorem Q3x : Qai Tryz.prog 21 Zcg := Qan hm Zfn Tryz.func21 (Λ := fun args => match args with | [.agg [.v (.int .i64 v), _]] => Q8t (Q66 (Qaa v) ++ Qv6 (Qaa v)) | _ => Qax) fun args p x h hp => by
 unfold Zcg at h
 split at h <;> try (cases h; done)
 rename_i v f
 cases h
 have hv : I64 v := hp _ rfl
 refine ⟨rfl, rfl, ?_⟩
 refine Eq.mpr (Zfw v f _ _) ?_
 repeat (first | unfold Qdg | unfold Qgi | unfold Qgj | unfold Qb3 | unfold Qb4)
 refine ?_
 have hs := Qd5 hv
 have hd := Q7g (n := Int.toNat (Qac (Qaa v) / 4294967296))
 simp only [Nat.zero_add, Quv, Quu, List.length_append, List.length_cons, List.length_nil, and_true, true_and, Nat.le_refl, implies_true]
 have hi := Qb5 hv
 have hu := Qdh hi
 generalize hd' : Qbr (Int.toNat (Qac (Qaa v) / 4294967296)) = D at hd
 have hh : Q66 (Qaa v) = Zcc (Qaa v) ++ D := by unfold Q66; rw [hd']
 have hm := Qej hu
 generalize hrest : Q6u (Qaa v) = r0
 have hr0 : (r0 : Int) = Qac (Qaa v) % 4294967296 := by rw [← hrest]; unfold Q6u; obtain ⟨_, _⟩ := hu; omega
 have hp0 : Qv6 (Qaa v) = if r0 = 0 then [] else 46 :: Qi9 32 r0 := by unfold Qv6; rw [hrest]
 rw [hm, ← hr0]
 have ht : Q0g (Qaa v) (Qav v f) = Zcc (Qaa v) ++ D ++ (if r0 = 0 then [] else 46 :: Qi9 32 r0) ++ Qof (Qav v f) := by unfold Q0g; rw [hh, hp0]
 rw [hh, hp0, ht]
 have hlt : r0 < 4294967296 := by omega
 have hone : ∀ x : TX, x.r ≠ 0 → x.k ≤ 32 → x.r < 4294967296 → x.r % 2 ^ x.k = 0 → x.k < 32 := fun x h1 h2 h3 h4 => by
   rcases Nat.lt_or_ge x.k 32 with h | h
   · exact h
   · exfalso
     have : x.k = 32 := by omega
     rw [this] at h4
     apply h1
     omega
 have hstep : ∀ x : TX, x.r ≠ 0 → x.r < 4294967296 → bits .and .u64 (IntKind.u64.wrap ((x.r : Int) * 10)) 4294967295 = ((x.r * 10 % 4294967296 : Nat) : Int) ∧ IntKind.u8.wrap (IntKind.u64.wrap (48 + IntKind.u64.wrap ((x.r : Int) * 10) / 4294967296)) = 48 + ((x.r * 10 / 4294967296 : Nat) : Int) := fun x h1 h2 => by
   have e : IntKind.u64.wrap ((x.r : Int) * 10) = (x.r : Int) * 10 := by rw [Qbt]; omega
   have e3 : (x.r : Int) * 10 / 4294967296 = ((x.r * 10 / 4294967296 : Nat) : Int) := by omega
   have e4 : x.r * 10 / 4294967296 ≤ 9 := by omega
   rw [e, Qej ⟨by omega, by omega⟩, Qbt, Qtr, e3]
   generalize x.r * 10 / 4294967296 = q at e4
   constructor <;> omega
 have hdiv : ∀ x : TX, x.k < 32 → x.r % 2 ^ x.k = 0 → x.r * 10 % 4294967296 % 2 ^ (x.k + 1) = 0 := fun x h1 h2 => by
   have d1 : 2 ^ x.k ∣ x.r := Nat.dvd_of_mod_eq_zero h2
   have d2 : 2 ^ (x.k + 1) ∣ x.r * 10 := by
     rw [Nat.pow_succ]
     exact Nat.mul_dvd_mul d1 (by decide)
   have d3 : 2 ^ (x.k + 1) ∣ 4294967296 := by
     have := Nat.pow_dvd_pow 2 (show x.k + 1 ≤ 32 by omega)
     simpa using this
   exact Nat.mod_eq_zero_of_dvd ((Nat.dvd_mod_iff d3).2 d2)
 refine Qaf (fun hs1 => fun c => ⟨hi, ⟨by obtain ⟨_, _⟩ := hu; omega, by obtain ⟨_, _⟩ := hu; omega⟩, ⟨by omega, by omega⟩, fun c1 => Qaf (fun hr => ⟨by omega, fun c2 => ⟨?_, fun x hx => ?_⟩⟩) fun hr => ?_⟩) fun hs1 => ⟨hi, ⟨by obtain ⟨_, _⟩ := hu; omega, by obtain ⟨_, _⟩ := hu; omega⟩, ⟨by omega, by omega⟩, fun c => Qaf (fun hr => ⟨by omega, fun c1 => ⟨?_, fun x hx => ?_⟩⟩) fun hr => ?_⟩
 · -- into the loop
   have hr : r0 ≠ 0 := fun h => by rw [h] at hr; exact absurd hr (by decide)
   rw [show Zcc (Qaa v) = [45] from if_pos (of_decide_eq_true hs1)]
   refine ⟨⟨0, r0, [45] ++ D ++ [46], 1 + D.length + 1 + c2⟩, ⟨by simp, hlt, by simp [Nat.mod_one], by simp <;> omega, by simp <;> omega, by rw [if_neg hr]; simp⟩, rfl, ?_, by simp <;> omega, Nat.le_refl _, fun i hi => rfl⟩
   simp <;> omega
 · -- a round
   obtain ⟨x1, x2, x3, x4, x5, x6⟩ := hx
   refine Qaf (fun hxr => ⟨by omega, fun c3 => ?_⟩) fun hxr => ?_
   · have hxr : x.r ≠ 0 := fun h => by rw [h] at hxr; exact absurd hxr (by decide)
     have hk := hone x hxr x1 x2 x3
     obtain ⟨e1, e2⟩ := hstep x hxr x2
     rw [e1, e2]
     refine ⟨⟨x.k + 1, x.r * 10 % 4294967296, x.l ++ [48 + ((x.r * 10 / 4294967296 : Nat) : Int)], x.l.length + 1 + c3⟩, ⟨⟨hk, Nat.mod_lt _ (by decide), hdiv x hk x3, by simp <;> omega, by simp <;> omega, ?_⟩, rfl, by simp, by simp, Nat.le_refl _, fun i hi => rfl⟩, by simp <;> omega⟩
     rw [← x6, show 32 - x.k = (32 - (x.k + 1)) + 1 by omega]
     simp [Qi9, hxr]
   · have hxr : x.r = 0 := by have := eq_of_beq (show ((x.r : Int) == 0) = true by simpa using hxr); omega
     rw [hxr, Qo3, List.append_nil] at x6
     have x7 : 1 ≤ x.l.length := by rw [x6]; simp <;> omega
     have hr : r0 ≠ 0 := fun h => by rw [h] at hr; exact absurd hr (by decide)
     refine Qaf (fun hf => ⟨by omega, fun c3 => ⟨⟨by omega, by omega, by omega⟩, ?_⟩⟩) fun hf => ⟨⟨by omega, by omega, by omega⟩, ?_⟩
     · rw [x6]; unfold Qof; rw [hf]; simp
     · rw [x6]; unfold Qof; rw [hf]; simp
 · -- no loop
   have hr : r0 = 0 := by have := eq_of_beq (show ((r0 : Int) == 0) = true by simpa using hr); omega
   rw [show Zcc (Qaa v) = [45] from if_pos (of_decide_eq_true hs1)]
   rw [if_pos hr]
   refine Qaf (fun hf => ⟨by omega, fun c2 => ⟨⟨by omega, by omega, by omega⟩, ?_⟩⟩) fun hf => ⟨⟨by omega, by omega, by omega⟩, ?_⟩
   · unfold Qof; rw [hf]; simp
   · unfold Qof; rw [hf]; simp
 · -- into the loop
   have hr : r0 ≠ 0 := fun h => by rw [h] at hr; exact absurd hr (by decide)
   rw [show Zcc (Qaa v) = [] from if_neg (of_decide_eq_false hs1)]
   refine ⟨⟨0, r0, D ++ [46], D.length + 1 + c1⟩, ⟨by simp, hlt, by simp [Nat.mod_one], by simp <;> omega, by simp <;> omega, by rw [if_neg hr]; simp⟩, rfl, ?_, by simp, Nat.le_refl _, fun i hi => rfl⟩
   simp
 · -- a round
   obtain ⟨x1, x2, x3, x4, x5, x6⟩ := hx
   refine Qaf (fun hxr => ⟨by omega, fun c3 => ?_⟩) fun hxr => ?_
   · have hxr : x.r ≠ 0 := fun h => by rw [h] at hxr; exact absurd hxr (by decide)
     have hk := hone x hxr x1 x2 x3
     obtain ⟨e1, e2⟩ := hstep x hxr x2
     rw [e1, e2]
     refine ⟨⟨x.k + 1, x.r * 10 % 4294967296, x.l ++ [48 + ((x.r * 10 / 4294967296 : Nat) : Int)], x.l.length + 1 + c3⟩, ⟨⟨hk, Nat.mod_lt _ (by decide), hdiv x hk x3, by simp <;> omega, by simp <;> omega, ?_⟩, rfl, by simp, by simp, Nat.le_refl _, fun i hi => rfl⟩, by simp <;> omega⟩
     rw [← x6, show 32 - x.k = (32 - (x.k + 1)) + 1 by omega]
     simp [Qi9, hxr]
   · have hxr : x.r = 0 := by have := eq_of_beq (show ((x.r : Int) == 0) = true by simpa using hxr); omega
     rw [hxr, Qo3, List.append_nil] at x6
     have x7 : 1 ≤ x.l.length := by rw [x6]; simp <;> omega
     have hr : r0 ≠ 0 := fun h => by rw [h] at hr; exact absurd hr (by decide)
     refine Qaf (fun hf => ⟨by omega, fun c3 => ⟨⟨by omega, by omega, by omega⟩, ?_⟩⟩) fun hf => ⟨⟨by omega, by omega, by omega⟩, ?_⟩
     · rw [x6]; unfold Qof; rw [hf]; simp
     · rw [x6]; unfold Qof; rw [hf]; simp
 · -- no loop
   have hr : r0 = 0 := by have := eq_of_beq (show ((r0 : Int) == 0) = true by simpa using hr); omega
   rw [show Zcc (Qaa v) = [] from if_neg (of_decide_eq_false hs1)]
   rw [if_pos hr]
   refine Qaf (fun hf => ⟨by omega, fun c1 => ⟨⟨by omega, by omega, by omega⟩, ?_⟩⟩) fun hf => ⟨⟨by omega, by omega, by omega⟩, ?_⟩
   · unfold Qof; rw [hf]; simp
   · unfold Qof; rw [hf]; simp
def P62 (x : Int) : Prop := -4611686018427387904 ≤ x ∧ x ≤ 4611686018427387904
theorem Zjl {x : Int} (h : P62 x) : 0 ≤ x * x ∧ x * x ≤ 21267647932558653966460912964485513216 := by
 refine ⟨Qbs x, ?_⟩
 have := Qdk (p := x) (q := x) (P := 4611686018427387904) (Q := 4611686018427387904) (by decide) h.1 h.2 h.1 h.2
 exact this.2
theorem Q9n {A B : Int} (hA : P62 A) (hB : P62 B) : 0 ≤ isq (A * A + B * B) ∧ isq (A * A + B * B) ≤ 9223372036854775807 ∧ isq (A * A + B * B) * isq (A * A + B * B) ≤ A * A + B * B ∧ A * A + B * B < (isq (A * A + B * B) + 1) * (isq (A * A + B * B) + 1) := by
 obtain ⟨a1, a2⟩ := Zjl hA
 obtain ⟨b1, b2⟩ := Zjl hB
 obtain ⟨i1, _, i3, i4⟩ := Qlk (m := A * A + B * B) (by omega) (by omega)
 refine ⟨i1, Int.not_lt.1 fun h => ?_, i3, i4⟩
 have := Qtz (show (0 : Int) ≤ 9223372036854775808 by decide) (show (9223372036854775808 : Int) ≤ isq (A * A + B * B) by omega)
 omega
theorem Zik {A B : Int} (hA : P62 A) (hB : P62 B) : Qrl ⟨A, false⟩ ⟨B, false⟩ = ⟨isq (A * A + B * B), false⟩ := by
 have sA : Sd A := ⟨by have := hA.1; omega, by have := hA.2; omega⟩
 have sB : Sd B := ⟨by have := hB.1; omega, by have := hB.2; omega⟩
 obtain ⟨i1, i2, _⟩ := Q9n hA hB
 unfold Qrl
 rw [sA.self, sB.self, sA.flag, sB.flag]
 exact Qfv ⟨by show _ ≤ isq _; omega, i2⟩
def P42 (x : Int) : Prop := -4398046511104 < x ∧ x < 4398046511104
theorem P42.i {x : Int} (h : P42 x) : I64 x := by obtain ⟨_, _⟩ := h; exact ⟨by omega, by omega⟩
def Zdj (r : VB) : Prop := r.x.f = false ∧ r.y.f = false ∧ (-8589934592 ≤ r.x.v ∧ r.x.v ≤ 8589934592) ∧ (-8589934592 ≤ r.y.v ∧ r.y.v ≤ 8589934592) ∧ Q43 r = 0
def P33 (x : Int) : Prop := -8589934592 ≤ x ∧ x ≤ 8589934592
def P41 (x : Int) : Prop := -2199023255552 ≤ x ∧ x ≤ 2199023255552
theorem P33.sd {x : Int} (h : P33 x) : Sd x := by obtain ⟨_, _⟩ := h; exact ⟨by omega, by omega⟩
theorem P41.sd {x : Int} (h : P41 x) : Sd x := by obtain ⟨_, _⟩ := h; exact ⟨by omega, by omega⟩
theorem Zir {p q : Int} (hp : P33 p) (hq : P33 q) : (Qch ⟨p, false⟩ ⟨p, false⟩ ⟨q, false⟩ ⟨q, false⟩).v = (p * p + q * q) / 4294967296 := by
 have m1 := Qdk (p := p) (q := p) (P := 8589934592) (Q := 8589934592) (by decide) hp.1 hp.2 hp.1 hp.2
 have m2 := Qdk (p := q) (q := q) (P := 8589934592) (Q := 8589934592) (by decide) hq.1 hq.2 hq.1 hq.2
 have n1 := Qbs p
 have n2 := Qbs q
 show Qar (Quq (Qaa p) (Qaa p) (Qaa q) (Qaa q)) = _
 rw [hp.sd.self, hq.sd.self]
 unfold Quq
 rw [Int.tdiv_eq_ediv_of_nonneg (by omega), Qeu ⟨by omega, by omega⟩]
theorem Zdl {p q : Int} (hp : P33 p) (hq : P33 q) : Qlq ⟨⟨p, false⟩, ⟨q, false⟩⟩ = false := by
 show (Qav p false || Qav q false) = false
 rw [hp.sd.flag, hq.sd.flag]; rfl
theorem Zi2 {p q : Int} (hp : P33 p) (hq : P33 q) (l : 18446462598732840960 ≤ p * p + q * q) (u : p * p + q * q ≤ 18447025548686262272) : Q43 ⟨⟨p, false⟩, ⟨q, false⟩⟩ = 0 := by
 have hd := Zir hp hq
 unfold Q43
 rw [Zdl hp hq, cond_false, hd, decide_eq_false (by omega), decide_eq_false (by omega)]; rfl
theorem Zi6 {a : NB} (hf : a.f = false) (ha : Sd a.v) : Zdj (Qtg a) := by
 have e1 := Qmx a
 have e2 := Qq0 a
 rw [ha.flag, hf] at e1 e2
 have b1 := Qt1 a
 have b2 : -4294967296 ≤ (Qiw a).v ∧ (Qiw a).v ≤ 4294967296 := Qt1 _
 have c := Qop a
 have f1 : (Qgn a).f = false := by rw [e1]
 have f2 : (Qiw a).f = false := by rw [e2]
 have g1 : Qgn a = ⟨(Qgn a).v, false⟩ := by rw [← f1]
 have g2 : Qiw a = ⟨(Qiw a).v, false⟩ := by rw [← f2]
 refine ⟨f2, f1, ⟨by show _ ≤ (Qiw a).v; omega, by show (Qiw a).v ≤ _; omega⟩, ⟨by show _ ≤ (Qgn a).v; omega, by show (Qgn a).v ≤ _; omega⟩, ?_⟩
 show Q43 ⟨Qiw a, Qgn a⟩ = 0
 rw [g1, g2]
 exact Zi2 ⟨by omega, by omega⟩ ⟨by omega, by omega⟩ (by omega) (by omega)
def P38 (x : Int) : Prop := -274877906944 < x ∧ x < 274877906944
theorem P38.i {x : Int} (h : P38 x) : I64 x := by obtain ⟨_, _⟩ := h; exact ⟨by omega, by omega⟩
theorem Q5i (es : List Ent) (b n c k : Nat) (g : Nat → Int × Int) : Qbz (Qaw (Go.SE.Qbr es b (spB n c g)) 2 0 k) = g := funext fun i => by
 show gi [SV.v (.int .i64 (g (0 + i)).1), SV.v (.int .i64 (g (0 + i)).2)] = g i
 rw [Nat.zero_add]; rfl
theorem Qv5 {es : List Ent} {b n c : Nat} {g : Nat → Int × Int} (hn : n < 1099511627776) (hg : ∀ i, i < n → I64 (g i).1 ∧ I64 (g i).2) : Qfd n (Qaw (Go.SE.Qbr es b (spB n c g)) 2 0 n) := Qts hn hg fun _ => rfl
theorem Qjw (m : MD) : (ksS m = Q27 (ksX m.a m.a) ∧ ksN m = 0) ∨ (ksS m = boxS (ksX m.a m.a) (ksX m.a m.b) ∧ ksN m = 0) ∨ (ksS m = Qxu ∧ ksN m = 3 ∧ ksG m = G3 (ksM m.a m.a) (ksM m.a m.b)) ∨ (ksS m = Qxu ∧ ksN m = 5 ∧ ksG m = G5 (ksM m.a m.a) (ksM m.a m.b) (ksM m.a m.a / 2)) ∨ (ksS m = Qxu ∧ ksN m = 8 ∧ ksG m = G8 (ksM m.a m.a) (ksM m.a m.a / 2)) := by
 unfold ksS ksN ksG
 cases h0 : m.k % 5 == 0 with
 | true => exact Or.inl ⟨rfl, rfl⟩
 | false =>
   cases h1 : m.k % 5 == 1 with
   | true => exact Or.inr (Or.inl ⟨rfl, rfl⟩)
   | false =>
     cases h2 : m.k % 5 == 2 with
     | true => exact Or.inr (Or.inr (Or.inl ⟨rfl, rfl, rfl⟩))
     | false =>
       cases h3 : m.k % 5 == 3 with
       | true => exact Or.inr (Or.inr (Or.inr (Or.inl ⟨rfl, rfl, rfl⟩)))
       | false => exact Or.inr (Or.inr (Or.inr (Or.inr ⟨rfl, rfl, rfl⟩)))
theorem Qwk (a x : Int) : 64 ≤ ksM a x ∧ ksM a x ≤ 4096 := by
 have := Qo1 (ksB a) x
 unfold ksM ksX; omega
theorem Qsa (a x : Int) : 16 ≤ ksX a x ∧ ksX a x ≤ 4096 := Qo1 (ksB a) x
theorem Zkg (s : ShB) (n : Nat) (g : Nat → Int × Int) {d : Int} (h : 1 ≤ d ∧ d ≤ 1000) : Qzx 0 s n g d = bif s.k == 1 then Qzz s.r d else Qrs (Qfi (Qbb 0 s n) (Qbh s g) (Qbb 0 s n)) (Qmd (Qbb 0 s n) (Qbh s g) (Qbb 0 s n)) d := by
 unfold Qzx; rw [Za1 h]; rfl
def Qsb (m : MD) : Prop := Qiq (ksS m) ∧ Qck (ksS m) (ksN m) (ksG m) = 0 ∧ (∀ d, 1 ≤ d ∧ d ≤ 1000 → PW (Qzx 0 (ksS m) (ksN m) (ksG m) d)) ∧ ksN m ≤ 8 ∧ Qbb 0 (ksS m) (ksN m) ≤ 8 ∧ ∀ i, i < ksN m → I64 (ksG m i).1 ∧ I64 (ksG m i).2
theorem z_i : I64 0 := ⟨by decide, by decide⟩
theorem s_i {x : Int} (h : -9223372036854775808 ≤ x ∧ x ≤ 9223372036854775807) : I64 x := ⟨by omega, by omega⟩
theorem q_i {x : Int} (h : Q12 x) : I64 x := by
 obtain ⟨_, _⟩ := h
 exact ⟨by omega, by omega⟩
theorem Qm5 {m : MD} {n : Nat} {g : Nat → Int × Int} (e1 : ksS m = Qxu) (e2 : ksN m = n) (e3 : ksG m = g) (h3 : 3 ≤ n) (h8 : n ≤ 8) (hp : ∀ i, i < n → Qgh (g i) = true ∧ Q12 (g i).1 ∧ Q12 (g i).2) (hc : Qdi n g = true) (hx : ∀ i, i < n → 64 ≤ Qad (g i) (g ((i + 1) % n))) : Qsb m := by
 unfold Qsb
 rw [e1, e2, e3]
 refine ⟨⟨⟨s_i (by show _ ≤ (3 : Int) ∧ (3 : Int) ≤ _; omega), z_i⟩, z_i, z_i⟩, chkP h3 h8 (fun i hi => (hp i hi).1) hc, fun d hd => ?_, h8, h8, fun i hi => ⟨q_i (hp i hi).2.1, q_i (hp i hi).2.2⟩⟩
 rw [Zkg Qxu n g hd]
 show PW (Qrs (Qfi n g n) (Qmd n g n) d)
 exact Zho (by omega) h8 (fun i hi => (hp i hi).2) hx hd
theorem Quh (m : MD) : Qsb m := by
 have hA := Qsa m.a m.a
 have hB := Qsa m.a m.b
 have hK := Qwk m.a m.a
 have hH := Qwk m.a m.b
 have hh : 2 * (ksM m.a m.a / 2) ≤ ksM m.a m.a ∧ ksM m.a m.a ≤ 2 * (ksM m.a m.a / 2) + 1 := by omega
 rcases Qjw m with ⟨e1, e2⟩ | ⟨e1, e2⟩ | ⟨e1, e2, e3⟩ | ⟨e1, e2, e3⟩ | ⟨e1, e2, e3⟩
 · unfold Qsb
   rw [e1, e2]
   refine ⟨⟨⟨s_i (by show _ ≤ (1 : Int) ∧ (1 : Int) ≤ _; omega), s_i (by show _ ≤ ksX m.a m.a ∧ ksX m.a m.a ≤ _; omega)⟩, z_i, z_i⟩, Q7l hA, fun d hd => ?_, by omega, Nat.zero_le _, fun i hi => absurd hi (Nat.not_lt_zero _)⟩
   rw [Zkg _ _ _ hd]
   exact Zdb hA hd
 · unfold Qsb
   rw [e1, e2]
   refine ⟨⟨⟨s_i (by show _ ≤ (2 : Int) ∧ (2 : Int) ≤ _; omega), z_i⟩, s_i (by show _ ≤ ksX m.a m.a ∧ ksX m.a m.a ≤ _; omega), s_i (by show _ ≤ ksX m.a m.b ∧ ksX m.a m.b ≤ _; omega)⟩, Q7m hA hB, fun d hd => ?_, by omega, by show 4 ≤ 8; omega, fun i hi => absurd hi (Nat.not_lt_zero _)⟩
   rw [Zkg _ _ _ hd]
   show PW (Qrs (Qfi 4 (Q7t (ksX m.a m.a) (ksX m.a m.b)) 4) (Qmd 4 (Q7t (ksX m.a m.a) (ksX m.a m.b)) 4) d)
   rw [Q7s, Zei]
   generalize ksX m.a m.a = w at *
   generalize ksX m.a m.b = h at *
   have ml : ∀ {a b c d : Int}, a ≤ b → c ≤ d → 0 ≤ c → 0 ≤ b → a * c ≤ b * d := fun h1 h2 h3 h4 => Int.mul_le_mul h1 h2 h3 h4
   have a1 : 16 * 16 ≤ w * h := ml hA.1 hB.1 (by omega) (by omega)
   have a2 : w * h ≤ 4096 * 4096 := ml hA.2 hB.2 (by omega) (by omega)
   have b1 : 16 * 16 ≤ w * w := ml hA.1 hA.1 (by omega) (by omega)
   have b2 : w * w ≤ 4096 * 4096 := ml hA.2 hA.2 (by omega) (by omega)
   have c1 : 16 * 16 ≤ h * h := ml hB.1 hB.1 (by omega) (by omega)
   have c2 : h * h ≤ 4096 * 4096 := ml hB.2 hB.2 (by omega) (by omega)
   generalize w * h = P at *
   have d1 : 512 * 4096 ≤ 2 * P * (8 * (w * w + h * h)) := ml (by omega) (by omega) (by omega) (by omega)
   have d2 : 2 * P * (8 * (w * w + h * h)) ≤ 33554432 * 268435456 := ml (by omega) (by omega) (by omega) (by omega)
   exact Q14 ⟨by omega, by omega⟩ ⟨by omega, by omega⟩ hd
 · exact Qm5 e1 e2 e3 (by omega) (by omega) (Zht hK hH) (Zed hK hH) (Ziy hK hH)
 · exact Qm5 e1 e2 e3 (by omega) (by omega) (Zhs hK hH hh) (Zec hK hH hh) (Zix hK hH hh)
 · exact Qm5 e1 e2 e3 (by omega) (by omega) (Zhr hK hh) (Zeb hK hh) (Ziw hK hh)
theorem Q9d (m : MD) : Zdj (Qd3 m) := Zi6 rfl (by
 have := Qhq m.w (s := 8) (m := 34359738368) (by rfl) (by decide)
 exact ⟨by omega, by omega⟩)
theorem Zl0 {r : VB} (h : Zdj r) : I64 r.x.v ∧ I64 r.y.v := by
 obtain ⟨_, _, ⟨_, _⟩, ⟨_, _⟩, _⟩ := h
 exact ⟨⟨by omega, by omega⟩, ⟨by omega, by omega⟩⟩
end Go.Proofs.YteekigmbopdfjaaGreat
end
section
namespace Go.Proofs.YteekigmbopdfjaaGreat
open Go.SE
theorem Q17 {s a d A D T : Int} (hs : 0 ≤ s) (hT : 0 ≤ T) (ha : -(s * T) ≤ a - s * A ∧ a - s * A ≤ s * T) (hd : -(s * T) ≤ d - s * D ∧ d - s * D ≤ s * T) : -(s * s * (T * (Qac A + Qac D) + T * T)) ≤ a * d - s * s * (A * D) ∧ a * d - s * s * (A * D) ≤ s * s * (T * (Qac A + Qac D) + T * T) := by
 have iA : -Qac A ≤ A ∧ A ≤ Qac A := by unfold Qac; split <;> omega
 have iD : -Qac D ≤ D ∧ D ≤ Qac D := by unfold Qac; split <;> omega
 have nA := Qbk A
 have nD := Qbk D
 generalize Qac A = a' at *
 generalize Qac D = d' at *
 have sA := Qdk (p := s) (q := A) (P := s) (Q := a') hs (by omega) (Int.le_refl _) iA.1 iA.2
 have sD := Qdk (p := s) (q := D) (P := s) (Q := d') hs (by omega) (Int.le_refl _) iD.1 iD.2
 have nsA := Int.mul_nonneg hs nA
 have nsD := Int.mul_nonneg hs nD
 have nsT := Int.mul_nonneg hs hT
 have t1 := Qdk (p := s * A) (q := d - s * D) (P := s * a') (Q := s * T) nsA sA.1 sA.2 hd.1 hd.2
 have t2 := Qdk (p := a - s * A) (q := s * D) (P := s * T) (Q := s * d') nsT ha.1 ha.2 sD.1 sD.2
 have t3 := Qdk (p := a - s * A) (q := d - s * D) (P := s * T) (Q := s * T) nsT ha.1 ha.2 hd.1 hd.2
 have e : a * d - s * s * (A * D) = s * A * (d - s * D) + (a - s * A) * (s * D) + (a - s * A) * (d - s * D) := by grind
 have e2 : s * s * (T * (a' + d') + T * T) = s * a' * (s * T) + s * T * (s * d') + s * T * (s * T) := by grind
 rw [e, e2]
 omega
theorem Ziz {s a b c d A B C D T : Int} (hs : 0 ≤ s) (hT : 0 ≤ T) (ha : -(s * T) ≤ a - s * A ∧ a - s * A ≤ s * T) (hb : -(s * T) ≤ b - s * B ∧ b - s * B ≤ s * T) (hc : -(s * T) ≤ c - s * C ∧ c - s * C ≤ s * T) (hd : -(s * T) ≤ d - s * D ∧ d - s * D ≤ s * T) :
   s * s * (A * D - B * C - T * (Qac A + Qac B + Qac C + Qac D) - 2 * (T * T)) ≤ a * d - b * c := by
 have x := Q17 hs hT ha hd
 have y := Q17 hs hT hb hc
 have e : s * s * (A * D - B * C - T * (Qac A + Qac B + Qac C + Qac D) - 2 * (T * T)) = s * s * (A * D) - s * s * (B * C) - s * s * (T * (Qac A + Qac D) + T * T) - s * s * (T * (Qac B + Qac C) + T * T) := by grind
 rw [e]
 omega
end Go.Proofs.YteekigmbopdfjaaGreat
end
