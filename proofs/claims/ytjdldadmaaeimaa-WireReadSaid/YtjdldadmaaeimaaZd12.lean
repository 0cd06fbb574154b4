/-
 What the proof uses, part 12.
-/
import Derived.Deep.Slices
import Derived.Deep.Fields
import Derived.Test.YtjdldadmaaeimaaZd11
set_option maxRecDepth 100000
set_option linter.unusedSimpArgs false
set_option linter.unusedVariables false

section
namespace Go.Proofs.Ytjdldadmaaeimaa
open Go.ChangeShapes Go.WideShapes Go.ChangeAt Go.RowKit Go.SE Go.Deep
section
variable {H : Type} {enc : TypeId × Value → H}
def Qw2 (ls : List SE.Loc) : Dict := fun k => ls[k]?
theorem Q43 {W : World} {ls : List SE.Loc} {bs : List Ro} (h : ∀ (k : Nat) (b : Ro), bs[k]? = some b → ∃ l, ls[k]? = some l ∧ Live (Qw2 ls) b.blk W l) : HRep (Qw2 ls) (Qac (bs.map Ro.blk)) W := by
 refine ⟨fun k b' hk => ?_, fun k k' r b' h1 h2 hk hrw => ?_⟩
 · simp only [Qac, List.getElem?_map] at hk
   cases hb : bs[k]? with
   | none => rw [hb] at hk; cases hk
   | some b =>
     rw [hb] at hk
     cases hk
     obtain ⟨l, h1, h2⟩ := h k b hb
     exact ⟨l, h1, fun _ => h2⟩
 · simp only [Qac, List.getElem?_map] at hk
   cases hb : bs[k]? with
   | none => rw [hb] at hk; cases hk
   | some b => rw [hb] at hk; cases hk; cases hrw
theorem Qvv : ∀ bs : List Ro, Qx4 (bs.map Ro.blk) = some bs
 | [] => rfl
 | b :: bs => by
   simp only [List.map_cons, Qx4, Qvv bs]
   rfl
theorem Q4i {f : FuncId} {spec : List SV → List Ro → Option (Option Prop × SV)} (h : Qcj Try.prog f spec) {args : List SV} {vs : List Value} {ls : List SE.Loc} {bs : List Ro} {W : World} (ha : Qa7 (Qw2 ls) args vs)
   (hl : ∀ (k : Nat) (b : Ro), bs[k]? = some b → ∃ l, ls[k]? = some l ∧ Live (Qw2 ls) b.blk W l) (hn : ls.length = bs.length) (hb : bs.length ≤ 1000) {p : Prop} (hs : spec args bs = some (some p, .v (.bool true))) (hp : p) :
   Calls Try.prog f vs.toArray W fun e W' => e = .returned (.bool true) ∧ Below W.heap.size W W' := by
 have hs' : Qg1 spec args (bs.map Ro.blk) = some (.det (some p) (.v (.bool true)) []) := by
   unfold Qg1
   rw [Qvv]
   show (match spec args bs with | some (p, x) => some (Eff.det p x []) | none => none) = _
   rw [hs]
 refine (h _ _ _ hs' (fun q hq => by cases hq; exact hp) (Qw2 ls) W vs ha (Q43 hl) (fun k hk => ?_) (by simpa using hb)).mono fun e W' ⟨r, x, u, δ', h1, h2, _, h4, h5⟩ => ?_
 · simp only [Qac, List.getElem?_map, Option.map_eq_none_iff, List.getElem?_eq_none_iff] at hk
   simp only [Qw2, List.getElem?_eq_none_iff]
   omega
 · obtain ⟨rfl, rfl⟩ := h2
   simp only [Qau] at h4
   subst h4
   refine ⟨h1, h5.wrel.os, h5.wrel.tape, h5.wrel.output, h5.wrel.size, fun k hk => h5.wrel.block k hk ?_⟩
   rintro ⟨k', b, hb, hrw, _⟩
   simp only [Qac, List.getElem?_map] at hb
   cases hb' : bs[k']? with
   | none => rw [hb'] at hb; cases hb
   | some b => rw [hb'] at hb; cases hb; cases hrw
end
end Go.Proofs.Ytjdldadmaaeimaa
end
section
namespace Go.Proofs.Ytjdldadmaaeimaa
open Go.SE Go.RowKit
theorem hm : Try.prog.follows .mixedOrders = true := by kernel_rfl
def Qas : Nat → Option LoopSpec := fun _ => none
def nmA : List ByteArray := [⟨#[115, 112, 97, 119, 110]⟩, ⟨#[100, 101, 115, 116, 114, 111, 121]⟩, ⟨#[112, 117, 115, 104]⟩, ⟨#[103, 114, 97, 98]⟩, ⟨#[100, 114, 97, 103]⟩, ⟨#[114, 101, 108, 101, 97, 115, 101]⟩, ⟨#[108, 111, 111, 107]⟩, ⟨#[110, 101, 97, 114]⟩, ⟨#[114, 97, 121]⟩, ⟨#[99, 111, 117, 110, 116]⟩]
def emp : ByteArray := ⟨#[]⟩
def nmG (i : Nat) : ByteArray := nmA.getD i emp
def Q0c (k : Int) : ByteArray := bif decide (1 ≤ k) && decide (k ≤ 10) then nmG (k.toNat - 1) else emp
def Qid (s : ByteArray) : List ByteArray → Int → Int
 | [], _ => 0
 | x :: rest, i => bif x == s then i else Qid s rest (i + 1)
def Zbl (s : ByteArray) : Int := Qid s nmA 1
def Qe4 (s : ByteArray) : SV := .v (.string s)
def Qzj : List SV → Option (Option Prop × SV)
 | [] => some (none, .agg (nmA.map Qe4))
 | _ => none
def Zaa : List SV → Option (Option Prop × SV)
 | [.v (.int .i64 k)] => some (some (-9223372036854775808 ≤ k ∧ k < 9223372036854775808), Qe4 (Q0c k))
 | _ => none
def Zab : List SV → Option (Option Prop × SV)
 | [.v (.string s)] => some (none, .v (.int .i64 (Zbl s)))
 | _ => none
def nmB : Blk := { elem := 9, size := 1, rw := true, lock := false, lit := false, flat := true, n := 11, row := fun i => [Qe4 ((emp :: nmA).getD i emp)], ext := 11 }
def Qtz : List SV → List Blk → Option Eff
 | [], [] => some (.det none (.sl 1000 1 0 11 11) [(1000, nmB)])
 | _, _ => none
def Zh2 : Qb6 := Qap (Qap Qaq 57 (Qda Qzj)) 58 (Qca true Qtz)
theorem Q86 (R : SV→Prop) : (Qeu Try.prog Qaq Qas Try.f57 [] R) = (R (SV.agg [(SV.v (.string ({data:=#[115,112,97,119,110]}))),(SV.v (.string ({data:=#[100,101,115,116,114,111,121]}))),(SV.v (.string ({data:=#[112,117,115,104]}))),(SV.v (.string ({data:=#[103,114,97,98]}))),(SV.v (.string ({data:=#[100,114,97,103]}))),(SV.v (.string ({data:=#[114,101,108,101,97,115,101]}))),(SV.v (.string ({data:=#[108,111,111,107]}))),(SV.v (.string ({data:=#[110,101,97,114]}))),(SV.v (.string ({data:=#[114,97,121]}))),(SV.v (.string ({data:=#[99,111,117,110,116]})))])):=by kernel_rfl
theorem Q3b : (Qa6 Try.prog Qaq Qas Try.f58 [] (Qac []) 64 (fun y h' => Qbh [] (.det none (.sl 1000 1 0 11 11) [(1000,nmB)]) y h')) = (((SV.sl 72 1 0 11 11) = (SV.sl 72 1 0 11 11))∧(((11 : Nat) = 11)∧(((11 : Nat) ≤ 11)∧(∀ i : Nat,(((i : Nat) < 11)→([(SV.v (.string (bop (Nat.beq i 0) {data:=#[]} (bop (Nat.beq i 1) {data:=#[115,112,97,119,110]} (bop (Nat.beq i 2) {data:=#[100,101,115,116,114,111,121]} (bop (Nat.beq i 3) {data:=#[112,117,115,104]} (bop (Nat.beq i 4) {data:=#[103,114,97,98]} (bop (Nat.beq i 5) {data:=#[100,114,97,103]} (bop (Nat.beq i 6) {data:=#[114,101,108,101,97,115,101]} (bop (Nat.beq i 7) {data:=#[108,111,111,107]} (bop (Nat.beq i 8) {data:=#[110,101,97,114]} (bop (Nat.beq i 9) {data:=#[114,97,121]} {data:=#[99,111,117,110,116]}))))))))))))] = [(SV.v (.string (List.getD (emp :: nmA) i emp)))])))))):=by kernel_rfl
noncomputable def Q6c (k : Int) : Nat → Option LoopSpec := Qme Qas Try.f16 0 Nat (fun i => i ≤ 10 ∧ ∀ j : Nat, j < i → (j : Int) + 1 ≠ k) (fun i => 10 - i) [(6, fun i => .v (.int .i64 i))] []
theorem Zfg (k : Int) (R : SV→Prop) : (Qeu Try.prog Zh2 (Q6c k) Try.f16 [.v (.int .i64 k)] R) =
((∃ x : Nat,((((x : Nat) ≤ 10)∧(∀ j : Nat,(((j : Nat) < x)→((((↑j : Int) + 1) : Int) ≠ k))))∧(((SV.v (.int .i64 0)) = (SV.v (.int .i64 ((↑x : Int)))))∧True)))∧(∀ x : Nat,((((x : Nat) ≤ 10)∧(∀ j : Nat,(((j : Nat) < x)→((((↑j : Int) + 1) : Int) ≠ k))))→(sel (decide ((↑x : Int) < 10)) ((((0 : Int) ≤ ((↑x : Int)))∧((((↑x : Int)) : Int) < 10))∧(sel (IntKind.wrap IntKind.i64 ((↑x : Int) + 1) == k) (R (SV.v (.string (bop (Nat.beq (Int.toNat (↑x : Int)) 0) {data:=#[115,112,97,119,110]} (bop (Nat.beq (Int.toNat (↑x : Int)) 1) {data:=#[100,101,115,116,114,111,121]} (bop (Nat.beq (Int.toNat (↑x : Int)) 2) {data:=#[112,117,115,104]} (bop (Nat.beq (Int.toNat (↑x : Int)) 3) {data:=#[103,114,97,98]} (bop (Nat.beq (Int.toNat (↑x : Int)) 4) {data:=#[100,114,97,103]} (bop (Nat.beq (Int.toNat (↑x : Int)) 5) {data:=#[114,101,108,101,97,115,101]} (bop (Nat.beq (Int.toNat (↑x : Int)) 6) {data:=#[108,111,111,107]} (bop (Nat.beq (Int.toNat (↑x : Int)) 7) {data:=#[110,101,97,114]} (bop (Nat.beq (Int.toNat (↑x : Int)) 8) {data:=#[114,97,121]} {data:=#[99,111,117,110,116]})))))))))))) (∃ x' : Nat,(((((x' : Nat) ≤ 10)∧(∀ j : Nat,(((j : Nat) < x')→((((↑j : Int) + 1) : Int) ≠ k))))∧(((SV.v (.int .i64 (IntKind.wrap IntKind.i64 ((↑x : Int) + 1)))) = (SV.v (.int .i64 ((↑x' : Int)))))∧True))∧(((10 - x') : Nat) < (10 - x)))))) (R (SV.v (.string ({data:=#[]})))))))) := by kernel_rfl
noncomputable def Q6d (s : ByteArray) : Nat → Option LoopSpec := Qme Qas Try.f18 0 Nat (fun i => i ≤ 10 ∧ ∀ j, j < i → (nmG j == s) = false) (fun i => 10 - i) [(6, fun i => .v (.int .i64 i))] []
theorem Zfh (s : ByteArray) (R : SV→Prop) : (Qeu Try.prog Zh2 (Q6d s) Try.f18 [.v (.string s)] R) =
((∃ x : Nat,((((x : Nat) ≤ 10)∧(∀ j : Nat,(((j : Nat) < x)→((nmG j == s) = false))))∧(((SV.v (.int .i64 0)) = (SV.v (.int .i64 ((↑x : Int)))))∧True)))∧(∀ x : Nat,((((x : Nat) ≤ 10)∧(∀ j : Nat,(((j : Nat) < x)→((nmG j == s) = false))))→(sel (decide ((↑x : Int) < 10)) ((((0 : Int) ≤ ((↑x : Int)))∧((((↑x : Int)) : Int) < 10))∧(sel (bop (Nat.beq (Int.toNat (↑x : Int)) 0) {data:=#[115,112,97,119,110]} (bop (Nat.beq (Int.toNat (↑x : Int)) 1) {data:=#[100,101,115,116,114,111,121]} (bop (Nat.beq (Int.toNat (↑x : Int)) 2) {data:=#[112,117,115,104]} (bop (Nat.beq (Int.toNat (↑x : Int)) 3) {data:=#[103,114,97,98]} (bop (Nat.beq (Int.toNat (↑x : Int)) 4) {data:=#[100,114,97,103]} (bop (Nat.beq (Int.toNat (↑x : Int)) 5) {data:=#[114,101,108,101,97,115,101]} (bop (Nat.beq (Int.toNat (↑x : Int)) 6) {data:=#[108,111,111,107]} (bop (Nat.beq (Int.toNat (↑x : Int)) 7) {data:=#[110,101,97,114]} (bop (Nat.beq (Int.toNat (↑x : Int)) 8) {data:=#[114,97,121]} {data:=#[99,111,117,110,116]})))))))) == s) (R (SV.v (.int .i64 (IntKind.wrap IntKind.i64 ((↑x : Int) + 1))))) (∃ x' : Nat,(((((x' : Nat) ≤ 10)∧(∀ j : Nat,(((j : Nat) < x')→((nmG j == s) = false))))∧(((SV.v (.int .i64 (IntKind.wrap IntKind.i64 ((↑x : Int) + 1)))) = (SV.v (.int .i64 ((↑x' : Int)))))∧True))∧(((10 - x') : Nat) < (10 - x)))))) (R (SV.v (.int .i64 0))))))) := by kernel_rfl
def pk (x : Nat) : ByteArray := (bop (Nat.beq x 0) ⟨#[115, 112, 97, 119, 110]⟩ (bop (Nat.beq x 1) ⟨#[100, 101, 115, 116, 114, 111, 121]⟩ (bop (Nat.beq x 2) ⟨#[112, 117, 115, 104]⟩ (bop (Nat.beq x 3) ⟨#[103, 114, 97, 98]⟩ (bop (Nat.beq x 4) ⟨#[100, 114, 97, 103]⟩ (bop (Nat.beq x 5) ⟨#[114, 101, 108, 101, 97, 115, 101]⟩ (bop (Nat.beq x 6) ⟨#[108, 111, 111, 107]⟩ (bop (Nat.beq x 7) ⟨#[110, 101, 97, 114]⟩ (bop (Nat.beq x 8) ⟨#[114, 97, 121]⟩ ⟨#[99, 111, 117, 110, 116]⟩)))))))))
theorem Qz6 {x : Nat} (h : x < 10) : pk x = nmG x := by
 have : x = 0 ∨ x = 1 ∨ x = 2 ∨ x = 3 ∨ x = 4 ∨ x = 5 ∨ x = 6 ∨ x = 7 ∨ x = 8 ∨ x = 9 := by omega
 rcases this with rfl | rfl | rfl | rfl | rfl | rfl | rfl | rfl | rfl | rfl <;> rfl
def pk1 (x : Nat) : ByteArray := (bop (Nat.beq x 0) ⟨#[]⟩ (bop (Nat.beq x 1) ⟨#[115, 112, 97, 119, 110]⟩ (bop (Nat.beq x 2) ⟨#[100, 101, 115, 116, 114, 111, 121]⟩ (bop (Nat.beq x 3) ⟨#[112, 117, 115, 104]⟩ (bop (Nat.beq x 4) ⟨#[103, 114, 97, 98]⟩ (bop (Nat.beq x 5) ⟨#[100, 114, 97, 103]⟩ (bop (Nat.beq x 6) ⟨#[114, 101, 108, 101, 97, 115, 101]⟩ (bop (Nat.beq x 7) ⟨#[108, 111, 111, 107]⟩ (bop (Nat.beq x 8) ⟨#[110, 101, 97, 114]⟩ (bop (Nat.beq x 9) ⟨#[114, 97, 121]⟩ ⟨#[99, 111, 117, 110, 116]⟩))))))))))
theorem Q4w {x : Nat} (h : x < 11) : pk1 x = (emp :: nmA).getD x emp := by
 have : x = 0 ∨ x = 1 ∨ x = 2 ∨ x = 3 ∨ x = 4 ∨ x = 5 ∨ x = 6 ∨ x = 7 ∨ x = 8 ∨ x = 9 ∨ x = 10 := by omega
 rcases this with rfl | rfl | rfl | rfl | rfl | rfl | rfl | rfl | rfl | rfl | rfl <;> rfl
theorem Qmm {s : ByteArray} : ∀ {l : List ByteArray} {x : Nat} (i : Int), x < l.length → (∀ j, j < x → (l.getD j emp == s) = false) → (l.getD x emp == s) = true → Qid s l i = i + x
 | [], x, i, h, _, _ => by simp at h
 | b :: l, 0, i, _, _, h => by
   have h : (b == s) = true := by simpa using h
   simp [Qid, h]
 | b :: l, x + 1, i, hx, hn, h => by
   have h0 : (b == s) = false := by simpa using hn 0 (by omega)
   have := Qmm (s := s) (l := l) (x := x) (i + 1) (by simpa using hx) (fun j hj => by simpa using hn (j + 1) (by omega)) (by simpa using h)
   simp only [Qid, h0, cond_false, this]
   omega
theorem Qk4 {s : ByteArray} : ∀ {l : List ByteArray} (i : Int), (∀ j, j < l.length → (l.getD j emp == s) = false) → Qid s l i = 0
 | [], i, _ => rfl
 | b :: l, i, hn => by
   have h0 : (b == s) = false := by simpa using hn 0 (by simp)
   simp only [Qid, h0, cond_false]
   exact Qk4 (i + 1) fun j hj => by simpa using hn (j + 1) (by simpa using hj)
theorem Qxr : Qb2 Try.prog 57 Qzj := Qlo hm Qax Try.func57 (Λ := fun _ => Qas) fun args p x h hp => by
 unfold Qzj at h
 split at h <;> try (cases h; done)
 cases h
 refine ⟨rfl, rfl, ?_⟩
 exact Eq.mpr (Q86 _) rfl
theorem Qu3 : Qbt Try.prog 58 Qtz := Qc0 hm Qax Try.func58 (Λ := fun _ _ => Qas) fun args bs e hs hp => by
 unfold Qtz at hs
 split at hs <;> try (cases hs; done)
 cases hs
 refine ⟨[], trivial, Eq.mpr Q3b ?_⟩
 refine ⟨rfl, rfl, Nat.le_refl _, fun i hi => ?_⟩
 exact congrArg (fun b => [SV.v (.string b)]) (Q4w hi)
theorem Qx8 : ∀ f g, Zh2 f = some g → g.ok Try.prog f := Qah (Qah Qax (Qdl Try.func57 (by kernel_rfl) (by kernel_rfl) Qxr)) (Qcf Try.func58 (by kernel_rfl) (by kernel_rfl) Qu3)
theorem Q41 {k : Int} {x : Nat} (hx : x < 10) (h : (x : Int) + 1 = k) : Q0c k = nmG x := by
 subst h
 unfold Q0c
 rw [show (decide (1 ≤ (x : Int) + 1) && decide ((x : Int) + 1 ≤ 10)) = true by simp; omega, cond_true, show ((x : Int) + 1).toNat - 1 = x by omega]
theorem Q0b {k : Int} (h : k < 1 ∨ 10 < k) : Q0c k = emp := by
 unfold Q0c
 rw [show (decide (1 ≤ k) && decide (k ≤ 10)) = false by simp; omega]
 rfl
theorem Q1x : Qb2 Try.prog 16 Zaa := Qlo hm Qx8 Try.func16 (Λ := fun args => match args with | [.v (.int _ k)] => Q6c k | _ => Qas) fun args p x h hp => by
 unfold Zaa at h
 split at h <;> try (cases h; done)
 rename_i k
 cases h
 have hk := hp _ rfl
 refine ⟨rfl, rfl, ?_⟩
 refine Eq.mpr (Zfg k _) ⟨⟨0, ⟨by omega, fun j hj => by omega⟩, rfl, trivial⟩, fun x ⟨hx, hn⟩ => Qab (fun hlt => ?_) fun hge => ?_⟩
 · have hlt : x < 10 := by have := of_decide_eq_true hlt; omega
   have hw : IntKind.i64.wrap ((x : Int) + 1) = x + 1 := Qbn ⟨by omega, by omega⟩
   rw [hw]
   refine ⟨⟨by omega, by omega⟩, Qab (fun he => ?_) fun he => ?_⟩
   · have he : (x : Int) + 1 = k := by simpa using he
     rw [Q41 hlt he]
     exact congrArg (fun b => SV.v (.string b)) (Qz6 (x := Int.toNat (x : Int)) (by omega))
   · have he : (x : Int) + 1 ≠ k := by simpa using he
     refine ⟨x + 1, ⟨⟨hlt, fun j hj => ?_⟩, rfl, trivial⟩, by omega⟩
     by_cases h : j = x
     · rw [h]; exact he
     · exact hn j (by omega)
 · have hge : ¬ x < 10 := by have := of_decide_eq_false hge; omega
   rw [Q0b]
   · rfl
   · have : x = 10 := by omega
     subst this
     by_cases h : 1 ≤ k ∧ k ≤ 10
     · exact absurd (show ((k.toNat - 1 : Nat) : Int) + 1 = k by omega) (hn (k.toNat - 1) (by omega))
     · omega
theorem Q1y : Qb2 Try.prog 18 Zab := Qlo hm Qx8 Try.func18 (Λ := fun args => match args with | [.v (.string s)] => Q6d s | _ => Qas) fun args p x h hp => by
 unfold Zab at h
 split at h <;> try (cases h; done)
 rename_i s
 cases h
 refine ⟨rfl, rfl, ?_⟩
 refine Eq.mpr (Zfh s _) ⟨⟨0, ⟨by omega, fun j hj => by omega⟩, rfl, trivial⟩, fun x ⟨hx, hn⟩ => Qab (fun hlt => ?_) fun hge => ?_⟩
 · have hlt : x < 10 := by have := of_decide_eq_true hlt; omega
   have hw : IntKind.i64.wrap ((x : Int) + 1) = x + 1 := Qbn ⟨by omega, by omega⟩
   rw [hw]
   have hp : pk (Int.toNat (x : Int)) = nmG x := Qz6 hlt
   refine ⟨⟨by omega, by omega⟩, Qab (fun he => ?_) fun he => ?_⟩
   · have he : (pk (Int.toNat (x : Int)) == s) = true := he
     rw [hp] at he
     rw [show Zbl s = 1 + (x : Int) from Qmm (l := nmA) 1 hlt hn he, Int.add_comm]
   · have he : (pk (Int.toNat (x : Int)) == s) = false := he
     rw [hp] at he
     refine ⟨x + 1, ⟨⟨hlt, fun j hj => ?_⟩, rfl, trivial⟩, by omega⟩
     by_cases h : j = x
     · rw [h]; exact he
     · exact hn j (by omega)
 · have hge : ¬ x < 10 := by have := of_decide_eq_false hge; omega
   have : x = 10 := by omega
   subst this
   rw [show Zbl s = 0 from Qk4 (l := nmA) 1 hn]
def bG (n : Nat) (g : Nat → Int) (c : Nat) : Blk := { elem := 5, size := 1, rw := true, lock := false, lit := false, flat := true, n := n, row := fun i => [.v (.int .u8 (g i))], ext := c }
def bOk (b : Blk) : Bool := Nat.beq b.elem 5 && Nat.beq b.size 1 && b.rw && !b.dead && b.flat && !b.whole
def Qa8 : SV := .v (.slice none 0 0)
def wB (k : Option Bool) (fl : Bool) (a : SV) : Blk := match k with
 | none => { elem := 106, size := 1, rw := true, lock := false, lit := true, flat := fl, n := 1, row := fun _ => [a], ext := 1, whole := true }
 | some b => { elem := 127, size := 2, rw := true, lock := false, lit := true, flat := fl, n := 1, row := fun _ => [a, .v (.bool b)], ext := 1, whole := true }
def wOk (k : Option Bool) (fl : Bool) (b : Blk) : Bool := match k with
 | none => Nat.beq b.elem 106 && Nat.beq b.size 1 && b.rw && !b.dead && Nat.beq b.n 1 && Nat.beq b.ext 1 && b.whole && (b.flat == fl)
 | some _ => Nat.beq b.elem 127 && Nat.beq b.size 2 && b.rw && !b.dead && Nat.beq b.n 1 && Nat.beq b.ext 1 && b.whole && (b.flat == fl)
inductive WrS where
 | fresh (k : Option Bool)
 | used (k : Option Bool) (n : Nat) (g : Nat → Int) (c : Nat) (p : Prop)
def Qaf (n c : Nat) (D : Blk) : Prop := D.n = n ∧ D.ext = c ∧ n < 70368744177664 ∧ ∀ i, i < n → Qn8 (D.row i)
def Qmt : List Blk → Option WrS
 | [B] => match B.row 0 with
   | [.v (.slice none 0 0)] => bif wOk none true B then some (.fresh none) else none
   | [.v (.slice none 0 0), .v (.bool b)] => bif wOk (some b) true B then some (.fresh (some b)) else none
   | _ => none
 | [B, D] => match B.row 0 with
   | [.sl 1 1 0 n c] => bif wOk none false B && bOk D then some (.used none n (fun i => SE.Qad (D.row i)) c (Qaf n c D)) else none
   | [.sl 1 1 0 n c, .v (.bool b)] => bif wOk (some b) false B && bOk D then some (.used (some b) n (fun i => SE.Qad (D.row i)) c (Qaf n c D)) else none
   | _ => none
 | _ => none
def orK (k : Option Bool) (b : Bool) : Option Bool := match k with
 | none => none
 | some x => some (x || b)
def apG (n : Nat) (g : Nat → Int) (L : List Int) : Nat → Int := fun i => bop (Nat.blt i n) (g i) (L.getD (i - n) 0)
def apE (w : WrS) (m : Nat) (q : Prop) (k : Nat) (L : List Int) (b : Bool) : Eff := match w with
 | .fresh kd => .nd q Nat 0 (fun _ => .tup []) fun c' => [(0, wB (orK kd b) false (.sl 1000 1 0 k (k + c'))), (1000, bG k (fun i => L.getD i 0) (k + c'))]
 | .used kd n g c p => .nd ((p ∧ n ≤ m) ∧ q) Nat 0 (fun _ => .tup []) fun c' => [(0, wB (orK kd b) false (.sl 1000 1 0 (n + k) (n + k + c'))), (1, Qbz (bG n g c)), (1000, bG (n + k) (apG n g L) (n + k + c'))]
def Qlc (n : Int) (k j : Nat) : Int := n / 2 ^ (8 * (k - 1 - j)) % 256
def beT (n : Int) (k i : Nat) : List Int := (List.range i).map (Qlc n k)
def be (n : Int) (k : Nat) : List Int := beT n k k
def kOk (k : Int) : Prop := k = 4 ∨ k = 8
def Zi8 (args : List SV) (bs : List Blk) : Option Eff := match args with
 | [.vp 0 0, .v (.int .u64 n), .v (.int .i64 k)] => match Qmt bs with
   | some w => some (apE w 1099511627776 (U64 n ∧ kOk k) k.toNat (be n k.toNat) false)
   | none => none
 | _ => none
structure PX where
 i : Nat
 c : Nat
noncomputable def Qrx (kd : Option Bool) (n0 : Nat) (g : Nat → Int) (n : Int) (k : Nat) : Nat → Option LoopSpec := Qjs Qas Try.f94 0 PX (fun x => x.i ≤ k ∧ (x.i = 0 ∨ n0 + x.i ≤ x.c)) (fun x => k - x.i) [(8, fun x => .v (.int .i64 x.i))] [(0, fun x => wB kd false (.sl 40 1 0 (n0 + x.i) x.c))] [(40, fun x => bG (n0 + x.i) (apG n0 g (beT n k x.i)) x.c, Qw4 0 0)]
theorem Zfc (n : Int) (k : Nat) : (Qa6 Try.prog Qaq (Qrx none 0 (fun _ => 0) n k) Try.f94 [.vp 0 0,.v (.int .u64 n),.v (.int .i64 (k : Int))] (Qac [wB none true Qa8]) 64 (fun y h' => Qbh [wB none true Qa8] (apE (.fresh none) 0 True k (be n k) false) y h')) =
((∃ x : PX,(((((PX.i x) : Nat) ≤ k)∧(PX.i x = 0 ∨ 0 + PX.i x ≤ PX.c x))∧(((SV.v (.int .i64 0)) = (SV.v (.int .i64 ((↑(PX.i x) : Int)))))∧((((1 : Nat) = 1)∧(((1 : Nat) ≤ 1)∧(((SV.v (Value.slice none 0 0)) = (SV.v (Value.slice none 0 0)))∧(((0 : Nat) = 0)∧((((0 + PX.i x) : Nat) = 0)∧(((PX.c x) : Nat) = 0))))))∧(((((0 + PX.i x) : Nat) = 0)∧((((PX.c x) : Nat) = 0)∧True))∧True)))))∧(∀ x : PX,(((((PX.i x) : Nat) ≤ k)∧(PX.i x = 0 ∨ 0 + PX.i x ≤ PX.c x))→(sel (decide ((↑(PX.i x) : Int) < (↑k : Int))) (((0 : Int) ≤ (IntKind.wrap IntKind.u64 (IntKind.wrap IntKind.i64 (8 * IntKind.wrap IntKind.i64 (IntKind.wrap IntKind.i64 ((↑k : Int) - 1) - (↑(PX.i x) : Int))))))∧((((((0 + PX.i x + 1) * 1) : Nat) ≤ 140737488355328)∧((((0 + PX.c x) : Nat) ≤ (PX.c x))∧(∀ y : Nat,(((y : Nat) < 1)→True))))∧(∀ c : Nat,(∃ x' : PX,((((((PX.i x') : Nat) ≤ k)∧(PX.i x' = 0 ∨ 0 + PX.i x' ≤ PX.c x'))∧(((SV.v (.int .i64 (IntKind.wrap IntKind.i64 ((↑(PX.i x) : Int) + 1)))) = (SV.v (.int .i64 ((↑(PX.i x') : Int)))))∧((((1 : Nat) = 1)∧(((1 : Nat) ≤ 1)∧((SV.sl 224 1 0 (0 + PX.i x + 1) (0 + PX.i x + 1 + c)) = (SV.sl 224 1 0 (0 + PX.i x') (PX.c x')))))∧((((0 + PX.i x + 1) : Nat) = (0 + PX.i x'))∧((((PX.c x') : Nat) ≤ (0 + PX.i x + 1 + c))∧(∀ i : Nat,(((i : Nat) < (0 + PX.i x'))→([(SV.v (.int .u8 (bop (Nat.blt i (0 + PX.i x)) (apG 0 (fun x => 0) (beT n k (PX.i x)) (0 + i)) (IntKind.wrap IntKind.u8 (n / 2 ^ min (Int.toNat (IntKind.wrap IntKind.u64 (IntKind.wrap IntKind.i64 (8 * IntKind.wrap IntKind.i64 (IntKind.wrap IntKind.i64 ((↑k : Int) - 1) - (↑(PX.i x) : Int)))))) 64)))))] = [(SV.v (.int .u8 (apG 0 (fun x => 0) (beT n k (PX.i x')) i)))]))))))))∧(((k - PX.i x') : Nat) < (k - PX.i x))))))) (∃ c : Nat,(True∧((((1 : Nat) = 1)∧(((1 : Nat) ≤ 1)∧((SV.sl 40 1 0 (0 + PX.i x) (PX.c x)) = (SV.sl 40 1 0 k (k + c)))))∧((((0 + PX.i x) : Nat) = k)∧((((k + c) : Nat) ≤ (PX.c x))∧(∀ i : Nat,(((i : Nat) < k)→([(SV.v (.int .u8 (apG 0 (fun x => 0) (beT n k (PX.i x)) i)))] = [(SV.v (.int .u8 (List.getD (be n k) i 0)))])))))))))))) := by kernel_rfl
theorem Zfa (n0 : Nat) (g : Nat→Int) (c : Nat) (n : Int) (k : Nat) : (Qa6 Try.prog Qaq (Qrx none n0 g n k) Try.f94 [.vp 0 0,.v (.int .u64 n),.v (.int .i64 (k : Int))] (Qac [wB none false (.sl 1 1 0 n0 c),bG n0 g c]) 64 (fun y h' => Qbh [wB none false (.sl 1 1 0 n0 c),bG n0 g c] (apE (.used none n0 g c True) 0 True k (be n k) false) y h')) =
((∃ x : PX,(((((PX.i x) : Nat) ≤ k)∧(PX.i x = 0 ∨ n0 + PX.i x ≤ PX.c x))∧(((SV.v (.int .i64 0)) = (SV.v (.int .i64 ((↑(PX.i x) : Int)))))∧((((1 : Nat) = 1)∧(((1 : Nat) ≤ 1)∧((SV.sl 1 1 0 n0 c) = (SV.sl 1 1 0 (n0 + PX.i x) (PX.c x)))))∧(((n0 : Nat) = (n0 + PX.i x))∧((((PX.c x) : Nat) ≤ c)∧(∀ i : Nat,(((i : Nat) < (n0 + PX.i x))→([(SV.v (.int .u8 (g i)))] = [(SV.v (.int .u8 (apG n0 g (beT n k (PX.i x)) i)))])))))))))∧(∀ x : PX,(((((PX.i x) : Nat) ≤ k)∧(PX.i x = 0 ∨ n0 + PX.i x ≤ PX.c x))→(sel (decide ((↑(PX.i x) : Int) < (↑k : Int))) (((0 : Int) ≤ (IntKind.wrap IntKind.u64 (IntKind.wrap IntKind.i64 (8 * IntKind.wrap IntKind.i64 (IntKind.wrap IntKind.i64 ((↑k : Int) - 1) - (↑(PX.i x) : Int))))))∧((((((n0 + PX.i x + 1) * 1) : Nat) ≤ 140737488355328)∧((((0 + PX.c x) : Nat) ≤ (PX.c x))∧(∀ y : Nat,(((y : Nat) < 1)→True))))∧(∀ c_1 : Nat,(∃ x' : PX,((((((PX.i x') : Nat) ≤ k)∧(PX.i x' = 0 ∨ n0 + PX.i x' ≤ PX.c x'))∧(((SV.v (.int .i64 (IntKind.wrap IntKind.i64 ((↑(PX.i x) : Int) + 1)))) = (SV.v (.int .i64 ((↑(PX.i x') : Int)))))∧((((1 : Nat) = 1)∧(((1 : Nat) ≤ 1)∧((SV.sl 224 1 0 (n0 + PX.i x + 1) (n0 + PX.i x + 1 + c_1)) = (SV.sl 224 1 0 (n0 + PX.i x') (PX.c x')))))∧((((n0 + PX.i x + 1) : Nat) = (n0 + PX.i x'))∧((((PX.c x') : Nat) ≤ (n0 + PX.i x + 1 + c_1))∧(∀ i : Nat,(((i : Nat) < (n0 + PX.i x'))→([(SV.v (.int .u8 (bop (Nat.blt i (n0 + PX.i x)) (apG n0 g (beT n k (PX.i x)) (0 + i)) (IntKind.wrap IntKind.u8 (n / 2 ^ min (Int.toNat (IntKind.wrap IntKind.u64 (IntKind.wrap IntKind.i64 (8 * IntKind.wrap IntKind.i64 (IntKind.wrap IntKind.i64 ((↑k : Int) - 1) - (↑(PX.i x) : Int)))))) 64)))))] = [(SV.v (.int .u8 (apG n0 g (beT n k (PX.i x')) i)))]))))))))∧(((k - PX.i x') : Nat) < (k - PX.i x))))))) (∃ c_1 : Nat,(True∧((((1 : Nat) = 1)∧(((1 : Nat) ≤ 1)∧((SV.sl 40 1 0 (n0 + PX.i x) (PX.c x)) = (SV.sl 40 1 0 (n0 + k) (n0 + k + c_1)))))∧((((n0 + PX.i x) : Nat) = (n0 + k))∧((((n0 + k + c_1) : Nat) ≤ (PX.c x))∧(∀ i : Nat,(((i : Nat) < (n0 + k))→([(SV.v (.int .u8 (apG n0 g (beT n k (PX.i x)) i)))] = [(SV.v (.int .u8 (apG n0 g (be n k) i)))])))))))))))) := by kernel_rfl
theorem Ze9 (b : Bool) (n : Int) (k : Nat) : (Qa6 Try.prog Qaq (Qrx (some b) 0 (fun _ => 0) n k) Try.f94 [.vp 0 0,.v (.int .u64 n),.v (.int .i64 (k : Int))] (Qac [wB (some b) true Qa8]) 64 (fun y h' => Qbh [wB (some b) true Qa8] (apE (.fresh (some b)) 0 True k (be n k) false) y h')) =
((∃ x : PX,(((((PX.i x) : Nat) ≤ k)∧(PX.i x = 0 ∨ 0 + PX.i x ≤ PX.c x))∧(((SV.v (.int .i64 0)) = (SV.v (.int .i64 ((↑(PX.i x) : Int)))))∧((((1 : Nat) = 1)∧(((1 : Nat) ≤ 1)∧((((SV.v (Value.slice none 0 0)) = (SV.v (Value.slice none 0 0)))∧(((0 : Nat) = 0)∧((((0 + PX.i x) : Nat) = 0)∧(((PX.c x) : Nat) = 0))))∧((SV.v (.bool b)) = (SV.v (.bool b))))))∧(((((0 + PX.i x) : Nat) = 0)∧((((PX.c x) : Nat) = 0)∧True))∧True)))))∧(∀ x : PX,(((((PX.i x) : Nat) ≤ k)∧(PX.i x = 0 ∨ 0 + PX.i x ≤ PX.c x))→(sel (decide ((↑(PX.i x) : Int) < (↑k : Int))) (((0 : Int) ≤ (IntKind.wrap IntKind.u64 (IntKind.wrap IntKind.i64 (8 * IntKind.wrap IntKind.i64 (IntKind.wrap IntKind.i64 ((↑k : Int) - 1) - (↑(PX.i x) : Int))))))∧((((((0 + PX.i x + 1) * 1) : Nat) ≤ 140737488355328)∧((((0 + PX.c x) : Nat) ≤ (PX.c x))∧(∀ y : Nat,(((y : Nat) < 1)→True))))∧(∀ c : Nat,(∃ x' : PX,((((((PX.i x') : Nat) ≤ k)∧(PX.i x' = 0 ∨ 0 + PX.i x' ≤ PX.c x'))∧(((SV.v (.int .i64 (IntKind.wrap IntKind.i64 ((↑(PX.i x) : Int) + 1)))) = (SV.v (.int .i64 ((↑(PX.i x') : Int)))))∧((((1 : Nat) = 1)∧(((1 : Nat) ≤ 1)∧(((SV.sl 224 1 0 (0 + PX.i x + 1) (0 + PX.i x + 1 + c)) = (SV.sl 224 1 0 (0 + PX.i x') (PX.c x')))∧((SV.v (.bool b)) = (SV.v (.bool b))))))∧((((0 + PX.i x + 1) : Nat) = (0 + PX.i x'))∧((((PX.c x') : Nat) ≤ (0 + PX.i x + 1 + c))∧(∀ i : Nat,(((i : Nat) < (0 + PX.i x'))→([(SV.v (.int .u8 (bop (Nat.blt i (0 + PX.i x)) (apG 0 (fun x => 0) (beT n k (PX.i x)) (0 + i)) (IntKind.wrap IntKind.u8 (n / 2 ^ min (Int.toNat (IntKind.wrap IntKind.u64 (IntKind.wrap IntKind.i64 (8 * IntKind.wrap IntKind.i64 (IntKind.wrap IntKind.i64 ((↑k : Int) - 1) - (↑(PX.i x) : Int)))))) 64)))))] = [(SV.v (.int .u8 (apG 0 (fun x => 0) (beT n k (PX.i x')) i)))]))))))))∧(((k - PX.i x') : Nat) < (k - PX.i x))))))) (∃ c : Nat,(True∧((((1 : Nat) = 1)∧(((1 : Nat) ≤ 1)∧(((SV.sl 40 1 0 (0 + PX.i x) (PX.c x)) = (SV.sl 40 1 0 k (k + c)))∧((SV.v (.bool b)) = (SV.v (.bool (b||false)))))))∧((((0 + PX.i x) : Nat) = k)∧((((k + c) : Nat) ≤ (PX.c x))∧(∀ i : Nat,(((i : Nat) < k)→([(SV.v (.int .u8 (apG 0 (fun x => 0) (beT n k (PX.i x)) i)))] = [(SV.v (.int .u8 (List.getD (be n k) i 0)))])))))))))))) := by kernel_rfl
theorem Zfb (b : Bool) (n0 : Nat) (g : Nat→Int) (c : Nat) (n : Int) (k : Nat) : (Qa6 Try.prog Qaq (Qrx (some b) n0 g n k) Try.f94 [.vp 0 0,.v (.int .u64 n),.v (.int .i64 (k : Int))] (Qac [wB (some b) false (.sl 1 1 0 n0 c),bG n0 g c]) 64 (fun y h' => Qbh [wB (some b) false (.sl 1 1 0 n0 c),bG n0 g c] (apE (.used (some b) n0 g c True) 0 True k (be n k) false) y h')) =
((∃ x : PX,(((((PX.i x) : Nat) ≤ k)∧(PX.i x = 0 ∨ n0 + PX.i x ≤ PX.c x))∧(((SV.v (.int .i64 0)) = (SV.v (.int .i64 ((↑(PX.i x) : Int)))))∧((((1 : Nat) = 1)∧(((1 : Nat) ≤ 1)∧(((SV.sl 1 1 0 n0 c) = (SV.sl 1 1 0 (n0 + PX.i x) (PX.c x)))∧((SV.v (.bool b)) = (SV.v (.bool b))))))∧(((n0 : Nat) = (n0 + PX.i x))∧((((PX.c x) : Nat) ≤ c)∧(∀ i : Nat,(((i : Nat) < (n0 + PX.i x))→([(SV.v (.int .u8 (g i)))] = [(SV.v (.int .u8 (apG n0 g (beT n k (PX.i x)) i)))])))))))))∧(∀ x : PX,(((((PX.i x) : Nat) ≤ k)∧(PX.i x = 0 ∨ n0 + PX.i x ≤ PX.c x))→(sel (decide ((↑(PX.i x) : Int) < (↑k : Int))) (((0 : Int) ≤ (IntKind.wrap IntKind.u64 (IntKind.wrap IntKind.i64 (8 * IntKind.wrap IntKind.i64 (IntKind.wrap IntKind.i64 ((↑k : Int) - 1) - (↑(PX.i x) : Int))))))∧((((((n0 + PX.i x + 1) * 1) : Nat) ≤ 140737488355328)∧((((0 + PX.c x) : Nat) ≤ (PX.c x))∧(∀ y : Nat,(((y : Nat) < 1)→True))))∧(∀ c_1 : Nat,(∃ x' : PX,((((((PX.i x') : Nat) ≤ k)∧(PX.i x' = 0 ∨ n0 + PX.i x' ≤ PX.c x'))∧(((SV.v (.int .i64 (IntKind.wrap IntKind.i64 ((↑(PX.i x) : Int) + 1)))) = (SV.v (.int .i64 ((↑(PX.i x') : Int)))))∧((((1 : Nat) = 1)∧(((1 : Nat) ≤ 1)∧(((SV.sl 224 1 0 (n0 + PX.i x + 1) (n0 + PX.i x + 1 + c_1)) = (SV.sl 224 1 0 (n0 + PX.i x') (PX.c x')))∧((SV.v (.bool b)) = (SV.v (.bool b))))))∧((((n0 + PX.i x + 1) : Nat) = (n0 + PX.i x'))∧((((PX.c x') : Nat) ≤ (n0 + PX.i x + 1 + c_1))∧(∀ i : Nat,(((i : Nat) < (n0 + PX.i x'))→([(SV.v (.int .u8 (bop (Nat.blt i (n0 + PX.i x)) (apG n0 g (beT n k (PX.i x)) (0 + i)) (IntKind.wrap IntKind.u8 (n / 2 ^ min (Int.toNat (IntKind.wrap IntKind.u64 (IntKind.wrap IntKind.i64 (8 * IntKind.wrap IntKind.i64 (IntKind.wrap IntKind.i64 ((↑k : Int) - 1) - (↑(PX.i x) : Int)))))) 64)))))] = [(SV.v (.int .u8 (apG n0 g (beT n k (PX.i x')) i)))]))))))))∧(((k - PX.i x') : Nat) < (k - PX.i x))))))) (∃ c_1 : Nat,(True∧((((1 : Nat) = 1)∧(((1 : Nat) ≤ 1)∧(((SV.sl 40 1 0 (n0 + PX.i x) (PX.c x)) = (SV.sl 40 1 0 (n0 + k) (n0 + k + c_1)))∧((SV.v (.bool b)) = (SV.v (.bool (b||false)))))))∧((((n0 + PX.i x) : Nat) = (n0 + k))∧((((n0 + k + c_1) : Nat) ≤ (PX.c x))∧(∀ i : Nat,(((i : Nat) < (n0 + k))→([(SV.v (.int .u8 (apG n0 g (beT n k (PX.i x)) i)))] = [(SV.v (.int .u8 (apG n0 g (be n k) i)))])))))))))))) := by kernel_rfl
theorem Qw3 {r : List SV} (h : Qn8 r) : r = [.v (.int .u8 (SE.Qad r))] := by
 unfold Qn8 at h
 split at h
 · rfl
 · exact h.elim
theorem Qy9 {n c : Nat} {D : Blk} (h1 : bOk D = true) (h2 : Qaf n c D) : BlkSame D (bG n (fun i => SE.Qad (D.row i)) c) := by
 simp only [bOk, Bool.and_eq_true, Bool.not_eq_true'] at h1
 obtain ⟨⟨⟨⟨⟨a1, a2⟩, a3⟩, a4⟩, a5⟩, a6⟩ := h1
 obtain ⟨b1, b2, _, b4⟩ := h2
 exact ⟨Nat.eq_of_beq_eq_true a2, a3, a5, b1, b2, a4, Nat.eq_of_beq_eq_true a1, a6, fun i hi => Qw3 (b4 i (by omega))⟩
def wRow (k : Option Bool) (a : SV) : List SV := match k with
 | none => [a]
 | some b => [a, .v (.bool b)]
theorem Qql {k : Option Bool} {fl : Bool} {a : SV} {B : Blk} (h1 : wOk k fl B = true) (h2 : B.row 0 = wRow k a) : BlkSame B (wB k fl a) := by
 cases k with
 | none =>
   simp only [wOk, Bool.and_eq_true, Bool.not_eq_true', beq_iff_eq] at h1
   obtain ⟨⟨⟨⟨⟨⟨⟨a1, a2⟩, a3⟩, a4⟩, a5⟩, a6⟩, a7⟩, a8⟩ := h1
   have hn := Nat.eq_of_beq_eq_true a5
   exact ⟨Nat.eq_of_beq_eq_true a2, a3, a8, hn, Nat.eq_of_beq_eq_true a6, a4, Nat.eq_of_beq_eq_true a1, a7, fun i hi => by
     have : i = 0 := by omega
     subst this
     exact h2⟩
 | some b =>
   simp only [wOk, Bool.and_eq_true, Bool.not_eq_true', beq_iff_eq] at h1
   obtain ⟨⟨⟨⟨⟨⟨⟨a1, a2⟩, a3⟩, a4⟩, a5⟩, a6⟩, a7⟩, a8⟩ := h1
   have hn := Nat.eq_of_beq_eq_true a5
   exact ⟨Nat.eq_of_beq_eq_true a2, a3, a8, hn, Nat.eq_of_beq_eq_true a6, a4, Nat.eq_of_beq_eq_true a1, a7, fun i hi => by
     have : i = 0 := by omega
     subst this
     exact h2⟩
theorem Qcl {b : Bool} {α : Type _} {x y : α} (h : (bif b then some x else none) = some y) : b = true ∧ x = y := by
 cases b with
 | true => cases h; exact ⟨rfl, rfl⟩
 | false => cases h
theorem Qdo {bs : List Blk} {k : Option Bool} (h : Qmt bs = some (.fresh k)) : Qc3 bs [wB k true Qa8] := by
 unfold Qmt at h
 split at h
 · rename_i B
   split at h <;> try (cases h; done)
   · rename_i hB
     obtain ⟨h1, h2⟩ := Qcl h
     cases h2
     exact ⟨Qql h1 hB, trivial⟩
   · rename_i b hB
     obtain ⟨h1, h2⟩ := Qcl h
     cases h2
     exact ⟨Qql h1 hB, trivial⟩
 · split at h <;> try (cases h; done)
   all_goals
     obtain ⟨_, h2⟩ := Qcl h
     cases h2
 · cases h
theorem Qdy {bs : List Blk} {k : Option Bool} {n : Nat} {g : Nat → Int} {c : Nat} {p : Prop} (h : Qmt bs = some (.used k n g c p)) (hp : p) : Qc3 bs [wB k false (.sl 1 1 0 n c), bG n g c] ∧ n < 70368744177664 := by
 unfold Qmt at h
 split at h
 · split at h <;> try (cases h; done)
   all_goals
     obtain ⟨_, h2⟩ := Qcl h
     cases h2
 · rename_i B D
   split at h <;> try (cases h; done)
   · rename_i n c' hB
     obtain ⟨h1, h2⟩ := Qcl h
     cases h2
     rw [Bool.and_eq_true] at h1
     exact ⟨⟨Qql h1.1 hB, Qy9 h1.2 hp, trivial⟩, hp.2.2.1⟩
   · rename_i n c' b hB
     obtain ⟨h1, h2⟩ := Qcl h
     cases h2
     rw [Bool.and_eq_true] at h1
     exact ⟨⟨Qql h1.1 hB, Qy9 h1.2 hp, trivial⟩, hp.2.2.1⟩
 · cases h
theorem Qrt (n : Int) (k i : Nat) : beT n k (i + 1) = beT n k i ++ [Qlc n k i] := by
 simp [beT, List.range_succ]
theorem Qup (n : Int) (k i : Nat) : (beT n k i).length = i := by simp [beT]
theorem Qol (n : Int) (k : Nat) : (be n k).length = k := Qup n k k
theorem Qjr {i m : Nat} (h : i < m) : Nat.blt i m = true := Nat.ble_eq_true_of_le h
theorem Qhv {i m : Nat} (h : ¬ i < m) : Nat.blt i m = false := by
 cases hb : Nat.blt i m with
 | false => rfl
 | true => exact absurd (Nat.le_of_ble_eq_true hb) h
theorem Qf4 {n : Nat} {g : Nat → Int} {L : List Int} {i : Nat} (h : i < n) : apG n g L i = g i := by
 unfold apG; rw [Qjr h]; rfl
theorem Qf5 {n : Nat} {g : Nat → Int} {L : List Int} {i : Nat} (h : ¬ i < n) : apG n g L i = L.getD (i - n) 0 := by
 unfold apG; rw [Qhv h]; rfl
theorem Qay {n m : Nat} {g : Nat → Int} {L M : List Int} (hm : m = n + L.length) (i : Nat) : apG m (apG n g L) M i = apG n g (L ++ M) i := by
 subst hm
 by_cases h : i < n
 · rw [Qf4 (by omega), Qf4 h, Qf4 h]
 · rw [Qf5 h]
   by_cases h2 : i < n + L.length
   · rw [Qf4 h2, Qf5 h]
     simp [List.getD, List.getElem?_append_left (show i - n < L.length by omega)]
   · rw [Qf5 h2]
     simp [List.getD, List.getElem?_append_right (show L.length ≤ i - n by omega), Nat.sub_sub]
theorem Qm4 {n : Int} {k i : Nat} (hk : k ≤ 8) (hi : i < k) : 0 ≤ IntKind.u64.wrap (IntKind.i64.wrap (8 * IntKind.i64.wrap (IntKind.i64.wrap ((k : Int) - 1) - (i : Int)))) ∧ IntKind.u8.wrap (n / 2 ^ min (Int.toNat (IntKind.u64.wrap (IntKind.i64.wrap (8 * IntKind.i64.wrap (IntKind.i64.wrap ((k : Int) - 1) - (i : Int)))))) 64) = Qlc n k i := by
 have e1 : IntKind.i64.wrap ((k : Int) - 1) = (k : Int) - 1 := Qbn ⟨by omega, by omega⟩
 have e2 : IntKind.i64.wrap ((k : Int) - 1 - i) = (k : Int) - 1 - i := Qbn ⟨by omega, by omega⟩
 have e3 : IntKind.i64.wrap (8 * ((k : Int) - 1 - i)) = 8 * ((k : Int) - 1 - i) := Qbn ⟨by omega, by omega⟩
 rw [e1, e2, e3, Qgz, Qtm]
 refine ⟨by omega, ?_⟩
 unfold Qlc
 rw [show min (Int.toNat (8 * ((k : Int) - 1 - i) % 18446744073709551616)) 64 = 8 * (k - 1 - i) by omega]
theorem Qm3 (n0 : Nat) (g : Nat → Int) (n : Int) (k x i : Nat) (b : Int) (hi : i < n0 + (x + 1)) (hb : b = Qlc n k x) : bop (Nat.blt i (n0 + x)) (apG n0 g (beT n k x) (0 + i)) b = apG n0 g (beT n k (x + 1)) i := by
 rw [Qrt, ← Qay (m := n0 + x) (by rw [Qup]), hb, Nat.zero_add]
 by_cases h : i < n0 + x
 · rw [Qjr h, Qf4 (n := n0 + x) h]; rfl
 · rw [Qhv h, Qf5 h, show i - (n0 + x) = 0 by omega]; rfl
theorem Q56 (kd : Option Bool) (n0 : Nat) (g : Nat → Int) (c : Nat) (n : Int) (k : Nat) (hl : n0 ≤ 1099511627776) (hk : k ≤ 8) (h1 : 1 ≤ k) :
   Qa6 Try.prog Qaq (Qrx kd n0 g n k) Try.f94 [.vp 0 0, .v (.int .u64 n), .v (.int .i64 (k : Int))] (Qac [wB kd false (.sl 1 1 0 n0 c), bG n0 g c]) 64 (fun y h' => Qbh [wB kd false (.sl 1 1 0 n0 c), bG n0 g c] (apE (.used kd n0 g c True) 0 True k (be n k) false) y h') := by
 cases kd with
 | none =>
   refine Eq.mpr (Zfa n0 g c n k) ⟨⟨⟨0, c⟩, ⟨Nat.zero_le _, .inl rfl⟩, rfl, ⟨rfl, Nat.le_refl _, rfl⟩, rfl, Nat.le_refl _, fun i hi => congrArg (fun z => [SV.v (.int .u8 z)]) (Qf4 hi).symm⟩, fun x ⟨h2, h3⟩ => Qab (fun hlt => ?_) fun hge => ?_⟩
   · have hlt := of_decide_eq_true hlt
     have hb := Qm4 (n := n) hk (show x.i < k by omega)
     have hw : IntKind.i64.wrap ((x.i : Int) + 1) = ((x.i + 1 : Nat) : Int) := Qbn ⟨by omega, by omega⟩
     refine ⟨hb.1, ⟨by omega, by omega, fun _ _ => trivial⟩, fun c' => ⟨⟨x.i + 1, n0 + x.i + 1 + c'⟩, ⟨⟨by show x.i + 1 ≤ k; omega, .inr (by show n0 + (x.i + 1) ≤ n0 + x.i + 1 + c'; omega)⟩, Qin hw, ⟨rfl, Nat.le_refl _, rfl⟩, rfl, Nat.le_refl _, fun i hi => ?_⟩, by show k - (x.i + 1) < k - x.i; omega⟩⟩
     exact congrArg (fun z => [SV.v (.int .u8 z)]) (Qm3 n0 g n k x.i i _ hi hb.2)
   · have hge := of_decide_eq_false hge
     have hx : x.i = k := by omega
     rw [hx] at h3 ⊢
     have h3 : n0 + k ≤ x.c := by omega
     have he : n0 + k + (x.c - (n0 + k)) = x.c := by omega
     refine ⟨x.c - (n0 + k), trivial, ⟨rfl, Nat.le_refl _, by rw [he]⟩, rfl, by omega, fun i hi => rfl⟩
 | some b =>
   refine Eq.mpr (Zfb b n0 g c n k) ⟨⟨⟨0, c⟩, ⟨Nat.zero_le _, .inl rfl⟩, rfl, ⟨rfl, Nat.le_refl _, rfl, rfl⟩, rfl, Nat.le_refl _, fun i hi => congrArg (fun z => [SV.v (.int .u8 z)]) (Qf4 hi).symm⟩, fun x ⟨h2, h3⟩ => Qab (fun hlt => ?_) fun hge => ?_⟩
   · have hlt := of_decide_eq_true hlt
     have hb := Qm4 (n := n) hk (show x.i < k by omega)
     have hw : IntKind.i64.wrap ((x.i : Int) + 1) = ((x.i + 1 : Nat) : Int) := Qbn ⟨by omega, by omega⟩
     refine ⟨hb.1, ⟨by omega, by omega, fun _ _ => trivial⟩, fun c' => ⟨⟨x.i + 1, n0 + x.i + 1 + c'⟩, ⟨⟨by show x.i + 1 ≤ k; omega, .inr (by show n0 + (x.i + 1) ≤ n0 + x.i + 1 + c'; omega)⟩, Qin hw, ⟨rfl, Nat.le_refl _, rfl, rfl⟩, rfl, Nat.le_refl _, fun i hi => ?_⟩, by show k - (x.i + 1) < k - x.i; omega⟩⟩
     exact congrArg (fun z => [SV.v (.int .u8 z)]) (Qm3 n0 g n k x.i i _ hi hb.2)
   · have hge := of_decide_eq_false hge
     have hx : x.i = k := by omega
     rw [hx] at h3 ⊢
     have h3 : n0 + k ≤ x.c := by omega
     have he : n0 + k + (x.c - (n0 + k)) = x.c := by omega
     refine ⟨x.c - (n0 + k), trivial, ⟨rfl, Nat.le_refl _, by rw [he], by rw [Bool.or_false]⟩, rfl, by omega, fun i hi => rfl⟩
theorem Q1r (kd : Option Bool) (n : Int) (k : Nat) (hk : k ≤ 8) (h1 : 1 ≤ k) :
   Qa6 Try.prog Qaq (Qrx kd 0 (fun _ => 0) n k) Try.f94 [.vp 0 0, .v (.int .u64 n), .v (.int .i64 (k : Int))] (Qac [wB kd true Qa8]) 64 (fun y h' => Qbh [wB kd true Qa8] (apE (.fresh kd) 0 True k (be n k) false) y h') := by
 cases kd with
 | none =>
   refine Eq.mpr (Zfc n k) ⟨⟨⟨0, 0⟩, ⟨Nat.zero_le _, .inl rfl⟩, rfl, ⟨rfl, Nat.le_refl _, rfl, rfl, rfl, rfl⟩, ⟨rfl, rfl, trivial⟩, trivial⟩, fun x ⟨h2, h3⟩ => Qab (fun hlt => ?_) fun hge => ?_⟩
   · have hlt := of_decide_eq_true hlt
     have hb := Qm4 (n := n) hk (show x.i < k by omega)
     have hw : IntKind.i64.wrap ((x.i : Int) + 1) = ((x.i + 1 : Nat) : Int) := Qbn ⟨by omega, by omega⟩
     refine ⟨hb.1, ⟨by omega, by omega, fun _ _ => trivial⟩, fun c' => ⟨⟨x.i + 1, 0 + x.i + 1 + c'⟩, ⟨⟨by show x.i + 1 ≤ k; omega, .inr (by show 0 + (x.i + 1) ≤ 0 + x.i + 1 + c'; omega)⟩, Qin hw, ⟨rfl, Nat.le_refl _, rfl⟩, rfl, Nat.le_refl _, fun i hi => ?_⟩, by show k - (x.i + 1) < k - x.i; omega⟩⟩
     exact congrArg (fun z => [SV.v (.int .u8 z)]) (Qm3 0 (fun _ => 0) n k x.i i _ hi hb.2)
   · have hge := of_decide_eq_false hge
     have hx : x.i = k := by omega
     rw [hx] at h3 ⊢
     have h3 : 0 + k ≤ x.c := by omega
     have he : k + (x.c - k) = x.c := by omega
     refine ⟨x.c - k, trivial, ⟨rfl, Nat.le_refl _, by rw [he, Nat.zero_add]⟩, Nat.zero_add k, by omega, fun i hi => ?_⟩
     exact congrArg (fun z => [SV.v (.int .u8 z)]) (Qf5 (n := 0) (Nat.not_lt_zero i))
 | some b =>
   refine Eq.mpr (Ze9 b n k) ⟨⟨⟨0, 0⟩, ⟨Nat.zero_le _, .inl rfl⟩, rfl, ⟨rfl, Nat.le_refl _, ⟨rfl, rfl, rfl, rfl⟩, rfl⟩, ⟨rfl, rfl, trivial⟩, trivial⟩, fun x ⟨h2, h3⟩ => Qab (fun hlt => ?_) fun hge => ?_⟩
   · have hlt := of_decide_eq_true hlt
     have hb := Qm4 (n := n) hk (show x.i < k by omega)
     have hw : IntKind.i64.wrap ((x.i : Int) + 1) = ((x.i + 1 : Nat) : Int) := Qbn ⟨by omega, by omega⟩
     refine ⟨hb.1, ⟨by omega, by omega, fun _ _ => trivial⟩, fun c' => ⟨⟨x.i + 1, 0 + x.i + 1 + c'⟩, ⟨⟨by show x.i + 1 ≤ k; omega, .inr (by show 0 + (x.i + 1) ≤ 0 + x.i + 1 + c'; omega)⟩, Qin hw, ⟨rfl, Nat.le_refl _, rfl, rfl⟩, rfl, Nat.le_refl _, fun i hi => ?_⟩, by show k - (x.i + 1) < k - x.i; omega⟩⟩
     exact congrArg (fun z => [SV.v (.int .u8 z)]) (Qm3 0 (fun _ => 0) n k x.i i _ hi hb.2)
   · have hge := of_decide_eq_false hge
     have hx : x.i = k := by omega
     rw [hx] at h3 ⊢
     have h3 : 0 + k ≤ x.c := by omega
     have he : k + (x.c - k) = x.c := by omega
     refine ⟨x.c - k, trivial, ⟨rfl, Nat.le_refl _, by rw [he, Nat.zero_add], by rw [Bool.or_false]⟩, Nat.zero_add k, by omega, fun i hi => ?_⟩
     exact congrArg (fun z => [SV.v (.int .u8 z)]) (Qf5 (n := 0) (Nat.not_lt_zero i))
theorem Q57 : Qbt Try.prog 94 Zi8 := Qc0 hm Qax Try.func94 (Λ := fun args bs => match args, Qmt bs with | [_, .v (.int _ n), .v (.int _ k)], some (.fresh kd) => Qrx kd 0 (fun _ => 0) n k.toNat | [_, .v (.int _ n), .v (.int _ k)], some (.used kd n0 g _ _) => Qrx kd n0 g n k.toNat | _, _ => Qas) fun args bs e hs hp => by
 unfold Zi8 at hs
 split at hs <;> try (cases hs; done)
 rename_i n k
 split at hs <;> try (cases hs; done)
 rename_i w hw
 cases hs
 cases w with
 | fresh kd =>
   obtain ⟨hn, hk⟩ : U64 n ∧ (k = 4 ∨ k = 8) := hp
   refine ⟨_, Qdo hw, ?_⟩
   rw [hw]
   obtain ⟨m, rfl⟩ : ∃ m : Nat, k = (m : Int) := ⟨k.toNat, by omega⟩
   exact Q1r kd n m (by omega) (by omega)
 | used kd n0 g c p =>
   obtain ⟨⟨hp, hl⟩, hn, hk⟩ : (p ∧ n0 ≤ 1099511627776) ∧ U64 n ∧ (k = 4 ∨ k = 8) := hp
   refine ⟨_, (Qdy hw hp).1, ?_⟩
   rw [hw]
   obtain ⟨m, rfl⟩ : ∃ m : Nat, k = (m : Int) := ⟨k.toNat, by omega⟩
   exact Q56 kd n0 g c n m hl (by omega) (by omega)
structure Arms where
 fb : Bool := false
 fw : Bool := false
 ub : Bool := false
 uw : Bool := true
def Arms.has (a : Arms) : WrS → Bool
 | .fresh none => a.fb
 | .fresh (some _) => a.fw
 | .used none _ _ _ _ => a.ub
 | .used (some _) _ _ _ _ => a.uw
def Qt0 (a : Arms) (m : Nat) (f : List SV → Option (Prop × Nat × List Int × Bool)) (args : List SV) (bs : List Blk) : Option Eff := match args with
 | .vp 0 0 :: rest => match f rest with
   | some (q, k, L, b) => match Qmt bs with
     | some w => bif a.has w then some (apE w m q k L b) else none
     | none => none
   | none => none
 | _ => none
def fB (k : Option Bool) : List Blk := [wB k true Qa8]
def uB (k : Option Bool) (n : Nat) (g : Nat → Int) (c : Nat) : List Blk := [wB k false (.sl 1 1 0 n c), bG n g c]
def Q99 (args : List SV) (bs : List Blk) : Option Eff := match args with
 | [.vp 0 0, .v (.bool ok)] => match Qmt bs with
   | some (.fresh (some b)) => some (.det none (.tup []) [(0, wB (some (b || !ok)) true Qa8)])
   | some (.used (some b) n g c p) => some (.det (some p) (.tup []) [(0, wB (some (b || !ok)) false (.sl 1 1 0 n c)), (1, bG n g c)])
   | _ => none
 | _ => none
def Q0u : List SV → Option (Prop × Nat × List Int × Bool)
 | [.v (.int .i64 n)] => some (I64 n, 1, [n % 256], false)
 | _ => none
def Zbz : List SV → Option (Prop × Nat × List Int × Bool)
 | [.v (.int .i64 n)] => some (I64 n, 4, be (n % 4294967296) 4, false)
 | _ => none
def Qrg : List SV → Option (Prop × Nat × List Int × Bool)
 | [.v (.int .i64 n)] => some (I64 n, 8, be (n % 18446744073709551616) 8, false)
 | _ => none
def Zb3 : List SV → Option (Prop × Nat × List Int × Bool)
 | [.v (.bool b)] => some (True, 1, [bif b then 1 else 0], false)
 | _ => none
def Qal (n most : Int) : Bool := !(decide (0 ≤ n) && decide (n ≤ most))
def Q0t : List SV → Option (Prop × Nat × List Int × Bool)
 | [.v (.int .i64 n), .v (.int .i64 most)] => some (I64 n, 1, [n % 256], Qal n most)
 | _ => none
def Q0v : List SV → Option (Prop × Nat × List Int × Bool)
 | [.v (.int .i64 n)] => some (I64 n, 4, be (n % 4294967296) 4, Qal n 2147483647)
 | _ => none
def Qre : List SV → Option (Prop × Nat × List Int × Bool)
 | [.v (.int .i64 n)] => some (I64 n, 8, be (n % 18446744073709551616) 8, Qal n 1099511627776)
 | _ => none
def M0 : Nat := 1099511627776
def Q7j : Arms := { fw := true }
def Zj7 : Arms := { fb := true }
def Q6l := Qt0 Q7j M0 Q0u
def Q94 := Qt0 Zj7 M0 Zbz
def Qvq := Qt0 {} M0 Qrg
def Zf4 := Qt0 {} M0 Zb3
def Qnt := Qt0 Q7j M0 Q0t
def Q6m := Qt0 {} M0 Q0v
def Qvl := Qt0 {} M0 Qre
def Zem : Qb6 := Qap Qaq 94 (Qca true Zi8)
def Q6f : Qb6 := Qap (Qap (Qap (Qap Zem 95 (Qca true Q6l)) 59 (Qca true Q94)) 101 (Qca true Qvq)) 134 (Qca true Q99)
theorem Q3e (b : Bool) (n : Int) : (Qa6 Try.prog Qaq Qas Try.f95 [.vp 0 0,.v (.int .i64 n)] (Qac (fB (some b))) 64 (fun y h' => Qbh (fB (some b)) (apE (.fresh (some b)) 0 True 1 [n % 256] false) y h')) = (((1 : Nat) ≤ 140737488355328)∧(∀ c : Nat,(∃ c_1 : Nat,(True∧((((1 : Nat) = 1)∧(((1 : Nat) ≤ 1)∧(((SV.sl 128 1 0 1 (1 + c)) = (SV.sl 128 1 0 1 (1 + c_1)))∧((SV.v (.bool b)) = (SV.v (.bool (b||false)))))))∧(((1 : Nat) = 1)∧((((1 + c_1) : Nat) ≤ (1 + c))∧(∀ i : Nat,(((i : Nat) < 1)→([(SV.v (.int .u8 (IntKind.wrap IntKind.u8 n)))] = [(SV.v (.int .u8 (List.getD [n % 256] i 0)))])))))))))):=by kernel_rfl
theorem Q3d (b : Bool) (n0 : Nat) (g : Nat→Int) (c : Nat) (n : Int) : (Qa6 Try.prog Qaq Qas Try.f95 [.vp 0 0,.v (.int .i64 n)] (Qac (uB (some b) n0 g c)) 64 (fun y h' => Qbh (uB (some b) n0 g c) (apE (.used (some b) n0 g c True) 0 True 1 [n % 256] false) y h')) = ((((((n0 + 1) * 1) : Nat) ≤ 140737488355328)∧((((0 + c) : Nat) ≤ c)∧(∀ y : Nat,(((y : Nat) < 1)→True))))∧(∀ c_1 : Nat,(∃ c_2 : Nat,(True∧((((1 : Nat) = 1)∧(((1 : Nat) ≤ 1)∧(((SV.sl 128 1 0 (n0 + 1) (n0 + 1 + c_1)) = (SV.sl 128 1 0 (n0 + 1) (n0 + 1 + c_2)))∧((SV.v (.bool b)) = (SV.v (.bool (b||false)))))))∧((((n0 + 1) : Nat) = (n0 + 1))∧((((n0 + 1 + c_2) : Nat) ≤ (n0 + 1 + c_1))∧(∀ i : Nat,(((i : Nat) < (n0 + 1))→([(SV.v (.int .u8 (bop (Nat.blt i n0) (g (0 + i)) (IntKind.wrap IntKind.u8 n))))] = [(SV.v (.int .u8 (apG n0 g [n % 256] i)))])))))))))):=by kernel_rfl
theorem Q8f (n : Int) : (Qa6 Try.prog Zem Qas Try.f59 [.vp 0 0,.v (.int .i64 n)] (Qac (fB none)) 64 (fun y h' => Qbh (fB none) (apE (.fresh none) 0 True 4 (be (n % 4294967296) 4) false) y h')) = (((U64 (IntKind.wrap IntKind.u64 (IntKind.wrap IntKind.u32 n)))∧(kOk 4))∧(∀ c : Nat,(∃ c_1 : Nat,(True∧((((1 : Nat) = 1)∧(((1 : Nat) ≤ 1)∧((SV.sl 96 1 0 4 (4 + c)) = (SV.sl 96 1 0 4 (4 + c_1)))))∧(((4 : Nat) = 4)∧((((4 + c_1) : Nat) ≤ (4 + c))∧(∀ i : Nat,(((i : Nat) < 4)→([(SV.v (.int .u8 (List.getD (be (IntKind.wrap IntKind.u64 (IntKind.wrap IntKind.u32 n)) 4) i 0)))] = [(SV.v (.int .u8 (List.getD (be (n % 4294967296) 4) i 0)))])))))))))):=by kernel_rfl
theorem Q8e (b : Bool) (n0 : Nat) (g : Nat→Int) (c : Nat) (n : Int) : (Qa6 Try.prog Zem Qas Try.f59 [.vp 0 0,.v (.int .i64 n)] (Qac (uB (some b) n0 g c)) 64 (fun y h' => Qbh (uB (some b) n0 g c) (apE (.used (some b) n0 g c True) 0 True 4 (be (n % 4294967296) 4) false) y h')) = ((((Qaf n0 c {elem:=5,size:=1,rw:=true,lock:=false,lit:=false,flat:=true,n:=n0,row:=fun i => [SV.v (.int .u8 (g i))],ext:=c})∧((n0 : Nat) ≤ 1099511627776))∧((U64 (IntKind.wrap IntKind.u64 (IntKind.wrap IntKind.u32 n)))∧(kOk 4)))∧(∀ c_1 : Nat,(∃ c_2 : Nat,(True∧((((1 : Nat) = 1)∧(((1 : Nat) ≤ 1)∧(((SV.sl 96 1 0 (n0 + 4) (n0 + 4 + c_1)) = (SV.sl 96 1 0 (n0 + 4) (n0 + 4 + c_2)))∧((SV.v (.bool (b||false))) = (SV.v (.bool (b||false)))))))∧((((n0 + 4) : Nat) = (n0 + 4))∧((((n0 + 4 + c_2) : Nat) ≤ (n0 + 4 + c_1))∧(∀ i : Nat,(((i : Nat) < (n0 + 4))→([(SV.v (.int .u8 (apG n0 (fun i => SE.Qad [SV.v (.int .u8 (g i))]) (be (IntKind.wrap IntKind.u64 (IntKind.wrap IntKind.u32 n)) 4) i)))] = [(SV.v (.int .u8 (apG n0 g (be (n % 4294967296) 4) i)))])))))))))):=by kernel_rfl
theorem Qwo (b : Bool) (n0 : Nat) (g : Nat→Int) (c : Nat) (n : Int) : (Qa6 Try.prog Zem Qas Try.f101 [.vp 0 0,.v (.int .i64 n)] (Qac (uB (some b) n0 g c)) 64 (fun y h' => Qbh (uB (some b) n0 g c) (apE (.used (some b) n0 g c True) 0 True 8 (be (n % 18446744073709551616) 8) false) y h')) = ((((Qaf n0 c {elem:=5,size:=1,rw:=true,lock:=false,lit:=false,flat:=true,n:=n0,row:=fun i => [SV.v (.int .u8 (g i))],ext:=c})∧((n0 : Nat) ≤ 1099511627776))∧((U64 (IntKind.wrap IntKind.u64 n))∧(kOk 8)))∧(∀ c_1 : Nat,(∃ c_2 : Nat,(True∧((((1 : Nat) = 1)∧(((1 : Nat) ≤ 1)∧(((SV.sl 88 1 0 (n0 + 8) (n0 + 8 + c_1)) = (SV.sl 88 1 0 (n0 + 8) (n0 + 8 + c_2)))∧((SV.v (.bool (b||false))) = (SV.v (.bool (b||false)))))))∧((((n0 + 8) : Nat) = (n0 + 8))∧((((n0 + 8 + c_2) : Nat) ≤ (n0 + 8 + c_1))∧(∀ i : Nat,(((i : Nat) < (n0 + 8))→([(SV.v (.int .u8 (apG n0 (fun i => SE.Qad [SV.v (.int .u8 (g i))]) (be (IntKind.wrap IntKind.u64 n) 8) i)))] = [(SV.v (.int .u8 (apG n0 g (be (n % 18446744073709551616) 8) i)))])))))))))):=by kernel_rfl
theorem Q85 (b ok : Bool) : (Qa6 Try.prog Qaq Qas Try.f134 [.vp 0 0,.v (.bool ok)] (Qac (fB (some b))) 64 (fun y h' => Qbh (fB (some b)) (.det none (.tup []) [(0,wB (some (b||!ok)) true Qa8)]) y h')) = (sel (!ok) (True∧(((1 : Nat) = 1)∧(((1 : Nat) ≤ 1)∧(∀ i : Nat,(((i : Nat) < 1)→([(SV.v (Value.slice none 0 0)),(SV.v (.bool true))] = [(SV.v (Value.slice none 0 0)),(SV.v (.bool (b||!ok)))])))))) (True∧(((1 : Nat) = 1)∧(((1 : Nat) ≤ 1)∧(∀ i : Nat,(((i : Nat) < 1)→([(SV.v (Value.slice none 0 0)),(SV.v (.bool b))] = [(SV.v (Value.slice none 0 0)),(SV.v (.bool (b||!ok)))]))))))):=by kernel_rfl
theorem Q84 (b ok : Bool) (n0 : Nat) (g : Nat→Int) (c : Nat) : (Qa6 Try.prog Qaq Qas Try.f134 [.vp 0 0,.v (.bool ok)] (Qac (uB (some b) n0 g c)) 64 (fun y h' => Qbh (uB (some b) n0 g c) (.det none (.tup []) [(0,wB (some (b||!ok)) false (.sl 1 1 0 n0 c)),(1,bG n0 g c)]) y h')) = (sel (!ok) (True∧((((1 : Nat) = 1)∧(((1 : Nat) ≤ 1)∧(((SV.sl 1 1 0 n0 c) = (SV.sl 1 1 0 n0 c))∧((SV.v (.bool true)) = (SV.v (.bool (b||!ok)))))))∧(((n0 : Nat) = n0)∧(((c : Nat) ≤ c)∧(∀ i : Nat,(((i : Nat) < n0)→([(SV.v (.int .u8 (g i)))] = [(SV.v (.int .u8 (g i)))]))))))) (True∧((((1 : Nat) = 1)∧(((1 : Nat) ≤ 1)∧(((SV.sl 1 1 0 n0 c) = (SV.sl 1 1 0 n0 c))∧((SV.v (.bool b)) = (SV.v (.bool (b||!ok)))))))∧(((n0 : Nat) = n0)∧(((c : Nat) ≤ c)∧(∀ i : Nat,(((i : Nat) < n0)→([(SV.v (.int .u8 (g i)))] = [(SV.v (.int .u8 (g i)))])))))))):=by kernel_rfl
theorem Q9a (b : Bool) (n0 : Nat) (g : Nat→Int) (c : Nat) (x : Bool) : (Qa6 Try.prog Q6f Qas Try.f102 [.vp 0 0,.v (.bool x)] (Qac (uB (some b) n0 g c)) 64 (fun y h' => Qbh (uB (some b) n0 g c) (apE (.used (some b) n0 g c True) 0 True 1 [bif x then 1 else 0] false) y h')) =
(sel x ((((Qaf n0 c {elem:=5,size:=1,rw:=true,lock:=false,lit:=false,flat:=true,n:=n0,row:=fun i => [SV.v (.int .u8 (g i))],ext:=c})∧((n0 : Nat) ≤ M0))∧(I64 1))∧(∀ c_1 : Nat,(∃ c_2 : Nat,(True∧((((1 : Nat) = 1)∧(((1 : Nat) ≤ 1)∧(((SV.sl 120 1 0 (n0 + 1) (n0 + 1 + c_1)) = (SV.sl 120 1 0 (n0 + 1) (n0 + 1 + c_2)))∧((SV.v (.bool (b||false))) = (SV.v (.bool (b||false)))))))∧((((n0 + 1) : Nat) = (n0 + 1))∧((((n0 + 1 + c_2) : Nat) ≤ (n0 + 1 + c_1))∧(∀ i : Nat,(((i : Nat) < (n0 + 1))→([(SV.v (.int .u8 (apG n0 (fun i => SE.Qad [SV.v (.int .u8 (g i))]) [1] i)))] = [(SV.v (.int .u8 (apG n0 g [bif x then 1 else 0] i)))])))))))))) ((((Qaf n0 c {elem:=5,size:=1,rw:=true,lock:=false,lit:=false,flat:=true,n:=n0,row:=fun i => [SV.v (.int .u8 (g i))],ext:=c})∧((n0 : Nat) ≤ M0))∧(I64 0))∧(∀ c_1 : Nat,(∃ c_2 : Nat,(True∧((((1 : Nat) = 1)∧(((1 : Nat) ≤ 1)∧(((SV.sl 120 1 0 (n0 + 1) (n0 + 1 + c_1)) = (SV.sl 120 1 0 (n0 + 1) (n0 + 1 + c_2)))∧((SV.v (.bool (b||false))) = (SV.v (.bool (b||false)))))))∧((((n0 + 1) : Nat) = (n0 + 1))∧((((n0 + 1 + c_2) : Nat) ≤ (n0 + 1 + c_1))∧(∀ i : Nat,(((i : Nat) < (n0 + 1))→([(SV.v (.int .u8 (apG n0 (fun i => SE.Qad [SV.v (.int .u8 (g i))]) [0] i)))] = [(SV.v (.int .u8 (apG n0 g [bif x then 1 else 0] i)))]))))))))))) := by kernel_rfl
theorem Q2n (b : Bool) (n most : Int) : (Qa6 Try.prog Q6f Qas Try.f118 [.vp 0 0,.v (.int .i64 n),.v (.int .i64 most)] (Qac (fB (some b))) 64 (fun y h' => Qbh (fB (some b)) (apE (.fresh (some b)) 0 True 1 [n % 256] (Qal n most)) y h')) = (sel (decide (n ≥ 0)) ((I64 n)∧(∀ c : Nat,(∃ c_1 : Nat,(True∧((((1 : Nat) = 1)∧(((1 : Nat) ≤ 1)∧(((SV.sl 168 1 0 1 (1 + c)) = (SV.sl 168 1 0 1 (1 + c_1)))∧((SV.v (.bool (b||!decide (n ≤ most)||false))) = (SV.v (.bool (b||Qal n most)))))))∧(((1 : Nat) = 1)∧((((1 + c_1) : Nat) ≤ (1 + c))∧(∀ i : Nat,(((i : Nat) < 1)→([(SV.v (.int .u8 (List.getD [n % 256] i 0)))] = [(SV.v (.int .u8 (List.getD [n % 256] i 0)))])))))))))) ((I64 n)∧(∀ c : Nat,(∃ c_1 : Nat,(True∧((((1 : Nat) = 1)∧(((1 : Nat) ≤ 1)∧(((SV.sl 168 1 0 1 (1 + c)) = (SV.sl 168 1 0 1 (1 + c_1)))∧((SV.v (.bool (b||true||false))) = (SV.v (.bool (b||Qal n most)))))))∧(((1 : Nat) = 1)∧((((1 + c_1) : Nat) ≤ (1 + c))∧(∀ i : Nat,(((i : Nat) < 1)→([(SV.v (.int .u8 (List.getD [n % 256] i 0)))] = [(SV.v (.int .u8 (List.getD [n % 256] i 0)))]))))))))))):=by kernel_rfl
theorem Q2m (b : Bool) (n0 : Nat) (g : Nat→Int) (c : Nat) (n most : Int) : (Qa6 Try.prog Q6f Qas Try.f118 [.vp 0 0,.v (.int .i64 n),.v (.int .i64 most)] (Qac (uB (some b) n0 g c)) 64 (fun y h' => Qbh (uB (some b) n0 g c) (apE (.used (some b) n0 g c True) 0 True 1 [n % 256] (Qal n most)) y h')) =
(sel (decide (n ≥ 0)) ((Qaf n0 c {elem:=5,size:=1,rw:=true,lock:=false,lit:=false,flat:=true,n:=n0,row:=fun i => [SV.v (.int .u8 (g i))],ext:=c})∧((((Qaf n0 c {elem:=5,size:=1,rw:=true,lock:=false,lit:=false,flat:=true,n:=n0,row:=fun i => [SV.v (.int .u8 ((fun i => SE.Qad [SV.v (.int .u8 (g i))]) i))],ext:=c})∧((n0 : Nat) ≤ M0))∧(I64 n))∧(∀ c_1 : Nat,(∃ c_2 : Nat,(True∧((((1 : Nat) = 1)∧(((1 : Nat) ≤ 1)∧(((SV.sl 168 1 0 (n0 + 1) (n0 + 1 + c_1)) = (SV.sl 168 1 0 (n0 + 1) (n0 + 1 + c_2)))∧((SV.v (.bool (b||!decide (n ≤ most)||false))) = (SV.v (.bool (b||Qal n most)))))))∧((((n0 + 1) : Nat) = (n0 + 1))∧((((n0 + 1 + c_2) : Nat) ≤ (n0 + 1 + c_1))∧(∀ i : Nat,(((i : Nat) < (n0 + 1))→([(SV.v (.int .u8 (apG n0 (fun i => SE.Qad [SV.v (.int .u8 ((fun i => SE.Qad [SV.v (.int .u8 (g i))]) i))]) [n % 256] i)))] = [(SV.v (.int .u8 (apG n0 g [n % 256] i)))]))))))))))) ((Qaf n0 c {elem:=5,size:=1,rw:=true,lock:=false,lit:=false,flat:=true,n:=n0,row:=fun i => [SV.v (.int .u8 (g i))],ext:=c})∧((((Qaf n0 c {elem:=5,size:=1,rw:=true,lock:=false,lit:=false,flat:=true,n:=n0,row:=fun i => [SV.v (.int .u8 ((fun i => SE.Qad [SV.v (.int .u8 (g i))]) i))],ext:=c})∧((n0 : Nat) ≤ M0))∧(I64 n))∧(∀ c_1 : Nat,(∃ c_2 : Nat,(True∧((((1 : Nat) = 1)∧(((1 : Nat) ≤ 1)∧(((SV.sl 168 1 0 (n0 + 1) (n0 + 1 + c_1)) = (SV.sl 168 1 0 (n0 + 1) (n0 + 1 + c_2)))∧((SV.v (.bool (b||true||false))) = (SV.v (.bool (b||Qal n most)))))))∧((((n0 + 1) : Nat) = (n0 + 1))∧((((n0 + 1 + c_2) : Nat) ≤ (n0 + 1 + c_1))∧(∀ i : Nat,(((i : Nat) < (n0 + 1))→([(SV.v (.int .u8 (apG n0 (fun i => SE.Qad [SV.v (.int .u8 ((fun i => SE.Qad [SV.v (.int .u8 (g i))]) i))]) [n % 256] i)))] = [(SV.v (.int .u8 (apG n0 g [n % 256] i)))])))))))))))) := by kernel_rfl
theorem Q3m (b : Bool) (n0 : Nat) (g : Nat→Int) (c : Nat) (n : Int) : (Qa6 Try.prog Q6f Qas Try.f96 [.vp 0 0,.v (.int .i64 n)] (Qac (uB (some b) n0 g c)) 64 (fun y h' => Qbh (uB (some b) n0 g c) (apE (.used (some b) n0 g c True) 0 True 4 (be (n % 4294967296) 4) (Qal n 2147483647)) y h')) =
(sel (decide (n ≥ 0)) ((Qaf n0 c {elem:=5,size:=1,rw:=true,lock:=false,lit:=false,flat:=true,n:=n0,row:=fun i => [SV.v (.int .u8 (g i))],ext:=c})∧((((Qaf n0 c {elem:=5,size:=1,rw:=true,lock:=false,lit:=false,flat:=true,n:=n0,row:=fun i => [SV.v (.int .u8 ((fun i => SE.Qad [SV.v (.int .u8 (g i))]) i))],ext:=c})∧((n0 : Nat) ≤ M0))∧(I64 n))∧(∀ c_1 : Nat,(∃ c_2 : Nat,(True∧((((1 : Nat) = 1)∧(((1 : Nat) ≤ 1)∧(((SV.sl 160 1 0 (n0 + 4) (n0 + 4 + c_1)) = (SV.sl 160 1 0 (n0 + 4) (n0 + 4 + c_2)))∧((SV.v (.bool (b||!decide (n ≤ 2147483647)||false))) = (SV.v (.bool (b||Qal n 2147483647)))))))∧((((n0 + 4) : Nat) = (n0 + 4))∧((((n0 + 4 + c_2) : Nat) ≤ (n0 + 4 + c_1))∧(∀ i : Nat,(((i : Nat) < (n0 + 4))→([(SV.v (.int .u8 (apG n0 (fun i => SE.Qad [SV.v (.int .u8 ((fun i => SE.Qad [SV.v (.int .u8 (g i))]) i))]) (be (n % 4294967296) 4) i)))] = [(SV.v (.int .u8 (apG n0 g (be (n % 4294967296) 4) i)))]))))))))))) ((Qaf n0 c {elem:=5,size:=1,rw:=true,lock:=false,lit:=false,flat:=true,n:=n0,row:=fun i => [SV.v (.int .u8 (g i))],ext:=c})∧((((Qaf n0 c {elem:=5,size:=1,rw:=true,lock:=false,lit:=false,flat:=true,n:=n0,row:=fun i => [SV.v (.int .u8 ((fun i => SE.Qad [SV.v (.int .u8 (g i))]) i))],ext:=c})∧((n0 : Nat) ≤ M0))∧(I64 n))∧(∀ c_1 : Nat,(∃ c_2 : Nat,(True∧((((1 : Nat) = 1)∧(((1 : Nat) ≤ 1)∧(((SV.sl 160 1 0 (n0 + 4) (n0 + 4 + c_1)) = (SV.sl 160 1 0 (n0 + 4) (n0 + 4 + c_2)))∧((SV.v (.bool (b||true||false))) = (SV.v (.bool (b||Qal n 2147483647)))))))∧((((n0 + 4) : Nat) = (n0 + 4))∧((((n0 + 4 + c_2) : Nat) ≤ (n0 + 4 + c_1))∧(∀ i : Nat,(((i : Nat) < (n0 + 4))→([(SV.v (.int .u8 (apG n0 (fun i => SE.Qad [SV.v (.int .u8 ((fun i => SE.Qad [SV.v (.int .u8 (g i))]) i))]) (be (n % 4294967296) 4) i)))] = [(SV.v (.int .u8 (apG n0 g (be (n % 4294967296) 4) i)))])))))))))))) := by kernel_rfl
theorem Qwn (b : Bool) (n0 : Nat) (g : Nat→Int) (c : Nat) (n : Int) : (Qa6 Try.prog Q6f Qas Try.f104 [.vp 0 0,.v (.int .i64 n)] (Qac (uB (some b) n0 g c)) 64 (fun y h' => Qbh (uB (some b) n0 g c) (apE (.used (some b) n0 g c True) 0 True 8 (be (n % 18446744073709551616) 8) (Qal n 1099511627776)) y h')) =
(sel (decide (n ≥ 0)) ((Qaf n0 c {elem:=5,size:=1,rw:=true,lock:=false,lit:=false,flat:=true,n:=n0,row:=fun i => [SV.v (.int .u8 (g i))],ext:=c})∧((((Qaf n0 c {elem:=5,size:=1,rw:=true,lock:=false,lit:=false,flat:=true,n:=n0,row:=fun i => [SV.v (.int .u8 ((fun i => SE.Qad [SV.v (.int .u8 (g i))]) i))],ext:=c})∧((n0 : Nat) ≤ M0))∧(I64 n))∧(∀ c_1 : Nat,(∃ c_2 : Nat,(True∧((((1 : Nat) = 1)∧(((1 : Nat) ≤ 1)∧(((SV.sl 160 1 0 (n0 + 8) (n0 + 8 + c_1)) = (SV.sl 160 1 0 (n0 + 8) (n0 + 8 + c_2)))∧((SV.v (.bool (b||!decide (n ≤ 1099511627776)||false))) = (SV.v (.bool (b||Qal n 1099511627776)))))))∧((((n0 + 8) : Nat) = (n0 + 8))∧((((n0 + 8 + c_2) : Nat) ≤ (n0 + 8 + c_1))∧(∀ i : Nat,(((i : Nat) < (n0 + 8))→([(SV.v (.int .u8 (apG n0 (fun i => SE.Qad [SV.v (.int .u8 ((fun i => SE.Qad [SV.v (.int .u8 (g i))]) i))]) (be (n % 18446744073709551616) 8) i)))] = [(SV.v (.int .u8 (apG n0 g (be (n % 18446744073709551616) 8) i)))]))))))))))) ((Qaf n0 c {elem:=5,size:=1,rw:=true,lock:=false,lit:=false,flat:=true,n:=n0,row:=fun i => [SV.v (.int .u8 (g i))],ext:=c})∧((((Qaf n0 c {elem:=5,size:=1,rw:=true,lock:=false,lit:=false,flat:=true,n:=n0,row:=fun i => [SV.v (.int .u8 ((fun i => SE.Qad [SV.v (.int .u8 (g i))]) i))],ext:=c})∧((n0 : Nat) ≤ M0))∧(I64 n))∧(∀ c_1 : Nat,(∃ c_2 : Nat,(True∧((((1 : Nat) = 1)∧(((1 : Nat) ≤ 1)∧(((SV.sl 160 1 0 (n0 + 8) (n0 + 8 + c_1)) = (SV.sl 160 1 0 (n0 + 8) (n0 + 8 + c_2)))∧((SV.v (.bool (b||true||false))) = (SV.v (.bool (b||Qal n 1099511627776)))))))∧((((n0 + 8) : Nat) = (n0 + 8))∧((((n0 + 8 + c_2) : Nat) ≤ (n0 + 8 + c_1))∧(∀ i : Nat,(((i : Nat) < (n0 + 8))→([(SV.v (.int .u8 (apG n0 (fun i => SE.Qad [SV.v (.int .u8 ((fun i => SE.Qad [SV.v (.int .u8 (g i))]) i))]) (be (n % 18446744073709551616) 8) i)))] = [(SV.v (.int .u8 (apG n0 g (be (n % 18446744073709551616) 8) i)))])))))))))))) := by kernel_rfl
theorem Qfp {Γ : Qb6} (hΓ : ∀ f g, Γ f = some g → g.ok Try.prog f) {f : FuncId} {fn : Func} (hf : Try.prog.funcs[f]? = some fn) {a : Arms} {m : Nat} {F : List SV → Option (Prop × Nat × List Int × Bool)} {Λ0 : List SV → Option Bool → Nat → Option LoopSpec} {Λ1 : List SV → Option Bool → Nat → (Nat → Int) → Nat → Nat → Option LoopSpec}
   (h0 : ∀ rest q k L b kd, F rest = some (q, k, L, b) → q → a.has (.fresh kd) = true → Qa6 Try.prog Γ (Λ0 rest kd) fn (.vp 0 0 :: rest) (Qac (fB kd)) 64 (fun y h' => Qbh (fB kd) (apE (.fresh kd) 0 True k L b) y h'))
   (h1 : ∀ rest q k L b kd n g c, F rest = some (q, k, L, b) → q → a.has (.used kd n g c True) = true → n ≤ m → n < 70368744177664 → Qa6 Try.prog Γ (Λ1 rest kd n g c) fn (.vp 0 0 :: rest) (Qac (uB kd n g c)) 64 (fun y h' => Qbh (uB kd n g c) (apE (.used kd n g c True) 0 True k L b) y h')) :
   Qbt Try.prog f (Qt0 a m F) := Qc0 hm hΓ hf (Λ := fun args bs => match args with
     | _ :: rest => match Qmt bs with
       | some (.fresh kd) => Λ0 rest kd
       | some (.used kd n g c _) => Λ1 rest kd n g c
       | none => Qas
     | _ => Qas) fun args bs e hs hp => by
 unfold Qt0 at hs
 split at hs <;> try (cases hs; done)
 rename_i rest
 split at hs <;> try (cases hs; done)
 rename_i q k L b hF
 split at hs <;> try (cases hs; done)
 rename_i w hw
 obtain ⟨ha, he⟩ := Qcl hs
 subst he
 cases w with
 | fresh kd =>
   refine ⟨_, Qdo hw, ?_⟩
   simp only [hw]
   exact h0 rest q k L b kd hF hp ha
 | used kd n g c p =>
   obtain ⟨⟨hp, hl⟩, hq⟩ : (p ∧ n ≤ m) ∧ q := hp
   refine ⟨_, (Qdy hw hp).1, ?_⟩
   simp only [hw]
   refine h1 rest q k L b kd n g c hF hq ?_ hl (Qdy hw hp).2
   cases kd <;> exact ha
theorem Qaa (n : Nat) (g : Nat → Int) (c : Nat) (h : n < 70368744177664) : Qaf n c { elem := 5, size := 1, rw := true, lock := false, lit := false, flat := true, n := n, row := fun i => [SV.v (.int .u8 (g i))], ext := c } :=
 ⟨rfl, rfl, h, fun _ _ => trivial⟩
theorem u8_one (x : Int) (i : Nat) (hi : i < 1) : [SV.v (.int .u8 x)] = [SV.v (.int .u8 ([x].getD i 0))] := by
 have : i = 0 := by omega
 subst this; rfl
theorem Qb9 {a N M c : Nat} {b b' : Bool} {G G' : Nat → Int} (hN : N = M) (hb : b = b') (hG : ∀ i, i < M → G i = G' i) : ∃ c', True ∧ ((1 = 1 ∧ 1 ≤ 1 ∧ SV.sl a 1 0 N (N + c) = SV.sl a 1 0 M (M + c') ∧ SV.v (.bool b) = SV.v (.bool b')) ∧ N = M ∧ M + c' ≤ N + c ∧ ∀ i, i < M → [SV.v (.int .u8 (G i))] = [SV.v (.int .u8 (G' i))]) := by
 subst hN; subst hb
 exact ⟨c, trivial, ⟨rfl, Nat.le_refl _, rfl, rfl⟩, rfl, Nat.le_refl _, fun i hi => by rw [hG i hi]⟩
theorem Zi7 {a N M c : Nat} {G G' : Nat → Int} (hN : N = M) (hG : ∀ i, i < M → G i = G' i) : ∃ c', True ∧ ((1 = 1 ∧ 1 ≤ 1 ∧ SV.sl a 1 0 N (N + c) = SV.sl a 1 0 M (M + c')) ∧ N = M ∧ M + c' ≤ N + c ∧ ∀ i, i < M → [SV.v (.int .u8 (G i))] = [SV.v (.int .u8 (G' i))]) := by
 subst hN
 exact ⟨c, trivial, ⟨rfl, Nat.le_refl _, rfl⟩, rfl, Nat.le_refl _, fun i hi => by rw [hG i hi]⟩
theorem Zhk (n0 : Nat) (g : Nat → Int) (x y : Int) (hxy : x = y) (i : Nat) (hi : i < n0 + 1) : bop (Nat.blt i n0) (g (0 + i)) x = apG n0 g [y] i := by
 subst hxy
 rw [Nat.zero_add]
 by_cases h : i < n0
 · rw [Qjr h, Qf4 h]; rfl
 · rw [Qhv h, Qf5 h, show i - n0 = 0 by omega]; rfl
theorem Zfy (n : Int) : IntKind.u8.wrap n = n % 256 := Qtm n
theorem Zer (n : Int) : IntKind.u64.wrap (IntKind.u32.wrap n) = n % 4294967296 := by rw [Qgz, Q2i]; omega
theorem Qxq : Qbt Try.prog 95 Q6l := Qfp Qax Try.func95 (Λ0 := fun _ _ => Qas) (Λ1 := fun _ _ _ _ _ => Qas)
 (fun rest q k L b kd h hq ha => by
 unfold Q0u at h
 split at h <;> try (cases h; done)
 cases kd with
 | none => cases ha
 | some bd =>
   rename_i n
   cases h
   exact Eq.mpr (Q3e bd n) ⟨by omega, fun c' => Qb9 rfl (Bool.or_false _).symm fun i hi => by
     have : i = 0 := by omega
     subst this
     exact Zfy n⟩)
 (fun rest q k L b kd n0 g c h hq ha hm hn => by
 unfold Q0u at h
 split at h <;> try (cases h; done)
 cases kd with
 | none => cases ha
 | some bd =>
   rename_i n
   cases h
   have hm : n0 ≤ 1099511627776 := hm
   exact Eq.mpr (Q3d bd n0 g c n) ⟨⟨by omega, by omega, fun _ _ => trivial⟩, fun c' => Qb9 rfl (Bool.or_false _).symm fun i hi => Zhk n0 g _ _ (Zfy n) i hi⟩)
theorem Qtl : ∀ f g, Zem f = some g → g.ok Try.prog f := Qah Qax (Qcf Try.func94 (by kernel_rfl) (by kernel_rfl) Q57)
theorem Qsz : Qbt Try.prog 59 Q94 := Qfp Qtl Try.func59 (Λ0 := fun _ _ => Qas) (Λ1 := fun _ _ _ _ _ => Qas)
 (fun rest q k L b kd h hq ha => by
 unfold Zbz at h
 split at h <;> try (cases h; done)
 cases kd with
 | none => 
   rename_i n
   cases h
   refine Eq.mpr (Q8f n) ?_
   rw [Zer]
   exact ⟨⟨⟨by omega, by omega⟩, .inl rfl⟩, fun c' => Zi7 rfl fun i hi => rfl⟩
 | some bd => cases ha)
 (fun rest q k L b kd n0 g c h hq ha hm hn => by
 unfold Zbz at h
 split at h <;> try (cases h; done)
 cases kd with
 | none => cases ha
 | some bd => 
   rename_i n
   cases h
   refine Eq.mpr (Q8e bd n0 g c n) ?_
   rw [Zer]
   exact ⟨⟨⟨Qaa n0 g c hn, hm⟩, ⟨by omega, by omega⟩, .inl rfl⟩, fun c' => Qb9 rfl rfl fun i hi => rfl⟩)
theorem Qs8 : Qbt Try.prog 101 Qvq := Qfp Qtl Try.func101 (Λ0 := fun _ _ => Qas) (Λ1 := fun _ _ _ _ _ => Qas)
 (fun rest q k L b kd h hq ha => by
 unfold Qrg at h
 split at h <;> try (cases h; done)
 cases kd with
 | none => cases ha
 | some bd => cases ha)
 (fun rest q k L b kd n0 g c h hq ha hm hn => by
 unfold Qrg at h
 split at h <;> try (cases h; done)
 cases kd with
 | none => cases ha
 | some bd => 
   rename_i n
   cases h
   refine Eq.mpr (Qwo bd n0 g c n) ?_
   rw [Qgz]
   exact ⟨⟨⟨Qaa n0 g c hn, hm⟩, ⟨by omega, by omega⟩, .inr rfl⟩, fun c' => Qb9 rfl rfl fun i hi => rfl⟩)
theorem Q1w : Qbt Try.prog 134 Q99 := Qc0 hm Qax Try.func134 (Λ := fun _ _ => Qas) fun args bs e hs hp => by
 unfold Q99 at hs
 split at hs <;> try (cases hs; done)
 rename_i ok
 split at hs <;> try (cases hs; done)
 · rename_i b hw
   cases hs
   refine ⟨_, Qdo hw, Eq.mpr (Q85 b ok) (Qab (fun h => ?_) fun h => ?_)⟩
   · rw [h, Bool.or_true]; exact ⟨trivial, rfl, Nat.le_refl _, fun _ _ => rfl⟩
   · rw [h, Bool.or_false]; exact ⟨trivial, rfl, Nat.le_refl _, fun _ _ => rfl⟩
 · rename_i b n0 g c p hw
   cases hs
   refine ⟨_, (Qdy hw (hp _ rfl)).1, Eq.mpr (Q84 b ok n0 g c) (Qab (fun h => ?_) fun h => ?_)⟩
   · rw [h, Bool.or_true]; exact ⟨trivial, ⟨rfl, Nat.le_refl _, rfl, rfl⟩, rfl, Nat.le_refl _, fun _ _ => rfl⟩
   · rw [h, Bool.or_false]; exact ⟨trivial, ⟨rfl, Nat.le_refl _, rfl, rfl⟩, rfl, Nat.le_refl _, fun _ _ => rfl⟩
theorem Qlm : ∀ f g, Q6f f = some g → g.ok Try.prog f := Qah (Qah (Qah (Qah Qtl (Qcf Try.func95 (by kernel_rfl) (by kernel_rfl) Qxq)) (Qcf Try.func59 (by kernel_rfl) (by kernel_rfl) Qsz)) (Qcf Try.func101 (by kernel_rfl) (by kernel_rfl) Qs8)) (Qcf Try.func134 (by kernel_rfl) (by kernel_rfl) Q1w)
theorem Q11 : Qbt Try.prog 102 Zf4 := Qfp Qlm Try.func102 (Λ0 := fun _ _ => Qas) (Λ1 := fun _ _ _ _ _ => Qas)
 (fun rest q k L b kd h hq ha => by
 unfold Zb3 at h
 split at h <;> try (cases h; done)
 cases kd with
 | none => cases ha
 | some bd => cases ha)
 (fun rest q k L b kd n0 g c h hq ha hm hn => by
 unfold Zb3 at h
 split at h <;> try (cases h; done)
 cases kd with
 | none => cases ha
 | some bd => 
   rename_i x
   cases h
   refine Eq.mpr (Q9a bd n0 g c x) (Qab (fun h => ?_) fun h => ?_)
   · rw [h]; exact ⟨⟨⟨Qaa n0 g c hn, hm⟩, ⟨by omega, by omega⟩⟩, fun c' => Qb9 rfl rfl fun i hi => rfl⟩
   · rw [h]; exact ⟨⟨⟨Qaa n0 g c hn, hm⟩, ⟨by omega, by omega⟩⟩, fun c' => Qb9 rfl rfl fun i hi => rfl⟩)
theorem Qm7 {n most : Int} (h : decide (n ≥ 0) = true) (b : Bool) : (b || !decide (n ≤ most) || false) = (b || Qal n most) := by
 unfold Qal
 rw [show decide (0 ≤ n) = true from h, Bool.true_and, Bool.or_false]
theorem Qm6 {n most : Int} (h : decide (n ≥ 0) = false) (b : Bool) : (b || true || false) = (b || Qal n most) := by
 unfold Qal
 rw [show decide (0 ≤ n) = false from h]; simp
theorem Qgl : Qbt Try.prog 118 Qnt := Qfp Qlm Try.func118 (Λ0 := fun _ _ => Qas) (Λ1 := fun _ _ _ _ _ => Qas)
 (fun rest q k L b kd h hq ha => by
 unfold Q0t at h
 split at h <;> try (cases h; done)
 cases kd with
 | none => cases ha
 | some bd => 
   rename_i n most
   cases h
   refine Eq.mpr (Q2n bd n most) (Qab (fun h => ?_) fun h => ?_)
   · exact ⟨hq, fun c' => Qb9 rfl (Qm7 h bd) fun i hi => rfl⟩
   · exact ⟨hq, fun c' => Qb9 rfl (Qm6 h bd) fun i hi => rfl⟩)
 (fun rest q k L b kd n0 g c h hq ha hm hn => by
 unfold Q0t at h
 split at h <;> try (cases h; done)
 cases kd with
 | none => cases ha
 | some bd => 
   rename_i n most
   cases h
   refine Eq.mpr (Q2m bd n0 g c n most) (Qab (fun h => ?_) fun h => ?_)
   · exact ⟨Qaa n0 g c hn, ⟨⟨Qaa n0 g c hn, hm⟩, hq⟩, fun c' => Qb9 rfl (Qm7 h bd) fun i hi => rfl⟩
   · exact ⟨Qaa n0 g c hn, ⟨⟨Qaa n0 g c hn, hm⟩, hq⟩, fun c' => Qb9 rfl (Qm6 h bd) fun i hi => rfl⟩)
theorem Qxv : Qbt Try.prog 96 Q6m := Qfp Qlm Try.func96 (Λ0 := fun _ _ => Qas) (Λ1 := fun _ _ _ _ _ => Qas)
 (fun rest q k L b kd h hq ha => by
 unfold Q0v at h
 split at h <;> try (cases h; done)
 cases kd with
 | none => cases ha
 | some bd => cases ha)
 (fun rest q k L b kd n0 g c h hq ha hm hn => by
 unfold Q0v at h
 split at h <;> try (cases h; done)
 cases kd with
 | none => cases ha
 | some bd => 
   rename_i n
   cases h
   refine Eq.mpr (Q3m bd n0 g c n) (Qab (fun h => ?_) fun h => ?_)
   · exact ⟨Qaa n0 g c hn, ⟨⟨Qaa n0 g c hn, hm⟩, hq⟩, fun c' => Qb9 rfl (Qm7 h bd) fun i hi => rfl⟩
   · exact ⟨Qaa n0 g c hn, ⟨⟨Qaa n0 g c hn, hm⟩, hq⟩, fun c' => Qb9 rfl (Qm6 h bd) fun i hi => rfl⟩)
theorem Qs0 : Qbt Try.prog 104 Qvl := Qfp Qlm Try.func104 (Λ0 := fun _ _ => Qas) (Λ1 := fun _ _ _ _ _ => Qas)
 (fun rest q k L b kd h hq ha => by
 unfold Qre at h
 split at h <;> try (cases h; done)
 cases kd with
 | none => cases ha
 | some bd => cases ha)
 (fun rest q k L b kd n0 g c h hq ha hm hn => by
 unfold Qre at h
 split at h <;> try (cases h; done)
 cases kd with
 | none => cases ha
 | some bd => 
   rename_i n
   cases h
   refine Eq.mpr (Qwn bd n0 g c n) (Qab (fun h => ?_) fun h => ?_)
   · exact ⟨Qaa n0 g c hn, ⟨⟨Qaa n0 g c hn, hm⟩, hq⟩, fun c' => Qb9 rfl (Qm7 h bd) fun i hi => rfl⟩
   · exact ⟨Qaa n0 g c hn, ⟨⟨Qaa n0 g c hn, hm⟩, hq⟩, fun c' => Qb9 rfl (Qm6 h bd) fun i hi => rfl⟩)
def byt (s : ByteArray) : List Int := s.data.toList.map fun b => (b.toNat : Int)
theorem Qmd (s : ByteArray) : (byt s).length = s.size := by unfold byt; rw [List.length_map]; exact Array.length_toList
theorem Qro {s t : ByteArray} (h : byt s = byt t) : s = t := by
 have e : ∀ l m : List UInt8, l.map (fun b => (b.toNat : Int)) = m.map (fun b => (b.toNat : Int)) → l = m := by
   intro l
   induction l with
   | nil => intro m hm; cases m with | nil => rfl | cons _ _ => simp at hm
   | cons a l ih =>
     intro m hm
     cases m with
     | nil => simp at hm
     | cons b m =>
       simp only [List.map_cons, List.cons.injEq] at hm
       rw [ih m hm.2, UInt8.toNat_inj.1 (by omega : a.toNat = b.toNat)]
 obtain ⟨⟨l⟩⟩ := s
 obtain ⟨⟨m⟩⟩ := t
 rw [e l m h]
theorem Qrn {l : List Int} (h : ∀ x ∈ l, 0 ≤ x ∧ x < 256) : byt (strOfNums l) = l := by
 unfold byt strOfNums
 simp only [List.map_map]
 conv => rhs; rw [← List.map_id l]
 refine List.map_congr_left fun x hx => ?_
 obtain ⟨h0, h1⟩ := h x hx
 simp only [Function.comp, id_eq, UInt8.toNat_ofNat']
 omega
theorem Qsu (s : ByteArray) : ∀ x ∈ byt s, 0 ≤ x ∧ x < 256 := fun x hx => by
 unfold byt at hx
 obtain ⟨b, _, rfl⟩ := List.mem_map.1 hx
 have := b.toNat_lt
 omega
theorem Q9m (s : ByteArray) : strOfNums (byt s) = s := Qro (Qrn (Qsu s))
theorem Q06 (s : ByteArray) (i : Nat) : ((s.data.toList.getD i 0).toNat : Int) = (byt s).getD i 0 := by
 unfold byt
 simp only [List.getD, List.getElem?_map]
 cases s.data.toList[i]? <;> rfl
theorem Qul (s : ByteArray) (a b : Nat) : byt (s.extract a b) = ((byt s).take b).drop a := by
 unfold byt
 rw [ByteArray.data_extract, Array.toList_extract]
 simp [List.extract_eq_take_drop, List.map_take, List.map_drop, List.drop_take]
theorem Qo9 (l r : List Int) : strOfNums l ++ strOfNums r = strOfNums (l ++ r) := by
 unfold strOfNums
 apply ByteArray.ext
 rw [ByteArray.data_append]
 simp
theorem Qwh (a b : ByteArray) : (a == b) = true ↔ a = b := by
 obtain ⟨a⟩ := a
 obtain ⟨b⟩ := b
 show (a == b) = true ↔ _
 rw [beq_iff_eq]
 simp
theorem Q37 (l : List Int) : (strOfNums l).size = l.length := by simp [strOfNums, ByteArray.size]
theorem Q9l : strOfNums [] = emp := rfl
theorem Zc7 (s : ByteArray) : s ++ emp = s := by
 apply ByteArray.ext
 rw [ByteArray.data_append]
 simp [emp]
theorem Q1e (s t u : ByteArray) : s ++ t ++ u = s ++ (t ++ u) := by
 apply ByteArray.ext
 simp [ByteArray.data_append]
theorem Q33 (s : ByteArray) (l r : List Int) : s ++ strOfNums l ++ strOfNums r = s ++ strOfNums (l ++ r) := by rw [Q1e, Qo9]
theorem Q38 (s t : ByteArray) : (s ++ t).size = s.size + t.size := by simp
def Qv6 (n : Nat) (g : Nat → Int) : List Int := (List.range n).map g
theorem Qq0 (n : Nat) (g : Nat → Int) : (Qv6 n g).length = n := by simp [Qv6]
theorem Qw0 {n : Nat} {g h : Nat → Int} (e : ∀ i, i < n → g i = h i) : Qv6 n g = Qv6 n h := by
 unfold Qv6
 exact List.map_congr_left fun i hi => e i (List.mem_range.1 hi)
theorem Q0e (n : Nat) (g : Nat → Int) (L : List Int) : Qv6 (n + L.length) (apG n g L) = Qv6 n g ++ L := by
 apply List.ext_getElem
 · simp [Qq0]
 · intro i h1 h2
   rw [Qq0] at h1
   simp only [Qv6, List.getElem_map, List.getElem_range]
   by_cases h : i < n
   · rw [Qf4 h, List.getElem_append_left (by simpa using h)]
     simp
   · rw [Qf5 h, List.getElem_append_right (by simpa using h)]
     simp [List.getD, show i - n < L.length by omega]
theorem Qk0 (L : List Int) : Qv6 L.length (fun i => L.getD i 0) = L := by
 apply List.ext_getElem
 · simp [Qq0]
 · intro i h1 h2
   simp [Qv6, List.getD, h2]
theorem Qkv (n : Nat) (g : Nat → Int) : (Qcd n fun i => [SV.v (.int .u8 (g i))]) = strOfNums (Qv6 n g) := by
 rw [Qm0]
 congr 1
 unfold Qdx Qv6
 rw [List.range_eq_range']
 rfl
theorem Qyz (x : Int) : (Qcd 1 fun _ => [SV.v (.int .u8 x)]) = strOfNums [x] := by rw [Qm0]; rfl
def Qio (s : ByteArray) : SV := bif Nat.beq s.size 0 then .tup [Qe4 emp, .v (.int .i64 7)] else bif Nat.blt 2048 s.size then .tup [Qe4 emp, .v (.int .i64 6)] else .tup [Qe4 (strOfNums (be (s.size : Int) 4) ++ s), .v (.int .i64 0)]
def Qvr : List SV → Option (Option Prop × SV)
 | [.v (.string s)] => some (some (s.size < 4294967296), Qio s)
 | _ => none
def rB (s : ByteArray) (b : Bool) : Blk := { elem := 109, size := 2, rw := true, lock := false, lit := true, flat := true, n := 1, row := fun _ => [.v (.string s), .v (.bool b)], ext := 1, whole := true }
def rOk (b : Blk) : Bool := Nat.beq b.elem 109 && Nat.beq b.size 2 && b.rw && !b.dead && Nat.beq b.n 1 && Nat.beq b.ext 1 && b.whole && b.flat
def Q4e (m : Nat) (f : List SV → Option (Prop × List Int × Bool)) (args : List SV) (bs : List Blk) : Option Eff := match args, bs with
 | .vp 0 0 :: rest, [B] => match f rest, B.row 0 with
   | some (q, L, b), [.v (.string s), .v (.bool b0)] => bif rOk B then some (.det (some (q ∧ s.size ≤ m)) (.tup []) [(0, rB (s ++ strOfNums L) (b0 || b))]) else none
   | _, _ => none
 | _, _ => none
def Qud : List SV → Option (Prop × List Int × Bool)
 | [.v (.int .u64 n), .v (.int .i64 k)] => some (U64 n ∧ 0 ≤ k ∧ k ≤ 8, be n k.toNat, false)
 | _ => none
noncomputable def Qve (s : ByteArray) (b : Bool) (n : Int) (k : Nat) : Nat → Option LoopSpec := Qme Qas Try.f60 0 Nat (fun i => i ≤ k) (fun i => k - i) [(6, fun i => .v (.int .i64 ((k : Int) - 1 - i)))] [(0, fun i => rB (s ++ strOfNums (beT n k i)) b)]
def ΓD0 : Qb6 := Qap (Qap Q6f 59 (Qca true Q94)) 60 (Qca true (Q4e M0 Qud))
theorem Q88 (s : ByteArray) (R : SV→Prop) : (Qeu Try.prog ΓD0 Qas Try.f21 [.v (.string s)] R) = (sel ((↑(ByteArray.size s) : Int) == 0) (R (SV.tup [(SV.v (.string ({data:=#[]}))),(SV.v (.int .i64 7))])) (sel (decide ((↑(ByteArray.size s) : Int) > 2048)) (R (SV.tup [(SV.v (.string ({data:=#[]}))),(SV.v (.int .i64 6))])) ((I64 (↑(ByteArray.size s) : Int))∧(∀ c : Nat,((((((4 + ByteArray.size s) * 1) : Nat) ≤ 140737488355328)∧((((0 + (4 + c)) : Nat) ≤ (4 + c))∧(∀ y : Nat,(((y : Nat) < (ByteArray.size s))→True))))∧(∀ c_1 : Nat,((∀ y : Nat,(((y : Nat) < (4 + ByteArray.size s))→True))∧(R (SV.tup [(SV.v (.string (Qcd (4 + ByteArray.size s) fun y => [SV.v (.int .u8 (bop (Nat.blt (0 + y) 4) ((fun i => List.getD (be ((↑(ByteArray.size s) : Int) % 4294967296) 4) i 0) (0 + (0 + y))) (↑(UInt8.toNat (List.getD (Array.toList (ByteArray.data s)) (0 + y - 4) 0)) : Int)))]))),(SV.v (.int .i64 0))]))))))))):=by kernel_rfl
theorem Q3c (s : ByteArray) (b : Bool) (n : Int) (k : Nat) : (Qa6 Try.prog Qaq (Qve s b n k) Try.f60 [.vp 0 0,.v (.int .u64 n),.v (.int .i64 (k : Int))] (Qac [rB s b]) 64 (fun y h' => Qbh [rB s b] (.det none (.tup []) [(0,rB (s++strOfNums (be n k)) (b||false))]) y h')) =
((∃ x : Nat,((Nat.le x k)∧(((SV.v (.int .i64 (IntKind.wrap IntKind.i64 ((↑k : Int) - 1)))) = (SV.v (.int .i64 ((↑k : Int) - 1 - (↑x : Int)))))∧(((1 : Nat) = 1)∧(((1 : Nat) ≤ 1)∧(∀ i : Nat,(((i : Nat) < 1)→([(SV.v (.string s)),(SV.v (.bool b))] = [(SV.v (.string (s++strOfNums (beT n k x)))),(SV.v (.bool b))]))))))))∧(∀ x : Nat,((Nat.le x k)→(sel (decide ((↑k : Int) - 1 - (↑x : Int) ≥ 0)) (((0 : Int) ≤ (IntKind.wrap IntKind.u64 (IntKind.wrap IntKind.i64 (8 * ((↑k : Int) - 1 - (↑x : Int))))))∧((∀ y : Nat,(((y : Nat) < 1)→True))∧(((((↑(ByteArray.size (s++strOfNums (beT n k x)) + 1) : Int)) : Int) ≤ 9223372036854775807)∧(∃ x' : Nat,(((Nat.le x' k)∧(((SV.v (.int .i64 (IntKind.wrap IntKind.i64 ((↑k : Int) - 1 - (↑x : Int) - 1)))) = (SV.v (.int .i64 ((↑k : Int) - 1 - (↑x' : Int)))))∧(((1 : Nat) = 1)∧(((1 : Nat) ≤ 1)∧(∀ i : Nat,(((i : Nat) < 1)→([(SV.v (.string (s++strOfNums (beT n k x)++Qcd 1 fun y => [SV.v (.int .u8 (IntKind.wrap IntKind.u8 (n / 2 ^ min (Int.toNat (IntKind.wrap IntKind.u64 (IntKind.wrap IntKind.i64 (8 * ((↑k : Int) - 1 - (↑x : Int)))))) 64)))]))),(SV.v (.bool b))] = [(SV.v (.string (s++strOfNums (beT n k x')))),(SV.v (.bool b))])))))))∧(((k - x') : Nat) < (k - x))))))) (True∧(((1 : Nat) = 1)∧(((1 : Nat) ≤ 1)∧(∀ i : Nat,(((i : Nat) < 1)→([(SV.v (.string (s++strOfNums (beT n k x)))),(SV.v (.bool b))] = [(SV.v (.string (s++strOfNums (be n k)))),(SV.v (.bool (b||false)))])))))))))) := by kernel_rfl
theorem Q10 (s : ByteArray) : (Qcd (4 + s.size) fun y => [SV.v (.int .u8 (bop (Nat.blt (0 + y) 4) ((be ((s.size : Int) % 4294967296) 4).getD (0 + (0 + y)) 0) ((s.data.toList.getD (0 + y - 4) 0).toNat : Int)))]) = strOfNums (be ((s.size : Int) % 4294967296) 4) ++ s := by
 have hl : (be ((s.size : Int) % 4294967296) 4).length = 4 := Qol _ _
 generalize be ((s.size : Int) % 4294967296) 4 = L at hl ⊢
 have hs : strOfNums L ++ s = strOfNums (L ++ byt s) := by rw [← Qo9, Q9m]
 rw [hs, Qkv]
 congr 1
 have := Q0e 4 (fun i => L.getD i 0) (byt s)
 rw [Qmd] at this
 have h4 : Qv6 4 (fun i => L.getD i 0) = L := by
   have := Qk0 L
   rw [hl] at this
   exact this
 rw [h4] at this
 rw [← this]
 refine Qw0 fun i _ => ?_
 simp only [Nat.zero_add]
 unfold apG
 rw [Q06]
theorem Q4p {B : Blk} {s : ByteArray} {b : Bool} (h1 : rOk B = true) (h2 : B.row 0 = [.v (.string s), .v (.bool b)]) : BlkSame B (rB s b) := by
 simp only [rOk, Bool.and_eq_true, Bool.not_eq_true'] at h1
 obtain ⟨⟨⟨⟨⟨⟨⟨a1, a2⟩, a3⟩, a4⟩, a5⟩, a6⟩, a7⟩, a8⟩ := h1
 have hn := Nat.eq_of_beq_eq_true a5
 exact ⟨Nat.eq_of_beq_eq_true a2, a3, a8, hn, Nat.eq_of_beq_eq_true a6, a4, Nat.eq_of_beq_eq_true a1, a7, fun i hi => by
   have : i = 0 := by omega
   subst this
   exact h2⟩
theorem Qz0 {Γ : Qb6} (hΓ : ∀ f g, Γ f = some g → g.ok Try.prog f) {f : FuncId} {fn : Func} (hf : Try.prog.funcs[f]? = some fn) {m : Nat} {F : List SV → Option (Prop × List Int × Bool)} {Λ : List SV → ByteArray → Bool → Nat → Option LoopSpec}
   (h : ∀ rest q L b s b0, F rest = some (q, L, b) → q → s.size ≤ m → Qa6 Try.prog Γ (Λ rest s b0) fn (.vp 0 0 :: rest) (Qac [rB s b0]) 64 (fun y h' => Qbh [rB s b0] (.det none (.tup []) [(0, rB (s ++ strOfNums L) (b0 || b))]) y h')) :
   Qbt Try.prog f (Q4e m F) := Qc0 hm hΓ hf (Λ := fun args bs => match args, bs with
     | _ :: rest, [B] => match B.row 0 with
       | [.v (.string s), .v (.bool b0)] => Λ rest s b0
       | _ => Qas
     | _, _ => Qas) fun args bs e hs hp => by
 unfold Q4e at hs
 split at hs <;> try (cases hs; done)
 rename_i rest B
 split at hs <;> try (cases hs; done)
 rename_i q L b s b0 hF hB
 obtain ⟨ha, he⟩ := Qcl hs
 subst he
 obtain ⟨hq, hm⟩ := hp _ rfl
 refine ⟨[rB s b0], ⟨Q4p ha hB, trivial⟩, ?_⟩
 simp only [hB]
 exact h rest q L b s b0 hF hq hm
theorem Qu4 : Qbt Try.prog 60 (Q4e M0 Qud) := Qz0 Qax Try.func60 (Λ := fun rest s b0 => match rest with | [.v (.int _ n), .v (.int _ k)] => Qve s b0 n k.toNat | _ => Qas) fun rest q L b s b0 h hq hm => by
 unfold Qud at h
 split at h <;> try (cases h; done)
 rename_i n k
 cases h
 obtain ⟨hn, hk0, hk⟩ := hq
 have hm : s.size ≤ 1099511627776 := hm
 obtain ⟨k, rfl⟩ : ∃ m : Nat, k = (m : Int) := ⟨k.toNat, by omega⟩
 rw [Int.toNat_natCast]
 refine Eq.mpr (Q3c s b0 n k) ⟨⟨0, Nat.zero_le _, Qin (by rw [Qbn ⟨by omega, by omega⟩]; omega), rfl, Nat.le_refl _, fun i _ => ?_⟩, fun x hx => Qab (fun hlt => ?_) fun hge => ?_⟩
 · rw [show beT n k 0 = [] by simp [beT], Q9l, Zc7]
 · have hx : x ≤ k := hx
   have hlt := of_decide_eq_true hlt
   have hlt : x < k := by omega
   have e3 : IntKind.i64.wrap (8 * ((k : Int) - 1 - x)) = 8 * ((k : Int) - 1 - x) := Qbn ⟨by omega, by omega⟩
   have e4 : IntKind.i64.wrap ((k : Int) - 1 - x - 1) = (k : Int) - 1 - x - 1 := Qbn ⟨by omega, by omega⟩
   rw [e3, e4, Qgz, Qtm]
   refine ⟨by omega, fun _ _ => trivial, ?_, x + 1, ⟨hlt, Qin (by omega), rfl, Nat.le_refl _, fun i _ => ?_⟩, by omega⟩
   · rw [Q38, Q37, Qup]; omega
   · rw [Qyz, Q33, Qrt]
     unfold Qlc
     rw [show min (Int.toNat (8 * ((k : Int) - 1 - x) % 18446744073709551616)) 64 = 8 * (k - 1 - x) by omega]
 · have hx : x ≤ k := hx
   have hge := of_decide_eq_false hge
   have hx : x = k := by omega
   subst hx
   exact ⟨trivial, rfl, Nat.le_refl _, fun i _ => by rw [Bool.or_false]; rfl⟩
theorem Q78 : ∀ f g, ΓD0 f = some g → g.ok Try.prog f := Qah (Qah Qlm (Qcf Try.func59 (by kernel_rfl) (by kernel_rfl) Qsz)) (Qcf Try.func60 (by kernel_rfl) (by kernel_rfl) Qu4)
theorem Qw5 {s : ByteArray} (h : s.size = 0) : Qio s = .tup [Qe4 emp, .v (.int .i64 7)] := by
 unfold Qio
 rw [h]; rfl
theorem Qub {s : ByteArray} (h : 2048 < s.size) : Qio s = .tup [Qe4 emp, .v (.int .i64 6)] := by
 unfold Qio
 rw [Go.SE.Qb4 (by omega : s.size ≠ 0), cond_false, Qjr h, cond_true]
theorem Q0p {s : ByteArray} (h : s.size ≠ 0) (h2 : ¬ 2048 < s.size) : Qio s = .tup [Qe4 (strOfNums (be (s.size : Int) 4) ++ s), .v (.int .i64 0)] := by
 unfold Qio
 rw [Go.SE.Qb4 h, cond_false, Qhv h2, cond_false]
theorem Qsn (s : ByteArray) : Qf0 (Qio s) = true := by
 unfold Qio
 cases Nat.beq s.size 0 with
 | true => rfl
 | false =>
   cases Nat.blt 2048 s.size <;> rfl
theorem Qxs : Qb2 Try.prog 21 Qvr := Qlo hm Q78 Try.func21 (Λ := fun _ => Qas) fun args p x h hp => by
 unfold Qvr at h
 split at h <;> try (cases h; done)
 rename_i s
 cases h
 have hs : s.size < 4294967296 := hp _ rfl
 refine ⟨rfl, Qsn s, Eq.mpr (Q88 s _) (Qab (fun h => ?_) fun h => Qab (fun h2 => ?_) fun h2 => ?_)⟩
 · have h : s.size = 0 := by simpa using h
   rw [Qw5 h]; rfl
 · have h2 := of_decide_eq_true h2
   rw [Qub (by omega)]; rfl
 · have h : s.size ≠ 0 := by simpa using h
   have h2 := of_decide_eq_false h2
   have e : (s.size : Int) % 4294967296 = s.size := by omega
   refine ⟨⟨by omega, by omega⟩, fun c => ⟨⟨by omega, by omega, fun _ _ => trivial⟩, fun c' => ⟨fun _ _ => trivial, ?_⟩⟩⟩
   rw [Q0p h (by omega)]
   have := Q10 s
   simp only [e] at this ⊢
   exact congrArg (fun z => SV.tup [SV.v (.string z), SV.v (.int .i64 0)]) this
def iV (n : Int) : SV := .v (.int .i64 n)
def bV (b : Bool) : SV := .v (.bool b)
abbrev zI : SV := .v (.int .i64 0)
abbrev zF : SV := .v (.bool false)
abbrev zS : SV := .v (.slice none 0 0)
abbrev yI (n : Int) : SV := .v (.int .i64 n)
abbrev yF (b : Bool) : SV := .v (.bool b)
abbrev yU (n : Int) : SV := .v (.int .u8 n)
def flB (b : Bool) : List Int := [bif b then 1 else 0]
def i8 (n : Int) : List Int := be (n % 18446744073709551616) 8
def c4 (n : Int) : List Int := be (n % 4294967296) 4
def Qbq (n : Int) : Bool := n == -9223372036854775808
def Qdu (v : Int) (f : Bool) : List Int := i8 v ++ flB f
def Qe3 (xv : Int) (xf : Bool) (yv : Int) (yf : Bool) : List Int := Qdu xv xf ++ Qdu yv yf
theorem Qi6 (n : Int) : (i8 n).length = 8 := Qol _ _
theorem Zg8 (n : Int) : (c4 n).length = 4 := Qol _ _
theorem Qbl (b : Bool) : (flB b).length = 1 := rfl
theorem Q40 (v : Int) (f : Bool) : (Qdu v f).length = 9 := by simp [Qdu, Qi6, Qbl]
def Qn7 (r : List SV) : Prop := match r with
 | [.v (.int .i64 v), .v (.bool _)] => I64 v
 | _ => False
def nV (r : List SV) : Int := match r with | [.v (.int _ v), _] => v | _ => 0
def nF (r : List SV) : Bool := match r with | [_, .v (.bool f)] => f | _ => false
def Qft (v : Nat → Int) (f : Nat → Bool) : Nat → List Int
 | 0 => []
 | n + 1 => Qft v f n ++ Qdu (v n) (f n)
def Qbv (v : Nat → Int) : Nat → Bool
 | 0 => false
 | n + 1 => Qbv v n || Qbq (v n)
def Zed (e n' : Nat) (v : Nat → Int) (f : Nat → Bool) : Blk := { elem := e, size := 2, rw := false, lock := false, lit := false, flat := true, n := n', row := fun i => [.v (.int .i64 (v i)), .v (.bool (f i))], ext := 0 }
def Qr8 (S : Blk) : Bool := S.flat && !S.rw && !S.dead && Nat.beq S.size 2 && Nat.beq S.ext 0 && !S.whole
def Qht (r : List SV) : Prop := match r with
 | [.v (.int .i64 x), .v (.int .i64 y)] => I64 x ∧ I64 y
 | _ => False
def pX (r : List SV) : Int := match r with | [.v (.int _ x), _] => x | _ => 0
def pY (r : List SV) : Int := match r with | [_, .v (.int _ y)] => y | _ => 0
def Qc8 (x y : Nat → Int) : Nat → List Int
 | 0 => []
 | n + 1 => Qc8 x y n ++ (i8 (x n) ++ i8 (y n))
def spB (e n' : Nat) (x y : Nat → Int) : Blk := { elem := e, size := 2, rw := false, lock := false, lit := false, flat := true, n := n', row := fun i => [.v (.int .i64 (x i)), .v (.int .i64 (y i))], ext := 0 }
def NB0 : Nat := 1000000000
def Q98 (args : List SV) (bs : List Blk) : Option Eff := match args, bs with
 | [.vp 0 0, .sl 2 2 0 n _], [B, D, S] => match Qmt [B, D] with
   | some (.used (some b) n0 g c p) => bif Qr8 S then some (apE (.used (some b) n0 g c p) NB0 (S.n = n ∧ 1 ≤ n ∧ n ≤ 100 ∧ ∀ i, i < n → Qn7 (S.row i)) (9 * n) (Qft (fun i => nV (S.row i)) (fun i => nF (S.row i)) n) (Qbv (fun i => nV (S.row i)) n)) else none
   | _ => none
 | _, _ => none
structure NX where
 i : Nat
 c : Nat
noncomputable def Qx7 (b : Bool) (n0 : Nat) (g : Nat → Int) (n : Nat) (v : Nat → Int) (f : Nat → Bool) : Nat → Option LoopSpec := Qjs Qas Try.f100 0 NX (fun x => x.i ≤ n ∧ (x.i = 0 ∨ n0 + 9 * x.i ≤ x.c)) (fun x => n - x.i) [(8, fun x => .v (.int .i64 x.i))] [(0, fun x => wB (some (b || Qbv v x.i)) false (.sl 40 1 0 (n0 + 9 * x.i) x.c))] [(40, fun x => bG (n0 + 9 * x.i) (apG n0 g (Qft v f x.i)) x.c, Qw4 0 0)]
def Zhu : Qb6 := Qap Q6f 102 (Qca true Zf4)
theorem Zfe (b : Bool) (n0 : Nat) (g : Nat→Int) (c n e n' c' : Nat) (v : Nat→Int) (f : Nat→Bool) : (Qa6 Try.prog Zhu (Qx7 b n0 g n v f) Try.f100 [.vp 0 0,.sl 2 2 0 n c'] (Qac [wB (some b) false (.sl 1 1 0 n0 c),bG n0 g c,Zed e n' v f]) 64 (fun y h' => Qbh [wB (some b) false (.sl 1 1 0 n0 c),bG n0 g c,Zed e n' v f] (apE (.used (some b) n0 g c True) 0 True (9 * n) (Qft v f n) (Qbv v n)) y h')) =
((∃ x : NX,(((((NX.i x) : Nat) ≤ n)∧(NX.i x = 0 ∨ n0 + 9 * NX.i x ≤ NX.c x))∧((zI = (yI ((↑(NX.i x) : Int))))∧((((1 : Nat) = 1)∧(((1 : Nat) ≤ 1)∧(((SV.sl 1 1 0 n0 c) = (SV.sl 1 1 0 (n0 + 9 * NX.i x) (NX.c x)))∧((yF b) = (yF (b||Qbv v (NX.i x)))))))∧(((n0 : Nat) = (n0 + 9 * NX.i x))∧((((NX.c x) : Nat) ≤ c)∧(∀ i : Nat,(((i : Nat) < (n0 + 9 * NX.i x))→([(yU (g i))] = [(yU (apG n0 g (Qft v f (NX.i x)) i))])))))))))∧(∀ x : NX,(((((NX.i x) : Nat) ≤ n)∧(NX.i x = 0 ∨ n0 + 9 * NX.i x ≤ NX.c x))→(sel (decide ((↑(NX.i x) : Int) < (↑n : Int))) ((((0 : Int) ≤ ((↑(NX.i x) : Int)))∧((((↑(NX.i x) : Int)) : Int) < ((↑n : Int))))∧((Qaf (n0 + 9 * NX.i x) (NX.c x) {elem:=5,size:=1,rw:=true,lock:=false,lit:=false,flat:=true,n:=n0 + 9 * NX.i x,row:=fun i => [yU (apG n0 g (Qft v f (NX.i x)) i)],ext:=NX.c x})∧((((Qaf (n0 + 9 * NX.i x) (NX.c x) {elem:=5,size:=1,rw:=true,lock:=false,lit:=false,flat:=true,n:=n0 + 9 * NX.i x,row:=fun i => [yU ((fun i => SE.Qad [yU (apG n0 g (Qft v f (NX.i x)) i)]) i)],ext:=NX.c x})∧(((n0 + 9 * NX.i x) : Nat) ≤ M0))∧(I64 (v (0 + Int.toNat (↑(NX.i x) : Int)))))∧(∀ c_1 : Nat,((((Qaf (n0 + 9 * NX.i x + 8) (n0 + 9 * NX.i x + 8 + c_1) {elem:=5,size:=1,rw:=true,lock:=false,lit:=false,flat:=true,n:=n0 + 9 * NX.i x + 8,row:=fun i => [yU (apG (n0 + 9 * NX.i x) (fun i => SE.Qad [yU ((fun i => SE.Qad [yU (apG n0 g (Qft v f (NX.i x)) i)]) i)]) (be (v (0 + Int.toNat (↑(NX.i x) : Int)) % 18446744073709551616) 8) i)],ext:=n0 + 9 * NX.i x + 8 + c_1})∧(((n0 + 9 * NX.i x + 8) : Nat) ≤ M0))∧True)∧(∀ c_2 : Nat,(∃ x' : NX,((((((NX.i x') : Nat) ≤ n)∧(NX.i x' = 0 ∨ n0 + 9 * NX.i x' ≤ NX.c x'))∧(((yI (IntKind.wrap IntKind.i64 ((↑(NX.i x) : Int) + 1))) = (yI ((↑(NX.i x') : Int))))∧((((1 : Nat) = 1)∧(((1 : Nat) ≤ 1)∧(((SV.sl 240 1 0 (n0 + 9 * NX.i x + 8 + 1) (n0 + 9 * NX.i x + 8 + 1 + c_2)) = (SV.sl 240 1 0 (n0 + 9 * NX.i x') (NX.c x')))∧((yF (b||Qbv v (NX.i x)||!v (0 + Int.toNat (↑(NX.i x) : Int)) != -9223372036854775808||false||false)) = (yF (b||Qbv v (NX.i x')))))))∧((((n0 + 9 * NX.i x + 8 + 1) : Nat) = (n0 + 9 * NX.i x'))∧((((NX.c x') : Nat) ≤ (n0 + 9 * NX.i x + 8 + 1 + c_2))∧(∀ i : Nat,(((i : Nat) < (n0 + 9 * NX.i x'))→([(yU (apG (n0 + 9 * NX.i x + 8) (fun i => SE.Qad [yU (apG (n0 + 9 * NX.i x) (fun i => SE.Qad [yU ((fun i => SE.Qad [yU (apG n0 g (Qft v f (NX.i x)) i)]) i)]) (be (v (0 + Int.toNat (↑(NX.i x) : Int)) % 18446744073709551616) 8) i)]) [bif f (0 + Int.toNat (↑(NX.i x) : Int)) then 1 else 0] i))] = [(yU (apG n0 g (Qft v f (NX.i x')) i))]))))))))∧(((n - NX.i x') : Nat) < (n - NX.i x)))))))))) (∃ c_1 : Nat,(True∧((((1 : Nat) = 1)∧(((1 : Nat) ≤ 1)∧(((SV.sl 40 1 0 (n0 + 9 * NX.i x) (NX.c x)) = (SV.sl 40 1 0 (n0 + 9 * n) (n0 + 9 * n + c_1)))∧((yF (b||Qbv v (NX.i x))) = (yF (b||Qbv v n))))))∧((((n0 + 9 * NX.i x) : Nat) = (n0 + 9 * n))∧((((n0 + 9 * n + c_1) : Nat) ≤ (NX.c x))∧(∀ i : Nat,(((i : Nat) < (n0 + 9 * n))→([(yU (apG n0 g (Qft v f (NX.i x)) i))] = [(yU (apG n0 g (Qft v f n) i))])))))))))))) := by kernel_rfl
def Quf : List SV → Option (Prop × Nat × List Int × Bool)
 | [.agg [.v (.int .i64 x), .v (.int .i64 y)]] => some (I64 x ∧ I64 y, 8, c4 x ++ c4 y, Qal x 2147483647 || Qal y 2147483647)
 | _ => none
def Q6e : Qb6 := Qap (Qap (Qap Zhu 96 (Qca true Q6m)) 104 (Qca true Qvl)) 100 (Qca true Q98)
theorem Q3g (b : Bool) (n0 : Nat) (g : Nat→Int) (c : Nat) (x y : Int) : (Qa6 Try.prog Q6e Qas Try.f103 [.vp 0 0,.agg [.v (.int .i64 x),.v (.int .i64 y)]] (Qac (uB (some b) n0 g c)) 64 (fun y' h' => Qbh (uB (some b) n0 g c) (apE (.used (some b) n0 g c True) 0 True 8 (c4 x++c4 y) (Qal x 2147483647||Qal y 2147483647)) y' h')) =
((((Qaf n0 c {elem:=5,size:=1,rw:=true,lock:=false,lit:=false,flat:=true,n:=n0,row:=fun i => [yU (g i)],ext:=c})∧((n0 : Nat) ≤ M0))∧(I64 x))∧(∀ c_1 : Nat,((((Qaf (n0 + 4) (n0 + 4 + c_1) {elem:=5,size:=1,rw:=true,lock:=false,lit:=false,flat:=true,n:=n0 + 4,row:=fun i => [yU (apG n0 (fun i => SE.Qad [yU (g i)]) (be (x % 4294967296) 4) i)],ext:=n0 + 4 + c_1})∧(((n0 + 4) : Nat) ≤ M0))∧(I64 y))∧(∀ c_2 : Nat,(∃ c_3 : Nat,(True∧((((1 : Nat) = 1)∧(((1 : Nat) ≤ 1)∧(((SV.sl 128 1 0 (n0 + 4 + 4) (n0 + 4 + 4 + c_2)) = (SV.sl 128 1 0 (n0 + 8) (n0 + 8 + c_3)))∧((yF (b||Qal x 2147483647||Qal y 2147483647)) = (yF (b||(Qal x 2147483647||Qal y 2147483647)))))))∧((((n0 + 4 + 4) : Nat) = (n0 + 8))∧((((n0 + 8 + c_3) : Nat) ≤ (n0 + 4 + 4 + c_2))∧(∀ i : Nat,(((i : Nat) < (n0 + 8))→([(yU (apG (n0 + 4) (fun i => SE.Qad [yU (apG n0 (fun i => SE.Qad [yU (g i)]) (be (x % 4294967296) 4) i)]) (be (y % 4294967296) 4) i))] = [(yU (apG n0 g (c4 x++c4 y) i))])))))))))))) := by kernel_rfl
theorem Zid (b : Bool) (n0 : Nat) (g : Nat→Int) (c : Nat) (xv : Int) (xf : Bool) (yv : Int) (yf : Bool) : (Qa6 Try.prog Q6e Qas Try.f99 [.vp 0 0,.agg [.v (.int .i64 xv),.v (.bool xf),.v (.int .i64 yv),.v (.bool yf)]] (Qac (uB (some b) n0 g c)) 64 (fun y' h' => Qbh (uB (some b) n0 g c) (apE (.used (some b) n0 g c True) 0 True 18 (Qe3 xv xf yv yf) (Qbq xv||Qbq yv)) y' h')) =
((((Qaf n0 c {elem:=5,size:=1,rw:=true,lock:=false,lit:=false,flat:=true,n:=n0,row:=fun i => [yU (g i)],ext:=c})∧((n0 : Nat) ≤ NB0))∧(((2 : Nat) = 2)∧(((1 : Nat) ≤ 2)∧(((2 : Nat) ≤ 100)∧(∀ i : Nat,(((i : Nat) < 2)→(Qn7 [yI (bop (Nat.beq (0 + i) 0) xv yv),yF (bop (Nat.beq (0 + i) 0) xf yf)])))))))∧(∀ c_1 : Nat,(∃ c_2 : Nat,(True∧((((1 : Nat) = 1)∧(((1 : Nat) ≤ 1)∧(((SV.sl 120 1 0 (n0 + 18) (n0 + 18 + c_1)) = (SV.sl 120 1 0 (n0 + 18) (n0 + 18 + c_2)))∧((yF (b||Qbv (fun i => nV [yI (bop (Nat.beq (0 + i) 0) xv yv),yF (bop (Nat.beq (0 + i) 0) xf yf)]) 2)) = (yF (b||(Qbq xv||Qbq yv)))))))∧((((n0 + 18) : Nat) = (n0 + 18))∧((((n0 + 18 + c_2) : Nat) ≤ (n0 + 18 + c_1))∧(∀ i : Nat,(((i : Nat) < (n0 + 18))→([(yU (apG n0 (fun i => SE.Qad [yU (g i)]) (Qft (fun i => nV [yI (bop (Nat.beq (0 + i) 0) xv yv),yF (bop (Nat.beq (0 + i) 0) xf yf)]) (fun i => nF [yI (bop (Nat.beq (0 + i) 0) xv yv),yF (bop (Nat.beq (0 + i) 0) xf yf)]) 2) i))] = [(yU (apG n0 g (Qe3 xv xf yv yf) i))])))))))))) := by kernel_rfl
theorem Qyf : ∀ f g, Zhu f = some g → g.ok Try.prog f := Qah Qlm (Qcf Try.func102 (by kernel_rfl) (by kernel_rfl) Q11)
theorem Qsi (v : Nat → Int) (f : Nat → Bool) : ∀ k, (Qft v f k).length = 9 * k
 | 0 => rfl
 | k + 1 => by
   show (Qft v f k ++ Qdu (v k) (f k)).length = _
   rw [List.length_append, Qsi v f k, Q40]; omega
theorem Q4z (v : Nat → Int) (f : Nat → Bool) (n0 : Nat) (g : Nat → Int) (k i : Nat) : apG (n0 + 9 * k + 8) (apG (n0 + 9 * k) (apG n0 g (Qft v f k)) (i8 (v k))) (flB (f k)) i = apG n0 g (Qft v f (k + 1)) i := by
 rw [Qay (by rw [Qi6]), Qay (by rw [Qsi])]
 rfl
theorem Zgj (a : Int) : (!(a != -9223372036854775808)) = Qbq a := by
 unfold Qbq bne
 rw [Bool.not_not]
theorem Q1t (b : Bool) (n0 : Nat) (g : Nat → Int) (c n e n' c' : Nat) (v : Nat → Int) (f : Nat → Bool) (hn0 : n0 ≤ 1000000000) (h1 : 1 ≤ n) (hn : n ≤ 100) (hv : ∀ i, i < n → I64 (v i)) :
   Qa6 Try.prog Zhu (Qx7 b n0 g n v f) Try.f100 [.vp 0 0, .sl 2 2 0 n c'] (Qac [wB (some b) false (.sl 1 1 0 n0 c), bG n0 g c, Zed e n' v f]) 64 (fun y h' => Qbh [wB (some b) false (.sl 1 1 0 n0 c), bG n0 g c, Zed e n' v f] (apE (.used (some b) n0 g c True) 0 True (9 * n) (Qft v f n) (Qbv v n)) y h') := by
 refine Eq.mpr (Zfe b n0 g c n e n' c' v f) ⟨⟨⟨0, c⟩, ⟨Nat.zero_le _, .inl rfl⟩, rfl, ⟨rfl, Nat.le_refl _, rfl, by simp [Qbv]⟩, rfl, Nat.le_refl _, fun i hi => congrArg (fun z => [SV.v (.int .u8 z)]) (Qf4 hi).symm⟩, fun x ⟨h2, h3⟩ => Qab (fun hlt => ?_) fun hge => ?_⟩
 · have hlt := of_decide_eq_true hlt
   have hlt : x.i < n := by omega
   have hw : IntKind.i64.wrap ((x.i : Int) + 1) = ((x.i + 1 : Nat) : Int) := Qbn ⟨by omega, by omega⟩
   have hvx := hv x.i hlt
   rw [show 0 + Int.toNat (x.i : Int) = x.i by omega]
   refine ⟨⟨by omega, by omega⟩, Qaa _ _ _ (by omega), ⟨⟨Qaa _ _ _ (by omega), by show n0 + 9 * x.i ≤ 1099511627776; omega⟩, hvx⟩, fun c1 => ⟨⟨⟨Qaa _ _ _ (by omega), by show n0 + 9 * x.i + 8 ≤ 1099511627776; omega⟩, trivial⟩, fun c2 => ⟨⟨x.i + 1, n0 + 9 * x.i + 8 + 1 + c2⟩, ⟨⟨by show x.i + 1 ≤ n; omega, .inr (by show n0 + 9 * (x.i + 1) ≤ n0 + 9 * x.i + 8 + 1 + c2; omega)⟩, Qin hw, ⟨rfl, Nat.le_refl _, ?_, ?_⟩, ?_, Nat.le_refl _, fun i hi => ?_⟩, by show n - (x.i + 1) < n - x.i; omega⟩⟩⟩
   · show SV.sl _ 1 0 _ _ = SV.sl _ 1 0 (n0 + 9 * (x.i + 1)) _
     rw [show n0 + 9 * (x.i + 1) = n0 + 9 * x.i + 8 + 1 by omega]
   · show SV.v (.bool _) = SV.v (.bool (b || (Qbv v x.i || Qbq (v x.i))))
     rw [Zgj, Bool.or_false, Bool.or_false, Bool.or_assoc]
   · show n0 + 9 * x.i + 8 + 1 = n0 + 9 * (x.i + 1)
     omega
   · exact congrArg (fun z => [SV.v (.int .u8 z)]) (Q4z v f n0 g x.i i)
 · have hge := of_decide_eq_false hge
   have hx : x.i = n := by omega
   rw [hx] at h3 ⊢
   have h3 : n0 + 9 * n ≤ x.c := by omega
   have he : n0 + 9 * n + (x.c - (n0 + 9 * n)) = x.c := by omega
   exact ⟨x.c - (n0 + 9 * n), trivial, ⟨rfl, Nat.le_refl _, by rw [he], rfl⟩, rfl, by omega, fun i hi => rfl⟩
theorem Qsl {r : List SV} (h : Qn7 r) : r = [.v (.int .i64 (nV r)), .v (.bool (nF r))] ∧ I64 (nV r) := by
 unfold Qn7 at h
 split at h
 · exact ⟨rfl, h⟩
 · exact h.elim
theorem Qy8 {S : Blk} {n : Nat} (h1 : Qr8 S = true) (hn : S.n = n) (h : ∀ i, i < n → Qn7 (S.row i)) : BlkSame S (Zed S.elem n (fun i => nV (S.row i)) (fun i => nF (S.row i))) := by
 simp only [Qr8, Bool.and_eq_true, Bool.not_eq_true'] at h1
 obtain ⟨⟨⟨⟨⟨a1, a2⟩, a3⟩, a4⟩, a5⟩, a6⟩ := h1
 exact ⟨Nat.eq_of_beq_eq_true a4, a2, a1, hn, Nat.eq_of_beq_eq_true a5, a3, rfl, a6, fun i hi => (Qsl (h i (by omega))).1⟩
theorem Q1u : Qbt Try.prog 100 Q98 := Qc0 hm Qyf Try.func100 (Λ := fun args bs => match args, bs with
   | [_, .sl _ _ _ n _], [B, D, S] => match Qmt [B, D] with
     | some (.used (some b) n0 g _ _) => Qx7 b n0 g n (fun i => nV (S.row i)) (fun i => nF (S.row i))
     | _ => Qas
   | _, _ => Qas) fun args bs e hs hp => by
 unfold Q98 at hs
 split at hs <;> try (cases hs; done)
 rename_i n c' B D S
 split at hs <;> try (cases hs; done)
 rename_i b n0 g c p hw
 obtain ⟨ha, he⟩ := Qcl hs
 subst he
 obtain ⟨⟨hp, hm⟩, hn, h1, h100, hv⟩ : (p ∧ n0 ≤ NB0) ∧ S.n = n ∧ 1 ≤ n ∧ n ≤ 100 ∧ ∀ i, i < n → Qn7 (S.row i) := hp
 have hsame := (Qdy hw hp).1
 refine ⟨[wB (some b) false (.sl 1 1 0 n0 c), bG n0 g c, Zed S.elem n (fun i => nV (S.row i)) (fun i => nF (S.row i))], ⟨hsame.1, hsame.2.1, Qy8 ha hn hv, trivial⟩, ?_⟩
 simp only [hw]
 exact Q1t b n0 g c n S.elem n c' _ _ hm h1 h100 fun i hi => (Qsl (hv i hi)).2
theorem Qll : ∀ f g, Q6e f = some g → g.ok Try.prog f := Qah (Qah (Qah Qyf (Qcf Try.func96 (by kernel_rfl) (by kernel_rfl) Qxv)) (Qcf Try.func104 (by kernel_rfl) (by kernel_rfl) Qs0)) (Qcf Try.func100 (by kernel_rfl) (by kernel_rfl) Q1u)
theorem Qu6 : Qbt Try.prog 103 (Qt0 {} NB0 Quf) := Qfp Qll Try.func103 (Λ0 := fun _ _ => Qas) (Λ1 := fun _ _ _ _ _ => Qas)
 (fun rest q k L b kd h hq ha => by cases kd <;> cases ha)
 (fun rest q k L b kd n0 g c h hq ha hm hn => by
 unfold Quf at h
 split at h <;> try (cases h; done)
 rename_i x y
 cases kd with
 | none => cases ha
 | some bd =>
   cases h
   have hm : n0 ≤ 1000000000 := hm
   exact Eq.mpr (Q3g bd n0 g c x y) ⟨⟨⟨Qaa _ _ _ (by omega), by show n0 ≤ 1099511627776; omega⟩, hq.1⟩, fun c1 => ⟨⟨⟨Qaa _ _ _ (by omega), by show n0 + 4 ≤ 1099511627776; omega⟩, hq.2⟩, fun c2 => Qb9 (by omega) (Bool.or_assoc _ _ _) fun i hi => Qay (g := g) (L := c4 x) (M := c4 y) (by rw [Zg8]) i⟩⟩)
def Zj3 : List SV → Option (Prop × Nat × List Int × Bool)
 | [.agg [.v (.int .i64 xv), .v (.bool xf), .v (.int .i64 yv), .v (.bool yf)]] => some (I64 xv ∧ I64 yv, 18, Qe3 xv xf yv yf, Qbq xv || Qbq yv)
 | _ => none
theorem Qyw {i : Nat} (h : i < 2) : i = 0 ∨ i = 1 := by omega
theorem Q5y : Qbt Try.prog 99 (Qt0 {} NB0 Zj3) := Qfp Qll Try.func99 (Λ0 := fun _ _ => Qas) (Λ1 := fun _ _ _ _ _ => Qas)
 (fun rest q k L b kd h hq ha => by cases kd <;> cases ha)
 (fun rest q k L b kd n0 g c h hq ha hm hn => by
 unfold Zj3 at h
 split at h <;> try (cases h; done)
 rename_i xv xf yv yf
 cases kd with
 | none => cases ha
 | some bd =>
   cases h
   exact Eq.mpr (Zid bd n0 g c xv xf yv yf) ⟨⟨⟨Qaa _ _ _ (by omega), hm⟩, rfl, by omega, by omega, fun i hi => by
     rcases Qyw hi with rfl | rfl
     · exact hq.1
     · exact hq.2⟩, fun c1 => Qb9 rfl rfl fun i hi => rfl⟩)
def Zb2 : List SV → Option (Prop × Nat × List Int × Bool)
 | [.agg [.v (.int .i64 xv), .v (.bool xf), .v (.int .i64 yv), .v (.bool yf), .v (.int .i64 cv), .v (.bool cf), .v (.int .i64 sv), .v (.bool sf)]] => some (I64 xv ∧ I64 yv ∧ I64 cv ∧ I64 sv, 36, Qe3 xv xf yv yf ++ (Qdu cv cf ++ Qdu sv sf), Qbq xv || Qbq yv || (Qbq cv || Qbq sv))
 | _ => none
theorem Zfd (b : Bool) (n0 : Nat) (g : Nat→Int) (c : Nat) (xv : Int) (xf : Bool) (yv : Int) (yf : Bool) (cv : Int) (cf : Bool) (sv : Int) (sf : Bool) : (Qa6 Try.prog Q6e Qas Try.f98 [.vp 0 0,.agg [.v (.int .i64 xv),.v (.bool xf),.v (.int .i64 yv),.v (.bool yf),.v (.int .i64 cv),.v (.bool cf),.v (.int .i64 sv),.v (.bool sf)]] (Qac (uB (some b) n0 g c)) 64 (fun y' h' => Qbh (uB (some b) n0 g c) (apE (.used (some b) n0 g c True) 0 True 36 (Qe3 xv xf yv yf++(Qdu cv cf++Qdu sv sf)) (Qbq xv||Qbq yv||(Qbq cv||Qbq sv))) y' h')) =
((((Qaf n0 c {elem:=5,size:=1,rw:=true,lock:=false,lit:=false,flat:=true,n:=n0,row:=fun i => [yU (g i)],ext:=c})∧((n0 : Nat) ≤ NB0))∧(((4 : Nat) = 4)∧(((1 : Nat) ≤ 4)∧(((4 : Nat) ≤ 100)∧(∀ i : Nat,(((i : Nat) < 4)→(Qn7 [yI (bop (Nat.beq (0 + i) 0) xv (bop (Nat.beq (0 + i) 1) yv (bop (Nat.beq (0 + i) 2) cv sv))),yF (bop (Nat.beq (0 + i) 0) xf (bop (Nat.beq (0 + i) 1) yf (bop (Nat.beq (0 + i) 2) cf sf)))])))))))∧(∀ c_1 : Nat,(∃ c_2 : Nat,(True∧((((1 : Nat) = 1)∧(((1 : Nat) ≤ 1)∧(((SV.sl 184 1 0 (n0 + 36) (n0 + 36 + c_1)) = (SV.sl 184 1 0 (n0 + 36) (n0 + 36 + c_2)))∧((yF (b||Qbv (fun i => nV [yI (bop (Nat.beq (0 + i) 0) xv (bop (Nat.beq (0 + i) 1) yv (bop (Nat.beq (0 + i) 2) cv sv))),yF (bop (Nat.beq (0 + i) 0) xf (bop (Nat.beq (0 + i) 1) yf (bop (Nat.beq (0 + i) 2) cf sf)))]) 4)) = (yF (b||(Qbq xv||Qbq yv||(Qbq cv||Qbq sv))))))))∧((((n0 + 36) : Nat) = (n0 + 36))∧((((n0 + 36 + c_2) : Nat) ≤ (n0 + 36 + c_1))∧(∀ i : Nat,(((i : Nat) < (n0 + 36))→([(yU (apG n0 (fun i => SE.Qad [yU (g i)]) (Qft (fun i => nV [yI (bop (Nat.beq (0 + i) 0) xv (bop (Nat.beq (0 + i) 1) yv (bop (Nat.beq (0 + i) 2) cv sv))),yF (bop (Nat.beq (0 + i) 0) xf (bop (Nat.beq (0 + i) 1) yf (bop (Nat.beq (0 + i) 2) cf sf)))]) (fun i => nF [yI (bop (Nat.beq (0 + i) 0) xv (bop (Nat.beq (0 + i) 1) yv (bop (Nat.beq (0 + i) 2) cv sv))),yF (bop (Nat.beq (0 + i) 0) xf (bop (Nat.beq (0 + i) 1) yf (bop (Nat.beq (0 + i) 2) cf sf)))]) 4) i))] = [(yU (apG n0 g (Qe3 xv xf yv yf++(Qdu cv cf++Qdu sv sf)) i))])))))))))) := by kernel_rfl
def Q77 : Qb6 := Qap (Qap (Qap Q6e 103 (Qca true (Qt0 {} NB0 Quf))) 99 (Qca true (Qt0 {} NB0 Zj3))) 98 (Qca true (Qt0 {} NB0 Zb2))
theorem Qw6 {i : Nat} (h : i < 4) : i = 0 ∨ i = 1 ∨ i = 2 ∨ i = 3 := by omega
theorem Q1s : Qbt Try.prog 98 (Qt0 {} NB0 Zb2) := Qfp Qll Try.func98 (Λ0 := fun _ _ => Qas) (Λ1 := fun _ _ _ _ _ => Qas)
 (fun rest q k L b kd h hq ha => by cases kd <;> cases ha)
 (fun rest q k L b kd n0 g c h hq ha hm hn => by
 unfold Zb2 at h
 split at h <;> try (cases h; done)
 rename_i xv xf yv yf cv cf sv sf
 cases kd with
 | none => cases ha
 | some bd =>
   cases h
   obtain ⟨q1, q2, q3, q4⟩ := hq
   exact Eq.mpr (Zfd bd n0 g c xv xf yv yf cv cf sv sf) ⟨⟨⟨Qaa _ _ _ (by omega), hm⟩, rfl, by omega, by omega, fun i hi => by
     rcases Qw6 hi with rfl | rfl | rfl | rfl
     · exact q1
     · exact q2
     · exact q3
     · exact q4⟩, fun c1 => Qb9 rfl (by simp [Qbv, nV, bop, Nat.beq, Bool.or_assoc]) fun i hi => by
       congr 1⟩)
theorem Qlv (x y : Nat → Int) : ∀ k, (Qc8 x y k).length = 16 * k
 | 0 => rfl
 | k + 1 => by
   show (Qc8 x y k ++ (i8 (x k) ++ i8 (y k))).length = _
   rw [List.length_append, Qlv x y k, List.length_append, Qi6, Qi6]; omega
theorem Qy5 (x y : Nat → Int) (n0 : Nat) (g : Nat → Int) (k i : Nat) : apG (n0 + 16 * k + 8) (apG (n0 + 16 * k) (apG n0 g (Qc8 x y k)) (i8 (x k))) (i8 (y k)) i = apG n0 g (Qc8 x y (k + 1)) i := by
 rw [Qay (by rw [Qi6]), Qay (by rw [Qlv])]
 rfl
theorem Qjn {r : List SV} (h : Qht r) : r = [.v (.int .i64 (pX r)), .v (.int .i64 (pY r))] ∧ I64 (pX r) ∧ I64 (pY r) := by
 unfold Qht at h
 split at h
 · exact ⟨rfl, h⟩
 · exact h.elim
theorem Qqm {S : Blk} {n : Nat} (h1 : Qr8 S = true) (hn : S.n = n) (h : ∀ i, i < n → Qht (S.row i)) : BlkSame S (spB S.elem n (fun i => pX (S.row i)) (fun i => pY (S.row i))) := by
 simp only [Qr8, Bool.and_eq_true, Bool.not_eq_true'] at h1
 obtain ⟨⟨⟨⟨⟨a1, a2⟩, a3⟩, a4⟩, a5⟩, a6⟩ := h1
 exact ⟨Nat.eq_of_beq_eq_true a4, a2, a1, hn, Nat.eq_of_beq_eq_true a5, a3, rfl, a6, fun i hi => (Qjn (h i (by omega))).1⟩
def rdB (s : ByteArray) (k : Int) : Blk := { elem := 141, size := 2, rw := true, lock := false, lit := true, flat := true, n := 1, row := fun _ => [.v (.string s), .v (.int .i64 k)], ext := 1, whole := true }
def Zga (b : Blk) : Bool := Nat.beq b.elem 141 && Nat.beq b.size 2 && b.rw && !b.dead && Nat.beq b.n 1 && Nat.beq b.ext 1 && b.whole && b.flat
def Qvp (f : List SV → ByteArray → Int → Option (Prop × SV × Int)) (args : List SV) (bs : List Blk) : Option Eff := match args, bs with
 | .vp 0 0 :: rest, [B] => match B.row 0 with
   | [.v (.string s), .v (.int .i64 k)] => match f rest s k with
     | some (q, x, k') => bif Zga B then some (.det (some q) x [(0, rdB s k')]) else none
     | none => none
   | _ => none
 | _, _ => none
def rdT (s : ByteArray) (k : Int) : Nat → Int
 | 0 => 0
 | i + 1 => rdT s k i * 256 + ((s.data.toList.getD (k.toNat + i) 0).toNat : Int)
def rdQ (s : ByteArray) (k : Int) (n : Int) : Prop := (0 ≤ k ∧ 0 ≤ n) ∧ (n ≤ 8 ∧ k + n ≤ (s.size : Int)) ∧ s.size ≤ 1099511627776
def Zb1 : List SV → ByteArray → Int → Option (Prop × SV × Int)
 | [.v (.int .i64 n)], s, k => some (rdQ s k n, .v (.int .u64 (rdT s k n.toNat)), k + n)
 | _, _, _ => none
def Zb0 : List SV → ByteArray → Int → Option (Prop × SV × Int)
 | [.v (.int .u64 m), .v (.int .i64 n)], s, k => some (rdQ s k n ∧ rdT s k n.toNat ≤ m ∧ m ≤ 1099511627776, .v (.int .i64 (rdT s k n.toNat)), k + n)
 | _, _, _ => none
def Qrf : List SV → ByteArray → Int → Option (Prop × SV × Int)
 | [], s, k => some (rdQ s k 4 ∧ rdT s k 4 ≤ 2147483647, .v (.int .i64 (rdT s k 4)), k + 4)
 | _, _, _ => none
def Zj4 : List SV → ByteArray → Int → Option (Prop × SV × Int)
 | [], s, k => some (k = (s.size : Int), .tup [], k)
 | _, _, _ => none
def Que : List SV → ByteArray → Int → Option (Prop × SV × Int)
 | [.v (.int .i64 low)], s, k => some (rdQ s k 1 ∧ rdT s k 1 = 10 ∧ low ≤ 10, iV 10, k + 1)
 | _, _, _ => none
def Qzi : List SV → Option (Option Prop × SV)
 | [.v (.bool b), .v (.int .i64 _)] => some (some (b = true), .tup [])
 | _ => none
noncomputable def Qvd (s : ByteArray) (k : Int) (n : Nat) : Nat → Option LoopSpec := Qme Qas Try.f87 0 Nat (fun i => i ≤ n) (fun i => n - i) [(20, fun i => .v (.int .i64 i)), (5, fun i => .v (.int .u64 (rdT s k i)))] [(0, fun i => rdB s (k + (i : Int)))]
def Zht : Qb6 := Qap Qaq 132 (Qda Qzi)
def Zhs : Qb6 := Qap Zht 87 (Qca true (Qvp Zb1))
def ΓR2 : Qb6 := Qap Zhs 133 (Qca true (Qvp Zb0))
theorem Q82 (b : Bool) (e : Int) (R : SV→Prop) : (Qeu Try.prog Qaq Qas Try.f132 [.v (.bool b),.v (.int .i64 e)] R) = (sel (!b) False (R (SV.tup []))):=by kernel_rfl
theorem Q3a (s : ByteArray) (k : Int) (n : Nat) : (Qa6 Try.prog Zht (Qvd s k n) Try.f87 [.vp 0 0,.v (.int .i64 (n : Int))] (Qac [rdB s k]) 64 (fun y h' => Qbh [rdB s k] (.det none (.v (.int .u64 (rdT s k n))) [(0,rdB s (k + (n : Int)))]) y h')) =
((decide (IntKind.wrap IntKind.i64 ((↑(ByteArray.size s) : Int) - k) ≥ (↑n : Int)) = true)∧((∃ x : Nat,((Nat.le x n)∧(((zI = (yI ((↑x : Int))))∧((SV.v (.int .u64 0)) = (SV.v (.int .u64 (rdT s k x)))))∧(((1 : Nat) = 1)∧(((1 : Nat) ≤ 1)∧(∀ i : Nat,(((i : Nat) < 1)→([(SV.v (.string s)),(yI k)] = [(SV.v (.string s)),(yI (k + (↑x : Int)))]))))))))∧(∀ x : Nat,((Nat.le x n)→(sel (decide ((↑x : Int) < (↑n : Int))) ((((0 : Int) ≤ (k + (↑x : Int)))∧(((k + (↑x : Int)) : Int) < ((↑(ByteArray.size s) : Int))))∧(∃ x' : Nat,(((Nat.le x' n)∧((((yI (IntKind.wrap IntKind.i64 ((↑x : Int) + 1))) = (yI ((↑x' : Int))))∧((SV.v (.int .u64 (bits BinOp.or IntKind.u64 (IntKind.wrap IntKind.u64 (rdT s k x * 256)) (IntKind.wrap IntKind.u64 (↑(UInt8.toNat (List.getD (Array.toList (ByteArray.data s)) (Int.toNat (k + (↑x : Int))) 0)) : Int))))) = (SV.v (.int .u64 (rdT s k x')))))∧(((1 : Nat) = 1)∧(((1 : Nat) ≤ 1)∧(∀ i : Nat,(((i : Nat) < 1)→([(SV.v (.string s)),(yI (IntKind.wrap IntKind.i64 (k + (↑x : Int) + 1)))] = [(SV.v (.string s)),(yI (k + (↑x' : Int)))])))))))∧(((n - x') : Nat) < (n - x))))) (((SV.v (.int .u64 (rdT s k x))) = (SV.v (.int .u64 (rdT s k n))))∧(((1 : Nat) = 1)∧(((1 : Nat) ≤ 1)∧(∀ i : Nat,(((i : Nat) < 1)→([(SV.v (.string s)),(yI (k + (↑x : Int)))] = [(SV.v (.string s)),(yI (k + (↑n : Int)))]))))))))))) := by kernel_rfl
theorem Q29 (s : ByteArray) (k m n : Int) : (Qa6 Try.prog Zhs Qas Try.f133 [.vp 0 0,.v (.int .u64 m),.v (.int .i64 n)] (Qac [rdB s k]) 64 (fun y h' => Qbh [rdB s k] (.det none (.v (.int .i64 (rdT s k n.toNat))) [(0,rdB s (k + n))]) y h')) = ((rdQ s k n)∧((decide (rdT s k (Int.toNat n) ≤ m) = true)∧(((yI (IntKind.wrap IntKind.i64 (rdT s k (Int.toNat n)))) = (yI (rdT s k (Int.toNat n))))∧(((1 : Nat) = 1)∧(((1 : Nat) ≤ 1)∧(∀ i : Nat,(((i : Nat) < 1)→([(SV.v (.string s)),(yI (k + n))] = [(SV.v (.string s)),(yI (k + n))])))))))):=by kernel_rfl
theorem Qyp (s : ByteArray) (k : Int) : (Qa6 Try.prog ΓR2 Qas Try.f121 [.vp 0 0] (Qac [rdB s k]) 64 (fun y h' => Qbh [rdB s k] (.det none (.v (.int .i64 (rdT s k 4))) [(0,rdB s (k + 4))]) y h')) = (((rdQ s k 4)∧((((rdT s k 4) : Int) ≤ 2147483647)∧((2147483647 : Int) ≤ 1099511627776)))∧(((yI (rdT s k 4)) = (yI (rdT s k 4)))∧(((1 : Nat) = 1)∧(((1 : Nat) ≤ 1)∧(∀ i : Nat,(((i : Nat) < 1)→([(SV.v (.string s)),(yI (k + 4))] = [(SV.v (.string s)),(yI (k + 4))]))))))):=by kernel_rfl
theorem Q81 (s : ByteArray) (k : Int) : (Qa6 Try.prog Zht Qas Try.f131 [.vp 0 0] (Qac [rdB s k]) 64 (fun y h' => Qbh [rdB s k] (.det none (.tup []) [(0,rdB s k)]) y h')) = (((k == (↑(ByteArray.size s) : Int)) = true)∧(True∧(((1 : Nat) = 1)∧(((1 : Nat) ≤ 1)∧(∀ i : Nat,(((i : Nat) < 1)→([(SV.v (.string s)),(yI k)] = [(SV.v (.string s)),(yI k)]))))))):=by kernel_rfl
theorem Q3f (s : ByteArray) (k low : Int) : (Qa6 Try.prog Zhs Qas Try.f120 [.vp 0 0,.v (.int .i64 low)] (Qac [rdB s k]) 64 (fun y h' => Qbh [rdB s k] (.det none (iV 10) [(0,rdB s (k + 1))]) y h')) = ((rdQ s k 1)∧(sel (decide (IntKind.wrap IntKind.i64 (rdT s k 1) ≥ low)) ((decide (IntKind.wrap IntKind.i64 (rdT s k 1) ≤ 10) = true)∧(((yI (IntKind.wrap IntKind.i64 (rdT s k 1))) = (yI 10))∧(((1 : Nat) = 1)∧(((1 : Nat) ≤ 1)∧(∀ i : Nat,(((i : Nat) < 1)→([(SV.v (.string s)),(yI (k + 1))] = [(SV.v (.string s)),(yI (k + 1))]))))))) ((false = true)∧(((yI (IntKind.wrap IntKind.i64 (rdT s k 1))) = (yI 10))∧(((1 : Nat) = 1)∧(((1 : Nat) ≤ 1)∧(∀ i : Nat,(((i : Nat) < 1)→([(SV.v (.string s)),(yI (k + 1))] = [(SV.v (.string s)),(yI (k + 1))]))))))))):=by kernel_rfl
theorem Qnw {B : Blk} {s : ByteArray} {k : Int} (h1 : Zga B = true) (h2 : B.row 0 = [.v (.string s), .v (.int .i64 k)]) : BlkSame B (rdB s k) := by
 simp only [Zga, Bool.and_eq_true, Bool.not_eq_true'] at h1
 obtain ⟨⟨⟨⟨⟨⟨⟨a1, a2⟩, a3⟩, a4⟩, a5⟩, a6⟩, a7⟩, a8⟩ := h1
 have hn := Nat.eq_of_beq_eq_true a5
 exact ⟨Nat.eq_of_beq_eq_true a2, a3, a8, hn, Nat.eq_of_beq_eq_true a6, a4, Nat.eq_of_beq_eq_true a1, a7, fun i hi => by
   have : i = 0 := by omega
   subst this
   exact h2⟩
theorem Ql3 {Γ : Qb6} (hΓ : ∀ f g, Γ f = some g → g.ok Try.prog f) {f : FuncId} {fn : Func} (hf : Try.prog.funcs[f]? = some fn) {F : List SV → ByteArray → Int → Option (Prop × SV × Int)} {Λ : List SV → ByteArray → Int → Nat → Option LoopSpec}
   (h : ∀ rest s k q x k', F rest s k = some (q, x, k') → q → Qa6 Try.prog Γ (Λ rest s k) fn (.vp 0 0 :: rest) (Qac [rdB s k]) 64 (fun y h' => Qbh [rdB s k] (.det none x [(0, rdB s k')]) y h')) :
   Qbt Try.prog f (Qvp F) := Qc0 hm hΓ hf (Λ := fun args bs => match args, bs with
     | _ :: rest, [B] => match B.row 0 with
       | [.v (.string s), .v (.int _ k)] => Λ rest s k
       | _ => Qas
     | _, _ => Qas) fun args bs e hs hp => by
 unfold Qvp at hs
 split at hs <;> try (cases hs; done)
 rename_i rest B
 split at hs <;> try (cases hs; done)
 rename_i s k hB
 split at hs <;> try (cases hs; done)
 rename_i q x k' hF
 obtain ⟨ha, he⟩ := Qcl hs
 subst he
 refine ⟨[rdB s k], ⟨Qnw ha hB, trivial⟩, ?_⟩
 simp only [hB]
 exact h rest s k q x k' hF (hp _ rfl)
theorem Qxo : Qb2 Try.prog 132 Qzi := Qlo hm Qax Try.func132 (Λ := fun _ => Qas) fun args p x h hp => by
 unfold Qzi at h
 split at h <;> try (cases h; done)
 rename_i b e
 cases h
 have hb := hp _ rfl
 subst hb
 refine ⟨rfl, rfl, ?_⟩
 rw [Q82]
 rfl
theorem Qtk : ∀ f g, Zht f = some g → g.ok Try.prog f := Qah Qax (Qdl Try.func132 (by kernel_rfl) (by kernel_rfl) Qxo)
theorem Qez (s : ByteArray) (k : Int) : ∀ n : Nat, 0 ≤ rdT s k n ∧ rdT s k n < 256 ^ n
 | 0 => ⟨Int.le_refl _, by show (0 : Int) < 1; omega⟩
 | n + 1 => by
   obtain ⟨h1, h2⟩ := Qez s k n
   have hb := (s.data.toList.getD (k.toNat + n) 0).toNat_lt
   simp only [rdT]
   rw [Int.pow_succ]
   omega
theorem Qz7 {a b : Int} (ha : 0 ≤ a) (ha' : a < 72057594037927936) (hb : 0 ≤ b) (hb' : b < 256) : bits .or .u64 (a * 256) b = a * 256 + b := by
 rw [u64_or (a * 256) b (by omega) (by omega) hb (by omega)]
 have h := nat_join 8 (a * 256).toNat b.toNat (by omega) (by omega)
 rw [h]; omega
theorem Qz5 {x : Int} {n : Nat} (h : x < 256 ^ n) (hn : n ≤ 7) : x < 72057594037927936 := by
 have : (256 : Int) ^ n ≤ 256 ^ 7 := by exact_mod_cast Nat.pow_le_pow_right (by decide) hn
 omega
theorem Q1n : Qbt Try.prog 87 (Qvp Zb1) := Ql3 Qtk Try.func87 (Λ := fun rest s k => match rest with | [.v (.int _ n)] => Qvd s k n.toNat | _ => Qas) fun rest s k q x k' h hq => by
 unfold Zb1 at h
 split at h <;> try (cases h; done)
 rename_i n
 cases h
 obtain ⟨⟨hk, hn0⟩, ⟨hn8, hsz⟩, hM⟩ := hq
 obtain ⟨n, rfl⟩ : ∃ m : Nat, n = (m : Int) := ⟨n.toNat, by omega⟩
 rw [Int.toNat_natCast]
 refine Eq.mpr (Q3a s k n) ⟨decide_eq_true ?_, ⟨0, Nat.zero_le _, ⟨rfl, rfl⟩, rfl, Nat.le_refl _, fun i hi => by rw [show k + ((0 : Nat) : Int) = k by omega]⟩, fun x hx => Qab (fun hlt => ?_) fun hge => ?_⟩
 · rw [Qbn ⟨by omega, by omega⟩]; omega
 · have hx : x ≤ n := hx
   have hlt := of_decide_eq_true hlt
   have hlt : x < n := by omega
   obtain ⟨r1, r2⟩ := Qez s k x
   have r3 := Qz5 r2 (by omega)
   have hb := (s.data.toList.getD (k + (x : Int)).toNat 0).toNat_lt
   have e1 : IntKind.i64.wrap ((x : Int) + 1) = ((x + 1 : Nat) : Int) := Qbn ⟨by omega, by omega⟩
   have e2 : IntKind.i64.wrap (k + (x : Int) + 1) = k + ((x + 1 : Nat) : Int) := by rw [Qbn ⟨by omega, by omega⟩]; omega
   have e3 : IntKind.u64.wrap (rdT s k x * 256) = rdT s k x * 256 := by rw [Qgz]; omega
   have e4 : IntKind.u64.wrap ((s.data.toList.getD (k + (x : Int)).toNat 0).toNat : Int) = ((s.data.toList.getD (k + (x : Int)).toNat 0).toNat : Int) := by rw [Qgz]; omega
   rw [e1, e2, e3, e4, Qz7 r1 r3 (by omega) (by omega)]
   refine ⟨⟨by omega, by omega⟩, x + 1, ⟨hlt, ⟨rfl, ?_⟩, rfl, Nat.le_refl _, fun _ _ => rfl⟩, by omega⟩
   show _ = SV.v (.int .u64 (rdT s k x * 256 + ((s.data.toList.getD (k.toNat + x) 0).toNat : Int)))
   rw [show (k + (x : Int)).toNat = k.toNat + x by omega]
 · have hx : x ≤ n := hx
   have hge := of_decide_eq_false hge
   have hx : x = n := by omega
   subst hx
   exact ⟨rfl, rfl, Nat.le_refl _, fun _ _ => rfl⟩
theorem Qtj : ∀ f g, Zhs f = some g → g.ok Try.prog f := Qah Qtk (Qcf Try.func87 (by kernel_rfl) (by kernel_rfl) Q1n)
theorem Qu2 : Qbt Try.prog 133 (Qvp Zb0) := Ql3 Qtj Try.func133 (Λ := fun _ _ _ => Qas) fun rest s k q x k' h hq => by
 unfold Zb0 at h
 split at h <;> try (cases h; done)
 rename_i m n
 cases h
 obtain ⟨hq, h1, h2⟩ := hq
 rw [Q29]
 refine ⟨hq, decide_eq_true h1, ?_, rfl, Nat.le_refl _, fun _ _ => rfl⟩
 have := (Qez s k n.toNat).1
 rw [Qbn ⟨by omega, by omega⟩]
theorem Q7t : ∀ f g, ΓR2 f = some g → g.ok Try.prog f := Qah Qtj (Qcf Try.func133 (by kernel_rfl) (by kernel_rfl) Qu2)
theorem Qs7 : Qbt Try.prog 121 (Qvp Qrf) := Ql3 Q7t Try.func121 (Λ := fun _ _ _ => Qas) fun rest s k q x k' h hq => by
 unfold Qrf at h
 split at h <;> try (cases h; done)
 cases h
 rw [Qyp]
 exact ⟨⟨hq.1, hq.2, by omega⟩, rfl, rfl, Nat.le_refl _, fun _ _ => rfl⟩
theorem Qxn : Qbt Try.prog 131 (Qvp Zj4) := Ql3 Qtk Try.func131 (Λ := fun _ _ _ => Qas) fun rest s k q x k' h hq => by
 unfold Zj4 at h
 split at h <;> try (cases h; done)
 cases h
 rw [Q81]
 exact ⟨by rw [hq]; exact beq_self_eq_true _, trivial, rfl, Nat.le_refl _, fun _ _ => rfl⟩
theorem Qu5 : Qbt Try.prog 120 (Qvp Que) := Ql3 Qtj Try.func120 (Λ := fun _ _ _ => Qas) fun rest s k q x k' h hq => by
 unfold Que at h
 split at h <;> try (cases h; done)
 cases h
 obtain ⟨hq, h1, h2⟩ := hq
 rw [Q3f, h1]
 exact ⟨hq, Qab (fun _ => ⟨rfl, rfl, rfl, Nat.le_refl _, fun _ _ => rfl⟩) fun h => by
   have h := of_decide_eq_false h
   rw [Qbn ⟨by omega, by omega⟩] at h
   omega⟩
structure Pz where
 bad : Bool
 er : Int
def Pz.seq (a b : Pz) : Pz := ⟨a.bad || b.bad, bif a.bad then a.er else b.er⟩
def pE (e : Int) : SV := .v (.iface 169 (.agg #[.int .i64 e]))
def Qai (s : ByteArray) (k : Int) : Prop := (0 ≤ k ∧ k ≤ (s.size : Int)) ∧ s.size ≤ 1099511627776
def sTd (F : List SV → ByteArray → Int → Option (Prop × SV × Int)) (args : List SV) (bs : List Blk) : Option Eff := match args, bs with
 | .vp 0 0 :: rest, [B] => match B.row 0 with
   | [.v (.string s), .v (.int .i64 k)] => match F rest s k with
     | some (q, x, k') => bif Zga B then some (.det (some (Qai s k ∧ q)) x [(0, rdB s k')]) else none
     | none => none
   | _ => none
 | _, _ => none
def Qlh (G : List SV → ByteArray → Int → Pz) (args : List SV) (bs : List Blk) : Bool := match args, bs with
 | _ :: rest, [B] => match B.row 0 with
   | [.v (.string s), .v (.int _ k)] => (G rest s k).bad
   | _ => false
 | _, _ => false
def Qqi (F : List SV → ByteArray → Int → Option (Prop × SV × Int)) (G : List SV → ByteArray → Int → Pz) (args : List SV) (bs : List Blk) : Eff := match args, bs with
 | .vp 0 0 :: rest, [B] => match B.row 0 with
   | [.v (.string s), .v (.int .i64 k)] => match F rest s k with
     | some (q, _, _) => .det (some (Qai s k ∧ q)) (pE (G rest s k).er) [(0, Qbz (rdB s k))]
     | none => .det none Qby []
   | _ => .det none Qby []
 | _, _ => .det none Qby []
def Qjv (F : List SV → ByteArray → Int → Option (Prop × SV × Int)) (G : List SV → ByteArray → Int → Pz) : Ctr := Qj7 true (sTd F) (Qlh G) (Qqi F G)
def tkP (s : ByteArray) (k n : Int) : Pz := ⟨decide ((s.size : Int) - k < n), 7⟩
def upP (s : ByteArray) (k m n : Int) : Pz := (tkP s k n).seq ⟨decide (m < rdT s k n.toNat), 4⟩
theorem Q0l {α : Type} (x : α) : ∃ y, y = x := ⟨x, rfl⟩
noncomputable def hide {α : Type} (x : α) : α := Classical.choose (Q0l x)
theorem Zbo {α : Type} (x : α) : hide x = x := Classical.choose_spec (Q0l x)
noncomputable def rdI (s : ByteArray) (k : Int) : Int := hide (IntKind.i64.wrap (rdT s k 8))
def rdF (s : ByteArray) (k : Int) : Bool := rdT s k 1 == 1
noncomputable def nuP (s : ByteArray) (k : Int) : Pz := (tkP s k 8).seq (Pz.seq ⟨rdI s k == -9223372036854775808, 4⟩ (upP s (k + 8) 1 1))
noncomputable def vcP (s : ByteArray) (k : Int) : Pz := (nuP s k).seq (nuP s (k + 8 + 1))
noncomputable def psP (s : ByteArray) (k : Int) : Pz := (vcP s k).seq ((nuP s (k + 8 + 1 + 8 + 1)).seq (nuP s (k + 8 + 1 + 8 + 1 + 8 + 1)))
def spP (s : ByteArray) (k : Int) : Pz := (tkP s k 8).seq (tkP s (k + 8) 8)
def haP (s : ByteArray) (k : Int) : Pz := (upP s k 2147483647 4).seq (upP s (k + 4) 2147483647 4)
noncomputable def nuC (s : ByteArray) (k : Int) : List SV := [.v (.int .i64 (rdI s k)), .v (.bool (rdF s (k + 8)))]
def Q31 : List SV → ByteArray → Int → Option (Prop × SV × Int)
 | [.v (.int .i64 n)], s, k => some (0 ≤ n ∧ n ≤ 8, .v (.int .u64 (rdT s k n.toNat)), k + n)
 | _, _, _ => none
def Qwy : List SV → ByteArray → Int → Pz
 | [.v (.int .i64 n)], s, k => tkP s k n
 | _, _, _ => ⟨false, 0⟩
def Q30 : List SV → ByteArray → Int → Option (Prop × SV × Int)
 | [.v (.int .u64 m), .v (.int .i64 n)], s, k => some ((0 ≤ n ∧ n ≤ 8) ∧ m ≤ 1099511627776, .v (.int .i64 (rdT s k n.toNat)), k + n)
 | _, _, _ => none
def Qn0 : List SV → ByteArray → Int → Pz
 | [.v (.int .u64 m), .v (.int .i64 n)], s, k => upP s k m n
 | _, _, _ => ⟨false, 0⟩
def t0 (f : ByteArray → Int → SV × Int) : List SV → ByteArray → Int → Option (Prop × SV × Int)
 | [], s, k => some (True, (f s k).1, (f s k).2)
 | _, _, _ => none
def p0 (f : ByteArray → Int → Pz) : List SV → ByteArray → Int → Pz
 | [], s, k => f s k
 | _, _, _ => ⟨false, 0⟩
def Qaj (s : ByteArray) (k : Int) : SV × Int := (.v (.int .i64 (rdT s k 4)), k + 4)
def Qdf (s : ByteArray) (k : Int) : SV × Int := (.v (.bool (rdF s k)), k + 1)
noncomputable def Qee (s : ByteArray) (k : Int) : SV × Int := (.v (.int .i64 (rdI s k)), k + 8)
def Qln (s : ByteArray) (k : Int) : SV × Int := (.v (.int .i64 (rdT s k 8)), k + 8)
noncomputable def Qfw (s : ByteArray) (k : Int) : SV × Int := (.agg (nuC s k), k + 8 + 1)
noncomputable def Qdt (s : ByteArray) (k : Int) : SV × Int := (.agg (nuC s k ++ nuC s (k + 8 + 1)), k + 8 + 1 + 8 + 1)
noncomputable def Qe2 (s : ByteArray) (k : Int) : SV × Int := (.agg (nuC s k ++ (nuC s (k + 8 + 1) ++ (nuC s (k + 8 + 1 + 8 + 1) ++ nuC s (k + 8 + 1 + 8 + 1 + 8 + 1)))), k + 8 + 1 + 8 + 1 + 8 + 1 + 8 + 1)
noncomputable def Qhb (s : ByteArray) (k : Int) : SV × Int := (.agg [.v (.int .i64 (rdI s k)), .v (.int .i64 (rdI s (k + 8)))], k + 8 + 8)
def Qak (s : ByteArray) (k : Int) : SV × Int := (.agg [.v (.int .i64 (rdT s k 4)), .v (.int .i64 (rdT s (k + 4) 4))], k + 4 + 4)
def Qcx (s : ByteArray) (k : Int) : Pz := upP s k 2147483647 4
def Qkf (s : ByteArray) (k : Int) : Pz := upP s k 1 1
def Qn1 (s : ByteArray) (k : Int) : Pz := tkP s k 8
def Qo1 (s : ByteArray) (k : Int) : Pz := upP s k 1099511627776 8
def Zi9 (args : List SV) (bs : List Blk) : Option Eff := match args, bs with
 | [.v (.bool _), .v (.int .i64 _)], [] => some (.det none (.tup []) [])
 | _, _ => none
def Zfz (args : List SV) (_ : List Blk) : Bool := match args with
 | [.v (.bool b), _] => !b
 | _ => false
def Zf1 (args : List SV) (_ : List Blk) : Eff := match args with
 | [_, .v (.int .i64 e)] => .det none (pE e) []
 | _ => .det none Qby []
def Zhq : Qb6 := Qap Qaq 132 (Qj7 true Zi9 Zfz Zf1)
def Zhp : Qb6 := Qap Zhq 87 (Qjv Q31 Qwy)
def Zd9 : Qb6 := Qap Zhp 133 (Qjv Q30 Qn0)
noncomputable def Zh6 : Qb6 := Qap (Qap (Qap (Qap Zd9 121 (Qjv (t0 Qaj) (p0 Qcx))) 127 (Qjv (t0 Qdf) (p0 Qkf))) 126 (Qjv (t0 Qee) (p0 Qn1))) 129 (Qjv (t0 Qln) (p0 Qo1))
noncomputable def Zh5 : Qb6 := Qap Zh6 125 (Qjv (t0 Qfw) (p0 nuP))
noncomputable def Zel : Qb6 := Qap Zh5 124 (Qjv (t0 Qdt) (p0 vcP))
noncomputable def Zho : Qb6 := Qap (Qap (Qap Zel 123 (Qjv (t0 Qe2) (p0 psP))) 130 (Qjv (t0 Qhb) (p0 spP))) 128 (Qjv (t0 Qak) (p0 haP))
theorem Zis (b : Bool) (e : Int) : (Qf9 Try.prog Qaq Qas Try.f132 [.v (.bool b),.v (.int .i64 e)] (Qac []) 64 (fun y h' => (!b) = false∧Qbh [] (.det none (.tup []) []) y h') (fun y h' => (!b) = true∧Qbh [] (.det none (pE e) []) y h')) = (sel (!b) (((!b) = true)∧(((SV.v (Value.iface 169 (Value.agg #[.int .i64 e]))) = (SV.v (Value.iface 169 (Value.agg #[.int .i64 e]))))∧True)) (((!b) = false)∧(True∧True))):=by kernel_rfl
theorem Zif (s : ByteArray) (k : Int) (n : Nat) : (Qf9 Try.prog Zhq (Qvd s k n) Try.f87 [.vp 0 0,.v (.int .i64 (n : Int))] (Qac [rdB s k]) 64 (fun y h' => (tkP s k n).bad = false∧Qbh [rdB s k] (.det none (.v (.int .u64 (rdT s k n))) [(0,rdB s (k + (n : Int)))]) y h') (fun y h' => (tkP s k n).bad = true∧Qbh [rdB s k] (.det none (pE (tkP s k n).er) [(0,Qbz (rdB s k))]) y h')) =
(sel (!decide (IntKind.wrap IntKind.i64 ((↑(ByteArray.size s) : Int) - k) ≥ (↑n : Int))) ((Pz.bad (tkP s k (↑n : Int)) = true)∧(((SV.v (Value.iface 169 (Value.agg #[.int .i64 7]))) = (SV.v (Value.iface 169 (Value.agg #[.int .i64 (Pz.er (tkP s k (↑n : Int)))]))))∧True)) ((∃ x : Nat,((Nat.le x n)∧(((zI = (yI ((↑x : Int))))∧((SV.v (.int .u64 0)) = (SV.v (.int .u64 (rdT s k x)))))∧(((1 : Nat) = 1)∧(((1 : Nat) ≤ 1)∧(∀ i : Nat,(((i : Nat) < 1)→([(SV.v (.string s)),(yI k)] = [(SV.v (.string s)),(yI (k + (↑x : Int)))]))))))))∧(∀ x : Nat,((Nat.le x n)→(sel (decide ((↑x : Int) < (↑n : Int))) ((((0 : Int) ≤ (k + (↑x : Int)))∧(((k + (↑x : Int)) : Int) < ((↑(ByteArray.size s) : Int))))∧(∃ x' : Nat,(((Nat.le x' n)∧((((yI (IntKind.wrap IntKind.i64 ((↑x : Int) + 1))) = (yI ((↑x' : Int))))∧((SV.v (.int .u64 (bits BinOp.or IntKind.u64 (IntKind.wrap IntKind.u64 (rdT s k x * 256)) (IntKind.wrap IntKind.u64 (↑(UInt8.toNat (List.getD (Array.toList (ByteArray.data s)) (Int.toNat (k + (↑x : Int))) 0)) : Int))))) = (SV.v (.int .u64 (rdT s k x')))))∧(((1 : Nat) = 1)∧(((1 : Nat) ≤ 1)∧(∀ i : Nat,(((i : Nat) < 1)→([(SV.v (.string s)),(yI (IntKind.wrap IntKind.i64 (k + (↑x : Int) + 1)))] = [(SV.v (.string s)),(yI (k + (↑x' : Int)))])))))))∧(((n - x') : Nat) < (n - x))))) ((Pz.bad (tkP s k (↑n : Int)) = false)∧(((SV.v (.int .u64 (rdT s k x))) = (SV.v (.int .u64 (rdT s k n))))∧(((1 : Nat) = 1)∧(((1 : Nat) ≤ 1)∧(∀ i : Nat,(((i : Nat) < 1)→([(SV.v (.string s)),(yI (k + (↑x : Int)))] = [(SV.v (.string s)),(yI (k + (↑n : Int)))])))))))))))) := by kernel_rfl
theorem Zie (s : ByteArray) (k m n : Int) : (Qf9 Try.prog Zhp Qas Try.f133 [.vp 0 0,.v (.int .u64 m),.v (.int .i64 n)] (Qac [rdB s k]) 64 (fun y h' => (upP s k m n).bad = false∧Qbh [rdB s k] (.det none (.v (.int .i64 (rdT s k n.toNat))) [(0,rdB s (k + n))]) y h') (fun y h' => (upP s k m n).bad = true∧Qbh [rdB s k] (.det none (pE (upP s k m n).er) [(0,Qbz (rdB s k))]) y h')) = (sel (Pz.bad (tkP s k n)) (((Qai s k)∧(((0 : Int) ≤ n)∧((n : Int) ≤ 8)))∧((Pz.bad (upP s k m n) = true)∧(((SV.v (Value.iface 169 (Value.agg #[.int .i64 (Pz.er (Qwy [yI n] s k))]))) = (SV.v (Value.iface 169 (Value.agg #[.int .i64 (Pz.er (upP s k m n))]))))∧True))) (((Qai s k)∧(((0 : Int) ≤ n)∧((n : Int) ≤ 8)))∧(sel (!decide (rdT s k (Int.toNat n) ≤ m)) ((Pz.bad (upP s k m n) = true)∧(((SV.v (Value.iface 169 (Value.agg #[.int .i64 4]))) = (SV.v (Value.iface 169 (Value.agg #[.int .i64 (Pz.er (upP s k m n))]))))∧True)) ((Pz.bad (upP s k m n) = false)∧(((yI (IntKind.wrap IntKind.i64 (rdT s k (Int.toNat n)))) = (yI (rdT s k (Int.toNat n))))∧(((1 : Nat) = 1)∧(((1 : Nat) ≤ 1)∧(∀ i : Nat,(((i : Nat) < 1)→([(SV.v (.string s)),(yI (k + n))] = [(SV.v (.string s)),(yI (k + n))])))))))))):=by kernel_rfl
theorem Q3l (s : ByteArray) (k : Int) : (Qf9 Try.prog Zd9 Qas Try.f121 [.vp 0 0] (Qac [rdB s k]) 64 (fun y h' => (Qcx s k).bad = false∧Qbh [rdB s k] (.det none (Qaj s k).1 [(0,rdB s (Qaj s k).2)]) y h') (fun y h' => (Qcx s k).bad = true∧Qbh [rdB s k] (.det none (pE (Qcx s k).er) [(0,Qbz (rdB s k))]) y h')) = (sel (Pz.bad (upP s k 2147483647 4)) (((Qai s k)∧((((0 : Int) ≤ 4)∧((4 : Int) ≤ 8))∧((2147483647 : Int) ≤ 1099511627776)))∧((Pz.bad (Qcx s k) = true)∧(((SV.v (Value.iface 169 (Value.agg #[.int .i64 (Pz.er (Qn0 [SV.v (.int .u64 2147483647),yI 4] s k))]))) = (SV.v (Value.iface 169 (Value.agg #[.int .i64 (Pz.er (Qcx s k))]))))∧True))) (((Qai s k)∧((((0 : Int) ≤ 4)∧((4 : Int) ≤ 8))∧((2147483647 : Int) ≤ 1099511627776)))∧((Pz.bad (Qcx s k) = false)∧(((yI (rdT s k 4)) = (yI (rdT s k 4)))∧(((1 : Nat) = 1)∧(((1 : Nat) ≤ 1)∧(∀ i : Nat,(((i : Nat) < 1)→([(SV.v (.string s)),(yI (k + 4))] = [(SV.v (.string s)),(yI (Prod.snd (Qaj s k)))]))))))))):=by kernel_rfl
theorem Q89 (s : ByteArray) (k : Int) : (Qf9 Try.prog Zd9 Qas Try.f127 [.vp 0 0] (Qac [rdB s k]) 64 (fun y h' => (Qkf s k).bad = false∧Qbh [rdB s k] (.det none (Qdf s k).1 [(0,rdB s (Qdf s k).2)]) y h') (fun y h' => (Qkf s k).bad = true∧Qbh [rdB s k] (.det none (pE (Qkf s k).er) [(0,Qbz (rdB s k))]) y h')) = (sel (Pz.bad (upP s k 1 1)) (((Qai s k)∧((((0 : Int) ≤ 1)∧((1 : Int) ≤ 8))∧((1 : Int) ≤ 1099511627776)))∧((Pz.bad (Qkf s k) = true)∧(((SV.v (Value.iface 169 (Value.agg #[.int .i64 (Pz.er (Qn0 [SV.v (.int .u64 1),yI 1] s k))]))) = (SV.v (Value.iface 169 (Value.agg #[.int .i64 (Pz.er (Qkf s k))]))))∧True))) (((Qai s k)∧((((0 : Int) ≤ 1)∧((1 : Int) ≤ 8))∧((1 : Int) ≤ 1099511627776)))∧((Pz.bad (Qkf s k) = false)∧(((yF (rdT s k 1 == 1)) = (yF (rdF s k)))∧(((1 : Nat) = 1)∧(((1 : Nat) ≤ 1)∧(∀ i : Nat,(((i : Nat) < 1)→([(SV.v (.string s)),(yI (k + 1))] = [(SV.v (.string s)),(yI (Prod.snd (Qdf s k)))]))))))))):=by kernel_rfl
theorem Zfi (s : ByteArray) (k : Int) : (Qf9 Try.prog Zd9 Qas Try.f126 [.vp 0 0] (Qac [rdB s k]) 64 (fun y h' => (Qn1 s k).bad = false∧Qbh [rdB s k] (.det none (Qee s k).1 [(0,rdB s (Qee s k).2)]) y h') (fun y h' => (Qn1 s k).bad = true∧Qbh [rdB s k] (.det none (pE (Qn1 s k).er) [(0,Qbz (rdB s k))]) y h')) = (sel (Pz.bad (tkP s k 8)) (((Qai s k)∧(((0 : Int) ≤ 8)∧((8 : Int) ≤ 8)))∧((Pz.bad (Qn1 s k) = true)∧(((SV.v (Value.iface 169 (Value.agg #[.int .i64 (Pz.er (Qwy [yI 8] s k))]))) = (SV.v (Value.iface 169 (Value.agg #[.int .i64 (Pz.er (Qn1 s k))]))))∧True))) (((Qai s k)∧(((0 : Int) ≤ 8)∧((8 : Int) ≤ 8)))∧((Pz.bad (Qn1 s k) = false)∧(((yI (IntKind.wrap IntKind.i64 (rdT s k 8))) = (yI (rdI s k)))∧(((1 : Nat) = 1)∧(((1 : Nat) ≤ 1)∧(∀ i : Nat,(((i : Nat) < 1)→([(SV.v (.string s)),(yI (k + 8))] = [(SV.v (.string s)),(yI (Prod.snd (Qee s k)))]))))))))):=by kernel_rfl
theorem Zes (s : ByteArray) (k : Int) : (Qf9 Try.prog Zd9 Qas Try.f129 [.vp 0 0] (Qac [rdB s k]) 64 (fun y h' => (Qo1 s k).bad = false∧Qbh [rdB s k] (.det none (Qln s k).1 [(0,rdB s (Qln s k).2)]) y h') (fun y h' => (Qo1 s k).bad = true∧Qbh [rdB s k] (.det none (pE (Qo1 s k).er) [(0,Qbz (rdB s k))]) y h')) = (sel (Pz.bad (upP s k 1099511627776 8)) (((Qai s k)∧((((0 : Int) ≤ 8)∧((8 : Int) ≤ 8))∧((1099511627776 : Int) ≤ 1099511627776)))∧((Pz.bad (Qo1 s k) = true)∧(((SV.v (Value.iface 169 (Value.agg #[.int .i64 (Pz.er (Qn0 [SV.v (.int .u64 1099511627776),yI 8] s k))]))) = (SV.v (Value.iface 169 (Value.agg #[.int .i64 (Pz.er (Qo1 s k))]))))∧True))) (((Qai s k)∧((((0 : Int) ≤ 8)∧((8 : Int) ≤ 8))∧((1099511627776 : Int) ≤ 1099511627776)))∧((Pz.bad (Qo1 s k) = false)∧(((yI (rdT s k 8)) = (yI (rdT s k 8)))∧(((1 : Nat) = 1)∧(((1 : Nat) ≤ 1)∧(∀ i : Nat,(((i : Nat) < 1)→([(SV.v (.string s)),(yI (k + 8))] = [(SV.v (.string s)),(yI (Prod.snd (Qln s k)))]))))))))):=by kernel_rfl
theorem Zff (s : ByteArray) (k : Int) : (Qf9 Try.prog Zh6 Qas Try.f125 [.vp 0 0] (Qac [rdB s k]) 64 (fun y h' => (nuP s k).bad = false∧Qbh [rdB s k] (.det none (Qfw s k).1 [(0,rdB s (Qfw s k).2)]) y h') (fun y h' => (nuP s k).bad = true∧Qbh [rdB s k] (.det none (pE (nuP s k).er) [(0,Qbz (rdB s k))]) y h')) =
(sel (Pz.bad (Qn1 s k)) (((Qai s k)∧True)∧((Pz.bad (nuP s k) = true)∧(((SV.v (Value.iface 169 (Value.agg #[.int .i64 (Pz.er (p0 Qn1 [] s k))]))) = (SV.v (Value.iface 169 (Value.agg #[.int .i64 (Pz.er (nuP s k))]))))∧True))) (((Qai s k)∧True)∧(sel (!rdI s k != -9223372036854775808) ((Pz.bad (nuP s k) = true)∧(((SV.v (Value.iface 169 (Value.agg #[.int .i64 4]))) = (SV.v (Value.iface 169 (Value.agg #[.int .i64 (Pz.er (nuP s k))]))))∧True)) (sel (Pz.bad (Qkf s (Prod.snd (Qee s k)))) (((Qai s (Prod.snd (Qee s k)))∧True)∧((Pz.bad (nuP s k) = true)∧(((SV.v (Value.iface 169 (Value.agg #[.int .i64 (Pz.er (p0 Qkf [] s (Prod.snd (Qee s k))))]))) = (SV.v (Value.iface 169 (Value.agg #[.int .i64 (Pz.er (nuP s k))]))))∧True))) (((Qai s (Prod.snd (Qee s k)))∧True)∧((Pz.bad (nuP s k) = false)∧((((yI (rdI s k)) = (yI (rdI s k)))∧((yF (rdF s (Prod.snd (Qee s k)))) = (yF (rdF s (k + 8)))))∧(((1 : Nat) = 1)∧(((1 : Nat) ≤ 1)∧(∀ i : Nat,(((i : Nat) < 1)→([(SV.v (.string s)),(yI (Prod.snd (Qdf s (Prod.snd (Qee s k)))))] = [(SV.v (.string s)),(yI (Prod.snd (Qfw s k)))])))))))))))) := by kernel_rfl
theorem Zet (s : ByteArray) (k : Int) : (Qf9 Try.prog Zh5 Qas Try.f124 [.vp 0 0] (Qac [rdB s k]) 64 (fun y h' => (vcP s k).bad = false∧Qbh [rdB s k] (.det none (Qdt s k).1 [(0,rdB s (Qdt s k).2)]) y h') (fun y h' => (vcP s k).bad = true∧Qbh [rdB s k] (.det none (pE (vcP s k).er) [(0,Qbz (rdB s k))]) y h')) =
(sel (Pz.bad (nuP s k)) (((Qai s k)∧True)∧((Pz.bad (vcP s k) = true)∧(((SV.v (Value.iface 169 (Value.agg #[.int .i64 (Pz.er (p0 nuP [] s k))]))) = (SV.v (Value.iface 169 (Value.agg #[.int .i64 (Pz.er (vcP s k))]))))∧True))) (((Qai s k)∧True)∧(sel (Pz.bad (nuP s (Prod.snd (Qfw s k)))) (((Qai s (Prod.snd (Qfw s k)))∧True)∧((Pz.bad (vcP s k) = true)∧(((SV.v (Value.iface 169 (Value.agg #[.int .i64 (Pz.er (p0 nuP [] s (Prod.snd (Qfw s k))))]))) = (SV.v (Value.iface 169 (Value.agg #[.int .i64 (Pz.er (vcP s k))]))))∧True))) (((Qai s (Prod.snd (Qfw s k)))∧True)∧((Pz.bad (vcP s k) = false)∧((((yI (rdI s k)) = (yI (rdI s k)))∧(((yF (rdF s (k + 8))) = (yF (rdF s (k + 8))))∧(((yI (rdI s (Prod.snd (Qfw s k)))) = (yI (rdI s (k + 8 + 1))))∧((yF (rdF s (Prod.snd (Qfw s k) + 8))) = (yF (rdF s (k + 8 + 1 + 8)))))))∧(((1 : Nat) = 1)∧(((1 : Nat) ≤ 1)∧(∀ i : Nat,(((i : Nat) < 1)→([(SV.v (.string s)),(yI (Prod.snd (Qfw s (Prod.snd (Qfw s k)))))] = [(SV.v (.string s)),(yI (Prod.snd (Qdt s k)))]))))))))))) := by kernel_rfl
theorem Q83 (s : ByteArray) (k : Int) : (Qf9 Try.prog Zel Qas Try.f123 [.vp 0 0] (Qac [rdB s k]) 64 (fun y h' => (psP s k).bad = false∧Qbh [rdB s k] (.det none (Qe2 s k).1 [(0,rdB s (Qe2 s k).2)]) y h') (fun y h' => (psP s k).bad = true∧Qbh [rdB s k] (.det none (pE (psP s k).er) [(0,Qbz (rdB s k))]) y h')) =
(sel (Pz.bad (vcP s k)) (((Qai s k)∧True)∧((Pz.bad (psP s k) = true)∧(((SV.v (Value.iface 169 (Value.agg #[.int .i64 (Pz.er (p0 vcP [] s k))]))) = (SV.v (Value.iface 169 (Value.agg #[.int .i64 (Pz.er (psP s k))]))))∧True))) (((Qai s k)∧True)∧(sel (Pz.bad (nuP s (Prod.snd (Qdt s k)))) (((Qai s (Prod.snd (Qdt s k)))∧True)∧((Pz.bad (psP s k) = true)∧(((SV.v (Value.iface 169 (Value.agg #[.int .i64 (Pz.er (p0 nuP [] s (Prod.snd (Qdt s k))))]))) = (SV.v (Value.iface 169 (Value.agg #[.int .i64 (Pz.er (psP s k))]))))∧True))) (((Qai s (Prod.snd (Qdt s k)))∧True)∧(sel (Pz.bad (nuP s (Prod.snd (Qfw s (Prod.snd (Qdt s k)))))) (((Qai s (Prod.snd (Qfw s (Prod.snd (Qdt s k)))))∧True)∧((Pz.bad (psP s k) = true)∧(((SV.v (Value.iface 169 (Value.agg #[.int .i64 (Pz.er (p0 nuP [] s (Prod.snd (Qfw s (Prod.snd (Qdt s k))))))]))) = (SV.v (Value.iface 169 (Value.agg #[.int .i64 (Pz.er (psP s k))]))))∧True))) (((Qai s (Prod.snd (Qfw s (Prod.snd (Qdt s k)))))∧True)∧((Pz.bad (psP s k) = false)∧((((yI (rdI s k)) = (yI (rdI s k)))∧(((yF (rdF s (k + 8))) = (yF (rdF s (k + 8))))∧(((yI (rdI s (k + 8 + 1))) = (yI (rdI s (k + 8 + 1))))∧(((yF (rdF s (k + 8 + 1 + 8))) = (yF (rdF s (k + 8 + 1 + 8))))∧(((yI (rdI s (Prod.snd (Qdt s k)))) = (yI (rdI s (k + 8 + 1 + 8 + 1))))∧(((yF (rdF s (Prod.snd (Qdt s k) + 8))) = (yF (rdF s (k + 8 + 1 + 8 + 1 + 8))))∧(((yI (rdI s (Prod.snd (Qfw s (Prod.snd (Qdt s k)))))) = (yI (rdI s (k + 8 + 1 + 8 + 1 + 8 + 1))))∧((yF (rdF s (Prod.snd (Qfw s (Prod.snd (Qdt s k))) + 8))) = (yF (rdF s (k + 8 + 1 + 8 + 1 + 8 + 1 + 8)))))))))))∧(((1 : Nat) = 1)∧(((1 : Nat) ≤ 1)∧(∀ i : Nat,(((i : Nat) < 1)→([(SV.v (.string s)),(yI (Prod.snd (Qfw s (Prod.snd (Qfw s (Prod.snd (Qdt s k)))))))] = [(SV.v (.string s)),(yI (Prod.snd (Qe2 s k)))]))))))))))))) := by kernel_rfl
theorem Q8r (s : ByteArray) (k : Int) : (Qf9 Try.prog Zel Qas Try.f130 [.vp 0 0] (Qac [rdB s k]) 64 (fun y h' => (spP s k).bad = false∧Qbh [rdB s k] (.det none (Qhb s k).1 [(0,rdB s (Qhb s k).2)]) y h') (fun y h' => (spP s k).bad = true∧Qbh [rdB s k] (.det none (pE (spP s k).er) [(0,Qbz (rdB s k))]) y h')) =
(sel (Pz.bad (Qn1 s k)) (((Qai s k)∧True)∧((Pz.bad (spP s k) = true)∧(((SV.v (Value.iface 169 (Value.agg #[.int .i64 (Pz.er (p0 Qn1 [] s k))]))) = (SV.v (Value.iface 169 (Value.agg #[.int .i64 (Pz.er (spP s k))]))))∧True))) (((Qai s k)∧True)∧(sel (Pz.bad (Qn1 s (Prod.snd (Qee s k)))) (((Qai s (Prod.snd (Qee s k)))∧True)∧((Pz.bad (spP s k) = true)∧(((SV.v (Value.iface 169 (Value.agg #[.int .i64 (Pz.er (p0 Qn1 [] s (Prod.snd (Qee s k))))]))) = (SV.v (Value.iface 169 (Value.agg #[.int .i64 (Pz.er (spP s k))]))))∧True))) (((Qai s (Prod.snd (Qee s k)))∧True)∧((Pz.bad (spP s k) = false)∧((((yI (rdI s k)) = (yI (rdI s k)))∧((yI (rdI s (Prod.snd (Qee s k)))) = (yI (rdI s (k + 8)))))∧(((1 : Nat) = 1)∧(((1 : Nat) ≤ 1)∧(∀ i : Nat,(((i : Nat) < 1)→([(SV.v (.string s)),(yI (Prod.snd (Qee s (Prod.snd (Qee s k)))))] = [(SV.v (.string s)),(yI (Prod.snd (Qhb s k)))]))))))))))) := by kernel_rfl
theorem Qyr (s : ByteArray) (k : Int) : (Qf9 Try.prog Zel Qas Try.f128 [.vp 0 0] (Qac [rdB s k]) 64 (fun y h' => (haP s k).bad = false∧Qbh [rdB s k] (.det none (Qak s k).1 [(0,rdB s (Qak s k).2)]) y h') (fun y h' => (haP s k).bad = true∧Qbh [rdB s k] (.det none (pE (haP s k).er) [(0,Qbz (rdB s k))]) y h')) =
(sel (Pz.bad (Qcx s k)) (((Qai s k)∧True)∧((Pz.bad (haP s k) = true)∧(((SV.v (Value.iface 169 (Value.agg #[.int .i64 (Pz.er (p0 Qcx [] s k))]))) = (SV.v (Value.iface 169 (Value.agg #[.int .i64 (Pz.er (haP s k))]))))∧True))) (((Qai s k)∧True)∧(sel (Pz.bad (Qcx s (Prod.snd (Qaj s k)))) (((Qai s (Prod.snd (Qaj s k)))∧True)∧((Pz.bad (haP s k) = true)∧(((SV.v (Value.iface 169 (Value.agg #[.int .i64 (Pz.er (p0 Qcx [] s (Prod.snd (Qaj s k))))]))) = (SV.v (Value.iface 169 (Value.agg #[.int .i64 (Pz.er (haP s k))]))))∧True))) (((Qai s (Prod.snd (Qaj s k)))∧True)∧((Pz.bad (haP s k) = false)∧((((yI (rdT s k 4)) = (yI (rdT s k 4)))∧((yI (rdT s (Prod.snd (Qaj s k)) 4)) = (yI (rdT s (k + 4) 4))))∧(((1 : Nat) = 1)∧(((1 : Nat) ≤ 1)∧(∀ i : Nat,(((i : Nat) < 1)→([(SV.v (.string s)),(yI (Prod.snd (Qaj s (Prod.snd (Qaj s k)))))] = [(SV.v (.string s)),(yI (Prod.snd (Qak s k)))]))))))))))) := by kernel_rfl
theorem Qt5 {p : Prop} [Decidable p] (h : (!decide p) = true) : ¬p := by
 cases hd : decide p with
 | true => rw [hd] at h; cases h
 | false => exact of_decide_eq_false hd
theorem Qqx {p : Prop} [Decidable p] (h : (!decide p) = false) : p := by
 cases hd : decide p with
 | false => rw [hd] at h; cases h
 | true => exact of_decide_eq_true hd
theorem Qa1 {a b : Pz} (h : a.bad = false) : a.seq b = b := by unfold Pz.seq; rw [h]; rfl
theorem Qa2 {a b : Pz} (h : a.bad = true) : (a.seq b).bad = true ∧ a.er = (a.seq b).er := by unfold Pz.seq; rw [h]; exact ⟨rfl, rfl⟩
theorem Qck {a b : Pz} (h : (a.seq b).bad = false) : a.bad = false ∧ b.bad = false := by
 have h : (a.bad || b.bad) = false := h
 simpa using h
theorem pan {p : Pz} {e : Int} (h : p.bad = true ∧ e = p.er) : (p.bad = true) ∧ ((SV.v (Value.iface 169 (Value.agg #[Value.int IntKind.i64 e])) = SV.v (Value.iface 169 (Value.agg #[Value.int IntKind.i64 p.er]))) ∧ True) := ⟨h.1, by rw [h.2], trivial⟩
theorem Zi6 {s : ByteArray} {k n : Int} (h : (tkP s k n).bad = false) : k + n ≤ (s.size : Int) := by
 have := of_decide_eq_false h
 omega
theorem Qgp {s : ByteArray} {k n : Int} (hp : Qai s k) (hn : 0 ≤ n) (h : (tkP s k n).bad = false) : Qai s (k + n) := by
 have := Zi6 h
 obtain ⟨⟨h1, h2⟩, h3⟩ := hp
 exact ⟨⟨by omega, by omega⟩, h3⟩
theorem Qcm {s : ByteArray} {k m n : Int} (hp : Qai s k) (hn : 0 ≤ n) (h : (upP s k m n).bad = false) : Qai s (k + n) := Qgp hp hn (Qck h).1
theorem Qg2 {s : ByteArray} {k : Int} (hp : Qai s k) (h : (nuP s k).bad = false) : Qai s (k + 8 + 1) := Qcm (Qgp hp (by omega) (Qck h).1) (by omega) (Qck (Qck h).2).2
theorem Qjy {s : ByteArray} {k : Int} (hp : Qai s k) (h : (vcP s k).bad = false) : Qai s (k + 8 + 1 + 8 + 1) := Qg2 (Qg2 hp (Qck h).1) (Qck h).2
theorem Qz4 {s : ByteArray} {k : Int} (hp : Qai s k) (h : (psP s k).bad = false) : Qai s (k + 8 + 1 + 8 + 1 + 8 + 1 + 8 + 1) := Qg2 (Qg2 (Qjy hp (Qck h).1) (Qck (Qck h).2).1) (Qck (Qck h).2).2
theorem Qr4 {s : ByteArray} {k : Int} (hp : Qai s k) (h : (spP s k).bad = false) : Qai s (k + 8 + 8) := Qgp (Qgp hp (by omega) (Qck h).1) (by omega) (Qck h).2
theorem Qi8 {s : ByteArray} {k : Int} (hp : Qai s k) (h : (haP s k).bad = false) : Qai s (k + 4 + 4) := Qcm (Qcm hp (by omega) (Qck h).1) (by omega) (Qck h).2
theorem Qqe {Γ : Qb6} (hΓ : ∀ f g, Γ f = some g → g.ok Try.prog f) {f : FuncId} {fn : Func} (hf : Try.prog.funcs[f]? = some fn) {F : List SV → ByteArray → Int → Option (Prop × SV × Int)} {G : List SV → ByteArray → Int → Pz} {Λ : List SV → ByteArray → Int → Nat → Option LoopSpec}
   (h : ∀ rest s k q x k', F rest s k = some (q, x, k') → Qai s k → q → Qf9 Try.prog Γ (Λ rest s k) fn (.vp 0 0 :: rest) (Qac [rdB s k]) 64 (fun y h' => (G rest s k).bad = false ∧ Qbh [rdB s k] (.det none x [(0, rdB s k')]) y h') (fun y h' => (G rest s k).bad = true ∧ Qbh [rdB s k] (.det none (pE (G rest s k).er) [(0, Qbz (rdB s k))]) y h')) :
   Qcg Try.prog f (sTd F) (Qlh G) (Qqi F G) := Qq7 hm hΓ hf (Λ := fun args bs => match args, bs with
     | _ :: rest, [B] => match B.row 0 with
       | [.v (.string s), .v (.int _ k)] => Λ rest s k
       | _ => Qas
     | _, _ => Qas) fun args bs e hs hp => by
 unfold sTd at hs
 split at hs <;> try (cases hs; done)
 rename_i rest B
 split at hs <;> try (cases hs; done)
 rename_i s k hB
 split at hs <;> try (cases hs; done)
 rename_i q x k' hF
 obtain ⟨ha, he⟩ := Qcl hs
 subst he
 have e1 : Qlh G (.vp 0 0 :: rest) [B] = (G rest s k).bad := by simp only [Qlh, hB]
 have e2 : Qqi F G (.vp 0 0 :: rest) [B] = .det (some (Qai s k ∧ q)) (pE (G rest s k).er) [(0, Qbz (rdB s k))] := by simp only [Qqi, hB, hF]
 rw [e1, e2] at hp
 have hq : Qai s k ∧ q := by
   cases hb : (G rest s k).bad with
   | true => rw [hb] at hp; exact hp _ rfl
   | false => rw [hb] at hp; exact hp _ rfl
 refine ⟨[rdB s k], ⟨Qnw ha hB, trivial⟩, ?_⟩
 rw [e1, e2]
 simp only [hB]
 exact h rest s k q x k' hF hq.1 hq.2
theorem Qkd {f : FuncId} {fn : Func} {F : List SV → ByteArray → Int → Option (Prop × SV × Int)} {G : List SV → ByteArray → Int → Pz} (hf : Try.prog.funcs[f]? = some fn) (hn : (fn.name == "runtime.NumGoroutine") = false) (hb : fn.body.isNone = false) (h : Qcg Try.prog f (sTd F) (Qlh G) (Qqi F G)) : (Qjv F G).ok Try.prog f := Q0k hf hn hb h
theorem Qhc {Γ : Qb6} (hΓ : ∀ f g, Γ f = some g → g.ok Try.prog f) {f : FuncId} {fn : Func} (hf : Try.prog.funcs[f]? = some fn) {x : ByteArray → Int → SV × Int} {p : ByteArray → Int → Pz} {Λ : ByteArray → Int → Nat → Option LoopSpec}
   (h : ∀ s k, Qai s k → Qf9 Try.prog Γ (Λ s k) fn [.vp 0 0] (Qac [rdB s k]) 64 (fun y h' => (p s k).bad = false ∧ Qbh [rdB s k] (.det none (x s k).1 [(0, rdB s (x s k).2)]) y h') (fun y h' => (p s k).bad = true ∧ Qbh [rdB s k] (.det none (pE (p s k).er) [(0, Qbz (rdB s k))]) y h')) :
   Qcg Try.prog f (sTd (t0 x)) (Qlh (p0 p)) (Qqi (t0 x) (p0 p)) := Qqe hΓ hf (Λ := fun _ s k => Λ s k) fun rest s k q y k' hF hp hq => by
 unfold t0 at hF
 split at hF <;> try (cases hF; done)
 have hF := Option.some.inj hF
 obtain ⟨_, hF⟩ := Prod.mk.inj hF
 obtain ⟨e1, e2⟩ := Prod.mk.inj hF
 subst e1 e2
 exact h s k hp
theorem Q58 : Qcg Try.prog 132 Zi9 Zfz Zf1 := Qq7 hm Qax Try.func132 (Λ := fun _ _ => Qas) fun args bs e hs hp => by
 unfold Zi9 at hs
 split at hs <;> try (cases hs; done)
 rename_i b e0
 have he := Option.some.inj hs
 subst he
 refine ⟨[], trivial, ?_⟩
 refine Eq.mpr (Zis b e0) (Qab (fun h => ⟨h, rfl, trivial⟩) fun h => ⟨h, trivial, trivial⟩)
theorem Qti : ∀ f g, Zhq f = some g → g.ok Try.prog f := Qah Qax (Q0k Try.func132 (by kernel_rfl) (by kernel_rfl) Q58)
theorem Q50 : Qcg Try.prog 87 (sTd Q31) (Qlh Qwy) (Qqi Q31 Qwy) := Qqe Qti Try.func87 (Λ := fun rest s k => match rest with | [.v (.int _ n)] => Qvd s k n.toNat | _ => Qas) fun rest s k q x k' h hp hq => by
 unfold Q31 at h
 split at h <;> try (cases h; done)
 rename_i n
 cases h
 obtain ⟨⟨hk, hk2⟩, hM⟩ := hp
 obtain ⟨hn0, hn8⟩ := hq
 obtain ⟨n, rfl⟩ : ∃ m : Nat, n = (m : Int) := ⟨n.toNat, by omega⟩
 rw [Int.toNat_natCast]
 have ew : IntKind.i64.wrap ((s.size : Int) - k) = (s.size : Int) - k := Qbn ⟨by omega, by omega⟩
 refine Eq.mpr (Zif s k n) (Qab (fun h => ?_) fun h => ?_)
 · have h := Qt5 h
   rw [ew] at h
   exact pan ⟨decide_eq_true (by omega), rfl⟩
 have h := Qqx h
 rw [ew] at h
 have hb : (tkP s k n).bad = false := decide_eq_false (by omega)
 have hsz := Zi6 hb
 refine ⟨⟨0, Nat.zero_le _, ⟨rfl, rfl⟩, rfl, Nat.le_refl _, fun i hi => by rw [show k + ((0 : Nat) : Int) = k by omega]⟩, fun x hx => Qab (fun hlt => ?_) fun hge => ?_⟩
 · have hx : x ≤ n := hx
   have hlt := of_decide_eq_true hlt
   have hlt : x < n := by omega
   obtain ⟨r1, r2⟩ := Qez s k x
   have r3 := Qz5 r2 (by omega)
   have hb := (s.data.toList.getD (k + (x : Int)).toNat 0).toNat_lt
   have e1 : IntKind.i64.wrap ((x : Int) + 1) = ((x + 1 : Nat) : Int) := Qbn ⟨by omega, by omega⟩
   have e2 : IntKind.i64.wrap (k + (x : Int) + 1) = k + ((x + 1 : Nat) : Int) := by rw [Qbn ⟨by omega, by omega⟩]; omega
   have e3 : IntKind.u64.wrap (rdT s k x * 256) = rdT s k x * 256 := by rw [Qgz]; omega
   have e4 : IntKind.u64.wrap ((s.data.toList.getD (k + (x : Int)).toNat 0).toNat : Int) = ((s.data.toList.getD (k + (x : Int)).toNat 0).toNat : Int) := by rw [Qgz]; omega
   rw [e1, e2, e3, e4, Qz7 r1 r3 (by omega) (by omega)]
   refine ⟨⟨by omega, by omega⟩, x + 1, ⟨hlt, ⟨rfl, ?_⟩, rfl, Nat.le_refl _, fun _ _ => rfl⟩, by omega⟩
   show _ = SV.v (.int .u64 (rdT s k x * 256 + ((s.data.toList.getD (k.toNat + x) 0).toNat : Int)))
   rw [show (k + (x : Int)).toNat = k.toNat + x by omega]
 · have hx : x ≤ n := hx
   have hge := of_decide_eq_false hge
   have hx : x = n := by omega
   subst hx
   exact ⟨hb, rfl, rfl, Nat.le_refl _, fun _ _ => rfl⟩
theorem Qth : ∀ f g, Zhp f = some g → g.ok Try.prog f := Qah Qti (Qkd Try.func87 (by kernel_rfl) (by kernel_rfl) Q50)
theorem Q5z : Qcg Try.prog 133 (sTd Q30) (Qlh Qn0) (Qqi Q30 Qn0) := Qqe Qth Try.func133 (Λ := fun _ _ _ => Qas) fun rest s k q x k' h hp hq => by
 unfold Q30 at h
 split at h <;> try (cases h; done)
 rename_i m n
 cases h
 obtain ⟨hn, hm⟩ := hq
 refine Eq.mpr (Zie s k m n) (Qab (fun h => ⟨⟨hp, hn⟩, pan (Qa2 h)⟩) fun h => ⟨⟨hp, hn⟩, Qab (fun h2 => ?_) fun h2 => ?_⟩)
 · have h2 := Qt5 h2
   refine pan ?_
   unfold upP
   rw [Qa1 h]
   exact ⟨decide_eq_true (by omega), rfl⟩
 · have h2 := Qqx h2
   refine ⟨?_, ?_, rfl, Nat.le_refl _, fun _ _ => rfl⟩
   · unfold upP
     rw [Qa1 h]
     exact decide_eq_false (by omega)
   · have := (Qez s k n.toNat).1
     rw [Qbn ⟨by omega, by omega⟩]
theorem Qnf : ∀ f g, Zd9 f = some g → g.ok Try.prog f := Qah Qth (Qkd Try.func133 (by kernel_rfl) (by kernel_rfl) Q5z)
theorem Qdk (s : ByteArray) (k : Int) : rdI s k = IntKind.i64.wrap (rdT s k 8) := Zbo _
theorem Qu9 : Qcg Try.prog 121 (sTd (t0 Qaj)) (Qlh (p0 Qcx)) (Qqi (t0 Qaj) (p0 Qcx)) := Qhc Qnf Try.func121 (Λ := fun _ _ => Qas) fun s k hp =>
 Eq.mpr (Q3l s k) (Qab (fun h => ⟨⟨hp, ⟨by omega, by omega⟩, by omega⟩, pan ⟨h, rfl⟩⟩) fun h => ⟨⟨hp, ⟨by omega, by omega⟩, by omega⟩, h, rfl, rfl, Nat.le_refl _, fun _ _ => rfl⟩)
theorem Qxt : Qcg Try.prog 127 (sTd (t0 Qdf)) (Qlh (p0 Qkf)) (Qqi (t0 Qdf) (p0 Qkf)) := Qhc Qnf Try.func127 (Λ := fun _ _ => Qas) fun s k hp =>
 Eq.mpr (Q89 s k) (Qab (fun h => ⟨⟨hp, ⟨by omega, by omega⟩, by omega⟩, pan ⟨h, rfl⟩⟩) fun h => ⟨⟨hp, ⟨by omega, by omega⟩, by omega⟩, h, rfl, rfl, Nat.le_refl _, fun _ _ => rfl⟩)
theorem Q1z : Qcg Try.prog 126 (sTd (t0 Qee)) (Qlh (p0 Qn1)) (Qqi (t0 Qee) (p0 Qn1)) := Qhc Qnf Try.func126 (Λ := fun _ _ => Qas) fun s k hp => by
 refine Eq.mpr (Zfi s k) (Qab (fun h => ⟨⟨hp, by omega, by omega⟩, pan ⟨h, rfl⟩⟩) fun h => ⟨⟨hp, by omega, by omega⟩, h, ?_, rfl, Nat.le_refl _, fun _ _ => rfl⟩)
 rw [Qdk]
theorem Q1l : Qcg Try.prog 129 (sTd (t0 Qln)) (Qlh (p0 Qo1)) (Qqi (t0 Qln) (p0 Qo1)) := Qhc Qnf Try.func129 (Λ := fun _ _ => Qas) fun s k hp => by
 refine Eq.mpr (Zes s k) (Qab (fun h => ⟨⟨hp, ⟨by omega, by omega⟩, by omega⟩, pan ⟨h, rfl⟩⟩) fun h => ⟨⟨hp, ⟨by omega, by omega⟩, by omega⟩, h, ?_, rfl, Nat.le_refl _, fun _ _ => rfl⟩)
 first | exact rfl | (have := of_decide_eq_false (Qck h).2; have := (Qez s k 8).1; rw [Qbn ⟨by omega, by omega⟩]; rfl)
theorem Qyc : ∀ f g, Zh6 f = some g → g.ok Try.prog f := Qah (Qah (Qah (Qah Qnf (Qkd Try.func121 (by kernel_rfl) (by kernel_rfl) Qu9)) (Qkd Try.func127 (by kernel_rfl) (by kernel_rfl) Qxt)) (Qkd Try.func126 (by kernel_rfl) (by kernel_rfl) Q1z)) (Qkd Try.func129 (by kernel_rfl) (by kernel_rfl) Q1l)
theorem Q1v : Qcg Try.prog 125 (sTd (t0 Qfw)) (Qlh (p0 nuP)) (Qqi (t0 Qfw) (p0 nuP)) := Qhc Qyc Try.func125 (Λ := fun _ _ => Qas) fun s k hp => by
 refine Eq.mpr (Zff s k) (Qab (fun h => ⟨⟨hp, trivial⟩, pan (Qa2 h)⟩) fun h => ⟨⟨hp, trivial⟩, ?_⟩)
 have h : (tkP s k 8).bad = false := h
 have hp2 : Qai s (k + 8) := Qgp hp (by omega) h
 have e1 : nuP s k = Pz.seq ⟨rdI s k == -9223372036854775808, 4⟩ (upP s (k + 8) 1 1) := by unfold nuP; exact Qa1 h
 rw [e1]
 refine Qab (fun h2 => ?_) fun h2 => ?_
 · have h2 : (rdI s k == -9223372036854775808) = true := by unfold bne at h2; simpa using h2
   exact pan (Qa2 h2)
 · have h2 : (rdI s k == -9223372036854775808) = false := by unfold bne at h2; simpa using h2
   rw [Qa1 (a := ⟨rdI s k == -9223372036854775808, 4⟩) h2]
   exact Qab (fun h3 => ⟨⟨hp2, trivial⟩, pan ⟨h3, rfl⟩⟩) fun h3 => ⟨⟨hp2, trivial⟩, h3, ⟨rfl, rfl⟩, rfl, Nat.le_refl _, fun _ _ => rfl⟩
theorem Qyb : ∀ f g, Zh5 f = some g → g.ok Try.prog f := Qah Qyc (Qkd Try.func125 (by kernel_rfl) (by kernel_rfl) Q1v)
theorem Q1m : Qcg Try.prog 124 (sTd (t0 Qdt)) (Qlh (p0 vcP)) (Qqi (t0 Qdt) (p0 vcP)) := Qhc Qyb Try.func124 (Λ := fun _ _ => Qas) fun s k hp => by
 refine Eq.mpr (Zet s k) (Qab (fun h => ⟨⟨hp, trivial⟩, pan (Qa2 h)⟩) fun h => ⟨⟨hp, trivial⟩, ?_⟩)
 have hp2 : Qai s (k + 8 + 1) := Qg2 hp h
 rw [show vcP s k = nuP s (k + 8 + 1) from Qa1 h]
 exact Qab (fun h2 => ⟨⟨hp2, trivial⟩, pan ⟨h2, rfl⟩⟩) fun h2 => ⟨⟨hp2, trivial⟩, h2, ⟨rfl, rfl, rfl, rfl⟩, rfl, Nat.le_refl _, fun _ _ => rfl⟩
theorem Qp2 : ∀ f g, Zel f = some g → g.ok Try.prog f := Qah Qyb (Qkd Try.func124 (by kernel_rfl) (by kernel_rfl) Q1m)
theorem Qxp : Qcg Try.prog 123 (sTd (t0 Qe2)) (Qlh (p0 psP)) (Qqi (t0 Qe2) (p0 psP)) := Qhc Qp2 Try.func123 (Λ := fun _ _ => Qas) fun s k hp => by
 refine Eq.mpr (Q83 s k) (Qab (fun h => ⟨⟨hp, trivial⟩, pan (Qa2 h)⟩) fun h => ⟨⟨hp, trivial⟩, ?_⟩)
 have hp2 : Qai s (k + 8 + 1 + 8 + 1) := Qjy hp h
 rw [show psP s k = (nuP s (k + 8 + 1 + 8 + 1)).seq (nuP s (k + 8 + 1 + 8 + 1 + 8 + 1)) from Qa1 h]
 refine Qab (fun h2 => ⟨⟨hp2, trivial⟩, pan (Qa2 h2)⟩) fun h2 => ⟨⟨hp2, trivial⟩, ?_⟩
 have hp3 : Qai s (k + 8 + 1 + 8 + 1 + 8 + 1) := Qg2 hp2 h2
 rw [Qa1 (a := nuP s (k + 8 + 1 + 8 + 1)) h2]
 exact Qab (fun h3 => ⟨⟨hp3, trivial⟩, pan ⟨h3, rfl⟩⟩) fun h3 => ⟨⟨hp3, trivial⟩, h3, ⟨rfl, rfl, rfl, rfl, rfl, rfl, rfl, rfl⟩, rfl, Nat.le_refl _, fun _ _ => rfl⟩
theorem Qxf : Qcg Try.prog 130 (sTd (t0 Qhb)) (Qlh (p0 spP)) (Qqi (t0 Qhb) (p0 spP)) := Qhc Qp2 Try.func130 (Λ := fun _ _ => Qas) fun s k hp => by
 refine Eq.mpr (Q8r s k) (Qab (fun h => ⟨⟨hp, trivial⟩, pan (Qa2 h)⟩) fun h => ⟨⟨hp, trivial⟩, ?_⟩)
 have hp2 : Qai s (k + 8) := Qgp hp (by omega) h
 rw [show spP s k = tkP s (k + 8) 8 from Qa1 h]
 exact Qab (fun h2 => ⟨⟨hp2, trivial⟩, pan ⟨h2, rfl⟩⟩) fun h2 => ⟨⟨hp2, trivial⟩, h2, ⟨rfl, rfl⟩, rfl, Nat.le_refl _, fun _ _ => rfl⟩
theorem Qs9 : Qcg Try.prog 128 (sTd (t0 Qak)) (Qlh (p0 haP)) (Qqi (t0 Qak) (p0 haP)) := Qhc Qp2 Try.func128 (Λ := fun _ _ => Qas) fun s k hp => by
 refine Eq.mpr (Qyr s k) (Qab (fun h => ⟨⟨hp, trivial⟩, pan (Qa2 h)⟩) fun h => ⟨⟨hp, trivial⟩, ?_⟩)
 have hp2 : Qai s (k + 4) := Qcm hp (by omega) h
 rw [show haP s k = upP s (k + 4) 2147483647 4 from Qa1 h]
 exact Qab (fun h2 => ⟨⟨hp2, trivial⟩, pan ⟨h2, rfl⟩⟩) fun h2 => ⟨⟨hp2, trivial⟩, h2, ⟨rfl, rfl⟩, rfl, Nat.le_refl _, fun _ _ => rfl⟩
theorem Qtg : ∀ f g, Zho f = some g → g.ok Try.prog f := Qah (Qah (Qah Qp2 (Qkd Try.func123 (by kernel_rfl) (by kernel_rfl) Qxp)) (Qkd Try.func130 (by kernel_rfl) (by kernel_rfl) Qxf)) (Qkd Try.func128 (by kernel_rfl) (by kernel_rfl) Qs9)
def sAt (a : List SV) (r : SV) (args : List SV) : Option (Option Prop × SV) := some (some (args = a), r)
def zN : List SV := [iV 0, bV false]
def Qvg : List SV := [iV 0, iV 0, iV 0, iV 0, Qa8]
def zSh : SV := .agg Qvg
def Qsb : SV := .agg ([iV 6, iV 1, iV 0, iV 0, iV 0] ++ Qvg ++ (zN ++ zN ++ zN ++ zN) ++ (zN ++ zN) ++ zN ++ [iV 0, bV false] ++ (zN ++ zN) ++ (zN ++ zN) ++ [iV 2] ++ [iV 0, iV 0, iV 0, iV 0] ++ [iV 0, iV 0] ++ [iV 0, iV 0])
def ΛZ (fn : Func) (t : Nat) : Nat → Option LoopSpec := Qme Qas fn 0 Nat (fun z => z = 0) (fun z => z) [(t, fun z => .v (.int .i64 z))] []
def sDone (args : List SV) (bs : List Blk) : Option Eff := match args with
 | [.vp 0 0] => match Qmt bs with
   | some (.used (some b) n g c p) => some (.det (some (p ∧ 1 ≤ n ∧ n < 1000000000)) (bif b then .tup [Qe4 emp, iV 3] else .tup [Qe4 (strOfNums (Qv6 n g)), iV 0]) [(0, wB (some b) false (.sl 1 1 0 n c)), (1, bG n g c)])
   | _ => none
 | _ => none
def relL : List Int := [6] ++ (c4 1 ++ c4 2)
def Qzm (args : List SV) (bs : List Blk) : Option Eff := match args with
 | [.vp 0 0, x] => match Qmt bs with
   | some (.fresh (some b)) => some (apE (.fresh (some b)) 0 (x = Qsb) 9 relL false)
   | _ => none
 | _ => none
def Zia : Qb6 := Qap Qaq 106 (Qda (sAt [Qa8, Qa8] (bV true)))
def ΓH1 : Qb6 := Qap Zia 72 (Qda (sAt [zSh, zSh] (bV true)))
theorem Q8g (R : SV→Prop) : (Qeu Try.prog Qaq Qas Try.f69 [Qsb] R) = (R (SV.tup [(SV.agg [(yI 6),(yI 1),zI,zI,zI,zI,zI,zI,zI,zS,zI,zF,zI,zF,zI,zF,zI,zF,zI,zF,zI,zF,zI,zF,zI,zF,zI,zF,zI,zF,zI,zF,zI,zF,(yI 2),zI,zI,zI,zI,zI,zI,zI,zI]),(yF true)])):=by kernel_rfl
theorem Zit (R : SV→Prop) : (Qeu Try.prog Qaq (ΛZ Try.f106 13) Try.f106 [Qa8,Qa8] R) = ((∃ x : Nat,(((x : Nat) = 0)∧((zI = (yI ((↑x : Int))))∧True)))∧(∀ x : Nat,(((x : Nat) = 0)→(R (yF true))))):=by kernel_rfl
theorem Qym (R : SV→Prop) : (Qeu Try.prog Zia Qas Try.f72 [zSh,zSh] R) = (([zS,zS] = [zS,zS])∧(R (yF true))):=by kernel_rfl
theorem Q8u (R : SV→Prop) : (Qeu Try.prog ΓH1 Qas Try.f25 [Qsb,Qsb] R) = (([(SV.agg [zI,zI,zI,zI,zS]),(SV.agg [zI,zI,zI,zI,zS])] = [(SV.agg [zI,zI,zI,zI,zS]),(SV.agg [zI,zI,zI,zI,zS])])∧(R (yF true))):=by kernel_rfl
theorem Qgv {Γ : Qb6} (hΓ : ∀ f g, Γ f = some g → g.ok Try.prog f) {f : FuncId} {fn : Func} (hf : Try.prog.funcs[f]? = some fn) {a : List SV} {r : SV} (ha : Qhr a = true) (hr : Qf0 r = true) {Λ : Nat → Option LoopSpec} (h : Qeu Try.prog Γ Λ fn a (· = r)) : Qb2 Try.prog f (sAt a r) :=
 Qlo hm hΓ hf (Λ := fun _ => Λ) fun args p x hs hp => by
   unfold sAt at hs
   cases hs
   have := hp _ rfl
   subst this
   exact ⟨ha, hr, h⟩
theorem Qxc : Qb2 Try.prog 69 (sAt [Qsb] (.tup [Qsb, bV true])) := Qgv Qax Try.func69 (by kernel_rfl) (by kernel_rfl) (by rw [Q8g]; kernel_rfl)
theorem Q6a : Qb2 Try.prog 106 (sAt [Qa8, Qa8] (bV true)) := Qgv Qax Try.func106 (by kernel_rfl) (by kernel_rfl) (Eq.mpr (Zit _) ⟨⟨0, rfl, rfl, trivial⟩, fun _ _ => rfl⟩)
theorem Qye : ∀ f g, Zia f = some g → g.ok Try.prog f := Qah Qax (Qdl Try.func106 (by kernel_rfl) (by kernel_rfl) Q6a)
theorem Qmr : Qb2 Try.prog 72 (sAt [zSh, zSh] (bV true)) := Qgv Qye Try.func72 (by kernel_rfl) (by kernel_rfl) (Λ := Qas) (by rw [Qym]; exact ⟨rfl, rfl⟩)
theorem Q76 : ∀ f g, ΓH1 f = some g → g.ok Try.prog f := Qah Qye (Qdl Try.func72 (by kernel_rfl) (by kernel_rfl) Qmr)
theorem Qxh : Qb2 Try.prog 25 (sAt [Qsb, Qsb] (bV true)) := Qgv Q76 Try.func25 (by kernel_rfl) (by kernel_rfl) (Λ := Qas) (by rw [Q8u]; exact ⟨rfl, rfl⟩)
def Qqn (args : List SV) (bs : List Blk) : Option Eff := match args, bs with
 | [.vp 0 0, .sl 2 2 0 n _], [B, D, S] => match Qmt [B, D] with
   | some (.used (some b) n0 g c p) => bif Qr8 S then some (apE (.used (some b) n0 g c p) NB0 ((S.n = n ∧ n < 100 ∧ n0 ≤ c) ∧ ∀ i, i < n → Qht (S.row i)) (16 * n) (Qc8 (fun i => pX (S.row i)) (fun i => pY (S.row i)) n) false) else none
   | _ => none
 | _, _ => none
noncomputable def Qp0 (b : Bool) (n0 : Nat) (g : Nat → Int) (n : Nat) (x y : Nat → Int) : Nat → Option LoopSpec := Qjs Qas Try.f105 0 NX (fun z => z.i ≤ n ∧ n0 + 16 * z.i ≤ z.c) (fun z => n - z.i) [(8, fun z => .v (.int .i64 z.i))] [(0, fun z => wB (some b) false (.sl 40 1 0 (n0 + 16 * z.i) z.c))] [(40, fun z => bG (n0 + 16 * z.i) (apG n0 g (Qc8 x y z.i)) z.c, Qw4 0 0)]
theorem Q2l (b : Bool) (n0 : Nat) (g : Nat→Int) (c n e n' c' : Nat) (x y : Nat→Int) : (Qa6 Try.prog Q6e (Qp0 b n0 g n x y) Try.f105 [.vp 0 0,.sl 2 2 0 n c'] (Qac [wB (some b) false (.sl 1 1 0 n0 c),bG n0 g c,spB e n' x y]) 64 (fun y' h' => Qbh [wB (some b) false (.sl 1 1 0 n0 c),bG n0 g c,spB e n' x y] (apE (.used (some b) n0 g c True) 0 True (16 * n) (Qc8 x y n) false) y' h')) =
((∃ x_1 : NX,(((((NX.i x_1) : Nat) ≤ n)∧(((n0 + 16 * NX.i x_1) : Nat) ≤ (NX.c x_1)))∧((zI = (yI ((↑(NX.i x_1) : Int))))∧((((1 : Nat) = 1)∧(((1 : Nat) ≤ 1)∧(((SV.sl 1 1 0 n0 c) = (SV.sl 1 1 0 (n0 + 16 * NX.i x_1) (NX.c x_1)))∧((yF b) = (yF b)))))∧(((n0 : Nat) = (n0 + 16 * NX.i x_1))∧((((NX.c x_1) : Nat) ≤ c)∧(∀ i : Nat,(((i : Nat) < (n0 + 16 * NX.i x_1))→([(yU (g i))] = [(yU (apG n0 g (Qc8 x y (NX.i x_1)) i))])))))))))∧(∀ x_1 : NX,(((((NX.i x_1) : Nat) ≤ n)∧(((n0 + 16 * NX.i x_1) : Nat) ≤ (NX.c x_1)))→(sel (decide ((↑(NX.i x_1) : Int) < (↑n : Int))) ((((0 : Int) ≤ ((↑(NX.i x_1) : Int)))∧((((↑(NX.i x_1) : Int)) : Int) < ((↑n : Int))))∧((((Qaf (n0 + 16 * NX.i x_1) (NX.c x_1) {elem:=5,size:=1,rw:=true,lock:=false,lit:=false,flat:=true,n:=n0 + 16 * NX.i x_1,row:=fun i => [yU (apG n0 g (Qc8 x y (NX.i x_1)) i)],ext:=NX.c x_1})∧(((n0 + 16 * NX.i x_1) : Nat) ≤ M0))∧(I64 (x (0 + Int.toNat (↑(NX.i x_1) : Int)))))∧(∀ c_1 : Nat,((((Qaf (n0 + 16 * NX.i x_1 + 8) (n0 + 16 * NX.i x_1 + 8 + c_1) {elem:=5,size:=1,rw:=true,lock:=false,lit:=false,flat:=true,n:=n0 + 16 * NX.i x_1 + 8,row:=fun i => [yU (apG (n0 + 16 * NX.i x_1) (fun i => SE.Qad [yU (apG n0 g (Qc8 x y (NX.i x_1)) i)]) (be (x (0 + Int.toNat (↑(NX.i x_1) : Int)) % 18446744073709551616) 8) i)],ext:=n0 + 16 * NX.i x_1 + 8 + c_1})∧(((n0 + 16 * NX.i x_1 + 8) : Nat) ≤ M0))∧(I64 (y (0 + Int.toNat (↑(NX.i x_1) : Int)))))∧(∀ c_2 : Nat,(∃ x' : NX,((((((NX.i x') : Nat) ≤ n)∧(((n0 + 16 * NX.i x') : Nat) ≤ (NX.c x')))∧(((yI (IntKind.wrap IntKind.i64 ((↑(NX.i x_1) : Int) + 1))) = (yI ((↑(NX.i x') : Int))))∧((((1 : Nat) = 1)∧(((1 : Nat) ≤ 1)∧(((SV.sl 216 1 0 (n0 + 16 * NX.i x_1 + 8 + 8) (n0 + 16 * NX.i x_1 + 8 + 8 + c_2)) = (SV.sl 216 1 0 (n0 + 16 * NX.i x') (NX.c x')))∧((yF (b||false||false)) = (yF b)))))∧((((n0 + 16 * NX.i x_1 + 8 + 8) : Nat) = (n0 + 16 * NX.i x'))∧((((NX.c x') : Nat) ≤ (n0 + 16 * NX.i x_1 + 8 + 8 + c_2))∧(∀ i : Nat,(((i : Nat) < (n0 + 16 * NX.i x'))→([(yU (apG (n0 + 16 * NX.i x_1 + 8) (fun i => SE.Qad [yU (apG (n0 + 16 * NX.i x_1) (fun i => SE.Qad [yU (apG n0 g (Qc8 x y (NX.i x_1)) i)]) (be (x (0 + Int.toNat (↑(NX.i x_1) : Int)) % 18446744073709551616) 8) i)]) (be (y (0 + Int.toNat (↑(NX.i x_1) : Int)) % 18446744073709551616) 8) i))] = [(yU (apG n0 g (Qc8 x y (NX.i x')) i))]))))))))∧(((n - NX.i x') : Nat) < (n - NX.i x_1))))))))) (∃ c_1 : Nat,(True∧((((1 : Nat) = 1)∧(((1 : Nat) ≤ 1)∧(((SV.sl 40 1 0 (n0 + 16 * NX.i x_1) (NX.c x_1)) = (SV.sl 40 1 0 (n0 + 16 * n) (n0 + 16 * n + c_1)))∧((yF b) = (yF (b||false))))))∧((((n0 + 16 * NX.i x_1) : Nat) = (n0 + 16 * n))∧((((n0 + 16 * n + c_1) : Nat) ≤ (NX.c x_1))∧(∀ i : Nat,(((i : Nat) < (n0 + 16 * n))→([(yU (apG n0 g (Qc8 x y (NX.i x_1)) i))] = [(yU (apG n0 g (Qc8 x y n) i))])))))))))))) := by kernel_rfl
def shL (k r w h : Int) (n : Nat) (x y : Nat → Int) : List Int := [k % 256] ++ (i8 r ++ (i8 w ++ (i8 h ++ ([(n : Int) % 256] ++ (bif Nat.ble n 8 then Qc8 x y n else [])))))
def shN (n : Nat) : Nat := bif Nat.ble n 8 then 26 + 16 * n else 26
def Qc5 (k : Int) (n : Nat) : Bool := Qal k 255 || Qal (n : Int) 8
def NB1 : Nat := 900000000
def Qvm (args : List SV) (bs : List Blk) : Option Eff := match args, bs with
 | [.vp 0 0, .agg [.v (.int .i64 k), .v (.int .i64 r), .v (.int .i64 w), .v (.int .i64 h), .sl 2 2 0 n _]], [B, D, S] => match Qmt [B, D] with
   | some (.used (some b) n0 g c p) => bif Qr8 S then some (apE (.used (some b) n0 g c p) NB1 (((I64 k ∧ I64 r ∧ I64 w ∧ I64 h) ∧ S.n = n ∧ n < 100) ∧ ∀ i, i < n → Qht (S.row i)) (shN n) (shL k r w h n (fun i => pX (S.row i)) (fun i => pY (S.row i))) (Qc5 k n)) else none
   | _ => none
 | _, _ => none
def Zhr : Qb6 := Qap (Qap Q6e 118 (Qca true Qnt)) 105 (Qca true Qqn)
@[reducible] noncomputable def Qir (n0 : Nat) (g : Nat→Int) (k : Int) (r : Int) (w : Int) := (fun i => SE.Qad [SV.v (.int .u8 (apG (n0 + 1 + 8) (fun i => SE.Qad [SV.v (.int .u8 (apG (n0 + 1) (fun i => SE.Qad [SV.v (.int .u8 (apG n0 (fun i => SE.Qad [SV.v (.int .u8 (g i))]) [k % 256] i))]) (be (r % 18446744073709551616) 8) i))]) (be (w % 18446744073709551616) 8) i))])
theorem Q8s (b : Bool) (n0 : Nat) (g : Nat→Int) (c : Nat) (k r w h : Int) (n e n' c' : Nat) (x y : Nat→Int) : (Qa6 Try.prog Zhr Qas Try.f97 [.vp 0 0,.agg [.v (.int .i64 k),.v (.int .i64 r),.v (.int .i64 w),.v (.int .i64 h),.sl 2 2 0 n c']] (Qac [wB (some b) false (.sl 1 1 0 n0 c),bG n0 g c,spB e n' x y]) 64 (fun y' h' => Qbh [wB (some b) false (.sl 1 1 0 n0 c),bG n0 g c,spB e n' x y] (apE (.used (some b) n0 g c True) 0 True (shN n) (shL k r w h n x y) (Qc5 k n)) y' h')) =
((((Qaf n0 c {elem:=5,size:=1,rw:=true,lock:=false,lit:=false,flat:=true,n:=n0,row:=fun i => [yU (g i)],ext:=c})∧((n0 : Nat) ≤ M0))∧(I64 k))∧(∀ c_1 : Nat,((((Qaf (n0 + 1) (n0 + 1 + c_1) {elem:=5,size:=1,rw:=true,lock:=false,lit:=false,flat:=true,n:=n0 + 1,row:=fun i => [yU (apG n0 (fun i => SE.Qad [yU (g i)]) [k % 256] i)],ext:=n0 + 1 + c_1})∧(((n0 + 1) : Nat) ≤ M0))∧(I64 r))∧(∀ c_2 : Nat,((((Qaf (n0 + 1 + 8) (n0 + 1 + 8 + c_2) {elem:=5,size:=1,rw:=true,lock:=false,lit:=false,flat:=true,n:=n0 + 1 + 8,row:=fun i => [yU (apG (n0 + 1) (fun i => SE.Qad [yU (apG n0 (fun i => SE.Qad [yU (g i)]) [k % 256] i)]) (be (r % 18446744073709551616) 8) i)],ext:=n0 + 1 + 8 + c_2})∧(((n0 + 1 + 8) : Nat) ≤ M0))∧(I64 w))∧(∀ c_3 : Nat,((((Qaf (n0 + 1 + 8 + 8) (n0 + 1 + 8 + 8 + c_3) {elem:=5,size:=1,rw:=true,lock:=false,lit:=false,flat:=true,n:=n0 + 1 + 8 + 8,row:=fun i => [yU (apG (n0 + 1 + 8) (fun i => SE.Qad [yU (apG (n0 + 1) (fun i => SE.Qad [yU (apG n0 (fun i => SE.Qad [yU (g i)]) [k % 256] i)]) (be (r % 18446744073709551616) 8) i)]) (be (w % 18446744073709551616) 8) i)],ext:=n0 + 1 + 8 + 8 + c_3})∧(((n0 + 1 + 8 + 8) : Nat) ≤ M0))∧(I64 h))∧(∀ c_4 : Nat,((((Qaf (n0 + 1 + 8 + 8 + 8) (n0 + 1 + 8 + 8 + 8 + c_4) {elem:=5,size:=1,rw:=true,lock:=false,lit:=false,flat:=true,n:=n0 + 1 + 8 + 8 + 8,row:=fun i => [yU (apG (n0 + 1 + 8 + 8) (Qir n0 g k r w) (be (h % 18446744073709551616) 8) i)],ext:=n0 + 1 + 8 + 8 + 8 + c_4})∧(((n0 + 1 + 8 + 8 + 8) : Nat) ≤ M0))∧(I64 (↑n : Int)))∧(∀ c_5 : Nat,(sel (decide ((↑n : Int) ≤ 8)) ((((Qaf (n0 + 1 + 8 + 8 + 8 + 1) (n0 + 1 + 8 + 8 + 8 + 1 + c_5) {elem:=5,size:=1,rw:=true,lock:=false,lit:=false,flat:=true,n:=n0 + 1 + 8 + 8 + 8 + 1,row:=fun i => [yU (apG (n0 + 1 + 8 + 8 + 8) (fun i => SE.Qad [yU (apG (n0 + 1 + 8 + 8) (Qir n0 g k r w) (be (h % 18446744073709551616) 8) i)]) [(↑n : Int) % 256] i)],ext:=n0 + 1 + 8 + 8 + 8 + 1 + c_5})∧(((n0 + 1 + 8 + 8 + 8 + 1) : Nat) ≤ NB0))∧((((n : Nat) = n)∧(((n : Nat) < 100)∧(((n0 + 1 + 8 + 8 + 8 + 1) : Nat) ≤ (n0 + 1 + 8 + 8 + 8 + 1 + c_5))))∧(∀ i : Nat,(((i : Nat) < n)→(Qht [yI (x (0 + i)),yI (y (0 + i))])))))∧(∀ c_6 : Nat,(∃ c_7 : Nat,(True∧((((1 : Nat) = 1)∧(((1 : Nat) ≤ 1)∧(((SV.sl 344 1 0 (n0 + 1 + 8 + 8 + 8 + 1 + 16 * n) (n0 + 1 + 8 + 8 + 8 + 1 + 16 * n + c_6)) = (SV.sl 344 1 0 (n0 + shN n) (n0 + shN n + c_7)))∧((yF (b||Qal k 255||false||false||false||Qal (↑n : Int) 8||false)) = (yF (b||Qc5 k n))))))∧((((n0 + 1 + 8 + 8 + 8 + 1 + 16 * n) : Nat) = (n0 + shN n))∧((((n0 + shN n + c_7) : Nat) ≤ (n0 + 1 + 8 + 8 + 8 + 1 + 16 * n + c_6))∧(∀ i : Nat,(((i : Nat) < (n0 + shN n))→([(yU (apG (n0 + 1 + 8 + 8 + 8 + 1) (fun i => SE.Qad [yU (apG (n0 + 1 + 8 + 8 + 8) (fun i => SE.Qad [yU (apG (n0 + 1 + 8 + 8) (Qir n0 g k r w) (be (h % 18446744073709551616) 8) i)]) [(↑n : Int) % 256] i)]) (Qc8 (fun i => pX [yI (x (0 + i)),yI (y (0 + i))]) (fun i => pY [yI (x (0 + i)),yI (y (0 + i))]) n) i))] = [(yU (apG n0 g (shL k r w h n x y) i))])))))))))) (∃ c_6 : Nat,(True∧((((1 : Nat) = 1)∧(((1 : Nat) ≤ 1)∧(((SV.sl 280 1 0 (n0 + 1 + 8 + 8 + 8 + 1) (n0 + 1 + 8 + 8 + 8 + 1 + c_5)) = (SV.sl 280 1 0 (n0 + shN n) (n0 + shN n + c_6)))∧((yF (b||Qal k 255||false||false||false||Qal (↑n : Int) 8)) = (yF (b||Qc5 k n))))))∧((((n0 + 1 + 8 + 8 + 8 + 1) : Nat) = (n0 + shN n))∧((((n0 + shN n + c_6) : Nat) ≤ (n0 + 1 + 8 + 8 + 8 + 1 + c_5))∧(∀ i : Nat,(((i : Nat) < (n0 + shN n))→([(yU (apG (n0 + 1 + 8 + 8 + 8) (fun i => SE.Qad [yU (apG (n0 + 1 + 8 + 8) (Qir n0 g k r w) (be (h % 18446744073709551616) 8) i)]) [(↑n : Int) % 256] i))] = [(yU (apG n0 g (shL k r w h n x y) i))]))))))))))))))))))) := by kernel_rfl
theorem Qus (b : Bool) (n0 : Nat) (g : Nat → Int) (c n e n' c' : Nat) (x y : Nat → Int) (hn0 : n0 ≤ 1000000000) (hm : n < 100) (hnc : n0 ≤ c) (hv : ∀ i, i < n → I64 (x i) ∧ I64 (y i)) :
   Qa6 Try.prog Q6e (Qp0 b n0 g n x y) Try.f105 [.vp 0 0, .sl 2 2 0 n c'] (Qac [wB (some b) false (.sl 1 1 0 n0 c), bG n0 g c, spB e n' x y]) 64 (fun y' h' => Qbh [wB (some b) false (.sl 1 1 0 n0 c), bG n0 g c, spB e n' x y] (apE (.used (some b) n0 g c True) 0 True (16 * n) (Qc8 x y n) false) y' h') := by
 refine Eq.mpr (Q2l b n0 g c n e n' c' x y) ⟨⟨⟨0, c⟩, ⟨Nat.zero_le _, hnc⟩, rfl, ⟨rfl, Nat.le_refl _, rfl, rfl⟩, rfl, Nat.le_refl _, fun i hi => congrArg (fun z => [SV.v (.int .u8 z)]) (Qf4 hi).symm⟩, fun z ⟨h2, h3⟩ => Qab (fun hlt => ?_) fun hge => ?_⟩
 · have hlt := of_decide_eq_true hlt
   have hlt : z.i < n := by omega
   have hw : IntKind.i64.wrap ((z.i : Int) + 1) = ((z.i + 1 : Nat) : Int) := Qbn ⟨by omega, by omega⟩
   have hvx := hv z.i hlt
   rw [show 0 + Int.toNat (z.i : Int) = z.i by omega]
   refine ⟨⟨by omega, by omega⟩, ⟨⟨Qaa _ _ _ (by omega), by show n0 + 16 * z.i ≤ 1099511627776; omega⟩, hvx.1⟩, fun c1 => ⟨⟨⟨Qaa _ _ _ (by omega), by show n0 + 16 * z.i + 8 ≤ 1099511627776; omega⟩, hvx.2⟩, fun c2 => ⟨⟨z.i + 1, n0 + 16 * z.i + 8 + 8 + c2⟩, ⟨⟨by show z.i + 1 ≤ n; omega, (by show n0 + 16 * (z.i + 1) ≤ n0 + 16 * z.i + 8 + 8 + c2; omega)⟩, Qin hw, ⟨rfl, Nat.le_refl _, ?_, ?_⟩, ?_, Nat.le_refl _, fun i hi => ?_⟩, by show n - (z.i + 1) < n - z.i; omega⟩⟩⟩
   · show SV.sl _ 1 0 _ _ = SV.sl _ 1 0 (n0 + 16 * (z.i + 1)) _
     rw [show n0 + 16 * (z.i + 1) = n0 + 16 * z.i + 8 + 8 by omega]
   · rw [Bool.or_false, Bool.or_false]
   · show n0 + 16 * z.i + 8 + 8 = n0 + 16 * (z.i + 1)
     omega
   · exact congrArg (fun z => [SV.v (.int .u8 z)]) (Qy5 x y n0 g z.i i)
 · have hge := of_decide_eq_false hge
   have hx : z.i = n := by omega
   rw [hx] at h3 ⊢
   have h3 : n0 + 16 * n ≤ z.c := by omega
   have he : n0 + 16 * n + (z.c - (n0 + 16 * n)) = z.c := by omega
   exact ⟨z.c - (n0 + 16 * n), trivial, ⟨rfl, Nat.le_refl _, by rw [he], by rw [Bool.or_false]⟩, rfl, by omega, fun i hi => rfl⟩
theorem Qoo : Qbt Try.prog 105 Qqn := Qc0 hm Qll Try.func105 (Λ := fun args bs => match args, bs with
   | [_, .sl _ _ _ n _], [B, D, S] => match Qmt [B, D] with
     | some (.used (some b) n0 g c _) => Qp0 b n0 g n (fun i => pX (S.row i)) (fun i => pY (S.row i))
     | _ => Qas
   | _, _ => Qas) fun args bs e hs hp => by
 unfold Qqn at hs
 split at hs
 · rename_i n c' B D S
   split at hs
   · rename_i b n0 g c p hw
     obtain ⟨hro, he⟩ := Qcl hs
     subst he
     obtain ⟨⟨hp, hm⟩, ⟨hn, h100, hnc⟩, hv⟩ := hp
     have hsame := (Qdy hw hp).1
     refine ⟨[wB (some b) false (.sl 1 1 0 n0 c), bG n0 g c, spB S.elem n (fun i => pX (S.row i)) (fun i => pY (S.row i))], ⟨hsame.1, hsame.2.1, Qqm hro hn hv, trivial⟩, ?_⟩
     simp only [hw]
     exact Qus b n0 g c n S.elem n c' _ _ hm h100 hnc fun i hi => (Qjn (hv i hi)).2
   · cases hs
 · cases hs
theorem Qyd : ∀ f g, Zhr f = some g → g.ok Try.prog f := Qah (Qah Qll (Qcf Try.func118 (by kernel_rfl) (by kernel_rfl) Qgl)) (Qcf Try.func105 (by kernel_rfl) (by kernel_rfl) Qoo)
theorem Q90 {n0 : Nat} {g : Nat → Int} {k r w h z : Int} (M : List Int) (i : Nat) : apG (n0 + 1 + 8 + 8 + 8 + 1) (apG (n0 + 1 + 8 + 8 + 8) (apG (n0 + 1 + 8 + 8) (apG (n0 + 1 + 8) (apG (n0 + 1) (apG n0 g [k]) (i8 r)) (i8 w)) (i8 h)) [z]) M i = apG n0 g ([k] ++ (i8 r ++ (i8 w ++ (i8 h ++ ([z] ++ M))))) i := by
 rw [Qay (n := n0 + 1 + 8 + 8 + 8) (m := n0 + 1 + 8 + 8 + 8 + 1) (L := [z]) rfl, Qay (n := n0 + 1 + 8 + 8) (by rw [Qi6]), Qay (n := n0 + 1 + 8) (by rw [Qi6]), Qay (n := n0 + 1) (by rw [Qi6]), Qay (n := n0) (m := n0 + 1) (L := [k]) rfl]
theorem Q4b {n0 : Nat} {g : Nat → Int} {k r w h z : Int} (i : Nat) : apG (n0 + 1 + 8 + 8 + 8) (apG (n0 + 1 + 8 + 8) (apG (n0 + 1 + 8) (apG (n0 + 1) (apG n0 g [k]) (i8 r)) (i8 w)) (i8 h)) [z] i = apG n0 g ([k] ++ (i8 r ++ (i8 w ++ (i8 h ++ ([z] ++ []))))) i := by
 rw [List.append_nil, Qay (n := n0 + 1 + 8 + 8) (by rw [Qi6]), Qay (n := n0 + 1 + 8) (by rw [Qi6]), Qay (n := n0 + 1) (by rw [Qi6]), Qay (n := n0) (m := n0 + 1) (L := [k]) rfl]
theorem Qpv : Qbt Try.prog 97 Qvm := Qc0 hm Qyd Try.func97 (Λ := fun _ _ => Qas) fun args bs e hs hp => by
 unfold Qvm at hs
 split at hs
 · rename_i k r w h n c' B D S
   split at hs
   · rename_i b n0 g c p hw
     obtain ⟨hro, he⟩ := Qcl hs
     subst he
     obtain ⟨⟨hp, hm⟩, ⟨⟨hk, hr, hww, hh⟩, hn, h100⟩, hv⟩ := hp
     have hm : n0 ≤ 900000000 := hm
     have hsame := (Qdy hw hp).1
     refine ⟨[wB (some b) false (.sl 1 1 0 n0 c), bG n0 g c, spB S.elem n (fun i => pX (S.row i)) (fun i => pY (S.row i))], ⟨hsame.1, hsame.2.1, Qqm hro hn hv, trivial⟩, ?_⟩
     have hvp := fun i hi => Qjn (hv i hi)
     refine Eq.mpr (Q8s b n0 g c k r w h n S.elem n c' _ _) ?_
     repeat (first | unfold Qir)
     refine ⟨⟨⟨Qaa _ _ _ (by omega), by show n0 ≤ 1099511627776; omega⟩, hk⟩, fun c1 => ⟨⟨⟨Qaa _ _ _ (by omega), by show n0 + 1 ≤ 1099511627776; omega⟩, hr⟩, fun c2 => ⟨⟨⟨Qaa _ _ _ (by omega), by show n0 + 1 + 8 ≤ 1099511627776; omega⟩, hww⟩, fun c3 => ⟨⟨⟨Qaa _ _ _ (by omega), by show n0 + 1 + 8 + 8 ≤ 1099511627776; omega⟩, hh⟩, fun c4 => ⟨⟨⟨Qaa _ _ _ (by omega), by show n0 + 1 + 8 + 8 + 8 ≤ 1099511627776; omega⟩, ⟨by omega, by omega⟩⟩, fun c5 => Qab (fun hle => ?_) fun hgt => ?_⟩⟩⟩⟩⟩
     · have hle := of_decide_eq_true hle
       have hb : Nat.ble n 8 = true := Nat.ble_eq_true_of_le (by omega)
       refine ⟨⟨⟨Qaa _ _ _ (by omega), by show n0 + 1 + 8 + 8 + 8 + 1 ≤ 1000000000; omega⟩, ⟨rfl, h100, by omega⟩, fun i hi => by
         rw [Nat.zero_add]
         exact (hvp i hi).2⟩, fun c6 => Qb9 (by unfold shN; rw [hb, cond_true]; omega) ?_ fun i hi => ?_⟩
       · simp only [Bool.or_false, Qc5, Bool.or_assoc]
       · unfold shL
         rw [hb, cond_true]
         have := Q90 (n0 := n0) (g := g) (k := k % 256) (r := r) (w := w) (h := h) (z := (n : Int) % 256) (Qc8 (fun i => pX (S.row i)) (fun i => pY (S.row i)) n) i
         refine Eq.trans ?_ this
         show apG _ _ (Qc8 (fun i => pX (S.row (0 + i))) (fun i => pY (S.row (0 + i))) n) i = _
         simp only [Nat.zero_add]
         rfl
     · have hgt := of_decide_eq_false hgt
       have hb : Nat.ble n 8 = false := by
         cases hc : Nat.ble n 8 with
         | false => rfl
         | true => have := Nat.le_of_ble_eq_true hc; omega
       refine Qb9 (by unfold shN; rw [hb, cond_false]) ?_ fun i hi => ?_
       · simp only [Bool.or_false, Qc5, Bool.or_assoc]
       · unfold shL
         rw [hb, cond_false]
         exact Q4b i
   · cases hs
 · cases hs
structure ShB where
 k : Int
 r : Int
 w : Int
 h : Int
def shS (s : ShB) (x : SV) : SV := .agg [.v (.int .i64 s.k), .v (.int .i64 s.r), .v (.int .i64 s.w), .v (.int .i64 s.h), x]
def Zee : List SV → Prop
 | [.v (.int .i64 a), .v (.int .i64 b)] => I64 a ∧ I64 b
 | _ => False
def Qan (g : Nat → Int × Int) : Nat → List SV := fun i => [.v (.int .i64 (g i).1), .v (.int .i64 (g i).2)]
def gi : List SV → Int × Int
 | [.v (.int _ x), .v (.int _ y)] => (x, y)
 | _ => (0, 0)
def okB (b : Blk) : Bool := !b.rw && !b.dead && Nat.beq b.size 2 && b.flat
def Zhx (b : Blk) : Nat → Int × Int := fun i => gi (b.row i)
def Qbg (n : Nat) (b : Blk) : Prop := Qt3 Zee (Qr7 b.n b.row) ∧ b.n = n ∧ n < 1099511627776
def spW (n c : Nat) (g : Nat → Int × Int) : Blk := { elem := 47, size := 2, rw := true, lock := false, lit := false, flat := true, n := n, row := Qan g, ext := c }
def Q6o (s1 s2 : List SV → List Ro → Option (Option Prop × SV)) : List SV → List Ro → Option (Option Prop × SV) := fun a b => match s1 a b with
 | some e => some e
 | none => s2 a b
def eqP (p q : Int × Int) : Bool := p.1 == q.1 && p.2 == q.2
def Qfs (n : Nat) (g : Nat → Int × Int) (m : Nat) (h : Nat → Int × Int) : Bool := Nat.beq n m && (List.range n).all (fun i => eqP (g i) (h i))
def Qcp (a b : ShB) : Bool := a.k == b.k && (a.r == b.r && (a.w == b.w && a.h == b.h))
def Qey (a : ShB) (n : Nat) (g : Nat → Int × Int) (b : ShB) (m : Nat) (h : Nat → Int × Int) : Bool := Qcp a b && Qfs n g m h
def Qam (n n' : Nat) (row : Nat → List SV) : Prop := Qt3 Zee (Qr7 n' row) ∧ n' = n ∧ n < 1099511627776
def Qpe : List SV → List Ro → Option (Option Prop × SV)
 | [.sl 0 2 0 n _, .sl 1 2 0 m _], [⟨2, n', row⟩, ⟨2, m', row'⟩] => some (some (Qam n n' row ∧ Qam m m' row'), .v (.bool (Qfs n (fun i => gi (row i)) m fun i => gi (row' i))))
 | _, _ => none
def Qvn : List SV → List Ro → Option (Option Prop × SV)
 | [.agg [.v (.int .i64 k), .v (.int .i64 r), .v (.int .i64 w), .v (.int .i64 h), .sl 0 2 0 n _], .agg [.v (.int .i64 k2), .v (.int .i64 r2), .v (.int .i64 w2), .v (.int .i64 h2), .sl 1 2 0 m _]], [⟨2, n', row⟩, ⟨2, m', row'⟩] => some (some (Qam n n' row ∧ Qam m m' row'), .v (.bool (Qey ⟨k, r, w, h⟩ n (fun i => gi (row i)) ⟨k2, r2, w2, h2⟩ m fun i => gi (row' i))))
 | _, _ => none
noncomputable def Qp1 (fn : Func) (t : Nat) (n : Nat) (g h : Nat → Int × Int) : Nat → Option LoopSpec := Qme Qas fn 0 Nat (fun i => i ≤ n ∧ ∀ j, j < i → eqP (g j) (h j) = true) (fun i => n - i) [(t, fun i => .v (.int .i64 i))] []
theorem Q9b (n n' c m m' d : Nat) (g h : Nat→Int × Int) (R : SV→Prop) : (Qa6 Try.prog Qaq (Qp1 Try.f106 13 n g h) Try.f106 [.sl 0 2 0 n c,.sl 1 2 0 m d] (Qa0 [⟨2,n',Qan g⟩,⟨2,m',Qan h⟩]) 64 (fun y _ => R y)) = (sel ((↑n : Int) != (↑m : Int)) (R zF) ((∃ x : Nat,((((x : Nat) ≤ n)∧(∀ j : Nat,(((j : Nat) < x)→(eqP (g j) (h j) = true))))∧((zI = (yI ((↑x : Int))))∧True)))∧(∀ x : Nat,((((x : Nat) ≤ n)∧(∀ j : Nat,(((j : Nat) < x)→(eqP (g j) (h j) = true))))→(sel (decide ((↑x : Int) < (↑n : Int))) ((((0 : Int) ≤ ((↑x : Int)))∧((((↑x : Int)) : Int) < ((↑n : Int))))∧((((0 : Int) ≤ ((↑x : Int)))∧((((↑x : Int)) : Int) < ((↑m : Int))))∧(sel (!(Prod.fst (g (0 + Int.toNat (↑x : Int))) == Prod.fst (h (0 + Int.toNat (↑x : Int)))&&Prod.snd (g (0 + Int.toNat (↑x : Int))) == Prod.snd (h (0 + Int.toNat (↑x : Int))))) (R zF) (∃ x' : Nat,(((((x' : Nat) ≤ n)∧(∀ j : Nat,(((j : Nat) < x')→(eqP (g j) (h j) = true))))∧(((yI (IntKind.wrap IntKind.i64 ((↑x : Int) + 1))) = (yI ((↑x' : Int))))∧True))∧(((n - x') : Nat) < (n - x))))))) (R (yF true))))))):=by kernel_rfl
def ΓM0 : Qb6 := Qap Qaq 106 (Qmv Qpe)
theorem Q8t (a b : ShB) (n n' c m m' d : Nat) (g h : Nat→Int × Int) (R : SV→Prop) : (Qa6 Try.prog ΓM0 Qas Try.f72 [shS a (.sl 0 2 0 n c),shS b (.sl 1 2 0 m d)] (Qa0 [⟨2,n',Qan g⟩,⟨2,m',Qan h⟩]) 64 (fun y _ => R y)) = (sel (ShB.k a == ShB.k b&&(ShB.r a == ShB.r b&&(ShB.w a == ShB.w b&&ShB.h a == ShB.h b))) (((Qam n n fun y => [yI (Prod.fst (g (0 + y))),yI (Prod.snd (g (0 + y)))])∧(Qam m m fun y => [yI (Prod.fst (h (0 + y))),yI (Prod.snd (h (0 + y)))]))∧(R (yF (Qfs n (fun i => gi [yI (Prod.fst (g (0 + i))),yI (Prod.snd (g (0 + i)))]) m fun i => gi [yI (Prod.fst (h (0 + i))),yI (Prod.snd (h (0 + i)))])))) (R zF)):=by kernel_rfl
section
variable {P : Program} {f : FuncId}
theorem Qwu {s1 s2 : List SV → List Ro → Option (Option Prop × SV)} (h1 : Qcj P f s1) (h2 : Qcj P f s2) : Qcj P f (Q6o s1 s2) := fun args bs e hs => by
 unfold Qg1 at hs
 cases hr : Qx4 bs with
 | none => rw [hr] at hs; cases hs
 | some rs =>
   rw [hr] at hs
   simp only [Q6o] at hs
   cases h : s1 args rs with
   | some px =>
     rw [h] at hs
     exact h1 args bs e (by unfold Qg1; rw [hr]; simp only [h]; exact hs)
   | none =>
     rw [h] at hs
     exact h2 args bs e (by unfold Qg1; rw [hr]; exact hs)
end
theorem Zhl {n : Nat} {f : Nat → Bool} (h : ∀ j, j < n → f j = true) : (List.range n).all f = true := by
 rw [List.all_eq_true]
 intro i hi
 exact h i (List.mem_range.1 hi)
theorem Zbj {n : Nat} {f : Nat → Bool} {k : Nat} (hk : k < n) (h : f k = false) : (List.range n).all f = false := by
 rw [List.all_eq_false]
 exact ⟨k, List.mem_range.2 hk, by simp [h]⟩
theorem Qao {r : List SV} (h : Zee r) : r = [.v (.int .i64 (gi r).1), .v (.int .i64 (gi r).2)] ∧ I64 (gi r).1 ∧ I64 (gi r).2 := by
 unfold Zee at h
 split at h
 · exact ⟨rfl, h.1, h.2⟩
 · exact h.elim
theorem Qoa (g : Nat → Int × Int) : (fun i => gi [SV.v (.int .i64 (g (0 + i)).1), SV.v (.int .i64 (g (0 + i)).2)]) = g := funext fun i => by rw [Nat.zero_add]; rfl
theorem Qsd {n : Nat} {b : Blk} (h : Qbg n b) : n < 1099511627776 ∧ ∀ i, i < n → I64 (Zhx b i).1 ∧ I64 (Zhx b i).2 := by
 obtain ⟨h0, rfl, hn⟩ := h
 exact ⟨hn, fun i hi => (Qao (okAll_rows.1 h0 i hi)).2⟩
theorem Zgv {n m : Nat} {g h : Nat → Int × Int} {i : Nat} (hi : i < n) (e : eqP (g i) (h i) = false) : Qfs n g m h = false := by
 unfold Qfs
 rw [Zbj (f := fun i => eqP (g i) (h i)) hi e, Bool.and_false]
theorem Qza {n m : Nat} {g h : Nat → Int × Int} (e : ((n : Int) != (m : Int)) = true) : Qfs n g m h = false := by
 have : n ≠ m := fun h => by rw [h] at e; simp at e
 unfold Qfs
 rw [Go.SE.Qb4 this]; rfl
theorem Qzb {n m : Nat} {g h : Nat → Int × Int} (e : ((n : Int) != (m : Int)) = false) (hd : ∀ j, j < n → eqP (g j) (h j) = true) : Qfs n g m h = true := by
 have e : (n : Int) = (m : Int) := by simpa using e
 obtain rfl : n = m := by omega
 unfold Qfs
 rw [Nat.beq_refl, Zhl hd]; rfl
theorem Qpl {n m : Nat} {g h : Nat → Int × Int} (hn : n < 1099511627776) (hm' : m < 1099511627776) :
   sel ((n : Int) != (m : Int)) (SV.v (.bool false) = .v (.bool (Qfs n g m h))) ((∃ x : Nat, (x ≤ n ∧ ∀ j : Nat, j < x → eqP (g j) (h j) = true) ∧ SV.v (.int .i64 0) = .v (.int .i64 x) ∧ True) ∧ ∀ x : Nat, (x ≤ n ∧ ∀ j : Nat, j < x → eqP (g j) (h j) = true) →
     sel (decide ((x : Int) < (n : Int))) ((0 ≤ (x : Int) ∧ (x : Int) < (n : Int)) ∧ (0 ≤ (x : Int) ∧ (x : Int) < (m : Int)) ∧ sel (!((g (0 + Int.toNat (x : Int))).1 == (h (0 + Int.toNat (x : Int))).1 && (g (0 + Int.toNat (x : Int))).2 == (h (0 + Int.toNat (x : Int))).2)) (SV.v (.bool false) = .v (.bool (Qfs n g m h)))
       (∃ x' : Nat, ((x' ≤ n ∧ ∀ j : Nat, j < x' → eqP (g j) (h j) = true) ∧ SV.v (.int .i64 (IntKind.i64.wrap ((x : Int) + 1))) = .v (.int .i64 x') ∧ True) ∧ n - x' < n - x)) (SV.v (.bool true) = .v (.bool (Qfs n g m h)))) := by
 refine Qab (fun e => by rw [Qza e]) fun e => ⟨⟨0, ⟨Nat.zero_le _, fun j hj => absurd hj (Nat.not_lt_zero _)⟩, rfl, trivial⟩, fun x ⟨hx, hd⟩ => Qab (fun hlt => ?_) fun hge => ?_⟩
 · have hlt : x < n := by simpa using hlt
   have e' : (n : Int) = (m : Int) := by simpa using e
   rw [Int.toNat_natCast, Nat.zero_add]
   refine ⟨⟨by omega, by omega⟩, ⟨by omega, by omega⟩, Qab (fun hne => ?_) fun heq => ?_⟩
   · have hne : (!eqP (g x) (h x)) = true := hne
     rw [Zgv hlt (by simpa using hne)]
   · have heq : (!eqP (g x) (h x)) = false := heq
     refine ⟨x + 1, ⟨⟨hlt, fun j hj => ?_⟩, Qin (by rw [Qbn ⟨by omega, by omega⟩]; rfl), trivial⟩, by omega⟩
     by_cases e2 : j = x
     · rw [e2]; simpa using heq
     · exact hd j (by omega)
 · have hge : ¬ x < n := by simpa using hge
   obtain rfl : x = n := by omega
   rw [Qzb e hd]
theorem Qxu : Qcj Try.prog 106 Qpe := Qdg hm Qax Try.func106 (Λ := fun args bs => match args, bs with | [.sl 0 2 0 n _, .sl 1 2 0 m _], [⟨2, _, row⟩, ⟨2, _, row'⟩] => Qp1 Try.f106 13 n (fun i => gi (row i)) (fun i => gi (row' i)) | _, _ => Qas) fun args bs p x h hp => by
 unfold Qpe at h
 split at h <;> try (cases h; done)
 rename_i n c m d n' row m' row'
 cases h
 obtain ⟨⟨h0, rfl, hn⟩, k0, rfl, hm'⟩ := hp _ rfl
 have h0 := okAll_rows.1 h0
 have k0 := okAll_rows.1 k0
 refine ⟨rfl, [⟨2, n', Qan fun i => gi (row i)⟩, ⟨2, m', Qan fun i => gi (row' i)⟩], ⟨⟨rfl, rfl, fun i hi => (Qao (h0 i hi)).1⟩, ⟨rfl, rfl, fun i hi => (Qao (k0 i hi)).1⟩, trivial⟩, ?_⟩
 refine Eq.mpr (Q9b n' n' c m' m' d (fun i => gi (row i)) (fun i => gi (row' i)) _) ?_
 exact Qpl hn hm'
theorem Q70 : ∀ f g, ΓM0 f = some g → g.ok Try.prog f := Qah Qax (Qnv Try.func106 (by kernel_rfl) (by kernel_rfl) Qxu)
theorem Qpw : Qcj Try.prog 72 Qvn := Qdg hm Q70 Try.func72 (Λ := fun _ _ => Qas) fun args bs p x h hp => by
 unfold Qvn at h
 split at h <;> try (cases h; done)
 rename_i k r w hh n c k2 r2 w2 h2 m d n' row m' row'
 cases h
 obtain ⟨⟨h0, rfl, hn⟩, k0, rfl, hm'⟩ := hp _ rfl
 have h0 := okAll_rows.1 h0
 have k0 := okAll_rows.1 k0
 refine ⟨rfl, [⟨2, n', Qan fun i => gi (row i)⟩, ⟨2, m', Qan fun i => gi (row' i)⟩], ⟨⟨rfl, rfl, fun i hi => (Qao (h0 i hi)).1⟩, ⟨rfl, rfl, fun i hi => (Qao (k0 i hi)).1⟩, trivial⟩, ?_⟩
 have hg : ∀ i, i < n' → I64 ((fun i => gi (row i)) i).1 ∧ I64 ((fun i => gi (row i)) i).2 := fun i hi => (Qao (h0 i hi)).2
 have hh' : ∀ i, i < m' → I64 ((fun i => gi (row' i)) i).1 ∧ I64 ((fun i => gi (row' i)) i).2 := fun i hi => (Qao (k0 i hi)).2
 generalize (fun i => gi (row i)) = g at hg ⊢
 generalize (fun i => gi (row' i)) = g' at hh' ⊢
 refine Eq.mpr (Q8t ⟨k, r, w, hh⟩ ⟨k2, r2, w2, h2⟩ n' n' c m' m' d g g' _) ?_
 rw [Qoa, Qoa]
 refine Qab (fun e => ⟨⟨⟨okAll_rows.2 fun i hi => ?_, rfl, hn⟩, okAll_rows.2 fun i hi => ?_, rfl, hm'⟩, Qjd ?_⟩) fun e => Qjd ?_
 · rw [Nat.zero_add]; exact hg i hi
 · rw [Nat.zero_add]; exact hh' i hi
 · unfold Qey Qcp; rw [e]; rfl
 · unfold Qey Qcp; rw [e]; rfl
noncomputable def Qf6 (s : ByteArray) (k : Int) : Nat → Int × Int := fun i => (rdI s (k + 16 * (i : Int)), rdI s (k + 16 * (i : Int) + 8))
def Qoy (s : ByteArray) (k : Int) : Nat → Pz
 | 0 => ⟨false, 0⟩
 | i + 1 => (Qoy s k i).seq (spP s (k + 16 * (i : Int)))
def shA (k : Int) : Int := k + 1 + 8 + 8 + 8 + 1
def shC (s : ByteArray) (k : Int) : Nat := (rdT s (k + 1 + 8 + 8 + 8) 1).toNat
def Qag (s : ByteArray) (k : Int) : Int := shA k + 16 * (shC s k : Int)
def shP (s : ByteArray) (k : Int) : Pz := (upP s k 255 1).seq ((tkP s (k + 1) 8).seq ((tkP s (k + 1 + 8) 8).seq ((tkP s (k + 1 + 8 + 8) 8).seq ((upP s (k + 1 + 8 + 8 + 8) 8 1).seq (Qoy s (shA k) (shC s k))))))
noncomputable def Qjt (s : ByteArray) (k : Int) : ShB := ⟨rdT s k 1, rdI s (k + 1), rdI s (k + 1 + 8), rdI s (k + 1 + 8 + 8)⟩
noncomputable def shE (s : ByteArray) (k : Int) : Eff := .nd (Qai s k) Nat 0 (fun c => shS (Qjt s k) (.sl 1000 2 0 (shC s k) (shC s k + c))) fun c => [(0, rdB s (Qag s k)), (1000, spW (shC s k) (shC s k + c) (Qf6 s (shA k)))]
structure SX where
 i : Nat
 c : Nat
noncomputable def Zeh (s : ByteArray) (k : Int) : Nat → Option LoopSpec := Qsx (Qjs Qas Try.f122 0 SX (fun x => x.i ≤ shC s k ∧ (Qoy s (shA k) x.i).bad = false ∧ x.i ≤ x.c) (fun x => shC s k - x.i) [(17, fun x => .v (.int .i64 (x.i : Int)))] [(0, fun x => rdB s (shA k + 16 * (x.i : Int))), (64, fun x => Qkt 35 [.v (.int .i64 (Qjt s k).k), .v (.int .i64 (Qjt s k).r), .v (.int .i64 (Qjt s k).w), .v (.int .i64 (Qjt s k).h), .sl 40 2 0 x.i x.c])] [(40, fun x => spW x.i x.c (Qf6 s (shA k)), Qw4 64 4)]) 7 [(1, fun _ => 64), (3, fun _ => 0)]
def sTe (E : ByteArray → Int → Eff) (args : List SV) (bs : List Blk) : Option Eff := match args, bs with
 | [.vp 0 0], [B] => match B.row 0 with
   | [.v (.string s), .v (.int .i64 k)] => bif Zga B then some (E s k) else none
   | _ => none
 | _, _ => none
def Q35 (G : ByteArray → Int → Pz) (args : List SV) (bs : List Blk) : Eff := match args, bs with
 | [_], [B] => match B.row 0 with
   | [.v (.string s), .v (.int .i64 k)] => .det (some (Qai s k)) (pE (G s k).er) [(0, Qbz (rdB s k))]
   | _ => .det none Qby []
 | _, _ => .det none Qby []
def Qui (E : ByteArray → Int → Eff) (G : ByteArray → Int → Pz) : Ctr := Qj7 true (sTe E) (Qlh (p0 G)) (Q35 G)
def Qyy : List SV → ByteArray → Int → Option (Prop × SV × Int)
 | [.v (.int .i64 low)], s, k => some (True, .v (.int .i64 (rdT s k 1)), k + 1)
 | _, _, _ => none
def kiP (s : ByteArray) (k low : Int) : Pz := (tkP s k 1).seq ⟨!(decide (low ≤ rdT s k 1) && decide (rdT s k 1 ≤ 10)), 8⟩
def Qwz : List SV → ByteArray → Int → Pz
 | [.v (.int .i64 low)], s, k => kiP s k low
 | _, _, _ => ⟨false, 0⟩
def enP (s : ByteArray) (k : Int) : Pz := ⟨!(k == (s.size : Int)), 6⟩
def Qmh (s : ByteArray) (k : Int) : SV × Int := (.tup [], k)
@[reducible] noncomputable def Qtn (s : ByteArray) (k : Int) (T_ : Prop) : Prop := ((SV.v (.int .i64 (ShB.k (Qjt s k)))) = (SV.v (.int .i64 (ShB.k (Qjt s k)))))∧(((SV.v (.int .i64 (ShB.r (Qjt s k)))) = (SV.v (.int .i64 (ShB.r (Qjt s k)))))∧(((SV.v (.int .i64 (ShB.w (Qjt s k)))) = (SV.v (.int .i64 (ShB.w (Qjt s k)))))∧(((SV.v (.int .i64 (ShB.h (Qjt s k)))) = (SV.v (.int .i64 (ShB.h (Qjt s k)))))∧(T_))))
theorem Zig (s : ByteArray) (k : Int) : (Qf9 Try.prog Zho (Zeh s k) Try.f122 [.vp 0 0] (Qac [rdB s k]) 64 (fun y h' => (shP s k).bad = false∧Qbh [rdB s k] (shE s k) y h') (fun y h' => (shP s k).bad = true∧Qbh [rdB s k] (.det none (pE (shP s k).er) [(0,Qbz (rdB s k))]) y h')) =
(sel (Pz.bad (upP s k 255 1)) (((Qai s k)∧((((0 : Int) ≤ 1)∧((1 : Int) ≤ 8))∧((255 : Int) ≤ 1099511627776)))∧((Pz.bad (shP s k) = true)∧(((SV.v (Value.iface 169 (Value.agg #[.int .i64 (Pz.er (Qn0 [SV.v (.int .u64 255),yI 1] s k))]))) = (SV.v (Value.iface 169 (Value.agg #[.int .i64 (Pz.er (shP s k))]))))∧True))) (((Qai s k)∧((((0 : Int) ≤ 1)∧((1 : Int) ≤ 8))∧((255 : Int) ≤ 1099511627776)))∧(sel (Pz.bad (Qn1 s (k + 1))) (((Qai s (k + 1))∧True)∧((Pz.bad (shP s k) = true)∧(((SV.v (Value.iface 169 (Value.agg #[.int .i64 (Pz.er (p0 Qn1 [] s (k + 1)))]))) = (SV.v (Value.iface 169 (Value.agg #[.int .i64 (Pz.er (shP s k))]))))∧True))) (((Qai s (k + 1))∧True)∧(sel (Pz.bad (Qn1 s (Prod.snd (Qee s (k + 1))))) (((Qai s (Prod.snd (Qee s (k + 1))))∧True)∧((Pz.bad (shP s k) = true)∧(((SV.v (Value.iface 169 (Value.agg #[.int .i64 (Pz.er (p0 Qn1 [] s (Prod.snd (Qee s (k + 1)))))]))) = (SV.v (Value.iface 169 (Value.agg #[.int .i64 (Pz.er (shP s k))]))))∧True))) (((Qai s (Prod.snd (Qee s (k + 1))))∧True)∧(sel (Pz.bad (Qn1 s (Prod.snd (Qee s (Prod.snd (Qee s (k + 1))))))) (((Qai s (Prod.snd (Qee s (Prod.snd (Qee s (k + 1))))))∧True)∧((Pz.bad (shP s k) = true)∧(((SV.v (Value.iface 169 (Value.agg #[.int .i64 (Pz.er (p0 Qn1 [] s (Prod.snd (Qee s (Prod.snd (Qee s (k + 1)))))))]))) = (SV.v (Value.iface 169 (Value.agg #[.int .i64 (Pz.er (shP s k))]))))∧True))) (((Qai s (Prod.snd (Qee s (Prod.snd (Qee s (k + 1))))))∧True)∧(sel (Pz.bad (upP s (Prod.snd (Qee s (Prod.snd (Qee s (Prod.snd (Qee s (k + 1))))))) 8 1)) (((Qai s (Prod.snd (Qee s (Prod.snd (Qee s (Prod.snd (Qee s (k + 1))))))))∧((((0 : Int) ≤ 1)∧((1 : Int) ≤ 8))∧((8 : Int) ≤ 1099511627776)))∧((Pz.bad (shP s k) = true)∧(((SV.v (Value.iface 169 (Value.agg #[.int .i64 (Pz.er (Qn0 [SV.v (.int .u64 8),yI 1] s (Prod.snd (Qee s (Prod.snd (Qee s (Prod.snd (Qee s (k + 1)))))))))]))) = (SV.v (Value.iface 169 (Value.agg #[.int .i64 (Pz.er (shP s k))]))))∧True))) (((Qai s (Prod.snd (Qee s (Prod.snd (Qee s (Prod.snd (Qee s (k + 1))))))))∧((((0 : Int) ≤ 1)∧((1 : Int) ≤ 8))∧((8 : Int) ≤ 1099511627776)))∧((∃ x : SX,(((((SX.i x) : Nat) ≤ (shC s k))∧((Pz.bad (Qoy s (shA k) (SX.i x)) = false)∧(((SX.i x) : Nat) ≤ (SX.c x))))∧((zI = (yI ((↑(SX.i x) : Int))))∧((((1 : Nat) = 1)∧(((1 : Nat) ≤ 1)∧(∀ i : Nat,(((i : Nat) < 1)→([(SV.v (.string s)),(yI (Prod.snd (Qee s (Prod.snd (Qee s (Prod.snd (Qee s (k + 1)))))) + 1))] = [(SV.v (.string s)),(yI (shA k + 16 * (↑(SX.i x) : Int)))])))))∧((((1 : Nat) = 1)∧(((1 : Nat) ≤ 1)∧(((yI (rdT s k 1)) = (yI (ShB.k (Qjt s k))))∧(((yI (rdI s (k + 1))) = (yI (ShB.r (Qjt s k))))∧(((yI (rdI s (Prod.snd (Qee s (k + 1))))) = (yI (ShB.w (Qjt s k))))∧(((yI (rdI s (Prod.snd (Qee s (Prod.snd (Qee s (k + 1))))))) = (yI (ShB.h (Qjt s k))))∧((zS = zS)∧(((0 : Nat) = 0)∧((((SX.i x) : Nat) = 0)∧(((SX.c x) : Nat) = 0))))))))))∧(((((SX.i x) : Nat) = 0)∧((((SX.c x) : Nat) = 0)∧True))∧True))))))∧(∀ x : SX,(((((SX.i x) : Nat) ≤ (shC s k))∧((Pz.bad (Qoy s (shA k) (SX.i x)) = false)∧(((SX.i x) : Nat) ≤ (SX.c x))))→(sel (decide ((↑(SX.i x) : Int) < rdT s (Prod.snd (Qee s (Prod.snd (Qee s (Prod.snd (Qee s (k + 1))))))) 1)) (sel (Pz.bad (spP s (shA k + 16 * (↑(SX.i x) : Int)))) (((Qai s (shA k + 16 * (↑(SX.i x) : Int)))∧True)∧((Pz.bad (shP s k) = true)∧(((SV.v (Value.iface 169 (Value.agg #[.int .i64 (Pz.er (p0 spP [] s (shA k + 16 * (↑(SX.i x) : Int))))]))) = (SV.v (Value.iface 169 (Value.agg #[.int .i64 (Pz.er (shP s k))]))))∧True))) (((Qai s (shA k + 16 * (↑(SX.i x) : Int)))∧True)∧((((((SX.i x + 1) * 16) : Nat) ≤ 140737488355328)∧((((0 + SX.c x) : Nat) ≤ (SX.c x))∧(∀ y : Nat,(((y : Nat) < 1)→True))))∧(∀ c : Nat,(∃ x' : SX,((((((SX.i x') : Nat) ≤ (shC s k))∧((Pz.bad (Qoy s (shA k) (SX.i x')) = false)∧(((SX.i x') : Nat) ≤ (SX.c x'))))∧(((yI (IntKind.wrap IntKind.i64 ((↑(SX.i x) : Int) + 1))) = (yI ((↑(SX.i x') : Int))))∧((((1 : Nat) = 1)∧(((1 : Nat) ≤ 1)∧(∀ i : Nat,(((i : Nat) < 1)→([(SV.v (.string s)),(yI (Prod.snd (Qhb s (shA k + 16 * (↑(SX.i x) : Int)))))] = [(SV.v (.string s)),(yI (shA k + 16 * (↑(SX.i x') : Int)))])))))∧((((1 : Nat) = 1)∧(((1 : Nat) ≤ 1)∧(Qtn s k ((SV.sl 272 2 0 (SX.i x + 1) (SX.i x + 1 + c)) = (SV.sl 272 2 0 (SX.i x') (SX.c x'))))))∧((((SX.i x + 1) : Nat) = (SX.i x'))∧((((SX.c x') : Nat) ≤ (SX.i x + 1 + c))∧(∀ i : Nat,(((i : Nat) < (SX.i x'))→([(yI (bop (Nat.blt i (SX.i x)) (Prod.fst (Qf6 s (shA k) (0 + i))) (rdI s (shA k + 16 * (↑(SX.i x) : Int))))),(yI (bop (Nat.blt i (SX.i x)) (Prod.snd (Qf6 s (shA k) (0 + i))) (rdI s (shA k + 16 * (↑(SX.i x) : Int) + 8))))] = [(yI (Prod.fst (Qf6 s (shA k) i))),(yI (Prod.snd (Qf6 s (shA k) i)))])))))))))∧(((shC s k - SX.i x') : Nat) < (shC s k - SX.i x)))))))) ((Pz.bad (shP s k) = false)∧(∃ c : Nat,((Qtn s k ((SV.sl 40 2 0 (SX.i x) (SX.c x)) = (SV.sl 40 2 0 (shC s k) (shC s k + c))))∧((((1 : Nat) = 1)∧(((1 : Nat) ≤ 1)∧(∀ i : Nat,(((i : Nat) < 1)→([(SV.v (.string s)),(yI (shA k + 16 * (↑(SX.i x) : Int)))] = [(SV.v (.string s)),(yI (Qag s k))])))))∧((((SX.i x) : Nat) = (shC s k))∧((((shC s k + c) : Nat) ≤ (SX.c x))∧(∀ i : Nat,(((i : Nat) < (shC s k))→([(yI (Prod.fst (Qf6 s (shA k) i))),(yI (Prod.snd (Qf6 s (shA k) i)))] = [(yI (Prod.fst (Qf6 s (shA k) i))),(yI (Prod.snd (Qf6 s (shA k) i)))]))))))))))))))))))))))) := by kernel_rfl
theorem Q87 (s : ByteArray) (k low : Int) : (Qf9 Try.prog Zhp Qas Try.f120 [.vp 0 0,.v (.int .i64 low)] (Qac [rdB s k]) 64 (fun y h' => (kiP s k low).bad = false∧Qbh [rdB s k] (.det none (.v (.int .i64 (rdT s k 1))) [(0,rdB s (k + 1))]) y h') (fun y h' => (kiP s k low).bad = true∧Qbh [rdB s k] (.det none (pE (kiP s k low).er) [(0,Qbz (rdB s k))]) y h')) =
(sel (Pz.bad (tkP s k 1)) (((Qai s k)∧(((0 : Int) ≤ 1)∧((1 : Int) ≤ 8)))∧((Pz.bad (kiP s k low) = true)∧(((SV.v (Value.iface 169 (Value.agg #[.int .i64 (Pz.er (Qwy [yI 1] s k))]))) = (SV.v (Value.iface 169 (Value.agg #[.int .i64 (Pz.er (kiP s k low))]))))∧True))) (((Qai s k)∧(((0 : Int) ≤ 1)∧((1 : Int) ≤ 8)))∧(sel (decide (IntKind.wrap IntKind.i64 (rdT s k 1) ≥ low)) (sel (!decide (IntKind.wrap IntKind.i64 (rdT s k 1) ≤ 10)) ((Pz.bad (kiP s k low) = true)∧(((SV.v (Value.iface 169 (Value.agg #[.int .i64 8]))) = (SV.v (Value.iface 169 (Value.agg #[.int .i64 (Pz.er (kiP s k low))]))))∧True)) ((Pz.bad (kiP s k low) = false)∧(((yI (IntKind.wrap IntKind.i64 (rdT s k 1))) = (yI (rdT s k 1)))∧(((1 : Nat) = 1)∧(((1 : Nat) ≤ 1)∧(∀ i : Nat,(((i : Nat) < 1)→([(SV.v (.string s)),(yI (k + 1))] = [(SV.v (.string s)),(yI (k + 1))])))))))) ((Pz.bad (kiP s k low) = true)∧(((SV.v (Value.iface 169 (Value.agg #[.int .i64 8]))) = (SV.v (Value.iface 169 (Value.agg #[.int .i64 (Pz.er (kiP s k low))]))))∧True))))) := by kernel_rfl
theorem Zfj (s : ByteArray) (k : Int) : (Qf9 Try.prog Zhq Qas Try.f131 [.vp 0 0] (Qac [rdB s k]) 64 (fun y h' => (enP s k).bad = false∧Qbh [rdB s k] (.det none (Qmh s k).1 [(0,rdB s (Qmh s k).2)]) y h') (fun y h' => (enP s k).bad = true∧Qbh [rdB s k] (.det none (pE (enP s k).er) [(0,Qbz (rdB s k))]) y h')) = (sel (!k == (↑(ByteArray.size s) : Int)) ((Pz.bad (enP s k) = true)∧(((SV.v (Value.iface 169 (Value.agg #[.int .i64 6]))) = (SV.v (Value.iface 169 (Value.agg #[.int .i64 (Pz.er (enP s k))]))))∧True)) ((Pz.bad (enP s k) = false)∧(True∧(((1 : Nat) = 1)∧(((1 : Nat) ≤ 1)∧(∀ i : Nat,(((i : Nat) < 1)→([(SV.v (.string s)),(yI k)] = [(SV.v (.string s)),(yI (Prod.snd (Qmh s k)))])))))))):=by kernel_rfl
theorem Zf2 {k s i i' n n' c c' : Nat} (h1 : i = i') (h2 : n = n') (h3 : c = c') : SV.sl k s i n c = SV.sl k s i' n' c' := by subst h1 h2 h3; rfl
theorem Qqd {Γ : Qb6} (hΓ : ∀ f g, Γ f = some g → g.ok Try.prog f) {f : FuncId} {fn : Func} (hf : Try.prog.funcs[f]? = some fn) {E : ByteArray → Int → Eff} {G : ByteArray → Int → Pz} {Λ : ByteArray → Int → Nat → Option LoopSpec} (hE : ∀ s k, (E s k).asks → Qai s k)
   (h : ∀ s k, Qai s k → Qf9 Try.prog Γ (Λ s k) fn [.vp 0 0] (Qac [rdB s k]) 64 (fun y h' => (G s k).bad = false ∧ Qbh [rdB s k] (E s k) y h') (fun y h' => (G s k).bad = true ∧ Qbh [rdB s k] (.det none (pE (G s k).er) [(0, Qbz (rdB s k))]) y h')) :
   Qcg Try.prog f (sTe E) (Qlh (p0 G)) (Q35 G) := Qq7 hm hΓ hf (Λ := fun args bs => match args, bs with
     | _ :: rest, [B] => match B.row 0 with
       | [.v (.string s), .v (.int _ k)] => Λ s k
       | _ => Qas
     | _, _ => Qas) fun args bs e hs hp => by
 unfold sTe at hs
 split at hs <;> try (cases hs; done)
 rename_i B
 split at hs <;> try (cases hs; done)
 rename_i s k hB
 obtain ⟨ha, he⟩ := Qcl hs
 subst he
 have e1 : Qlh (p0 G) [.vp 0 0] [B] = (G s k).bad := by simp only [Qlh, hB]; rfl
 have e2 : Q35 G [.vp 0 0] [B] = .det (some (Qai s k)) (pE (G s k).er) [(0, Qbz (rdB s k))] := by simp only [Q35, hB]
 rw [e1, e2] at hp
 have hq : Qai s k := by
   cases hb : (G s k).bad with
   | true => rw [hb] at hp; exact hp _ rfl
   | false => rw [hb] at hp; exact hE s k hp
 refine ⟨[rdB s k], ⟨Qnw ha hB, trivial⟩, ?_⟩
 rw [e1, e2]
 simp only [hB]
 exact h s k hq
theorem Qwp {f : FuncId} {fn : Func} {E : ByteArray → Int → Eff} {G : ByteArray → Int → Pz} (hf : Try.prog.funcs[f]? = some fn) (hn : (fn.name == "runtime.NumGoroutine") = false) (hb : fn.body.isNone = false) (h : Qcg Try.prog f (sTe E) (Qlh (p0 G)) (Q35 G)) : (Qui E G).ok Try.prog f := Q0k hf hn hb h
theorem Qtq {s : ByteArray} {k : Int} (hp : Qai s k) : ∀ {i : Nat}, (Qoy s k i).bad = false → Qai s (k + 16 * (i : Int))
 | 0, _ => by rw [show k + 16 * ((0 : Nat) : Int) = k by omega]; exact hp
 | i + 1, h => by
   have := Qr4 (Qtq hp (Qck h).1) (Qck h).2
   rw [show k + 16 * ((i + 1 : Nat) : Int) = k + 16 * (i : Int) + 8 + 8 by omega]
   exact this
theorem Qy4 {s : ByteArray} {k : Int} {i : Nat} (h1 : (Qoy s k i).bad = false) (h2 : (spP s (k + 16 * (i : Int))).bad = true) : ∀ {n : Nat}, i < n → (Qoy s k n).bad = true ∧ (spP s (k + 16 * (i : Int))).er = (Qoy s k n).er
 | 0, h => absurd h (Nat.not_lt_zero _)
 | n + 1, h => by
   by_cases hi : i = n
   · subst hi
     unfold Qoy
     rw [Qa1 h1]
     exact ⟨h2, rfl⟩
   · have ih := Qy4 h1 h2 (n := n) (by omega)
     unfold Qoy
     have := Qa2 (b := spP s (k + 16 * (n : Int))) ih.1
     exact ⟨this.1, ih.2.trans this.2⟩
theorem Zf0 {s : ByteArray} {k : Int} {i : Nat} (h1 : (Qoy s k i).bad = false) (h2 : (spP s (k + 16 * (i : Int))).bad = false) : (Qoy s k (i + 1)).bad = false := by
 unfold Qoy
 rw [Qa1 h1]
 exact h2
theorem Qlw (s : ByteArray) (k : Int) : rdT s (k + 1 + 8 + 8 + 8) 1 = (shC s k : Int) := by
 have := (Qez s (k + 1 + 8 + 8 + 8) 1).1
 unfold shC
 omega
theorem Q4a {s : ByteArray} {k : Int} (h : (shP s k).bad = false) : (upP s k 255 1).bad = false ∧ (tkP s (k + 1) 8).bad = false ∧ (tkP s (k + 1 + 8) 8).bad = false ∧ (tkP s (k + 1 + 8 + 8) 8).bad = false ∧ (upP s (k + 1 + 8 + 8 + 8) 8 1).bad = false ∧ (Qoy s (shA k) (shC s k)).bad = false := by
 have h1 := Qck h
 have h2 := Qck h1.2
 have h3 := Qck h2.2
 have h4 := Qck h3.2
 have h5 := Qck h4.2
 exact ⟨h1.1, h2.1, h3.1, h4.1, h5.1, h5.2⟩
theorem Zf3 {s : ByteArray} {k : Int} (h : (upP s (k + 1 + 8 + 8 + 8) 8 1).bad = false) : shC s k ≤ 8 := by
 have := of_decide_eq_false (Qck h).2
 have e := Qlw s k
 have : ¬ (8 : Int) < rdT s (k + 1 + 8 + 8 + 8) 1 := this
 omega
theorem Qy7 {s : ByteArray} {k : Int} (hp : Qai s k) (h : (shP s k).bad = false) : Qai s (Qag s k) := by
 obtain ⟨h1, h2, h3, h4, h5, h6⟩ := Q4a h
 have p1 := Qcm hp (by omega) h1
 have p2 := Qgp p1 (by omega) h2
 have p3 := Qgp p2 (by omega) h3
 have p4 := Qgp p3 (by omega) h4
 have p5 := Qcm p4 (by omega) h5
 exact Qtq p5 h6
theorem Qwm : Qcg Try.prog 122 (sTe shE) (Qlh (p0 shP)) (Q35 shP) := Qqd Qtg Try.func122 (Λ := Zeh) (fun s k h => h) fun s k hp => by
 have h_vc := Zig s k
 repeat (first | unfold Qtn at h_vc)
 refine Eq.mpr h_vc (Qab (fun h => ⟨⟨hp, ⟨by omega, by omega⟩, by omega⟩, pan (Qa2 h)⟩) fun h1 => ⟨⟨hp, ⟨by omega, by omega⟩, by omega⟩, ?_⟩)
 have p1 : Qai s (k + 1) := Qcm hp (by omega) h1
 have e1 := Qa1 (b := (tkP s (k + 1) 8).seq ((tkP s (k + 1 + 8) 8).seq ((tkP s (k + 1 + 8 + 8) 8).seq ((upP s (k + 1 + 8 + 8 + 8) 8 1).seq (Qoy s (shA k) (shC s k)))))) h1
 rw [show shP s k = _ from e1]
 refine Qab (fun h => ⟨⟨p1, trivial⟩, pan (Qa2 h)⟩) fun h2 => ⟨⟨p1, trivial⟩, ?_⟩
 have h2 : (tkP s (k + 1) 8).bad = false := h2
 have p2 : Qai s (k + 1 + 8) := Qgp p1 (by omega) h2
 rw [Qa1 h2]
 refine Qab (fun h => ⟨⟨p2, trivial⟩, pan (Qa2 h)⟩) fun h3 => ⟨⟨p2, trivial⟩, ?_⟩
 have h3 : (tkP s (k + 1 + 8) 8).bad = false := h3
 have p3 : Qai s (k + 1 + 8 + 8) := Qgp p2 (by omega) h3
 rw [Qa1 h3]
 refine Qab (fun h => ⟨⟨p3, trivial⟩, pan (Qa2 h)⟩) fun h4 => ⟨⟨p3, trivial⟩, ?_⟩
 have h4 : (tkP s (k + 1 + 8 + 8) 8).bad = false := h4
 have p4 : Qai s (k + 1 + 8 + 8 + 8) := Qgp p3 (by omega) h4
 rw [Qa1 h4]
 refine Qab (fun h => ⟨⟨p4, ⟨by omega, by omega⟩, by omega⟩, pan (Qa2 h)⟩) fun h5 => ⟨⟨p4, ⟨by omega, by omega⟩, by omega⟩, ?_⟩
 have h5 : (upP s (k + 1 + 8 + 8 + 8) 8 1).bad = false := h5
 have p5 : Qai s (shA k) := Qcm p4 (by omega) h5
 rw [Qa1 h5]
 have hC := Qlw s k
 have hC8 := Zf3 h5
 refine ⟨⟨⟨0, 0⟩, ⟨Nat.zero_le _, rfl, Nat.le_refl _⟩, rfl, ⟨rfl, Nat.le_refl _, fun i _ => ?_⟩, ⟨rfl, Nat.le_refl _, rfl, rfl, rfl, rfl, rfl, rfl, rfl, rfl⟩, ⟨rfl, rfl, trivial⟩, trivial⟩, fun x hx => Qab (fun hlt => ?_) fun hge => ?_⟩
 · show [SV.v (.string s), SV.v (.int .i64 (shA k))] = [SV.v (.string s), SV.v (.int .i64 (shA k + 16 * ((0 : Nat) : Int)))]
   rw [show shA k + 16 * ((0 : Nat) : Int) = shA k by omega]
 · obtain ⟨hx1, hx2, hx3⟩ := hx
   have hlt := of_decide_eq_true hlt
   have hlt : (x.i : Int) < rdT s (k + 1 + 8 + 8 + 8) 1 := hlt
   have hlt : x.i < shC s k := by omega
   have p6 := Qtq p5 hx2
   refine Qab (fun h => ⟨⟨p6, trivial⟩, pan (Qy4 hx2 h hlt)⟩) fun h6 => ⟨⟨p6, trivial⟩, ⟨by omega, by omega, fun _ _ => trivial⟩, fun c => ⟨⟨x.i + 1, x.i + 1 + c⟩, ⟨⟨hlt, Zf0 hx2 h6, by show x.i + 1 ≤ x.i + 1 + c; omega⟩, Qin (Qbn ⟨by omega, by omega⟩), ⟨rfl, Nat.le_refl _, fun i _ => ?_⟩, ⟨rfl, Nat.le_refl _, rfl, rfl, rfl, rfl, rfl⟩, rfl, Nat.le_refl _, fun i hi => ?_⟩, by show shC s k - (x.i + 1) < shC s k - x.i; omega⟩⟩
   · show [SV.v (.string s), SV.v (.int .i64 (shA k + 16 * (x.i : Int) + 8 + 8))] = [SV.v (.string s), SV.v (.int .i64 (shA k + 16 * ((x.i + 1 : Nat) : Int)))]
     rw [show shA k + 16 * ((x.i + 1 : Nat) : Int) = shA k + 16 * (x.i : Int) + 8 + 8 by omega]
   · have hi : i < x.i + 1 := hi
     by_cases hik : i < x.i
     · rw [Qjr hik, Nat.zero_add]
       rfl
     · have hik : i = x.i := by omega
       subst hik
       rw [Qhv (Nat.lt_irrefl _)]
       rfl
 · obtain ⟨hx1, hx2, hx3⟩ := hx
   have hge := of_decide_eq_false hge
   have hge : ¬ (x.i : Int) < rdT s (k + 1 + 8 + 8 + 8) 1 := hge
   have hn : x.i = shC s k := by omega
   rw [hn] at hx2 hx3 ⊢
   refine ⟨hx2, x.c - shC s k, ⟨rfl, rfl, rfl, rfl, Zf2 rfl rfl (by omega)⟩, ⟨rfl, Nat.le_refl _, fun _ _ => rfl⟩, rfl, by omega, fun _ _ => rfl⟩
theorem Qpy : Qcg Try.prog 120 (sTd Qyy) (Qlh Qwz) (Qqi Qyy Qwz) := Qqe Qth Try.func120 (Λ := fun _ _ _ => Qas) fun rest s k q x k' h hp hq => by
 unfold Qyy at h
 split at h <;> try (cases h; done)
 rename_i low
 cases h
 have hr := Qez s k 1
 have hw : IntKind.i64.wrap (rdT s k 1) = rdT s k 1 := by
   have h2 : rdT s k 1 < 256 := hr.2
   exact Qbn ⟨by omega, by omega⟩
 refine Eq.mpr (Q87 s k low) (Qab (fun h => ⟨⟨hp, by omega, by omega⟩, pan (Qa2 h)⟩) fun h => ⟨⟨hp, by omega, by omega⟩, ?_⟩)
 unfold kiP
 rw [Qa1 h, hw]
 refine Qab (fun h2 => Qab (fun h3 => pan ⟨?_, rfl⟩) fun h3 => ⟨?_, rfl, rfl, Nat.le_refl _, fun _ _ => rfl⟩) fun h2 => pan ⟨?_, rfl⟩
 · have h3 := Qt5 h3
   show (!(_ && decide (rdT s k 1 ≤ 10))) = true
   rw [decide_eq_false h3, Bool.and_false]; rfl
 · have h3 := Qqx h3
   have h2 := of_decide_eq_true h2
   show (!(decide (low ≤ rdT s k 1) && decide (rdT s k 1 ≤ 10))) = false
   rw [decide_eq_true h3, decide_eq_true h2]; rfl
 · have h2 := of_decide_eq_false h2
   show (!(decide (low ≤ rdT s k 1) && _)) = true
   rw [decide_eq_false h2]; rfl
theorem Qtb : Qcg Try.prog 131 (sTd (t0 Qmh)) (Qlh (p0 enP)) (Qqi (t0 Qmh) (p0 enP)) := Qhc Qti Try.func131 (Λ := fun _ _ => Qas) fun s k hp =>
 Eq.mpr (Zfj s k) (Qab (fun h => pan ⟨h, rfl⟩) fun h => ⟨h, trivial, rfl, Nat.le_refl _, fun _ _ => rfl⟩)
end Go.Proofs.Ytjdldadmaaeimaa
end
