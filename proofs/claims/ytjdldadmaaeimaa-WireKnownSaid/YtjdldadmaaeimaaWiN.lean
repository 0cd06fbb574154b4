/-
  Contracts: feeds that hold nothing, or are none.
-/
import Derived.Test.YtjdldadmaaeimaaWiX
import Derived.Test.YtjdldadmaaeimaaWiR
set_option maxRecDepth 100000
set_option linter.unusedSimpArgs false
set_option linter.unusedVariables false
namespace Go.Proofs.Ytjdldadmaaeimaa
open Go.SE Go.RowKit

abbrev nilP : SV := .v (.pointer none)
/-- A feed. -/
def fdB (m br fl : Bool) (a : SV) : Blk := { elem := 85, size := 3, rw := true, lock := false, lit := true, flat := fl, n := 1, row := fun _ => [.v (.bool m), .v (.bool br), a], ext := 1, whole := true }
def fdOk (fl : Bool) (b : Blk) : Bool := Nat.beq b.elem 85 && Nat.beq b.size 3 && b.rw && !b.dead && Nat.beq b.n 1 && Nat.beq b.ext 1 && b.whole && (b.flat == fl)
/-- A feed's variable, and what it holds: nothing; n bytes from o on, of N bytes g. -/
inductive FdS where
  | fresh (m br fl : Bool)
  | used (m br : Bool) (o n c N : Nat) (g : Nat → Int) (e : Nat) (p : Prop)
def fdOf : List Blk → Option FdS
  | [B] => match B.row 0 with
    | [.v (.bool m), .v (.bool br), .v (.slice none 0 0)] => bif fdOk B.flat B then some (.fresh m br B.flat) else none
    | _ => none
  | [B, D] => match B.row 0 with
    | [.v (.bool m), .v (.bool br), .sl 1 1 o n c] => bif fdOk false B && bOk D then some (.used m br o n c D.n (fun i => SE.byteOf (D.row i)) D.ext (bytesOk D.n D.ext D)) else none
    | _ => none
  | _ => none
def fdBs : FdS → List Blk
  | .fresh m br fl => [fdB m br fl nilS]
  | .used m br o n c N g e _ => [fdB m br false (.sl 1 1 o n c), bG N g e]
def fdUp : FdS → List (Nat × Blk)
  | .fresh m br fl => [(0, fdB m br fl nilS)]
  | .used m br o n c N g e _ => [(0, fdB m br false (.sl 1 1 o n c)), (1, bG N g e)]
def fdP : FdS → Prop
  | .fresh _ _ _ => True
  | .used _ _ _ _ _ _ _ _ p => p
def fdN : FdS → Nat
  | .fresh _ _ _ => 0
  | .used _ _ _ n _ _ _ _ _ => n
def fdM : FdS → Bool
  | .fresh m _ _ => m
  | .used m _ _ _ _ _ _ _ _ => m
def fdBr : FdS → Bool
  | .fresh _ b _ => b
  | .used _ b _ _ _ _ _ _ _ => b
def fdW : FdS → Prop
  | .fresh _ _ _ => True
  | .used _ _ _ _ _ N _ _ _ => N < 70368744177664
/-- A method that only reads a feed: its value at none, its value at a feed. -/
def sFd (x0 : SV) (f : FdS → SV) (args : List SV) (bs : List Blk) : Option Eff := match args with
  | [.v (.pointer none)] => match bs with
    | [] => some (.det none x0 [])
    | _ => none
  | [.vp 0 0] => match fdOf bs with
    | some s => some (.det (some (fdP s)) (f s) (fdUp s))
    | none => none
  | _ => none
def vNone (s : FdS) : SV := bV (!fdM s)
def vHeld (s : FdS) : SV := iV (bif fdM s then (fdN s : Int) else 0)
def vBroken (s : FdS) : SV := bV (fdM s && fdBr s)
def ΓN0 : Ctrs := addCtr noCtrs 86 (hpCtr true (sFd (bV true) vNone))
theorem vcFNone0 (q : Option Prop) : (vcFn Try.prog noCtrs noΛ Try.f86 [nilP] (heapOf []) 64 (fun y h' => FinE [] (.det q (bV true) []) y h')) =
(((SV.v (Value.bool true)) = (SV.v (Value.bool true))) ∧ True) := by kernel_rfl
theorem vcFNone1 (q : Option Prop) (m br : Bool) : (vcFn Try.prog noCtrs noΛ Try.f86 [.vp 0 0] (heapOf [fdB m br true nilS]) 64 (fun y h' => FinE [fdB m br true nilS] (.det q (bV (!m)) [(0, fdB m br true nilS)]) y h')) =
(((SV.v (Value.bool (!m))) = (SV.v (Value.bool (!m)))) ∧ (((1 : Nat) = 1) ∧ (((1 : Nat) ≤ 1) ∧ (∀ i : Nat, (((i : Nat) < 1) → ([(SV.v (Value.bool m)), (SV.v (Value.bool br)), (SV.v (Value.slice none 0 0))] = [(SV.v (Value.bool m)), (SV.v (Value.bool br)), (SV.v (Value.slice none 0 0))])))))) := by kernel_rfl
theorem vcFNone3 (q : Option Prop) (m br : Bool) : (vcFn Try.prog noCtrs noΛ Try.f86 [.vp 0 0] (heapOf [fdB m br false nilS]) 64 (fun y h' => FinE [fdB m br false nilS] (.det q (bV (!m)) [(0, fdB m br false nilS)]) y h')) =
(((SV.v (Value.bool (!m))) = (SV.v (Value.bool (!m)))) ∧ (((1 : Nat) = 1) ∧ (((1 : Nat) ≤ 1) ∧ (((SV.v (Value.bool m)) = (SV.v (Value.bool m))) ∧ (((SV.v (Value.bool br)) = (SV.v (Value.bool br))) ∧ ((SV.v (Value.slice none 0 0)) = (SV.v (Value.slice none 0 0)))))))) := by kernel_rfl
theorem vcFNone2 (q : Option Prop) (m br : Bool) (o n c N : Nat) (g : Nat → Int) (e : Nat) : (vcFn Try.prog noCtrs noΛ Try.f86 [.vp 0 0] (heapOf [fdB m br false (.sl 1 1 o n c), bG N g e]) 64 (fun y h' => FinE [fdB m br false (.sl 1 1 o n c), bG N g e] (.det q (bV (!m)) [(0, fdB m br false (.sl 1 1 o n c)), (1, bG N g e)]) y h')) =
(((SV.v (Value.bool (!m))) = (SV.v (Value.bool (!m)))) ∧ ((((1 : Nat) = 1) ∧ (((1 : Nat) ≤ 1) ∧ (((SV.v (Value.bool m)) = (SV.v (Value.bool m))) ∧ (((SV.v (Value.bool br)) = (SV.v (Value.bool br))) ∧ ((SV.sl 1 1 o n c) = (SV.sl 1 1 o n c)))))) ∧ (((N : Nat) = N) ∧ (((e : Nat) ≤ e) ∧ (∀ i : Nat, (((i : Nat) < N) → ([(SV.v (Value.int IntKind.u8 (g i)))] = [(SV.v (Value.int IntKind.u8 (g i)))]))))))) := by kernel_rfl
theorem vcHeld0 (q : Option Prop) : (vcFn Try.prog ΓN0 noΛ Try.f42 [nilP] (heapOf []) 64 (fun y h' => FinE [] (.det q (iV 0) []) y h')) =
(((SV.v (Value.int IntKind.i64 0)) = (SV.v (Value.int IntKind.i64 0))) ∧ True) := by kernel_rfl
theorem vcHeld1 (q : Option Prop) (m br : Bool) : (vcFn Try.prog ΓN0 noΛ Try.f42 [.vp 0 0] (heapOf [fdB m br true nilS]) 64 (fun y h' => FinE [fdB m br true nilS] (.det q (iV (bif m then ((0 : Nat) : Int) else 0)) [(0, fdB m br true nilS)]) y h')) =
((fdP (FdS.fresh m br true)) ∧ 
(sel (!fdM (FdS.fresh m br true)) (((SV.v (Value.int IntKind.i64 0)) = (SV.v (Value.int IntKind.i64 (bif m then 0 else 0)))) ∧ (((1 : Nat) = 1) ∧ (((1 : Nat) ≤ 1) ∧ (∀ i : Nat, (((i : Nat) < 1) → ([(SV.v (Value.bool m)), (SV.v (Value.bool br)), (SV.v (Value.slice none 0 0))] = [(SV.v (Value.bool m)), (SV.v (Value.bool br)), (SV.v (Value.slice none 0 0))])))))) (((SV.v (Value.int IntKind.i64 0)) = (SV.v (Value.int IntKind.i64 (bif m then 0 else 0)))) ∧ (((1 : Nat) = 1) ∧ (((1 : Nat) ≤ 1) ∧ (∀ i : Nat, (((i : Nat) < 1) → ([(SV.v (Value.bool m)), (SV.v (Value.bool br)), (SV.v (Value.slice none 0 0))] = [(SV.v (Value.bool m)), (SV.v (Value.bool br)), (SV.v (Value.slice none 0 0))])))))))) := by kernel_rfl
theorem vcHeld3 (q : Option Prop) (m br : Bool) : (vcFn Try.prog ΓN0 noΛ Try.f42 [.vp 0 0] (heapOf [fdB m br false nilS]) 64 (fun y h' => FinE [fdB m br false nilS] (.det q (iV (bif m then ((0 : Nat) : Int) else 0)) [(0, fdB m br false nilS)]) y h')) =
((fdP (FdS.fresh m br false)) ∧ 
(sel (!fdM (FdS.fresh m br false)) (((SV.v (Value.int IntKind.i64 0)) = (SV.v (Value.int IntKind.i64 (bif m then 0 else 0)))) ∧ (((1 : Nat) = 1) ∧ (((1 : Nat) ≤ 1) ∧ (((SV.v (Value.bool m)) = (SV.v (Value.bool m))) ∧ (((SV.v (Value.bool br)) = (SV.v (Value.bool br))) ∧ ((SV.v (Value.slice none 0 0)) = (SV.v (Value.slice none 0 0)))))))) (((SV.v (Value.int IntKind.i64 0)) = (SV.v (Value.int IntKind.i64 (bif m then 0 else 0)))) ∧ (((1 : Nat) = 1) ∧ (((1 : Nat) ≤ 1) ∧ (((SV.v (Value.bool m)) = (SV.v (Value.bool m))) ∧ (((SV.v (Value.bool br)) = (SV.v (Value.bool br))) ∧ ((SV.v (Value.slice none 0 0)) = (SV.v (Value.slice none 0 0)))))))))) := by kernel_rfl
theorem vcHeld2 (q : Option Prop) (m br : Bool) (o n c N : Nat) (g : Nat → Int) (e : Nat) : (vcFn Try.prog ΓN0 noΛ Try.f42 [.vp 0 0] (heapOf [fdB m br false (.sl 1 1 o n c), bG N g e]) 64 (fun y h' => FinE [fdB m br false (.sl 1 1 o n c), bG N g e] (.det q (iV (bif m then (n : Int) else 0)) [(0, fdB m br false (.sl 1 1 o n c)), (1, bG N g e)]) y h')) =
((fdP (FdS.used m br o n c N (fun i => SE.byteOf [SV.v (Value.int IntKind.u8 (g i))]) e (bytesOk N e { elem := 5, size := 1, rw := true, lock := false, lit := false, flat := true, n := N, row := fun i => [SV.v (Value.int IntKind.u8 (g i))], ext := e }))) ∧ 
(sel (!fdM (FdS.used m br o n c N (fun i => SE.byteOf [SV.v (Value.int IntKind.u8 (g i))]) e (bytesOk N e { elem := 5, size := 1, rw := true, lock := false, lit := false, flat := true, n := N, row := fun i => [SV.v (Value.int IntKind.u8 (g i))], ext := e }))) (((SV.v (Value.int IntKind.i64 0)) = (SV.v (Value.int IntKind.i64 (bif m then (↑n : Int) else 0)))) ∧ ((((1 : Nat) = 1) ∧ (((1 : Nat) ≤ 1) ∧ (((SV.v (Value.bool m)) = (SV.v (Value.bool m))) ∧ (((SV.v (Value.bool br)) = (SV.v (Value.bool br))) ∧ ((SV.sl 1 1 o n c) = (SV.sl 1 1 o n c)))))) ∧ (((N : Nat) = N) ∧ (((e : Nat) ≤ e) ∧ (∀ i : Nat, (((i : Nat) < N) → ([(SV.v (Value.int IntKind.u8 (SE.byteOf [SV.v (Value.int IntKind.u8 (g i))])))] = [(SV.v (Value.int IntKind.u8 (g i)))]))))))) (((SV.v (Value.int IntKind.i64 ((↑n : Int)))) = (SV.v (Value.int IntKind.i64 (bif m then (↑n : Int) else 0)))) ∧ ((((1 : Nat) = 1) ∧ (((1 : Nat) ≤ 1) ∧ (((SV.v (Value.bool m)) = (SV.v (Value.bool m))) ∧ (((SV.v (Value.bool br)) = (SV.v (Value.bool br))) ∧ ((SV.sl 1 1 o n c) = (SV.sl 1 1 o n c)))))) ∧ (((N : Nat) = N) ∧ (((e : Nat) ≤ e) ∧ (∀ i : Nat, (((i : Nat) < N) → ([(SV.v (Value.int IntKind.u8 (SE.byteOf [SV.v (Value.int IntKind.u8 (g i))])))] = [(SV.v (Value.int IntKind.u8 (g i)))]))))))))) := by kernel_rfl
theorem vcBroken0 (q : Option Prop) : (vcFn Try.prog ΓN0 noΛ Try.f44 [nilP] (heapOf []) 64 (fun y h' => FinE [] (.det q (bV false) []) y h')) =
(((SV.v (Value.bool false)) = (SV.v (Value.bool false))) ∧ True) := by kernel_rfl
theorem vcBroken1 (q : Option Prop) (m br : Bool) : (vcFn Try.prog ΓN0 noΛ Try.f44 [.vp 0 0] (heapOf [fdB m br true nilS]) 64 (fun y h' => FinE [fdB m br true nilS] (.det q (bV (m && br)) [(0, fdB m br true nilS)]) y h')) =
((fdP (FdS.fresh m br true)) ∧ 
(sel (!!fdM (FdS.fresh m br true)) (((SV.v (Value.bool br)) = (SV.v (Value.bool (m && br)))) ∧ (((1 : Nat) = 1) ∧ (((1 : Nat) ≤ 1) ∧ (∀ i : Nat, (((i : Nat) < 1) → ([(SV.v (Value.bool m)), (SV.v (Value.bool br)), (SV.v (Value.slice none 0 0))] = [(SV.v (Value.bool m)), (SV.v (Value.bool br)), (SV.v (Value.slice none 0 0))])))))) (((SV.v (Value.bool false)) = (SV.v (Value.bool (m && br)))) ∧ (((1 : Nat) = 1) ∧ (((1 : Nat) ≤ 1) ∧ (∀ i : Nat, (((i : Nat) < 1) → ([(SV.v (Value.bool m)), (SV.v (Value.bool br)), (SV.v (Value.slice none 0 0))] = [(SV.v (Value.bool m)), (SV.v (Value.bool br)), (SV.v (Value.slice none 0 0))])))))))) := by kernel_rfl
theorem vcBroken3 (q : Option Prop) (m br : Bool) : (vcFn Try.prog ΓN0 noΛ Try.f44 [.vp 0 0] (heapOf [fdB m br false nilS]) 64 (fun y h' => FinE [fdB m br false nilS] (.det q (bV (m && br)) [(0, fdB m br false nilS)]) y h')) =
((fdP (FdS.fresh m br false)) ∧ 
(sel (!!fdM (FdS.fresh m br false)) (((SV.v (Value.bool br)) = (SV.v (Value.bool (m && br)))) ∧ (((1 : Nat) = 1) ∧ (((1 : Nat) ≤ 1) ∧ (((SV.v (Value.bool m)) = (SV.v (Value.bool m))) ∧ (((SV.v (Value.bool br)) = (SV.v (Value.bool br))) ∧ ((SV.v (Value.slice none 0 0)) = (SV.v (Value.slice none 0 0)))))))) (((SV.v (Value.bool false)) = (SV.v (Value.bool (m && br)))) ∧ (((1 : Nat) = 1) ∧ (((1 : Nat) ≤ 1) ∧ (((SV.v (Value.bool m)) = (SV.v (Value.bool m))) ∧ (((SV.v (Value.bool br)) = (SV.v (Value.bool br))) ∧ ((SV.v (Value.slice none 0 0)) = (SV.v (Value.slice none 0 0)))))))))) := by kernel_rfl
theorem vcBroken2 (q : Option Prop) (m br : Bool) (o n c N : Nat) (g : Nat → Int) (e : Nat) : (vcFn Try.prog ΓN0 noΛ Try.f44 [.vp 0 0] (heapOf [fdB m br false (.sl 1 1 o n c), bG N g e]) 64 (fun y h' => FinE [fdB m br false (.sl 1 1 o n c), bG N g e] (.det q (bV (m && br)) [(0, fdB m br false (.sl 1 1 o n c)), (1, bG N g e)]) y h')) =
((fdP (FdS.used m br o n c N (fun i => SE.byteOf [SV.v (Value.int IntKind.u8 (g i))]) e (bytesOk N e { elem := 5, size := 1, rw := true, lock := false, lit := false, flat := true, n := N, row := fun i => [SV.v (Value.int IntKind.u8 (g i))], ext := e }))) ∧ 
(sel (!!fdM (FdS.used m br o n c N (fun i => SE.byteOf [SV.v (Value.int IntKind.u8 (g i))]) e (bytesOk N e { elem := 5, size := 1, rw := true, lock := false, lit := false, flat := true, n := N, row := fun i => [SV.v (Value.int IntKind.u8 (g i))], ext := e }))) (((SV.v (Value.bool br)) = (SV.v (Value.bool (m && br)))) ∧ ((((1 : Nat) = 1) ∧ (((1 : Nat) ≤ 1) ∧ (((SV.v (Value.bool m)) = (SV.v (Value.bool m))) ∧ (((SV.v (Value.bool br)) = (SV.v (Value.bool br))) ∧ ((SV.sl 1 1 o n c) = (SV.sl 1 1 o n c)))))) ∧ (((N : Nat) = N) ∧ (((e : Nat) ≤ e) ∧ (∀ i : Nat, (((i : Nat) < N) → ([(SV.v (Value.int IntKind.u8 (SE.byteOf [SV.v (Value.int IntKind.u8 (g i))])))] = [(SV.v (Value.int IntKind.u8 (g i)))]))))))) (((SV.v (Value.bool false)) = (SV.v (Value.bool (m && br)))) ∧ ((((1 : Nat) = 1) ∧ (((1 : Nat) ≤ 1) ∧ (((SV.v (Value.bool m)) = (SV.v (Value.bool m))) ∧ (((SV.v (Value.bool br)) = (SV.v (Value.bool br))) ∧ ((SV.sl 1 1 o n c) = (SV.sl 1 1 o n c)))))) ∧ (((N : Nat) = N) ∧ (((e : Nat) ≤ e) ∧ (∀ i : Nat, (((i : Nat) < N) → ([(SV.v (Value.int IntKind.u8 (SE.byteOf [SV.v (Value.int IntKind.u8 (g i))])))] = [(SV.v (Value.int IntKind.u8 (g i)))]))))))))) := by kernel_rfl
theorem same_fdB {m br fl : Bool} {a : SV} {B : Blk} (h1 : fdOk fl B = true) (h2 : B.row 0 = [.v (.bool m), .v (.bool br), a]) : BlkSame B (fdB m br fl a) := by
  simp only [fdOk, Bool.and_eq_true, Bool.not_eq_true', beq_iff_eq] at h1
  obtain ⟨⟨⟨⟨⟨⟨⟨a1, a2⟩, a3⟩, a4⟩, a5⟩, a6⟩, a7⟩, a8⟩ := h1
  have hn := Nat.eq_of_beq_eq_true a5
  exact ⟨Nat.eq_of_beq_eq_true a2, a3, a8, hn, Nat.eq_of_beq_eq_true a6, a4, Nat.eq_of_beq_eq_true a1, a7, fun i hi => by
    have : i = 0 := by omega
    subst this
    exact h2⟩
theorem fdOf_same {bs : List Blk} {s : FdS} (h : fdOf bs = some s) (hp : fdP s) : blksSame bs (fdBs s) := by
  unfold fdOf at h
  split at h
  · rename_i B
    split at h
    · rename_i m br hB
      obtain ⟨h1, h2⟩ := bif_some h
      subst h2
      exact ⟨same_fdB h1 hB, trivial⟩
    · cases h
  · rename_i B D
    split at h
    · rename_i m br o n c hB
      obtain ⟨h1, h2⟩ := bif_some h
      subst h2
      rw [Bool.and_eq_true] at h1
      exact ⟨same_fdB h1.1 hB, same_bG h1.2 hp, trivial⟩
    · cases h
  · cases h
theorem fdOf_lt {bs : List Blk} {s : FdS} (h : fdOf bs = some s) (hp : fdP s) : fdW s := by
  unfold fdOf at h
  split at h
  · split at h
    · obtain ⟨h1, h2⟩ := bif_some h
      subst h2
      trivial
    · cases h
  · split at h
    · obtain ⟨h1, h2⟩ := bif_some h
      subst h2
      exact hp.2.2.1
    · cases h
  · cases h
theorem fd_spec {Γ : Ctrs} (hΓ : ∀ f g, Γ f = some g → g.ok Try.prog f) {f : FuncId} {fn : Func} (hf : Try.prog.funcs[f]? = some fn) {x0 : SV} {F : FdS → SV}
    (h0 : ∀ q, vcFn Try.prog Γ noΛ fn [nilP] (heapOf []) 64 (fun y h' => FinE [] (.det q x0 []) y h'))
    (h1 : ∀ q s, fdW s → vcFn Try.prog Γ noΛ fn [.vp 0 0] (heapOf (fdBs s)) 64 (fun y h' => FinE (fdBs s) (.det q (F s) (fdUp s)) y h')) :
    HpSpec Try.prog f (sFd x0 F) := hp_spec hm hΓ hf (Λ := fun _ _ => noΛ) fun args bs e hs hp => by
  unfold sFd at hs
  split at hs
  · split at hs
    · have he := Option.some.inj hs
      subst he
      exact ⟨[], trivial, h0 _⟩
    · cases hs
  · split at hs
    · rename_i s hw
      have he := Option.some.inj hs
      subst he
      exact ⟨fdBs s, fdOf_same hw (hp _ rfl), h1 _ s (fdOf_lt hw (hp _ rfl))⟩
    · cases hs
  · cases hs
theorem FNone_spec : HpSpec Try.prog 86 (sFd (bV true) vNone) := fd_spec noCtrs_ok Try.func86 (fun q => by rw [vcFNone0]; exact ⟨rfl, trivial⟩) fun q s hp => by
  cases s with
  | fresh m br fl =>
    cases fl with
    | true =>
      show vcFn _ _ _ _ _ (heapOf [fdB m br true nilS]) 64 (fun y h' => FinE [fdB m br true nilS] (.det q (bV (!m)) [(0, fdB m br true nilS)]) y h')
      rw [vcFNone1]
      exact ⟨rfl, rfl, Nat.le_refl _, fun _ _ => rfl⟩
    | false =>
      show vcFn _ _ _ _ _ (heapOf [fdB m br false nilS]) 64 (fun y h' => FinE [fdB m br false nilS] (.det q (bV (!m)) [(0, fdB m br false nilS)]) y h')
      rw [vcFNone3]
      exact ⟨rfl, rfl, Nat.le_refl _, rfl, rfl, rfl⟩
  | used m br o n c N g e p =>
    show vcFn _ _ _ _ _ (heapOf [fdB m br false (.sl 1 1 o n c), bG N g e]) 64 (fun y h' => FinE [fdB m br false (.sl 1 1 o n c), bG N g e] (.det q (bV (!m)) [(0, fdB m br false (.sl 1 1 o n c)), (1, bG N g e)]) y h')
    rw [vcFNone2]
    exact ⟨rfl, ⟨rfl, Nat.le_refl _, rfl, rfl, rfl⟩, rfl, Nat.le_refl _, fun _ _ => rfl⟩
theorem ΓN0_ok : ∀ f g, ΓN0 f = some g → g.ok Try.prog f := addCtr_ok noCtrs_ok (hp_ok Try.func86 (by kernel_rfl) (by kernel_rfl) FNone_spec)
theorem Held_spec : HpSpec Try.prog 42 (sFd (iV 0) vHeld) := fd_spec ΓN0_ok Try.func42 (fun q => by rw [vcHeld0]; exact ⟨rfl, trivial⟩) fun q s hp => by
  cases s with
  | fresh m br fl =>
    cases fl with
    | true =>
      show vcFn _ _ _ _ _ (heapOf [fdB m br true nilS]) 64 (fun y h' => FinE [fdB m br true nilS] (.det q (iV (bif m then ((0 : Nat) : Int) else 0)) [(0, fdB m br true nilS)]) y h')
      rw [vcHeld1]
      refine ⟨trivial, ?_⟩
      cases m <;> exact ⟨rfl, rfl, Nat.le_refl _, fun _ _ => rfl⟩
    | false =>
      show vcFn _ _ _ _ _ (heapOf [fdB m br false nilS]) 64 (fun y h' => FinE [fdB m br false nilS] (.det q (iV (bif m then ((0 : Nat) : Int) else 0)) [(0, fdB m br false nilS)]) y h')
      rw [vcHeld3]
      refine ⟨trivial, ?_⟩
      cases m <;> exact ⟨rfl, rfl, Nat.le_refl _, rfl, rfl, rfl⟩
  | used m br o n c N g e p =>
    show vcFn _ _ _ _ _ (heapOf [fdB m br false (.sl 1 1 o n c), bG N g e]) 64 (fun y h' => FinE [fdB m br false (.sl 1 1 o n c), bG N g e] (.det q (iV (bif m then (n : Int) else 0)) [(0, fdB m br false (.sl 1 1 o n c)), (1, bG N g e)]) y h')
    rw [vcHeld2]
    refine ⟨⟨rfl, rfl, hp, fun _ _ => trivial⟩, ?_⟩
    cases m <;> exact ⟨rfl, ⟨rfl, Nat.le_refl _, rfl, rfl, rfl⟩, rfl, Nat.le_refl _, fun _ _ => rfl⟩
theorem Broken_spec : HpSpec Try.prog 44 (sFd (bV false) vBroken) := fd_spec ΓN0_ok Try.func44 (fun q => by rw [vcBroken0]; exact ⟨rfl, trivial⟩) fun q s hp => by
  cases s with
  | fresh m br fl =>
    cases fl with
    | true =>
      show vcFn _ _ _ _ _ (heapOf [fdB m br true nilS]) 64 (fun y h' => FinE [fdB m br true nilS] (.det q (bV (m && br)) [(0, fdB m br true nilS)]) y h')
      rw [vcBroken1]
      refine ⟨trivial, ?_⟩
      cases m <;> exact ⟨rfl, rfl, Nat.le_refl _, fun _ _ => rfl⟩
    | false =>
      show vcFn _ _ _ _ _ (heapOf [fdB m br false nilS]) 64 (fun y h' => FinE [fdB m br false nilS] (.det q (bV (m && br)) [(0, fdB m br false nilS)]) y h')
      rw [vcBroken3]
      refine ⟨trivial, ?_⟩
      cases m <;> exact ⟨rfl, rfl, Nat.le_refl _, rfl, rfl, rfl⟩
  | used m br o n c N g e p =>
    show vcFn _ _ _ _ _ (heapOf [fdB m br false (.sl 1 1 o n c), bG N g e]) 64 (fun y h' => FinE [fdB m br false (.sl 1 1 o n c), bG N g e] (.det q (bV (m && br)) [(0, fdB m br false (.sl 1 1 o n c)), (1, bG N g e)]) y h')
    rw [vcBroken2]
    refine ⟨⟨rfl, rfl, hp, fun _ _ => trivial⟩, ?_⟩
    cases m <;> exact ⟨rfl, ⟨rfl, Nat.le_refl _, rfl, rfl, rfl⟩, rfl, Nat.le_refl _, fun _ _ => rfl⟩
end Go.Proofs.Ytjdldadmaaeimaa
