/-
  What the proof uses, part 13.
-/
import Derived.Test.YthjaamckmadngaaZq12
set_option maxRecDepth 100000
set_option linter.unusedSimpArgs false
set_option linter.unusedVariables false

section
namespace Go.Proofs.Ythjaamckmadngaa
open Go.SE Go.RowKit
def rfB (m br fl : Bool) (a : SV) : Blk := { elem := 75, size := 3, rw := true, lock := false, lit := true, flat := fl, n := 1, row := fun _ => [.v (.bool m), .v (.bool br), a], ext := 1, whole := true }
def rfOk (fl : Bool) (b : Blk) : Bool := Nat.beq b.elem 75 && Nat.beq b.size 3 && b.rw && !b.dead && Nat.beq b.n 1 && Nat.beq b.ext 1 && b.whole && (b.flat == fl)
inductive RfS where
  | fresh (m br fl : Bool)
  | used (m br : Bool) (o n c N : Nat) (g : Nat → Int) (e : Nat) (p : Prop)
def rfOf : List Blk → Option RfS
  | [B] => match B.row 0 with
    | [.v (.bool m), .v (.bool br), .v (.slice none 0 0)] => bif rfOk B.flat B then some (.fresh m br B.flat) else none
    | _ => none
  | [B, D] => match B.row 0 with
    | [.v (.bool m), .v (.bool br), .sl 1 1 o n c] => bif rfOk false B && bOk D then some (.used m br o n c D.n (fun i => SE.byteOf (D.row i)) D.ext (bytesOk D.n D.ext D)) else none
    | _ => none
  | _ => none
def rfBs : RfS → List Blk
  | .fresh m br fl => [rfB m br fl nilS]
  | .used m br o n c N g e _ => [rfB m br false (.sl 1 1 o n c), bG N g e]
def rfUp : RfS → List (Nat × Blk)
  | .fresh m br fl => [(0, rfB m br fl nilS)]
  | .used m br o n c N g e _ => [(0, rfB m br false (.sl 1 1 o n c)), (1, bG N g e)]
def rfP : RfS → Prop
  | .fresh _ _ _ => True
  | .used _ _ _ _ _ _ _ _ p => p
def rfN : RfS → Nat
  | .fresh _ _ _ => 0
  | .used _ _ _ n _ _ _ _ _ => n
def rfM : RfS → Bool
  | .fresh m _ _ => m
  | .used m _ _ _ _ _ _ _ _ => m
def rfBr : RfS → Bool
  | .fresh _ b _ => b
  | .used _ b _ _ _ _ _ _ _ => b
def rfW : RfS → Prop
  | .fresh _ _ _ => True
  | .used _ _ _ _ _ N _ _ _ => N < 70368744177664
def sRf (x0 : SV) (f : RfS → SV) (args : List SV) (bs : List Blk) : Option Eff := match args with
  | [.v (.pointer none)] => match bs with
    | [] => some (.det none x0 [])
    | _ => none
  | [.vp 0 0] => match rfOf bs with
    | some s => some (.det (some (rfP s)) (f s) (rfUp s))
    | none => none
  | _ => none
def vVal (s : RfS) : SV := bV (rfM s)
def vRHel (s : RfS) : SV := iV (bif rfM s then (rfN s : Int) else 0)
def vRBro (s : RfS) : SV := bV (rfM s && rfBr s)
def ΓRf0 : Ctrs := addCtr noCtrs 22 (hpCtr true (sRf (bV false) vVal))
theorem vcRVal0 (q : Option Prop) : (vcFn Try.prog noCtrs noΛ Try.f22 [nilP] (heapOf []) 64 (fun y h' => FinE [] (.det q (bV false) []) y h')) = ((zF = zF)∧True):=by kernel_rfl
theorem vcRVal1 (q : Option Prop) (m br : Bool) : (vcFn Try.prog noCtrs noΛ Try.f22 [.vp 0 0] (heapOf [rfB m br true nilS]) 64 (fun y h' => FinE [rfB m br true nilS] (.det q (bV m) [(0,rfB m br true nilS)]) y h')) = (((SV.v (.bool m)) = (SV.v (.bool m)))∧(((1 : Nat) = 1)∧(((1 : Nat) ≤ 1)∧(∀ i : Nat,(((i : Nat) < 1)→([(SV.v (.bool m)),(SV.v (.bool br)),zS] = [(SV.v (.bool m)),(SV.v (.bool br)),zS])))))):=by kernel_rfl
theorem vcRVal3 (q : Option Prop) (m br : Bool) : (vcFn Try.prog noCtrs noΛ Try.f22 [.vp 0 0] (heapOf [rfB m br false nilS]) 64 (fun y h' => FinE [rfB m br false nilS] (.det q (bV m) [(0,rfB m br false nilS)]) y h')) = (((SV.v (.bool m)) = (SV.v (.bool m)))∧(((1 : Nat) = 1)∧(((1 : Nat) ≤ 1)∧(((SV.v (.bool m)) = (SV.v (.bool m)))∧(((SV.v (.bool br)) = (SV.v (.bool br)))∧(zS = zS)))))):=by kernel_rfl
theorem vcRVal2 (q : Option Prop) (m br : Bool) (o n c N : Nat) (g : Nat→Int) (e : Nat) : (vcFn Try.prog noCtrs noΛ Try.f22 [.vp 0 0] (heapOf [rfB m br false (.sl 1 1 o n c),bG N g e]) 64 (fun y h' => FinE [rfB m br false (.sl 1 1 o n c),bG N g e] (.det q (bV m) [(0,rfB m br false (.sl 1 1 o n c)),(1,bG N g e)]) y h')) = (((SV.v (.bool m)) = (SV.v (.bool m)))∧((((1 : Nat) = 1)∧(((1 : Nat) ≤ 1)∧(((SV.v (.bool m)) = (SV.v (.bool m)))∧(((SV.v (.bool br)) = (SV.v (.bool br)))∧((SV.sl 1 1 o n c) = (SV.sl 1 1 o n c))))))∧(((N : Nat) = N)∧(((e : Nat) ≤ e)∧(∀ i : Nat,(((i : Nat) < N)→([(SV.v (.int .u8 (g i)))] = [(SV.v (.int .u8 (g i)))]))))))):=by kernel_rfl
theorem vcRHel0 (q : Option Prop) : (vcFn Try.prog ΓRf0 noΛ Try.f13 [nilP] (heapOf []) 64 (fun y h' => FinE [] (.det q (iV 0) []) y h')) = ((zI = zI)∧True):=by kernel_rfl
theorem vcRHel1 (q : Option Prop) (m br : Bool) : (vcFn Try.prog ΓRf0 noΛ Try.f13 [.vp 0 0] (heapOf [rfB m br true nilS]) 64 (fun y h' => FinE [rfB m br true nilS] (.det q (iV (bif m then ((0 : Nat) : Int) else 0)) [(0,rfB m br true nilS)]) y h')) = ((rfP (RfS.fresh m br true))∧(sel (!rfM (RfS.fresh m br true)) ((zI = (SV.v (.int .i64 (bif m then 0 else 0))))∧(((1 : Nat) = 1)∧(((1 : Nat) ≤ 1)∧(∀ i : Nat,(((i : Nat) < 1)→([(SV.v (.bool m)),(SV.v (.bool br)),zS] = [(SV.v (.bool m)),(SV.v (.bool br)),zS])))))) ((zI = (SV.v (.int .i64 (bif m then 0 else 0))))∧(((1 : Nat) = 1)∧(((1 : Nat) ≤ 1)∧(∀ i : Nat,(((i : Nat) < 1)→([(SV.v (.bool m)),(SV.v (.bool br)),zS] = [(SV.v (.bool m)),(SV.v (.bool br)),zS])))))))):=by kernel_rfl
theorem vcRHel3 (q : Option Prop) (m br : Bool) : (vcFn Try.prog ΓRf0 noΛ Try.f13 [.vp 0 0] (heapOf [rfB m br false nilS]) 64 (fun y h' => FinE [rfB m br false nilS] (.det q (iV (bif m then ((0 : Nat) : Int) else 0)) [(0,rfB m br false nilS)]) y h')) = ((rfP (RfS.fresh m br false))∧(sel (!rfM (RfS.fresh m br false)) ((zI = (SV.v (.int .i64 (bif m then 0 else 0))))∧(((1 : Nat) = 1)∧(((1 : Nat) ≤ 1)∧(((SV.v (.bool m)) = (SV.v (.bool m)))∧(((SV.v (.bool br)) = (SV.v (.bool br)))∧(zS = zS)))))) ((zI = (SV.v (.int .i64 (bif m then 0 else 0))))∧(((1 : Nat) = 1)∧(((1 : Nat) ≤ 1)∧(((SV.v (.bool m)) = (SV.v (.bool m)))∧(((SV.v (.bool br)) = (SV.v (.bool br)))∧(zS = zS)))))))):=by kernel_rfl
theorem vcRHel2 (q : Option Prop) (m br : Bool) (o n c N : Nat) (g : Nat→Int) (e : Nat) : (vcFn Try.prog ΓRf0 noΛ Try.f13 [.vp 0 0] (heapOf [rfB m br false (.sl 1 1 o n c),bG N g e]) 64 (fun y h' => FinE [rfB m br false (.sl 1 1 o n c),bG N g e] (.det q (iV (bif m then (n : Int) else 0)) [(0,rfB m br false (.sl 1 1 o n c)),(1,bG N g e)]) y h')) = ((rfP (RfS.used m br o n c N (fun i => SE.byteOf [SV.v (.int .u8 (g i))]) e (bytesOk N e {elem:=5,size:=1,rw:=true,lock:=false,lit:=false,flat:=true,n:=N,row:=fun i => [SV.v (.int .u8 (g i))],ext:=e})))∧(sel (!rfM (RfS.used m br o n c N (fun i => SE.byteOf [SV.v (.int .u8 (g i))]) e (bytesOk N e {elem:=5,size:=1,rw:=true,lock:=false,lit:=false,flat:=true,n:=N,row:=fun i => [SV.v (.int .u8 (g i))],ext:=e}))) ((zI = (SV.v (.int .i64 (bif m then (↑n : Int) else 0))))∧((((1 : Nat) = 1)∧(((1 : Nat) ≤ 1)∧(((SV.v (.bool m)) = (SV.v (.bool m)))∧(((SV.v (.bool br)) = (SV.v (.bool br)))∧((SV.sl 1 1 o n c) = (SV.sl 1 1 o n c))))))∧(((N : Nat) = N)∧(((e : Nat) ≤ e)∧(∀ i : Nat,(((i : Nat) < N)→([(SV.v (.int .u8 (SE.byteOf [SV.v (.int .u8 (g i))])))] = [(SV.v (.int .u8 (g i)))]))))))) (((SV.v (.int .i64 ((↑n : Int)))) = (SV.v (.int .i64 (bif m then (↑n : Int) else 0))))∧((((1 : Nat) = 1)∧(((1 : Nat) ≤ 1)∧(((SV.v (.bool m)) = (SV.v (.bool m)))∧(((SV.v (.bool br)) = (SV.v (.bool br)))∧((SV.sl 1 1 o n c) = (SV.sl 1 1 o n c))))))∧(((N : Nat) = N)∧(((e : Nat) ≤ e)∧(∀ i : Nat,(((i : Nat) < N)→([(SV.v (.int .u8 (SE.byteOf [SV.v (.int .u8 (g i))])))] = [(SV.v (.int .u8 (g i)))]))))))))):=by kernel_rfl
theorem vcRBro0 (q : Option Prop) : (vcFn Try.prog ΓRf0 noΛ Try.f15 [nilP] (heapOf []) 64 (fun y h' => FinE [] (.det q (bV false) []) y h')) = ((zF = zF)∧True):=by kernel_rfl
theorem vcRBro1 (q : Option Prop) (m br : Bool) : (vcFn Try.prog ΓRf0 noΛ Try.f15 [.vp 0 0] (heapOf [rfB m br true nilS]) 64 (fun y h' => FinE [rfB m br true nilS] (.det q (bV (m&&br)) [(0,rfB m br true nilS)]) y h')) = ((rfP (RfS.fresh m br true))∧(sel (rfM (RfS.fresh m br true)) (((SV.v (.bool br)) = (SV.v (.bool (m&&br))))∧(((1 : Nat) = 1)∧(((1 : Nat) ≤ 1)∧(∀ i : Nat,(((i : Nat) < 1)→([(SV.v (.bool m)),(SV.v (.bool br)),zS] = [(SV.v (.bool m)),(SV.v (.bool br)),zS])))))) ((zF = (SV.v (.bool (m&&br))))∧(((1 : Nat) = 1)∧(((1 : Nat) ≤ 1)∧(∀ i : Nat,(((i : Nat) < 1)→([(SV.v (.bool m)),(SV.v (.bool br)),zS] = [(SV.v (.bool m)),(SV.v (.bool br)),zS])))))))):=by kernel_rfl
theorem vcRBro3 (q : Option Prop) (m br : Bool) : (vcFn Try.prog ΓRf0 noΛ Try.f15 [.vp 0 0] (heapOf [rfB m br false nilS]) 64 (fun y h' => FinE [rfB m br false nilS] (.det q (bV (m&&br)) [(0,rfB m br false nilS)]) y h')) = ((rfP (RfS.fresh m br false))∧(sel (rfM (RfS.fresh m br false)) (((SV.v (.bool br)) = (SV.v (.bool (m&&br))))∧(((1 : Nat) = 1)∧(((1 : Nat) ≤ 1)∧(((SV.v (.bool m)) = (SV.v (.bool m)))∧(((SV.v (.bool br)) = (SV.v (.bool br)))∧(zS = zS)))))) ((zF = (SV.v (.bool (m&&br))))∧(((1 : Nat) = 1)∧(((1 : Nat) ≤ 1)∧(((SV.v (.bool m)) = (SV.v (.bool m)))∧(((SV.v (.bool br)) = (SV.v (.bool br)))∧(zS = zS)))))))):=by kernel_rfl
theorem vcRBro2 (q : Option Prop) (m br : Bool) (o n c N : Nat) (g : Nat→Int) (e : Nat) : (vcFn Try.prog ΓRf0 noΛ Try.f15 [.vp 0 0] (heapOf [rfB m br false (.sl 1 1 o n c),bG N g e]) 64 (fun y h' => FinE [rfB m br false (.sl 1 1 o n c),bG N g e] (.det q (bV (m&&br)) [(0,rfB m br false (.sl 1 1 o n c)),(1,bG N g e)]) y h')) = ((rfP (RfS.used m br o n c N (fun i => SE.byteOf [SV.v (.int .u8 (g i))]) e (bytesOk N e {elem:=5,size:=1,rw:=true,lock:=false,lit:=false,flat:=true,n:=N,row:=fun i => [SV.v (.int .u8 (g i))],ext:=e})))∧(sel (rfM (RfS.used m br o n c N (fun i => SE.byteOf [SV.v (.int .u8 (g i))]) e (bytesOk N e {elem:=5,size:=1,rw:=true,lock:=false,lit:=false,flat:=true,n:=N,row:=fun i => [SV.v (.int .u8 (g i))],ext:=e}))) (((SV.v (.bool br)) = (SV.v (.bool (m&&br))))∧((((1 : Nat) = 1)∧(((1 : Nat) ≤ 1)∧(((SV.v (.bool m)) = (SV.v (.bool m)))∧(((SV.v (.bool br)) = (SV.v (.bool br)))∧((SV.sl 1 1 o n c) = (SV.sl 1 1 o n c))))))∧(((N : Nat) = N)∧(((e : Nat) ≤ e)∧(∀ i : Nat,(((i : Nat) < N)→([(SV.v (.int .u8 (SE.byteOf [SV.v (.int .u8 (g i))])))] = [(SV.v (.int .u8 (g i)))]))))))) ((zF = (SV.v (.bool (m&&br))))∧((((1 : Nat) = 1)∧(((1 : Nat) ≤ 1)∧(((SV.v (.bool m)) = (SV.v (.bool m)))∧(((SV.v (.bool br)) = (SV.v (.bool br)))∧((SV.sl 1 1 o n c) = (SV.sl 1 1 o n c))))))∧(((N : Nat) = N)∧(((e : Nat) ≤ e)∧(∀ i : Nat,(((i : Nat) < N)→([(SV.v (.int .u8 (SE.byteOf [SV.v (.int .u8 (g i))])))] = [(SV.v (.int .u8 (g i)))]))))))))):=by kernel_rfl
theorem same_rfB {m br fl : Bool} {a : SV} {B : Blk} (h1 : rfOk fl B = true) (h2 : B.row 0 = [.v (.bool m), .v (.bool br), a]) : BlkSame B (rfB m br fl a) := by
  simp only [rfOk, Bool.and_eq_true, Bool.not_eq_true', beq_iff_eq] at h1
  obtain ⟨⟨⟨⟨⟨⟨⟨a1, a2⟩, a3⟩, a4⟩, a5⟩, a6⟩, a7⟩, a8⟩ := h1
  have hn := Nat.eq_of_beq_eq_true a5
  exact ⟨Nat.eq_of_beq_eq_true a2, a3, a8, hn, Nat.eq_of_beq_eq_true a6, a4, Nat.eq_of_beq_eq_true a1, a7, fun i hi => by
    have : i = 0 := by omega
    subst this
    exact h2⟩
theorem rfOf_same {bs : List Blk} {s : RfS} (h : rfOf bs = some s) (hp : rfP s) : blksSame bs (rfBs s) := by
  unfold rfOf at h
  split at h
  · rename_i B
    split at h
    · rename_i m br hB
      obtain ⟨h1, h2⟩ := bif_some h
      subst h2
      exact ⟨same_rfB h1 hB, trivial⟩
    · cases h
  · rename_i B D
    split at h
    · rename_i m br o n c hB
      obtain ⟨h1, h2⟩ := bif_some h
      subst h2
      rw [Bool.and_eq_true] at h1
      exact ⟨same_rfB h1.1 hB, same_bG h1.2 hp, trivial⟩
    · cases h
  · cases h
theorem rfOf_lt {bs : List Blk} {s : RfS} (h : rfOf bs = some s) (hp : rfP s) : rfW s := by
  unfold rfOf at h
  split at h
  · split at h
    · obtain ⟨h1, h2⟩ := bif_some h
      subst h2
      trivial
    · cases h
  · split at h
    · obtain ⟨h1, h2⟩ := bif_some h
      subst h2
      exact hp.2.2.1
    · cases h
  · cases h
theorem rf_spec {Γ : Ctrs} (hΓ : ∀ f g, Γ f = some g → g.ok Try.prog f) {f : FuncId} {fn : Func} (hf : Try.prog.funcs[f]? = some fn) {x0 : SV} {F : RfS → SV}
    (h0 : ∀ q, vcFn Try.prog Γ noΛ fn [nilP] (heapOf []) 64 (fun y h' => FinE [] (.det q x0 []) y h'))
    (h1 : ∀ q s, rfW s → vcFn Try.prog Γ noΛ fn [.vp 0 0] (heapOf (rfBs s)) 64 (fun y h' => FinE (rfBs s) (.det q (F s) (rfUp s)) y h')) :
    HpSpec Try.prog f (sRf x0 F) := hp_spec hm hΓ hf (Λ := fun _ _ => noΛ) fun args bs e hs hp => by
  unfold sRf at hs
  split at hs
  · split at hs
    · have he := Option.some.inj hs
      subst he
      exact ⟨[], trivial, h0 _⟩
    · cases hs
  · split at hs
    · rename_i s hw
      have he := Option.some.inj hs
      subst he
      exact ⟨rfBs s, rfOf_same hw (hp _ rfl), h1 _ s (rfOf_lt hw (hp _ rfl))⟩
    · cases hs
  · cases hs
theorem RVal_spec : HpSpec Try.prog 22 (sRf (bV false) vVal) := rf_spec noCtrs_ok Try.func22 (fun q => by rw [vcRVal0]; exact ⟨rfl, trivial⟩) fun q s hp => by
  cases s with
  | fresh m br fl =>
    cases fl with
    | true =>
      show vcFn _ _ _ _ _ (heapOf [rfB m br true nilS]) 64 (fun y h' => FinE [rfB m br true nilS] (.det q (bV m) [(0, rfB m br true nilS)]) y h')
      rw [vcRVal1]
      exact ⟨rfl, rfl, Nat.le_refl _, fun _ _ => rfl⟩
    | false =>
      show vcFn _ _ _ _ _ (heapOf [rfB m br false nilS]) 64 (fun y h' => FinE [rfB m br false nilS] (.det q (bV m) [(0, rfB m br false nilS)]) y h')
      rw [vcRVal3]
      exact ⟨rfl, rfl, Nat.le_refl _, rfl, rfl, rfl⟩
  | used m br o n c N g e p =>
    show vcFn _ _ _ _ _ (heapOf [rfB m br false (.sl 1 1 o n c), bG N g e]) 64 (fun y h' => FinE [rfB m br false (.sl 1 1 o n c), bG N g e] (.det q (bV m) [(0, rfB m br false (.sl 1 1 o n c)), (1, bG N g e)]) y h')
    rw [vcRVal2]
    exact ⟨rfl, ⟨rfl, Nat.le_refl _, rfl, rfl, rfl⟩, rfl, Nat.le_refl _, fun _ _ => rfl⟩
theorem ΓRf0_ok : ∀ f g, ΓRf0 f = some g → g.ok Try.prog f := addCtr_ok noCtrs_ok (hp_ok Try.func22 (by kernel_rfl) (by kernel_rfl) RVal_spec)
theorem RHel_spec : HpSpec Try.prog 13 (sRf (iV 0) vRHel) := rf_spec ΓRf0_ok Try.func13 (fun q => by rw [vcRHel0]; exact ⟨rfl, trivial⟩) fun q s hp => by
  cases s with
  | fresh m br fl =>
    cases fl with
    | true =>
      show vcFn _ _ _ _ _ (heapOf [rfB m br true nilS]) 64 (fun y h' => FinE [rfB m br true nilS] (.det q (iV (bif m then ((0 : Nat) : Int) else 0)) [(0, rfB m br true nilS)]) y h')
      rw [vcRHel1]
      refine ⟨trivial, ?_⟩
      cases m <;> exact ⟨rfl, rfl, Nat.le_refl _, fun _ _ => rfl⟩
    | false =>
      show vcFn _ _ _ _ _ (heapOf [rfB m br false nilS]) 64 (fun y h' => FinE [rfB m br false nilS] (.det q (iV (bif m then ((0 : Nat) : Int) else 0)) [(0, rfB m br false nilS)]) y h')
      rw [vcRHel3]
      refine ⟨trivial, ?_⟩
      cases m <;> exact ⟨rfl, rfl, Nat.le_refl _, rfl, rfl, rfl⟩
  | used m br o n c N g e p =>
    show vcFn _ _ _ _ _ (heapOf [rfB m br false (.sl 1 1 o n c), bG N g e]) 64 (fun y h' => FinE [rfB m br false (.sl 1 1 o n c), bG N g e] (.det q (iV (bif m then (n : Int) else 0)) [(0, rfB m br false (.sl 1 1 o n c)), (1, bG N g e)]) y h')
    rw [vcRHel2]
    refine ⟨⟨rfl, rfl, hp, fun _ _ => trivial⟩, ?_⟩
    cases m <;> exact ⟨rfl, ⟨rfl, Nat.le_refl _, rfl, rfl, rfl⟩, rfl, Nat.le_refl _, fun _ _ => rfl⟩
theorem RBro_spec : HpSpec Try.prog 15 (sRf (bV false) vRBro) := rf_spec ΓRf0_ok Try.func15 (fun q => by rw [vcRBro0]; exact ⟨rfl, trivial⟩) fun q s hp => by
  cases s with
  | fresh m br fl =>
    cases fl with
    | true =>
      show vcFn _ _ _ _ _ (heapOf [rfB m br true nilS]) 64 (fun y h' => FinE [rfB m br true nilS] (.det q (bV (m && br)) [(0, rfB m br true nilS)]) y h')
      rw [vcRBro1]
      refine ⟨trivial, ?_⟩
      cases m <;> exact ⟨rfl, rfl, Nat.le_refl _, fun _ _ => rfl⟩
    | false =>
      show vcFn _ _ _ _ _ (heapOf [rfB m br false nilS]) 64 (fun y h' => FinE [rfB m br false nilS] (.det q (bV (m && br)) [(0, rfB m br false nilS)]) y h')
      rw [vcRBro3]
      refine ⟨trivial, ?_⟩
      cases m <;> exact ⟨rfl, rfl, Nat.le_refl _, rfl, rfl, rfl⟩
  | used m br o n c N g e p =>
    show vcFn _ _ _ _ _ (heapOf [rfB m br false (.sl 1 1 o n c), bG N g e]) 64 (fun y h' => FinE [rfB m br false (.sl 1 1 o n c), bG N g e] (.det q (bV (m && br)) [(0, rfB m br false (.sl 1 1 o n c)), (1, bG N g e)]) y h')
    rw [vcRBro2]
    refine ⟨⟨rfl, rfl, hp, fun _ _ => trivial⟩, ?_⟩
    cases m <;> exact ⟨rfl, ⟨rfl, Nat.le_refl _, rfl, rfl, rfl⟩, rfl, Nat.le_refl _, fun _ _ => rfl⟩
end Go.Proofs.Ythjaamckmadngaa
end
section
namespace Go.Proofs.Ythjaamckmadngaa
open Go.SE Go.RowKit
def numP (g : Nat → Int) : Nat → Int
  | 0 => 0
  | i + 1 => numP g i * 256 + g i
def lenR (o : Nat) (g : Nat → Int) : SV := .v (.int .u64 (numP (fun y => g (o + y)) 4))
def sRLen (args : List SV) (bs : List Blk) : Option Eff := match args with
  | [.vp 0 0] => match rfOf bs with
    | some (.used m br o n c N g e p) => some (.det (some (p ∧ 4 ≤ n ∧ ∀ y, y < 4 → 0 ≤ g (o + y) ∧ g (o + y) < 256)) (lenR o g) [(0, rfB m br false (.sl 1 1 o n c)), (1, bG N g e)])
    | _ => none
  | _ => none
noncomputable def ΛRLen (o : Nat) (g : Nat → Int) : Nat → Option LoopSpec := addLoop noΛ Try.f25 0 Nat (fun i => i ≤ 4) (fun i => 4 - i) [(3, fun i => .v (.int .u64 (numP (fun y => g (o + y)) i))), (4, fun i => .v (.int .i64 i))] []
theorem vcRLen (q : Option Prop) (m br : Bool) (o n c N : Nat) (g : Nat→Int) (e : Nat) : (vcFn Try.prog noCtrs (ΛRLen o g) Try.f25 [.vp 0 0] (heapOf [rfB m br false (.sl 1 1 o n c),bG N g e]) 64 (fun y h' => FinE [rfB m br false (.sl 1 1 o n c),bG N g e] (.det q (lenR o g) [(0,rfB m br false (.sl 1 1 o n c)),(1,bG N g e)]) y h')) = ((∃ x : Nat,((Nat.le x 4)∧((((SV.v (.int .u64 0)) = (SV.v (.int .u64 (numP (fun y => g (o + y)) x))))∧(zI = (SV.v (.int .i64 ((↑x : Int))))))∧True)))∧(∀ x : Nat,((Nat.le x 4)→(sel (decide ((↑x : Int) < 4)) ((((0 : Int) ≤ ((↑x : Int)))∧((((↑x : Int)) : Int) < ((↑n : Int))))∧(∃ x' : Nat,(((Nat.le x' 4)∧((((SV.v (.int .u64 (bits BinOp.or IntKind.u64 (IntKind.wrap IntKind.u64 (numP (fun y => g (o + y)) x * 256)) (IntKind.wrap IntKind.u64 (g (o + Int.toNat (↑x : Int))))))) = (SV.v (.int .u64 (numP (fun y => g (o + y)) x'))))∧((SV.v (.int .i64 (IntKind.wrap IntKind.i64 ((↑x : Int) + 1)))) = (SV.v (.int .i64 ((↑x' : Int))))))∧True))∧(((4 - x') : Nat) < (4 - x))))) (((SV.v (.int .u64 (numP (fun y => g (o + y)) x))) = (SV.v (.int .u64 (numP (fun y => g (o + y)) 4))))∧((((1 : Nat) = 1)∧(((1 : Nat) ≤ 1)∧(((SV.v (.bool m)) = (SV.v (.bool m)))∧(((SV.v (.bool br)) = (SV.v (.bool br)))∧((SV.sl 1 1 o n c) = (SV.sl 1 1 o n c))))))∧(((N : Nat) = N)∧(((e : Nat) ≤ e)∧(∀ i : Nat,(((i : Nat) < N)→([(SV.v (.int .u8 (g i)))] = [(SV.v (.int .u8 (g i)))]))))))))))):=by kernel_rfl
structure RX where
  i : Nat
  k : Nat
  kc : Nat
  n : Nat
  a : Nat
  b : Nat
def shG (o : Nat) (G : Nat → Int) : Nat → Int := fun y => G (o + y)
def atK (G : Nat → Int) (T k : Nat) : Prop := (∀ j, j < k → frOk G T j = true) ∧ errAt G T k = 0 ∧ frOk G T k = false
noncomputable def ΛRGv (G : Nat → Int) (n m : Nat) : Nat → Option LoopSpec := addLoopN noΛ Try.f10 0 RX (fun x => x.i ≤ m ∧ n + x.i = oAt G x.k + x.n ∧ atK G (n + x.i) x.k ∧ x.k ≤ x.kc) (fun x => m - x.i) [(6, fun x => .sl 40 1 0 x.k x.kc), (7, fun x => .v (.int .i64 x.i))] [(0, fun x => rfB true false false (.sl 41 1 0 x.n (x.n + x.a)))] [(40, fun x => strB x.k (frS G) x.kc, inSlot 6), (41, fun x => bG x.n (shG (oAt G x.k) G) (x.n + x.a + x.b), inVar 0 2)]
def ΓRG : Ctrs := addCtr (addCtr noCtrs 22 (hpCtr true (sRf (bV false) vVal))) 25 (hpCtr true sRLen)
def rgOk (q : Prop) (old : List (Nat × Blk)) (G : Nat → Int) (T : Nat) : Eff := .nd q GC ⟨0, 0, 0⟩ (fun c => .tup [.sl 1001 1 0 (kOf G T) (kOf G T + c.d), iV 0]) fun c => [(0, rfB true false false (.sl 1000 1 0 (T - oAt G (kOf G T)) (T - oAt G (kOf G T) + c.a))), (1000, bG (T - oAt G (kOf G T)) (shG (oAt G (kOf G T)) G) (T - oAt G (kOf G T) + c.a + c.b)), (1001, strB (kOf G T) (frS G) (kOf G T + c.d))] ++ old
def rgBad (q : Prop) (old : List (Nat × Blk)) (G : Nat → Int) (T : Nat) : Eff := .nd q Nat 0 (fun c => .tup [.sl 1000 1 0 (kOf G T) (kOf G T + c), iV (errAt G T (kOf G T))]) fun c => [(0, rfB true true false nilS), (1000, strB (kOf G T) (frS G) (kOf G T + c))] ++ old
theorem vcRGvU (q : Prop) (n c ex e m cb x : Nat) (g h : Nat→Int) (wh : Bool) : (vcFn Try.prog ΓRG (ΛRGv (jnG n 0 g h) n m) Try.f10 [.vp 0 0,.sl 2 1 0 m cb] (heapOf [rfB true false false (.sl 1 1 0 n c),bG n g ex,byB e m h x wh]) 64 (fun y h' => FinE [rfB true false false (.sl 1 1 0 n c),bG n g ex,byB e m h x wh] (rgOk q [(1,killed (bG n g ex))] (jnG n 0 g h) (n + m)) y h')) = ((rfP (RfS.used true false 0 n c n (fun i => SE.byteOf [SV.v (.int .u8 (g i))]) ex (bytesOk n ex {elem:=5,size:=1,rw:=true,lock:=false,lit:=false,flat:=true,n:=n,row:=fun i => [SV.v (.int .u8 (g i))],ext:=ex})))∧((∃ x_1 : RX,(((((RX.i x_1) : Nat) ≤ m)∧((((n + RX.i x_1) : Nat) = (oAt (jnG n 0 g h) (RX.k x_1) + RX.n x_1))∧((atK (jnG n 0 g h) (n + RX.i x_1) (RX.k x_1))∧(((RX.k x_1) : Nat) ≤ (RX.kc x_1)))))∧((((zS = zS)∧(((0 : Nat) = 0)∧((((RX.k x_1) : Nat) = 0)∧(((RX.kc x_1) : Nat) = 0))))∧(zI = (SV.v (.int .i64 ((↑(RX.i x_1) : Int))))))∧((((1 : Nat) = 1)∧(((1 : Nat) ≤ 1)∧(((SV.v (.bool true)) = (SV.v (.bool true)))∧((zF = zF)∧((SV.sl 1 1 0 n c) = (SV.sl 1 1 0 (RX.n x_1) (RX.n x_1 + RX.a x_1)))))))∧(((((RX.k x_1) : Nat) = 0)∧((((RX.kc x_1) : Nat) = 0)∧True))∧(((n : Nat) = (RX.n x_1))∧((((RX.n x_1 + RX.a x_1 + RX.b x_1) : Nat) ≤ ex)∧(∀ i : Nat,(((i : Nat) < (RX.n x_1))→([(SV.v (.int .u8 (SE.byteOf [SV.v (.int .u8 (g i))])))] = [(SV.v (.int .u8 (shG (oAt (jnG n 0 g h) (RX.k x_1)) (jnG n 0 g h) i)))]))))))))))∧(∀ x_1 : RX,(((((RX.i x_1) : Nat) ≤ m)∧((((n + RX.i x_1) : Nat) = (oAt (jnG n 0 g h) (RX.k x_1) + RX.n x_1))∧((atK (jnG n 0 g h) (n + RX.i x_1) (RX.k x_1))∧(((RX.k x_1) : Nat) ≤ (RX.kc x_1)))))→(sel (decide ((↑(RX.i x_1) : Int) < (↑m : Int))) ((((0 : Int) ≤ ((↑(RX.i x_1) : Int)))∧((((↑(RX.i x_1) : Int)) : Int) < ((↑m : Int))))∧((((((RX.n x_1 + 1) * 1) : Nat) ≤ 140737488355328)∧((((0 + (RX.n x_1 + RX.a x_1)) : Nat) ≤ (RX.n x_1 + RX.a x_1 + RX.b x_1))∧(∀ y : Nat,(((y : Nat) < 1)→True))))∧(∀ c_1 : Nat,(sel (decide ((↑(RX.n x_1 + 1) : Int) < 4)) (∃ x' : RX,((((((RX.i x') : Nat) ≤ m)∧((((n + RX.i x') : Nat) = (oAt (jnG n 0 g h) (RX.k x') + RX.n x'))∧((atK (jnG n 0 g h) (n + RX.i x') (RX.k x'))∧(((RX.k x') : Nat) ≤ (RX.kc x')))))∧((((SV.sl 40 1 0 (RX.k x_1) (RX.kc x_1)) = (SV.sl 40 1 0 (RX.k x') (RX.kc x')))∧((SV.v (.int .i64 (IntKind.wrap IntKind.i64 ((↑(RX.i x_1) : Int) + 1)))) = (SV.v (.int .i64 ((↑(RX.i x') : Int))))))∧((((1 : Nat) = 1)∧(((1 : Nat) ≤ 1)∧(((SV.v (.bool true)) = (SV.v (.bool true)))∧((zF = zF)∧((SV.sl 296 1 0 (RX.n x_1 + 1) (RX.n x_1 + 1 + c_1)) = (SV.sl 296 1 0 (RX.n x') (RX.n x' + RX.a x')))))))∧(((((RX.k x_1) : Nat) = (RX.k x'))∧((((RX.kc x') : Nat) ≤ (RX.kc x_1))∧(∀ i : Nat,(((i : Nat) < (RX.k x'))→([(SV.v (.string (frS (jnG n 0 g h) i)))] = [(SV.v (.string (frS (jnG n 0 g h) i)))])))))∧((((RX.n x_1 + 1) : Nat) = (RX.n x'))∧((((RX.n x' + RX.a x' + RX.b x') : Nat) ≤ (RX.n x_1 + 1 + c_1))∧(∀ i : Nat,(((i : Nat) < (RX.n x'))→([(SV.v (.int .u8 (bop (Nat.blt i (RX.n x_1)) (shG (oAt (jnG n 0 g h) (RX.k x_1)) (jnG n 0 g h) (0 + i)) (h (0 + Int.toNat (↑(RX.i x_1) : Int))))))] = [(SV.v (.int .u8 (shG (oAt (jnG n 0 g h) (RX.k x')) (jnG n 0 g h) i)))])))))))))∧(((m - RX.i x') : Nat) < (m - RX.i x_1)))) (((bytesOk (RX.n x_1 + 1) (RX.n x_1 + 1 + c_1) {elem:=bif Nat.beq 5 5 then 5 else 0,size:=1,rw:=true,lock:=false,lit:=false,flat:=true&&namelessL [SV.v (.int .u8 (h (0 + Int.toNat (↑(RX.i x_1) : Int))))],n:=RX.n x_1 + 1,row:=fun y => [SV.v (.int .u8 (bop (Nat.blt y (RX.n x_1)) (shG (oAt (jnG n 0 g h) (RX.k x_1)) (jnG n 0 g h) (0 + y)) (h (0 + Int.toNat (↑(RX.i x_1) : Int)))))],ext:=RX.n x_1 + 1 + c_1})∧(((4 : Nat) ≤ (RX.n x_1 + 1))∧(∀ y : Nat,(((y : Nat) < 4)→(((0 : Int) ≤ (SE.byteOf [SV.v (.int .u8 (bop (Nat.blt (0 + y) (RX.n x_1)) (shG (oAt (jnG n 0 g h) (RX.k x_1)) (jnG n 0 g h) (0 + (0 + y))) (h (0 + Int.toNat (↑(RX.i x_1) : Int)))))]))∧(((SE.byteOf [SV.v (.int .u8 (bop (Nat.blt (0 + y) (RX.n x_1)) (shG (oAt (jnG n 0 g h) (RX.k x_1)) (jnG n 0 g h) (0 + (0 + y))) (h (0 + Int.toNat (↑(RX.i x_1) : Int)))))]) : Int) < 256))))))∧(sel (numP (fun y => SE.byteOf [SV.v (.int .u8 (bop (Nat.blt (0 + y) (RX.n x_1)) (shG (oAt (jnG n 0 g h) (RX.k x_1)) (jnG n 0 g h) (0 + (0 + y))) (h (0 + Int.toNat (↑(RX.i x_1) : Int)))))]) 4 == 0) (sel (numP (fun y => SE.byteOf [SV.v (.int .u8 (bop (Nat.blt (0 + y) (RX.n x_1)) (shG (oAt (jnG n 0 g h) (RX.k x_1)) (jnG n 0 g h) (0 + (0 + y))) (h (0 + Int.toNat (↑(RX.i x_1) : Int)))))]) 4 == 0) (∃ c_2 : GC,((((SV.sl 40 1 0 (RX.k x_1) (RX.kc x_1)) = (SV.sl 40 1 0 (kOf (jnG n 0 g h) (n + m)) (kOf (jnG n 0 g h) (n + m) + GC.d c_2)))∧((SV.v (.int .i64 7)) = zI))∧((((1 : Nat) = 1)∧(((1 : Nat) ≤ 1)∧(((SV.v (.bool true)) = (SV.v (.bool true)))∧(((SV.v (.bool true)) = zF)∧((zS = zS)∧(((0 : Nat) = 0)∧((((n + m - oAt (jnG n 0 g h) (kOf (jnG n 0 g h) (n + m))) : Nat) = 0)∧(((n + m - oAt (jnG n 0 g h) (kOf (jnG n 0 g h) (n + m)) + GC.a c_2) : Nat) = 0))))))))∧(((((n + m - oAt (jnG n 0 g h) (kOf (jnG n 0 g h) (n + m))) : Nat) = 0)∧((((n + m - oAt (jnG n 0 g h) (kOf (jnG n 0 g h) (n + m)) + GC.a c_2 + GC.b c_2) : Nat) = 0)∧True))∧(((((RX.k x_1) : Nat) = (kOf (jnG n 0 g h) (n + m)))∧((((kOf (jnG n 0 g h) (n + m) + GC.d c_2) : Nat) ≤ (RX.kc x_1))∧(∀ i : Nat,(((i : Nat) < (kOf (jnG n 0 g h) (n + m)))→([(SV.v (.string (frS (jnG n 0 g h) i)))] = [(SV.v (.string (frS (jnG n 0 g h) i)))])))))∧True))))) (∃ c_2 : GC,((((SV.sl 40 1 0 (RX.k x_1) (RX.kc x_1)) = (SV.sl 40 1 0 (kOf (jnG n 0 g h) (n + m)) (kOf (jnG n 0 g h) (n + m) + GC.d c_2)))∧((SV.v (.int .i64 6)) = zI))∧((((1 : Nat) = 1)∧(((1 : Nat) ≤ 1)∧(((SV.v (.bool true)) = (SV.v (.bool true)))∧(((SV.v (.bool true)) = zF)∧((zS = zS)∧(((0 : Nat) = 0)∧((((n + m - oAt (jnG n 0 g h) (kOf (jnG n 0 g h) (n + m))) : Nat) = 0)∧(((n + m - oAt (jnG n 0 g h) (kOf (jnG n 0 g h) (n + m)) + GC.a c_2) : Nat) = 0))))))))∧(((((n + m - oAt (jnG n 0 g h) (kOf (jnG n 0 g h) (n + m))) : Nat) = 0)∧((((n + m - oAt (jnG n 0 g h) (kOf (jnG n 0 g h) (n + m)) + GC.a c_2 + GC.b c_2) : Nat) = 0)∧True))∧(((((RX.k x_1) : Nat) = (kOf (jnG n 0 g h) (n + m)))∧((((kOf (jnG n 0 g h) (n + m) + GC.d c_2) : Nat) ≤ (RX.kc x_1))∧(∀ i : Nat,(((i : Nat) < (kOf (jnG n 0 g h) (n + m)))→([(SV.v (.string (frS (jnG n 0 g h) i)))] = [(SV.v (.string (frS (jnG n 0 g h) i)))])))))∧True)))))) (sel (decide (numP (fun y => SE.byteOf [SV.v (.int .u8 (bop (Nat.blt (0 + y) (RX.n x_1)) (shG (oAt (jnG n 0 g h) (RX.k x_1)) (jnG n 0 g h) (0 + (0 + y))) (h (0 + Int.toNat (↑(RX.i x_1) : Int)))))]) 4 > 2048)) (sel (numP (fun y => SE.byteOf [SV.v (.int .u8 (bop (Nat.blt (0 + y) (RX.n x_1)) (shG (oAt (jnG n 0 g h) (RX.k x_1)) (jnG n 0 g h) (0 + (0 + y))) (h (0 + Int.toNat (↑(RX.i x_1) : Int)))))]) 4 == 0) (∃ c_2 : GC,((((SV.sl 40 1 0 (RX.k x_1) (RX.kc x_1)) = (SV.sl 40 1 0 (kOf (jnG n 0 g h) (n + m)) (kOf (jnG n 0 g h) (n + m) + GC.d c_2)))∧((SV.v (.int .i64 7)) = zI))∧((((1 : Nat) = 1)∧(((1 : Nat) ≤ 1)∧(((SV.v (.bool true)) = (SV.v (.bool true)))∧(((SV.v (.bool true)) = zF)∧((zS = zS)∧(((0 : Nat) = 0)∧((((n + m - oAt (jnG n 0 g h) (kOf (jnG n 0 g h) (n + m))) : Nat) = 0)∧(((n + m - oAt (jnG n 0 g h) (kOf (jnG n 0 g h) (n + m)) + GC.a c_2) : Nat) = 0))))))))∧(((((n + m - oAt (jnG n 0 g h) (kOf (jnG n 0 g h) (n + m))) : Nat) = 0)∧((((n + m - oAt (jnG n 0 g h) (kOf (jnG n 0 g h) (n + m)) + GC.a c_2 + GC.b c_2) : Nat) = 0)∧True))∧(((((RX.k x_1) : Nat) = (kOf (jnG n 0 g h) (n + m)))∧((((kOf (jnG n 0 g h) (n + m) + GC.d c_2) : Nat) ≤ (RX.kc x_1))∧(∀ i : Nat,(((i : Nat) < (kOf (jnG n 0 g h) (n + m)))→([(SV.v (.string (frS (jnG n 0 g h) i)))] = [(SV.v (.string (frS (jnG n 0 g h) i)))])))))∧True))))) (∃ c_2 : GC,((((SV.sl 40 1 0 (RX.k x_1) (RX.kc x_1)) = (SV.sl 40 1 0 (kOf (jnG n 0 g h) (n + m)) (kOf (jnG n 0 g h) (n + m) + GC.d c_2)))∧((SV.v (.int .i64 6)) = zI))∧((((1 : Nat) = 1)∧(((1 : Nat) ≤ 1)∧(((SV.v (.bool true)) = (SV.v (.bool true)))∧(((SV.v (.bool true)) = zF)∧((zS = zS)∧(((0 : Nat) = 0)∧((((n + m - oAt (jnG n 0 g h) (kOf (jnG n 0 g h) (n + m))) : Nat) = 0)∧(((n + m - oAt (jnG n 0 g h) (kOf (jnG n 0 g h) (n + m)) + GC.a c_2) : Nat) = 0))))))))∧(((((n + m - oAt (jnG n 0 g h) (kOf (jnG n 0 g h) (n + m))) : Nat) = 0)∧((((n + m - oAt (jnG n 0 g h) (kOf (jnG n 0 g h) (n + m)) + GC.a c_2 + GC.b c_2) : Nat) = 0)∧True))∧(((((RX.k x_1) : Nat) = (kOf (jnG n 0 g h) (n + m)))∧((((kOf (jnG n 0 g h) (n + m) + GC.d c_2) : Nat) ≤ (RX.kc x_1))∧(∀ i : Nat,(((i : Nat) < (kOf (jnG n 0 g h) (n + m)))→([(SV.v (.string (frS (jnG n 0 g h) i)))] = [(SV.v (.string (frS (jnG n 0 g h) i)))])))))∧True)))))) (sel (IntKind.wrap IntKind.u64 (↑(RX.n x_1 + 1) : Int) == IntKind.wrap IntKind.u64 (4 + numP (fun y => SE.byteOf [SV.v (.int .u8 (bop (Nat.blt (0 + y) (RX.n x_1)) (shG (oAt (jnG n 0 g h) (RX.k x_1)) (jnG n 0 g h) (0 + (0 + y))) (h (0 + Int.toNat (↑(RX.i x_1) : Int)))))]) 4)) ((((0 : Int) ≤ 4)∧(((4 : Int) ≤ (Option.getD none (↑(RX.n x_1 + 1) : Int)))∧((((Option.getD none (↑(RX.n x_1 + 1) : Int)) : Int) ≤ ((↑(RX.n x_1 + 1) : Int)))∧(((RX.n x_1 + 1) : Nat) ≤ (RX.n x_1 + 1 + c_1)))))∧((∀ y : Nat,(((y : Nat) < (Int.toNat (Option.getD none (↑(RX.n x_1 + 1) : Int)) - 4))→True))∧((((((RX.k x_1 + 1) * 16) : Nat) ≤ 140737488355328)∧((((0 + RX.kc x_1) : Nat) ≤ (RX.kc x_1))∧(∀ y : Nat,(((y : Nat) < 1)→True))))∧(∀ c_2 : Nat,(∃ x' : RX,((((((RX.i x') : Nat) ≤ m)∧((((n + RX.i x') : Nat) = (oAt (jnG n 0 g h) (RX.k x') + RX.n x'))∧((atK (jnG n 0 g h) (n + RX.i x') (RX.k x'))∧(((RX.k x') : Nat) ≤ (RX.kc x')))))∧((((SV.sl 712 1 0 (RX.k x_1 + 1) (RX.k x_1 + 1 + c_2)) = (SV.sl 712 1 0 (RX.k x') (RX.kc x')))∧((SV.v (.int .i64 (IntKind.wrap IntKind.i64 ((↑(RX.i x_1) : Int) + 1)))) = (SV.v (.int .i64 ((↑(RX.i x') : Int))))))∧((((1 : Nat) = 1)∧(((1 : Nat) ≤ 1)∧(((SV.v (.bool true)) = (SV.v (.bool true)))∧((zF = zF)∧((zS = zS)∧(((0 : Nat) = 0)∧((((RX.n x') : Nat) = 0)∧(((RX.n x' + RX.a x') : Nat) = 0))))))))∧(((((RX.k x_1 + 1) : Nat) = (RX.k x'))∧((((RX.kc x') : Nat) ≤ (RX.k x_1 + 1 + c_2))∧(∀ i : Nat,(((i : Nat) < (RX.k x'))→([(SV.v (.string (bop (Nat.blt i (RX.k x_1)) (frS (jnG n 0 g h) (0 + i)) (strOf (Int.toNat (Option.getD none (↑(RX.n x_1 + 1) : Int)) - 4) fun y => [SV.v (.int .u8 ((fun i => SE.byteOf [SV.v (.int .u8 (bop (Nat.blt i (RX.n x_1)) (shG (oAt (jnG n 0 g h) (RX.k x_1)) (jnG n 0 g h) (0 + i)) (h (0 + Int.toNat (↑(RX.i x_1) : Int)))))]) (4 + y)))]))))] = [(SV.v (.string (frS (jnG n 0 g h) i)))])))))∧(((((RX.n x') : Nat) = 0)∧((((RX.n x' + RX.a x' + RX.b x') : Nat) = 0)∧True))∧True)))))∧(((m - RX.i x') : Nat) < (m - RX.i x_1)))))))) (∃ x' : RX,((((((RX.i x') : Nat) ≤ m)∧((((n + RX.i x') : Nat) = (oAt (jnG n 0 g h) (RX.k x') + RX.n x'))∧((atK (jnG n 0 g h) (n + RX.i x') (RX.k x'))∧(((RX.k x') : Nat) ≤ (RX.kc x')))))∧((((SV.sl 40 1 0 (RX.k x_1) (RX.kc x_1)) = (SV.sl 40 1 0 (RX.k x') (RX.kc x')))∧((SV.v (.int .i64 (IntKind.wrap IntKind.i64 ((↑(RX.i x_1) : Int) + 1)))) = (SV.v (.int .i64 ((↑(RX.i x') : Int))))))∧((((1 : Nat) = 1)∧(((1 : Nat) ≤ 1)∧(((SV.v (.bool true)) = (SV.v (.bool true)))∧((zF = zF)∧((SV.sl 296 1 0 (RX.n x_1 + 1) (RX.n x_1 + 1 + c_1)) = (SV.sl 296 1 0 (RX.n x') (RX.n x' + RX.a x')))))))∧(((((RX.k x_1) : Nat) = (RX.k x'))∧((((RX.kc x') : Nat) ≤ (RX.kc x_1))∧(∀ i : Nat,(((i : Nat) < (RX.k x'))→([(SV.v (.string (frS (jnG n 0 g h) i)))] = [(SV.v (.string (frS (jnG n 0 g h) i)))])))))∧((((RX.n x_1 + 1) : Nat) = (RX.n x'))∧((((RX.n x' + RX.a x' + RX.b x') : Nat) ≤ (RX.n x_1 + 1 + c_1))∧(∀ i : Nat,(((i : Nat) < (RX.n x'))→([(SV.v (.int .u8 (SE.byteOf [SV.v (.int .u8 (bop (Nat.blt i (RX.n x_1)) (shG (oAt (jnG n 0 g h) (RX.k x_1)) (jnG n 0 g h) (0 + i)) (h (0 + Int.toNat (↑(RX.i x_1) : Int)))))])))] = [(SV.v (.int .u8 (shG (oAt (jnG n 0 g h) (RX.k x')) (jnG n 0 g h) i)))])))))))))∧(((m - RX.i x') : Nat) < (m - RX.i x_1)))))))))))) (∃ c_1 : GC,((((SV.sl 40 1 0 (RX.k x_1) (RX.kc x_1)) = (SV.sl 40 1 0 (kOf (jnG n 0 g h) (n + m)) (kOf (jnG n 0 g h) (n + m) + GC.d c_1)))∧(zI = zI))∧((((1 : Nat) = 1)∧(((1 : Nat) ≤ 1)∧(((SV.v (.bool true)) = (SV.v (.bool true)))∧((zF = zF)∧((SV.sl 41 1 0 (RX.n x_1) (RX.n x_1 + RX.a x_1)) = (SV.sl 41 1 0 (n + m - oAt (jnG n 0 g h) (kOf (jnG n 0 g h) (n + m))) (n + m - oAt (jnG n 0 g h) (kOf (jnG n 0 g h) (n + m)) + GC.a c_1)))))))∧(((((RX.n x_1) : Nat) = (n + m - oAt (jnG n 0 g h) (kOf (jnG n 0 g h) (n + m))))∧((((n + m - oAt (jnG n 0 g h) (kOf (jnG n 0 g h) (n + m)) + GC.a c_1 + GC.b c_1) : Nat) ≤ (RX.n x_1 + RX.a x_1 + RX.b x_1))∧(∀ i : Nat,(((i : Nat) < (n + m - oAt (jnG n 0 g h) (kOf (jnG n 0 g h) (n + m))))→([(SV.v (.int .u8 (shG (oAt (jnG n 0 g h) (RX.k x_1)) (jnG n 0 g h) i)))] = [(SV.v (.int .u8 (shG (oAt (jnG n 0 g h) (kOf (jnG n 0 g h) (n + m))) (jnG n 0 g h) i)))])))))∧(((((RX.k x_1) : Nat) = (kOf (jnG n 0 g h) (n + m)))∧((((kOf (jnG n 0 g h) (n + m) + GC.d c_1) : Nat) ≤ (RX.kc x_1))∧(∀ i : Nat,(((i : Nat) < (kOf (jnG n 0 g h) (n + m)))→([(SV.v (.string (frS (jnG n 0 g h) i)))] = [(SV.v (.string (frS (jnG n 0 g h) i)))])))))∧True)))))))))):=by kernel_rfl
theorem vcRGvUb (q : Prop) (n c ex e m cb x : Nat) (g h : Nat→Int) (wh : Bool) : (vcFn Try.prog ΓRG (ΛRGv (jnG n 0 g h) n m) Try.f10 [.vp 0 0,.sl 2 1 0 m cb] (heapOf [rfB true false false (.sl 1 1 0 n c),bG n g ex,byB e m h x wh]) 64 (fun y h' => FinE [rfB true false false (.sl 1 1 0 n c),bG n g ex,byB e m h x wh] (rgBad q [(1,killed (bG n g ex))] (jnG n 0 g h) (n + m)) y h')) = ((rfP (RfS.used true false 0 n c n (fun i => SE.byteOf [SV.v (.int .u8 (g i))]) ex (bytesOk n ex {elem:=5,size:=1,rw:=true,lock:=false,lit:=false,flat:=true,n:=n,row:=fun i => [SV.v (.int .u8 (g i))],ext:=ex})))∧((∃ x_1 : RX,(((((RX.i x_1) : Nat) ≤ m)∧((((n + RX.i x_1) : Nat) = (oAt (jnG n 0 g h) (RX.k x_1) + RX.n x_1))∧((atK (jnG n 0 g h) (n + RX.i x_1) (RX.k x_1))∧(((RX.k x_1) : Nat) ≤ (RX.kc x_1)))))∧((((zS = zS)∧(((0 : Nat) = 0)∧((((RX.k x_1) : Nat) = 0)∧(((RX.kc x_1) : Nat) = 0))))∧(zI = (SV.v (.int .i64 ((↑(RX.i x_1) : Int))))))∧((((1 : Nat) = 1)∧(((1 : Nat) ≤ 1)∧(((SV.v (.bool true)) = (SV.v (.bool true)))∧((zF = zF)∧((SV.sl 1 1 0 n c) = (SV.sl 1 1 0 (RX.n x_1) (RX.n x_1 + RX.a x_1)))))))∧(((((RX.k x_1) : Nat) = 0)∧((((RX.kc x_1) : Nat) = 0)∧True))∧(((n : Nat) = (RX.n x_1))∧((((RX.n x_1 + RX.a x_1 + RX.b x_1) : Nat) ≤ ex)∧(∀ i : Nat,(((i : Nat) < (RX.n x_1))→([(SV.v (.int .u8 (SE.byteOf [SV.v (.int .u8 (g i))])))] = [(SV.v (.int .u8 (shG (oAt (jnG n 0 g h) (RX.k x_1)) (jnG n 0 g h) i)))]))))))))))∧(∀ x_1 : RX,(((((RX.i x_1) : Nat) ≤ m)∧((((n + RX.i x_1) : Nat) = (oAt (jnG n 0 g h) (RX.k x_1) + RX.n x_1))∧((atK (jnG n 0 g h) (n + RX.i x_1) (RX.k x_1))∧(((RX.k x_1) : Nat) ≤ (RX.kc x_1)))))→(sel (decide ((↑(RX.i x_1) : Int) < (↑m : Int))) ((((0 : Int) ≤ ((↑(RX.i x_1) : Int)))∧((((↑(RX.i x_1) : Int)) : Int) < ((↑m : Int))))∧((((((RX.n x_1 + 1) * 1) : Nat) ≤ 140737488355328)∧((((0 + (RX.n x_1 + RX.a x_1)) : Nat) ≤ (RX.n x_1 + RX.a x_1 + RX.b x_1))∧(∀ y : Nat,(((y : Nat) < 1)→True))))∧(∀ c_1 : Nat,(sel (decide ((↑(RX.n x_1 + 1) : Int) < 4)) (∃ x' : RX,((((((RX.i x') : Nat) ≤ m)∧((((n + RX.i x') : Nat) = (oAt (jnG n 0 g h) (RX.k x') + RX.n x'))∧((atK (jnG n 0 g h) (n + RX.i x') (RX.k x'))∧(((RX.k x') : Nat) ≤ (RX.kc x')))))∧((((SV.sl 40 1 0 (RX.k x_1) (RX.kc x_1)) = (SV.sl 40 1 0 (RX.k x') (RX.kc x')))∧((SV.v (.int .i64 (IntKind.wrap IntKind.i64 ((↑(RX.i x_1) : Int) + 1)))) = (SV.v (.int .i64 ((↑(RX.i x') : Int))))))∧((((1 : Nat) = 1)∧(((1 : Nat) ≤ 1)∧(((SV.v (.bool true)) = (SV.v (.bool true)))∧((zF = zF)∧((SV.sl 296 1 0 (RX.n x_1 + 1) (RX.n x_1 + 1 + c_1)) = (SV.sl 296 1 0 (RX.n x') (RX.n x' + RX.a x')))))))∧(((((RX.k x_1) : Nat) = (RX.k x'))∧((((RX.kc x') : Nat) ≤ (RX.kc x_1))∧(∀ i : Nat,(((i : Nat) < (RX.k x'))→([(SV.v (.string (frS (jnG n 0 g h) i)))] = [(SV.v (.string (frS (jnG n 0 g h) i)))])))))∧((((RX.n x_1 + 1) : Nat) = (RX.n x'))∧((((RX.n x' + RX.a x' + RX.b x') : Nat) ≤ (RX.n x_1 + 1 + c_1))∧(∀ i : Nat,(((i : Nat) < (RX.n x'))→([(SV.v (.int .u8 (bop (Nat.blt i (RX.n x_1)) (shG (oAt (jnG n 0 g h) (RX.k x_1)) (jnG n 0 g h) (0 + i)) (h (0 + Int.toNat (↑(RX.i x_1) : Int))))))] = [(SV.v (.int .u8 (shG (oAt (jnG n 0 g h) (RX.k x')) (jnG n 0 g h) i)))])))))))))∧(((m - RX.i x') : Nat) < (m - RX.i x_1)))) (((bytesOk (RX.n x_1 + 1) (RX.n x_1 + 1 + c_1) {elem:=bif Nat.beq 5 5 then 5 else 0,size:=1,rw:=true,lock:=false,lit:=false,flat:=true&&namelessL [SV.v (.int .u8 (h (0 + Int.toNat (↑(RX.i x_1) : Int))))],n:=RX.n x_1 + 1,row:=fun y => [SV.v (.int .u8 (bop (Nat.blt y (RX.n x_1)) (shG (oAt (jnG n 0 g h) (RX.k x_1)) (jnG n 0 g h) (0 + y)) (h (0 + Int.toNat (↑(RX.i x_1) : Int)))))],ext:=RX.n x_1 + 1 + c_1})∧(((4 : Nat) ≤ (RX.n x_1 + 1))∧(∀ y : Nat,(((y : Nat) < 4)→(((0 : Int) ≤ (SE.byteOf [SV.v (.int .u8 (bop (Nat.blt (0 + y) (RX.n x_1)) (shG (oAt (jnG n 0 g h) (RX.k x_1)) (jnG n 0 g h) (0 + (0 + y))) (h (0 + Int.toNat (↑(RX.i x_1) : Int)))))]))∧(((SE.byteOf [SV.v (.int .u8 (bop (Nat.blt (0 + y) (RX.n x_1)) (shG (oAt (jnG n 0 g h) (RX.k x_1)) (jnG n 0 g h) (0 + (0 + y))) (h (0 + Int.toNat (↑(RX.i x_1) : Int)))))]) : Int) < 256))))))∧(sel (numP (fun y => SE.byteOf [SV.v (.int .u8 (bop (Nat.blt (0 + y) (RX.n x_1)) (shG (oAt (jnG n 0 g h) (RX.k x_1)) (jnG n 0 g h) (0 + (0 + y))) (h (0 + Int.toNat (↑(RX.i x_1) : Int)))))]) 4 == 0) (sel (numP (fun y => SE.byteOf [SV.v (.int .u8 (bop (Nat.blt (0 + y) (RX.n x_1)) (shG (oAt (jnG n 0 g h) (RX.k x_1)) (jnG n 0 g h) (0 + (0 + y))) (h (0 + Int.toNat (↑(RX.i x_1) : Int)))))]) 4 == 0) (∃ c_2 : Nat,((((SV.sl 40 1 0 (RX.k x_1) (RX.kc x_1)) = (SV.sl 40 1 0 (kOf (jnG n 0 g h) (n + m)) (kOf (jnG n 0 g h) (n + m) + c_2)))∧((SV.v (.int .i64 7)) = (SV.v (.int .i64 (errAt (jnG n 0 g h) (n + m) (kOf (jnG n 0 g h) (n + m)))))))∧((((1 : Nat) = 1)∧(((1 : Nat) ≤ 1)∧(((SV.v (.bool true)) = (SV.v (.bool true)))∧(((SV.v (.bool true)) = (SV.v (.bool true)))∧(zS = zS)))))∧(((((RX.k x_1) : Nat) = (kOf (jnG n 0 g h) (n + m)))∧((((kOf (jnG n 0 g h) (n + m) + c_2) : Nat) ≤ (RX.kc x_1))∧(∀ i : Nat,(((i : Nat) < (kOf (jnG n 0 g h) (n + m)))→([(SV.v (.string (frS (jnG n 0 g h) i)))] = [(SV.v (.string (frS (jnG n 0 g h) i)))])))))∧True)))) (∃ c_2 : Nat,((((SV.sl 40 1 0 (RX.k x_1) (RX.kc x_1)) = (SV.sl 40 1 0 (kOf (jnG n 0 g h) (n + m)) (kOf (jnG n 0 g h) (n + m) + c_2)))∧((SV.v (.int .i64 6)) = (SV.v (.int .i64 (errAt (jnG n 0 g h) (n + m) (kOf (jnG n 0 g h) (n + m)))))))∧((((1 : Nat) = 1)∧(((1 : Nat) ≤ 1)∧(((SV.v (.bool true)) = (SV.v (.bool true)))∧(((SV.v (.bool true)) = (SV.v (.bool true)))∧(zS = zS)))))∧(((((RX.k x_1) : Nat) = (kOf (jnG n 0 g h) (n + m)))∧((((kOf (jnG n 0 g h) (n + m) + c_2) : Nat) ≤ (RX.kc x_1))∧(∀ i : Nat,(((i : Nat) < (kOf (jnG n 0 g h) (n + m)))→([(SV.v (.string (frS (jnG n 0 g h) i)))] = [(SV.v (.string (frS (jnG n 0 g h) i)))])))))∧True))))) (sel (decide (numP (fun y => SE.byteOf [SV.v (.int .u8 (bop (Nat.blt (0 + y) (RX.n x_1)) (shG (oAt (jnG n 0 g h) (RX.k x_1)) (jnG n 0 g h) (0 + (0 + y))) (h (0 + Int.toNat (↑(RX.i x_1) : Int)))))]) 4 > 2048)) (sel (numP (fun y => SE.byteOf [SV.v (.int .u8 (bop (Nat.blt (0 + y) (RX.n x_1)) (shG (oAt (jnG n 0 g h) (RX.k x_1)) (jnG n 0 g h) (0 + (0 + y))) (h (0 + Int.toNat (↑(RX.i x_1) : Int)))))]) 4 == 0) (∃ c_2 : Nat,((((SV.sl 40 1 0 (RX.k x_1) (RX.kc x_1)) = (SV.sl 40 1 0 (kOf (jnG n 0 g h) (n + m)) (kOf (jnG n 0 g h) (n + m) + c_2)))∧((SV.v (.int .i64 7)) = (SV.v (.int .i64 (errAt (jnG n 0 g h) (n + m) (kOf (jnG n 0 g h) (n + m)))))))∧((((1 : Nat) = 1)∧(((1 : Nat) ≤ 1)∧(((SV.v (.bool true)) = (SV.v (.bool true)))∧(((SV.v (.bool true)) = (SV.v (.bool true)))∧(zS = zS)))))∧(((((RX.k x_1) : Nat) = (kOf (jnG n 0 g h) (n + m)))∧((((kOf (jnG n 0 g h) (n + m) + c_2) : Nat) ≤ (RX.kc x_1))∧(∀ i : Nat,(((i : Nat) < (kOf (jnG n 0 g h) (n + m)))→([(SV.v (.string (frS (jnG n 0 g h) i)))] = [(SV.v (.string (frS (jnG n 0 g h) i)))])))))∧True)))) (∃ c_2 : Nat,((((SV.sl 40 1 0 (RX.k x_1) (RX.kc x_1)) = (SV.sl 40 1 0 (kOf (jnG n 0 g h) (n + m)) (kOf (jnG n 0 g h) (n + m) + c_2)))∧((SV.v (.int .i64 6)) = (SV.v (.int .i64 (errAt (jnG n 0 g h) (n + m) (kOf (jnG n 0 g h) (n + m)))))))∧((((1 : Nat) = 1)∧(((1 : Nat) ≤ 1)∧(((SV.v (.bool true)) = (SV.v (.bool true)))∧(((SV.v (.bool true)) = (SV.v (.bool true)))∧(zS = zS)))))∧(((((RX.k x_1) : Nat) = (kOf (jnG n 0 g h) (n + m)))∧((((kOf (jnG n 0 g h) (n + m) + c_2) : Nat) ≤ (RX.kc x_1))∧(∀ i : Nat,(((i : Nat) < (kOf (jnG n 0 g h) (n + m)))→([(SV.v (.string (frS (jnG n 0 g h) i)))] = [(SV.v (.string (frS (jnG n 0 g h) i)))])))))∧True))))) (sel (IntKind.wrap IntKind.u64 (↑(RX.n x_1 + 1) : Int) == IntKind.wrap IntKind.u64 (4 + numP (fun y => SE.byteOf [SV.v (.int .u8 (bop (Nat.blt (0 + y) (RX.n x_1)) (shG (oAt (jnG n 0 g h) (RX.k x_1)) (jnG n 0 g h) (0 + (0 + y))) (h (0 + Int.toNat (↑(RX.i x_1) : Int)))))]) 4)) ((((0 : Int) ≤ 4)∧(((4 : Int) ≤ (Option.getD none (↑(RX.n x_1 + 1) : Int)))∧((((Option.getD none (↑(RX.n x_1 + 1) : Int)) : Int) ≤ ((↑(RX.n x_1 + 1) : Int)))∧(((RX.n x_1 + 1) : Nat) ≤ (RX.n x_1 + 1 + c_1)))))∧((∀ y : Nat,(((y : Nat) < (Int.toNat (Option.getD none (↑(RX.n x_1 + 1) : Int)) - 4))→True))∧((((((RX.k x_1 + 1) * 16) : Nat) ≤ 140737488355328)∧((((0 + RX.kc x_1) : Nat) ≤ (RX.kc x_1))∧(∀ y : Nat,(((y : Nat) < 1)→True))))∧(∀ c_2 : Nat,(∃ x' : RX,((((((RX.i x') : Nat) ≤ m)∧((((n + RX.i x') : Nat) = (oAt (jnG n 0 g h) (RX.k x') + RX.n x'))∧((atK (jnG n 0 g h) (n + RX.i x') (RX.k x'))∧(((RX.k x') : Nat) ≤ (RX.kc x')))))∧((((SV.sl 712 1 0 (RX.k x_1 + 1) (RX.k x_1 + 1 + c_2)) = (SV.sl 712 1 0 (RX.k x') (RX.kc x')))∧((SV.v (.int .i64 (IntKind.wrap IntKind.i64 ((↑(RX.i x_1) : Int) + 1)))) = (SV.v (.int .i64 ((↑(RX.i x') : Int))))))∧((((1 : Nat) = 1)∧(((1 : Nat) ≤ 1)∧(((SV.v (.bool true)) = (SV.v (.bool true)))∧((zF = zF)∧((zS = zS)∧(((0 : Nat) = 0)∧((((RX.n x') : Nat) = 0)∧(((RX.n x' + RX.a x') : Nat) = 0))))))))∧(((((RX.k x_1 + 1) : Nat) = (RX.k x'))∧((((RX.kc x') : Nat) ≤ (RX.k x_1 + 1 + c_2))∧(∀ i : Nat,(((i : Nat) < (RX.k x'))→([(SV.v (.string (bop (Nat.blt i (RX.k x_1)) (frS (jnG n 0 g h) (0 + i)) (strOf (Int.toNat (Option.getD none (↑(RX.n x_1 + 1) : Int)) - 4) fun y => [SV.v (.int .u8 ((fun i => SE.byteOf [SV.v (.int .u8 (bop (Nat.blt i (RX.n x_1)) (shG (oAt (jnG n 0 g h) (RX.k x_1)) (jnG n 0 g h) (0 + i)) (h (0 + Int.toNat (↑(RX.i x_1) : Int)))))]) (4 + y)))]))))] = [(SV.v (.string (frS (jnG n 0 g h) i)))])))))∧(((((RX.n x') : Nat) = 0)∧((((RX.n x' + RX.a x' + RX.b x') : Nat) = 0)∧True))∧True)))))∧(((m - RX.i x') : Nat) < (m - RX.i x_1)))))))) (∃ x' : RX,((((((RX.i x') : Nat) ≤ m)∧((((n + RX.i x') : Nat) = (oAt (jnG n 0 g h) (RX.k x') + RX.n x'))∧((atK (jnG n 0 g h) (n + RX.i x') (RX.k x'))∧(((RX.k x') : Nat) ≤ (RX.kc x')))))∧((((SV.sl 40 1 0 (RX.k x_1) (RX.kc x_1)) = (SV.sl 40 1 0 (RX.k x') (RX.kc x')))∧((SV.v (.int .i64 (IntKind.wrap IntKind.i64 ((↑(RX.i x_1) : Int) + 1)))) = (SV.v (.int .i64 ((↑(RX.i x') : Int))))))∧((((1 : Nat) = 1)∧(((1 : Nat) ≤ 1)∧(((SV.v (.bool true)) = (SV.v (.bool true)))∧((zF = zF)∧((SV.sl 296 1 0 (RX.n x_1 + 1) (RX.n x_1 + 1 + c_1)) = (SV.sl 296 1 0 (RX.n x') (RX.n x' + RX.a x')))))))∧(((((RX.k x_1) : Nat) = (RX.k x'))∧((((RX.kc x') : Nat) ≤ (RX.kc x_1))∧(∀ i : Nat,(((i : Nat) < (RX.k x'))→([(SV.v (.string (frS (jnG n 0 g h) i)))] = [(SV.v (.string (frS (jnG n 0 g h) i)))])))))∧((((RX.n x_1 + 1) : Nat) = (RX.n x'))∧((((RX.n x' + RX.a x' + RX.b x') : Nat) ≤ (RX.n x_1 + 1 + c_1))∧(∀ i : Nat,(((i : Nat) < (RX.n x'))→([(SV.v (.int .u8 (SE.byteOf [SV.v (.int .u8 (bop (Nat.blt i (RX.n x_1)) (shG (oAt (jnG n 0 g h) (RX.k x_1)) (jnG n 0 g h) (0 + i)) (h (0 + Int.toNat (↑(RX.i x_1) : Int)))))])))] = [(SV.v (.int .u8 (shG (oAt (jnG n 0 g h) (RX.k x')) (jnG n 0 g h) i)))])))))))))∧(((m - RX.i x') : Nat) < (m - RX.i x_1)))))))))))) (∃ c_1 : Nat,((((SV.sl 40 1 0 (RX.k x_1) (RX.kc x_1)) = (SV.sl 40 1 0 (kOf (jnG n 0 g h) (n + m)) (kOf (jnG n 0 g h) (n + m) + c_1)))∧(zI = (SV.v (.int .i64 (errAt (jnG n 0 g h) (n + m) (kOf (jnG n 0 g h) (n + m)))))))∧((((1 : Nat) = 1)∧(((1 : Nat) ≤ 1)∧(((SV.v (.bool true)) = (SV.v (.bool true)))∧((zF = (SV.v (.bool true)))∧((SV.sl 41 1 0 (RX.n x_1) (RX.n x_1 + RX.a x_1)) = zS)))))∧(((((RX.k x_1) : Nat) = (kOf (jnG n 0 g h) (n + m)))∧((((kOf (jnG n 0 g h) (n + m) + c_1) : Nat) ≤ (RX.kc x_1))∧(∀ i : Nat,(((i : Nat) < (kOf (jnG n 0 g h) (n + m)))→([(SV.v (.string (frS (jnG n 0 g h) i)))] = [(SV.v (.string (frS (jnG n 0 g h) i)))])))))∧True))))))))):=by kernel_rfl
theorem vcRGvBr (q : Option Prop) (o n c N ex e m cb x : Nat) (g : Nat→Int) (row : Nat→List SV) (wh : Bool) : (vcFn Try.prog ΓRG noΛ Try.f10 [.vp 0 0,.sl 2 1 0 m cb] (heapOf [rfB true true false (.sl 1 1 o n c),bG N g ex,rowB e m row x wh]) 64 (fun y h' => FinE [rfB true true false (.sl 1 1 o n c),bG N g ex,rowB e m row x wh] (.det q (.tup [nilS,iV 12]) [(0,rfB true true false (.sl 1 1 o n c)),(1,bG N g ex)]) y h')) = ((rfP (RfS.used true true o n c N (fun i => SE.byteOf [SV.v (.int .u8 (g i))]) ex (bytesOk N ex {elem:=5,size:=1,rw:=true,lock:=false,lit:=false,flat:=true,n:=N,row:=fun i => [SV.v (.int .u8 (g i))],ext:=ex})))∧(((zS = zS)∧((SV.v (.int .i64 12)) = (SV.v (.int .i64 12))))∧((((1 : Nat) = 1)∧(((1 : Nat) ≤ 1)∧(((SV.v (.bool true)) = (SV.v (.bool true)))∧(((SV.v (.bool true)) = (SV.v (.bool true)))∧((SV.sl 1 1 o n c) = (SV.sl 1 1 o n c))))))∧(((N : Nat) = N)∧(((ex : Nat) ≤ ex)∧(∀ i : Nat,(((i : Nat) < N)→([(SV.v (.int .u8 (SE.byteOf [SV.v (.int .u8 (g i))])))] = [(SV.v (.int .u8 (g i)))])))))))):=by kernel_rfl
theorem vcGvBu (q : Option Prop) (o n c N ex e m cb x : Nat) (g : Nat→Int) (row : Nat→List SV) (wh : Bool) : (vcFn Try.prog ΓO0 noΛ Try.f9 [.vp 0 0,.sl 2 1 0 m cb] (heapOf [fdB true true false (.sl 1 1 o n c),bG N g ex,rowB e m row x wh]) 64 (fun y h' => FinE [fdB true true false (.sl 1 1 o n c),bG N g ex,rowB e m row x wh] (.det q (.tup [nilS,iV 12]) [(0,fdB true true false (.sl 1 1 o n c)),(1,bG N g ex)]) y h')) = ((fdP (FdS.used true true o n c N (fun i => SE.byteOf [SV.v (.int .u8 (g i))]) ex (bytesOk N ex {elem:=5,size:=1,rw:=true,lock:=false,lit:=false,flat:=true,n:=N,row:=fun i => [SV.v (.int .u8 (g i))],ext:=ex})))∧(((zS = zS)∧((SV.v (.int .i64 12)) = (SV.v (.int .i64 12))))∧((((1 : Nat) = 1)∧(((1 : Nat) ≤ 1)∧(((SV.v (.bool true)) = (SV.v (.bool true)))∧(((SV.v (.bool true)) = (SV.v (.bool true)))∧((SV.sl 1 1 o n c) = (SV.sl 1 1 o n c))))))∧(((N : Nat) = N)∧(((ex : Nat) ≤ ex)∧(∀ i : Nat,(((i : Nat) < N)→([(SV.v (.int .u8 (SE.byteOf [SV.v (.int .u8 (g i))])))] = [(SV.v (.int .u8 (g i)))])))))))):=by kernel_rfl
theorem strOf_cg {n m : Nat} {r r' : Nat → List SV} (e : n = m) (h : ∀ i, i < m → r i = r' i) : strOf n r = strOf m r' := by
  subst e
  unfold strOf
  congr 2
  refine List.map_congr_left fun i hi => ?_
  rw [h i (by have := List.mem_range'_1.1 hi; omega)]
theorem numP_eq {f G : Nat → Int} {o : Nat} (h : ∀ y, y < 4 → f y = G (o + y)) (hb : ∀ y, y < 4 → 0 ≤ G (o + y) ∧ G (o + y) < 256) : numP f 4 = ((numAt G o : Nat) : Int) := by
  have b0 := hb 0 (by omega)
  have b1 := hb 1 (by omega)
  have b2 := hb 2 (by omega)
  have b3 := hb 3 (by omega)
  rw [Nat.add_zero] at b0
  show (((0 * 256 + f 0) * 256 + f 1) * 256 + f 2) * 256 + f 3 = _
  rw [h 0 (by omega), h 1 (by omega), h 2 (by omega), h 3 (by omega), Nat.add_zero]
  unfold numAt
  omega
theorem numP_in {f : Nat → Int} {i : Nat} (hi : i ≤ 4) (hb : ∀ y, y < i → 0 ≤ f y ∧ f y < 256) : 0 ≤ numP f i ∧ numP f i < 4294967296 ∧ (i ≤ 3 → numP f i < 16777216) := by
  match i, hi with
  | 0, _ =>
    show (0 : Int) ≤ 0 ∧ (0 : Int) < _ ∧ (_ → (0 : Int) < _)
    omega
  | 1, _ =>
    have := hb 0 (by omega)
    show 0 ≤ 0 * 256 + f 0 ∧ 0 * 256 + f 0 < _ ∧ (_ → 0 * 256 + f 0 < _)
    omega
  | 2, _ =>
    have := hb 0 (by omega)
    have := hb 1 (by omega)
    show 0 ≤ (0 * 256 + f 0) * 256 + f 1 ∧ (0 * 256 + f 0) * 256 + f 1 < _ ∧ (_ → (0 * 256 + f 0) * 256 + f 1 < _)
    omega
  | 3, _ =>
    have := hb 0 (by omega)
    have := hb 1 (by omega)
    have := hb 2 (by omega)
    show 0 ≤ ((0 * 256 + f 0) * 256 + f 1) * 256 + f 2 ∧ ((0 * 256 + f 0) * 256 + f 1) * 256 + f 2 < _ ∧ (_ → ((0 * 256 + f 0) * 256 + f 1) * 256 + f 2 < _)
    omega
  | 4, _ =>
    have := hb 0 (by omega)
    have := hb 1 (by omega)
    have := hb 2 (by omega)
    have := hb 3 (by omega)
    show 0 ≤ (((0 * 256 + f 0) * 256 + f 1) * 256 + f 2) * 256 + f 3 ∧ (((0 * 256 + f 0) * 256 + f 1) * 256 + f 2) * 256 + f 3 < _ ∧ (_ → (((0 * 256 + f 0) * 256 + f 1) * 256 + f 2) * 256 + f 3 < _)
    omega
noncomputable def ΛRLenA (args : List SV) (bs : List Blk) : Nat → Option LoopSpec := match rfOf bs with
  | some (.used _ _ o _ _ _ g _ _) => ΛRLen o g
  | _ => noΛ
theorem RLen_spec : HpSpec Try.prog 25 sRLen := hp_spec hm noCtrs_ok Try.func25 (Λ := ΛRLenA) fun args bs e hs hp => by
  unfold sRLen at hs
  split at hs <;> try (cases hs; done)
  split at hs <;> try (cases hs; done)
  rename_i m br o n c N g ex p hw
  have he := Option.some.inj hs
  subst he
  obtain ⟨hpp, h4, hb⟩ := hp _ rfl
  refine ⟨[rfB m br false (.sl 1 1 o n c), bG N g ex], rfOf_same hw hpp, ?_⟩
  unfold ΛRLenA
  simp only [hw]
  refine Eq.mpr (vcRLen _ m br o n c N g ex) ⟨⟨0, Nat.zero_le _, ⟨rfl, rfl⟩, trivial⟩, fun x hx => sel_of (fun hlt => ?_) fun hge => ?_⟩
  · have hlt := of_decide_eq_true hlt
    have hx4 : x < 4 := by omega
    have hin := numP_in (f := fun y => g (o + y)) (i := x) (by omega) (fun y hy => hb y (by omega))
    have hbx := hb x hx4
    have hl : numP (fun y => g (o + y)) x < 16777216 := hin.2.2 (by omega)
    refine ⟨⟨by omega, by omega⟩, ⟨x + 1, ⟨hx4, ⟨?_, ?_⟩, trivial⟩, by omega⟩⟩
    · rw [Int.toNat_natCast, u64_in ⟨by omega, by omega⟩, u64_in ⟨by omega, by omega⟩, or_byte hin.1 (by omega) hbx.1 hbx.2]
      rfl
    · rw [wrap_i64 ⟨by omega, by omega⟩]; rfl
  · have hge := of_decide_eq_false hge
    have : x = 4 := by have : x ≤ 4 := hx; omega
    subst this
    exact ⟨rfl, ⟨rfl, Nat.le_refl _, rfl, rfl, rfl⟩, rfl, Nat.le_refl _, fun _ _ => rfl⟩
theorem ΓRG_ok : ∀ f g, ΓRG f = some g → g.ok Try.prog f := addCtr_ok (addCtr_ok noCtrs_ok (hp_ok Try.func22 (by kernel_rfl) (by kernel_rfl) RVal_spec)) (hp_ok Try.func25 (by kernel_rfl) (by kernel_rfl) RLen_spec)
theorem oAt_s (G : Nat → Int) (k : Nat) : oAt G (k + 1) = oAt G k + 4 + numAt G (oAt G k) := rfl
theorem fr_mono {G : Nat → Int} {T T' j : Nat} (h : frOk G T j = true) (ht : T ≤ T') : frOk G T' j = true := by
  obtain ⟨h1, h2, h3⟩ := frOk_iff.1 h
  exact frOk_iff.2 ⟨by omega, h2, by omega⟩
theorem at_few {G : Nat → Int} {T k : Nat} (h : atK G T k) (hlt : T + 1 < oAt G k + 4) : atK G (T + 1) k :=
  ⟨fun j hj => fr_mono (h.1 j hj) (by omega), err_none hlt, frOk_no fun hh => by have := hh.1; omega⟩
theorem at_zero {G : Nat → Int} {T T' k : Nat} (h : atK G T k) (ht : T + 1 ≤ T') (h4 : oAt G k + 4 ≤ T + 1) (h0 : numAt G (oAt G k) = 0) : kOf G T' = k ∧ errAt G T' k = 7 :=
  ⟨kOf_eq (fun j hj => fr_mono (h.1 j hj) (by omega)) (frOk_no fun hh => by have := hh.2.1.1; omega), err_zero (by omega) h0⟩
theorem at_big {G : Nat → Int} {T T' k : Nat} (h : atK G T k) (ht : T + 1 ≤ T') (h4 : oAt G k + 4 ≤ T + 1) (h0 : 2048 < numAt G (oAt G k)) : kOf G T' = k ∧ errAt G T' k = 6 :=
  ⟨kOf_eq (fun j hj => fr_mono (h.1 j hj) (by omega)) (frOk_no fun hh => by have := hh.2.1.2; omega), err_big (by omega) h0⟩
theorem at_frame {G : Nat → Int} {T k : Nat} (h : atK G T k) (h1 : 1 ≤ numAt G (oAt G k)) (h2 : numAt G (oAt G k) ≤ 2048) (he : T + 1 = oAt G k + 4 + numAt G (oAt G k)) : atK G (T + 1) (k + 1) := by
  have e := oAt_s G k
  refine ⟨fun j hj => ?_, err_none (by omega), frOk_no fun hh => by have := hh.1; omega⟩
  by_cases hjk : j = k
  · subst hjk
    exact frOk_iff.2 ⟨by omega, ⟨h1, h2⟩, by omega⟩
  · exact fr_mono (h.1 j (by omega)) (by omega)
theorem at_more {G : Nat → Int} {T k : Nat} (h : atK G T k) (h4 : oAt G k + 4 ≤ T + 1) (h1 : 1 ≤ numAt G (oAt G k)) (h2 : numAt G (oAt G k) ≤ 2048) (hne : T + 1 ≠ oAt G k + 4 + numAt G (oAt G k)) : T + 1 < oAt G k + 4 + numAt G (oAt G k) ∧ atK G (T + 1) k := by
  have e := oAt_s G k
  have hlt : T + 1 < oAt G k + 4 + numAt G (oAt G k) := by
    refine Nat.lt_of_not_le fun hh => ?_
    have : frOk G T k = true := frOk_iff.2 ⟨by omega, ⟨h1, h2⟩, by omega⟩
    rw [h.2.2] at this
    cases this
  exact ⟨hlt, fun j hj => fr_mono (h.1 j hj) (by omega), err_part h4 (by omega) (by omega), frOk_no fun hh => by have := hh.2.2; omega⟩
theorem jn_l {n : Nat} {g h : Nat → Int} {i : Nat} (hi : i < n) : jnG n 0 g h i = g i := by
  unfold jnG
  rw [blt_true hi, Nat.zero_add]
  rfl
theorem jn_r {n : Nat} {g h : Nat → Int} (i : Nat) : jnG n 0 g h (n + i) = h i := by
  unfold jnG
  rw [blt_false (by omega), Nat.add_sub_cancel_left]
  rfl
theorem rg_U (q : Prop) (n c ex e m cb x0 : Nat) (g h : Nat → Int) (wh : Bool) (hn : n < 70368744177664) (hc : n ≤ c ∧ c ≤ ex) (hP : gvP (jnG n 0 g h) (n + m)) (h0 : atK (jnG n 0 g h) n 0) (hz : errAt (jnG n 0 g h) (n + m) (kOf (jnG n 0 g h) (n + m)) = 0) : vcFn Try.prog ΓRG (ΛRGv (jnG n 0 g h) n m) Try.f10 [.vp 0 0, .sl 2 1 0 m cb] (heapOf [rfB true false false (.sl 1 1 0 n c), bG n g ex, byB e m h x0 wh]) 64 (fun y h' => FinE [rfB true false false (.sl 1 1 0 n c), bG n g ex, byB e m h x0 wh] (rgOk q [(1, killed (bG n g ex))] (jnG n 0 g h) (n + m)) y h') := by
  rw [vcRGvU]
  have hGl : ∀ i, i < n → jnG n 0 g h i = g i := fun i hi => jn_l hi
  have hGr : ∀ i, jnG n 0 g h (n + i) = h i := fun i => jn_r i
  generalize jnG n 0 g h = G at *
  obtain ⟨hB, hT⟩ := hP
  refine ⟨⟨rfl, rfl, hn, fun _ _ => trivial⟩, ⟨⟨0, 0, 0, n, c - n, ex - c⟩, ⟨Nat.zero_le _, by show n + 0 = 0 + n; omega, h0, Nat.le_refl _⟩, ⟨⟨rfl, rfl, rfl, rfl⟩, rfl⟩, ⟨rfl, Nat.le_refl _, rfl, rfl, sl_eq rfl rfl (by show c = n + (c - n); omega)⟩, ⟨rfl, rfl, trivial⟩, rfl, by show n + (c - n) + (ex - c) ≤ ex; omega, fun i hi => ?_⟩, fun x hx => ?_⟩
  · show [SV.v (.int .u8 (g i))] = [SV.v (.int .u8 (G (0 + i)))]
    rw [Nat.zero_add, hGl i hi]
  obtain ⟨x1, x2, x3, x4⟩ := hx
  have hkT : x.k ≤ n + m := by have := le_oAt G x.k; omega
  refine sel_of (fun hlt => ?_) fun hge => ?_
  · have hlt := of_decide_eq_true hlt
    have hxm : x.i < m := by omega
    rw [Int.toNat_natCast]
    have hrow : ∀ i, i < x.n + 1 → bop (Nat.blt i x.n) (shG (oAt G x.k) G (0 + i)) (h (0 + x.i)) = shG (oAt G x.k) G i := fun i hi => by
      rw [Nat.zero_add, Nat.zero_add]
      by_cases hl : i < x.n
      · rw [blt_true hl]; rfl
      · rw [blt_false hl]
        show h x.i = G (oAt G x.k + i)
        rw [← hGr x.i]
        congr 1
        omega
    have hw : IntKind.i64.wrap ((x.i : Int) + 1) = ((x.i + 1 : Nat) : Int) := by rw [wrap_i64 ⟨by omega, by omega⟩]; rfl
    rw [hw]
    refine ⟨⟨by omega, hlt⟩, ⟨by omega, by omega, fun _ _ => trivial⟩, fun c1 => sel_of (fun hs4 => ?_) fun hs4 => ?_⟩
    · have hs4 := of_decide_eq_true hs4
      exact ⟨⟨x.i + 1, x.k, x.kc, x.n + 1, c1, 0⟩, ⟨⟨by show x.i + 1 ≤ m; omega, by show n + (x.i + 1) = oAt G x.k + (x.n + 1); omega, at_few (T := n + x.i) (k := x.k) x3 (by omega), x4⟩, ⟨rfl, rfl⟩, ⟨rfl, Nat.le_refl _, rfl, rfl, rfl⟩, ⟨rfl, Nat.le_refl _, fun _ _ => rfl⟩, rfl, Nat.le_refl _, fun i hi => by rw [hrow i hi]⟩, by show m - (x.i + 1) < m - x.i; omega⟩
    · have hs4 := of_decide_eq_false hs4
      have h4 : 4 ≤ x.n + 1 := by omega
      have hnum : numP (fun y => SE.byteOf [SV.v (.int .u8 (bop (Nat.blt (0 + y) x.n) (shG (oAt G x.k) G (0 + (0 + y))) (h (0 + x.i))))]) 4 = ((numAt G (oAt G x.k) : Nat) : Int) := numP_eq (fun y hy => by
        show bop (Nat.blt (0 + y) x.n) (shG (oAt G x.k) G (0 + (0 + y))) (h (0 + x.i)) = G (oAt G x.k + y)
        rw [hrow (0 + y) (by omega), Nat.zero_add]; rfl) (fun y hy => hB _ (by omega))
      rw [hnum]
      refine ⟨⟨⟨rfl, rfl, by omega, fun _ _ => trivial⟩, h4, fun y hy => ?_⟩, ?_⟩
      · show 0 ≤ bop (Nat.blt (0 + y) x.n) (shG (oAt G x.k) G (0 + (0 + y))) (h (0 + x.i)) ∧ bop (Nat.blt (0 + y) x.n) (shG (oAt G x.k) G (0 + (0 + y))) (h (0 + x.i)) < 256
        rw [hrow (0 + y) (by omega), Nat.zero_add]
        exact hB _ (by omega)
      have hN4 : numAt G (oAt G x.k) < 4294967296 := num_lt hB (by omega)
      have z7 : ∀ {t : Bool}, ((((numAt G (oAt G x.k) : Nat) : Int) == 0) = t) → t = decide (numAt G (oAt G x.k) = 0) := fun {t} ht => by
        rw [← ht]
        by_cases hz0 : numAt G (oAt G x.k) = 0
        · rw [hz0]; rfl
        · rw [decide_eq_false hz0, beq_eq_false_iff_ne]; omega
      refine sel_of (fun e0 => sel_of (fun e1 => ?_) fun e1 => ?_) fun e0 => sel_of (fun e1 => sel_of (fun e2 => ?_) fun e2 => ?_) fun e1 => ?_
      · have e0 := of_decide_eq_true (z7 e0).symm
        obtain ⟨hK, hE⟩ := at_zero x3 (T' := n + m) (by omega) (by omega) e0
        rw [hK, hE] at hz
        cases hz
      · rw [e0] at e1; cases e1
      · rw [e0] at e2; cases e2
      · have e1 := of_decide_eq_true e1
        obtain ⟨hK, hE⟩ := at_big x3 (T' := n + m) (by omega) (by omega) (by omega)
        rw [hK, hE] at hz
        cases hz
      · have e0 : ¬ numAt G (oAt G x.k) = 0 := of_decide_eq_false (z7 e0).symm
        have e1 := of_decide_eq_false e1
        rw [u64_in (by omega : _ ∧ _), u64_in (by omega : _ ∧ _)]
        refine sel_of (fun e2 => ?_) fun e2 => ?_
        · have e2 : ((x.n + 1 : Nat) : Int) = 4 + ((numAt G (oAt G x.k) : Nat) : Int) := (beq_iff_eq ..).1 e2
          refine ⟨⟨by omega, by show (4 : Int) ≤ ((x.n + 1 : Nat) : Int); omega, Int.le_refl _, by omega⟩, fun _ _ => trivial, ⟨by omega, by omega, fun _ _ => trivial⟩, fun c2 => ⟨⟨x.i + 1, x.k + 1, x.k + 1 + c2, 0, 0, 0⟩, ⟨⟨by show x.i + 1 ≤ m; omega, by show n + (x.i + 1) = oAt G x.k + 4 + numAt G (oAt G x.k) + 0; omega, at_frame (T := n + x.i) (k := x.k) x3 (by omega) (by omega) (by omega), by show x.k + 1 ≤ x.k + 1 + c2; omega⟩, ⟨rfl, rfl⟩, ⟨rfl, Nat.le_refl _, rfl, rfl, rfl, rfl, rfl, rfl⟩, ⟨rfl, Nat.le_refl _, fun i hi => ?_⟩, ⟨rfl, rfl, trivial⟩, trivial⟩, by show m - (x.i + 1) < m - x.i; omega⟩⟩
          have hi : i < x.k + 1 := hi
          by_cases hik : i < x.k
          · rw [blt_true hik, Nat.zero_add]; rfl
          · have hik : i = x.k := by omega
            subst hik
            rw [blt_false (Nat.lt_irrefl _)]
            show [SV.v (.string (strOf (Int.toNat ((x.n + 1 : Nat) : Int) - 4) fun y => [SV.v (.int .u8 (bop (Nat.blt (4 + y) x.n) (shG (oAt G x.k) G (0 + (4 + y))) (h (0 + x.i))))]))] = [SV.v (.string (strOf (numAt G (oAt G x.k)) fun y => [.v (.int .u8 (G (oAt G x.k + 4 + y)))]))]
            rw [strOf_cg (n := Int.toNat ((x.n + 1 : Nat) : Int) - 4) (m := numAt G (oAt G x.k)) (r' := fun y => [.v (.int .u8 (G (oAt G x.k + 4 + y)))]) (by omega) fun y hy => by
              rw [hrow (4 + y) (by omega)]
              show [SV.v (.int .u8 (G (oAt G x.k + (4 + y))))] = _
              rw [Nat.add_assoc]]
        · have e2 : ((x.n + 1 : Nat) : Int) ≠ 4 + ((numAt G (oAt G x.k) : Nat) : Int) := by rwa [beq_eq_false_iff_ne] at e2
          exact ⟨⟨x.i + 1, x.k, x.kc, x.n + 1, c1, 0⟩, ⟨⟨by show x.i + 1 ≤ m; omega, by show n + (x.i + 1) = oAt G x.k + (x.n + 1); omega, (at_more (T := n + x.i) (k := x.k) x3 (by omega) (by omega) (by omega) (by omega)).2, x4⟩, ⟨rfl, rfl⟩, ⟨rfl, Nat.le_refl _, rfl, rfl, rfl⟩, ⟨rfl, Nat.le_refl _, fun _ _ => rfl⟩, rfl, Nat.le_refl _, fun i hi => by
            show [SV.v (.int .u8 (bop (Nat.blt i x.n) (shG (oAt G x.k) G (0 + i)) (h (0 + x.i))))] = _
            rw [hrow i hi]⟩, by show m - (x.i + 1) < m - x.i; omega⟩
  · have hge := of_decide_eq_false hge
    have hm' : n + m = n + x.i := by omega
    have hK : kOf G (n + m) = x.k := by rw [hm']; exact kOf_eq x3.1 x3.2.2
    rw [hK]
    exact ⟨⟨x.a, x.b, x.kc - x.k⟩, ⟨sl_eq rfl rfl (by show x.kc = x.k + (x.kc - x.k); omega), rfl⟩, ⟨rfl, Nat.le_refl _, rfl, rfl, sl_eq rfl (by omega) (by show x.n + x.a = n + m - oAt G x.k + x.a; omega)⟩, ⟨by omega, by show n + m - oAt G x.k + x.a + x.b ≤ x.n + x.a + x.b; omega, fun _ _ => rfl⟩, ⟨rfl, by show x.k + (x.kc - x.k) ≤ x.kc; omega, fun _ _ => rfl⟩, trivial⟩
theorem rg_Ub (q : Prop) (n c ex e m cb x0 : Nat) (g h : Nat → Int) (wh : Bool) (hn : n < 70368744177664) (hc : n ≤ c ∧ c ≤ ex) (hP : gvP (jnG n 0 g h) (n + m)) (h0 : atK (jnG n 0 g h) n 0) (hz : errAt (jnG n 0 g h) (n + m) (kOf (jnG n 0 g h) (n + m)) ≠ 0) : vcFn Try.prog ΓRG (ΛRGv (jnG n 0 g h) n m) Try.f10 [.vp 0 0, .sl 2 1 0 m cb] (heapOf [rfB true false false (.sl 1 1 0 n c), bG n g ex, byB e m h x0 wh]) 64 (fun y h' => FinE [rfB true false false (.sl 1 1 0 n c), bG n g ex, byB e m h x0 wh] (rgBad q [(1, killed (bG n g ex))] (jnG n 0 g h) (n + m)) y h') := by
  rw [vcRGvUb]
  have hGl : ∀ i, i < n → jnG n 0 g h i = g i := fun i hi => jn_l hi
  have hGr : ∀ i, jnG n 0 g h (n + i) = h i := fun i => jn_r i
  generalize jnG n 0 g h = G at *
  obtain ⟨hB, hT⟩ := hP
  refine ⟨⟨rfl, rfl, hn, fun _ _ => trivial⟩, ⟨⟨0, 0, 0, n, c - n, ex - c⟩, ⟨Nat.zero_le _, by show n + 0 = 0 + n; omega, h0, Nat.le_refl _⟩, ⟨⟨rfl, rfl, rfl, rfl⟩, rfl⟩, ⟨rfl, Nat.le_refl _, rfl, rfl, sl_eq rfl rfl (by show c = n + (c - n); omega)⟩, ⟨rfl, rfl, trivial⟩, rfl, by show n + (c - n) + (ex - c) ≤ ex; omega, fun i hi => ?_⟩, fun x hx => ?_⟩
  · show [SV.v (.int .u8 (g i))] = [SV.v (.int .u8 (G (0 + i)))]
    rw [Nat.zero_add, hGl i hi]
  obtain ⟨x1, x2, x3, x4⟩ := hx
  have hkT : x.k ≤ n + m := by have := le_oAt G x.k; omega
  refine sel_of (fun hlt => ?_) fun hge => ?_
  · have hlt := of_decide_eq_true hlt
    have hxm : x.i < m := by omega
    rw [Int.toNat_natCast]
    have hrow : ∀ i, i < x.n + 1 → bop (Nat.blt i x.n) (shG (oAt G x.k) G (0 + i)) (h (0 + x.i)) = shG (oAt G x.k) G i := fun i hi => by
      rw [Nat.zero_add, Nat.zero_add]
      by_cases hl : i < x.n
      · rw [blt_true hl]; rfl
      · rw [blt_false hl]
        show h x.i = G (oAt G x.k + i)
        rw [← hGr x.i]
        congr 1
        omega
    have hw : IntKind.i64.wrap ((x.i : Int) + 1) = ((x.i + 1 : Nat) : Int) := by rw [wrap_i64 ⟨by omega, by omega⟩]; rfl
    rw [hw]
    refine ⟨⟨by omega, hlt⟩, ⟨by omega, by omega, fun _ _ => trivial⟩, fun c1 => sel_of (fun hs4 => ?_) fun hs4 => ?_⟩
    · have hs4 := of_decide_eq_true hs4
      exact ⟨⟨x.i + 1, x.k, x.kc, x.n + 1, c1, 0⟩, ⟨⟨by show x.i + 1 ≤ m; omega, by show n + (x.i + 1) = oAt G x.k + (x.n + 1); omega, at_few (T := n + x.i) (k := x.k) x3 (by omega), x4⟩, ⟨rfl, rfl⟩, ⟨rfl, Nat.le_refl _, rfl, rfl, rfl⟩, ⟨rfl, Nat.le_refl _, fun _ _ => rfl⟩, rfl, Nat.le_refl _, fun i hi => by rw [hrow i hi]⟩, by show m - (x.i + 1) < m - x.i; omega⟩
    · have hs4 := of_decide_eq_false hs4
      have h4 : 4 ≤ x.n + 1 := by omega
      have hnum : numP (fun y => SE.byteOf [SV.v (.int .u8 (bop (Nat.blt (0 + y) x.n) (shG (oAt G x.k) G (0 + (0 + y))) (h (0 + x.i))))]) 4 = ((numAt G (oAt G x.k) : Nat) : Int) := numP_eq (fun y hy => by
        show bop (Nat.blt (0 + y) x.n) (shG (oAt G x.k) G (0 + (0 + y))) (h (0 + x.i)) = G (oAt G x.k + y)
        rw [hrow (0 + y) (by omega), Nat.zero_add]; rfl) (fun y hy => hB _ (by omega))
      rw [hnum]
      refine ⟨⟨⟨rfl, rfl, by omega, fun _ _ => trivial⟩, h4, fun y hy => ?_⟩, ?_⟩
      · show 0 ≤ bop (Nat.blt (0 + y) x.n) (shG (oAt G x.k) G (0 + (0 + y))) (h (0 + x.i)) ∧ bop (Nat.blt (0 + y) x.n) (shG (oAt G x.k) G (0 + (0 + y))) (h (0 + x.i)) < 256
        rw [hrow (0 + y) (by omega), Nat.zero_add]
        exact hB _ (by omega)
      have hN4 : numAt G (oAt G x.k) < 4294967296 := num_lt hB (by omega)
      have z7 : ∀ {t : Bool}, ((((numAt G (oAt G x.k) : Nat) : Int) == 0) = t) → t = decide (numAt G (oAt G x.k) = 0) := fun {t} ht => by
        rw [← ht]
        by_cases hz0 : numAt G (oAt G x.k) = 0
        · rw [hz0]; rfl
        · rw [decide_eq_false hz0, beq_eq_false_iff_ne]; omega
      refine sel_of (fun e0 => sel_of (fun e1 => ?_) fun e1 => ?_) fun e0 => sel_of (fun e1 => sel_of (fun e2 => ?_) fun e2 => ?_) fun e1 => ?_
      · have e0 := of_decide_eq_true (z7 e0).symm
        obtain ⟨hK, hE⟩ := at_zero x3 (T' := n + m) (by omega) (by omega) e0
        rw [hK, hE]
        exact ⟨x.kc - x.k, ⟨sl_eq rfl rfl (by omega), rfl⟩, ⟨rfl, Nat.le_refl _, rfl, rfl, rfl⟩, ⟨rfl, by omega, fun _ _ => rfl⟩, trivial⟩
      · rw [e0] at e1; cases e1
      · rw [e0] at e2; cases e2
      · have e1 := of_decide_eq_true e1
        obtain ⟨hK, hE⟩ := at_big x3 (T' := n + m) (by omega) (by omega) (by omega)
        rw [hK, hE]
        exact ⟨x.kc - x.k, ⟨sl_eq rfl rfl (by omega), rfl⟩, ⟨rfl, Nat.le_refl _, rfl, rfl, rfl⟩, ⟨rfl, by omega, fun _ _ => rfl⟩, trivial⟩
      · have e0 : ¬ numAt G (oAt G x.k) = 0 := of_decide_eq_false (z7 e0).symm
        have e1 := of_decide_eq_false e1
        rw [u64_in (by omega : _ ∧ _), u64_in (by omega : _ ∧ _)]
        refine sel_of (fun e2 => ?_) fun e2 => ?_
        · have e2 : ((x.n + 1 : Nat) : Int) = 4 + ((numAt G (oAt G x.k) : Nat) : Int) := (beq_iff_eq ..).1 e2
          refine ⟨⟨by omega, by show (4 : Int) ≤ ((x.n + 1 : Nat) : Int); omega, Int.le_refl _, by omega⟩, fun _ _ => trivial, ⟨by omega, by omega, fun _ _ => trivial⟩, fun c2 => ⟨⟨x.i + 1, x.k + 1, x.k + 1 + c2, 0, 0, 0⟩, ⟨⟨by show x.i + 1 ≤ m; omega, by show n + (x.i + 1) = oAt G x.k + 4 + numAt G (oAt G x.k) + 0; omega, at_frame (T := n + x.i) (k := x.k) x3 (by omega) (by omega) (by omega), by show x.k + 1 ≤ x.k + 1 + c2; omega⟩, ⟨rfl, rfl⟩, ⟨rfl, Nat.le_refl _, rfl, rfl, rfl, rfl, rfl, rfl⟩, ⟨rfl, Nat.le_refl _, fun i hi => ?_⟩, ⟨rfl, rfl, trivial⟩, trivial⟩, by show m - (x.i + 1) < m - x.i; omega⟩⟩
          have hi : i < x.k + 1 := hi
          by_cases hik : i < x.k
          · rw [blt_true hik, Nat.zero_add]; rfl
          · have hik : i = x.k := by omega
            subst hik
            rw [blt_false (Nat.lt_irrefl _)]
            show [SV.v (.string (strOf (Int.toNat ((x.n + 1 : Nat) : Int) - 4) fun y => [SV.v (.int .u8 (bop (Nat.blt (4 + y) x.n) (shG (oAt G x.k) G (0 + (4 + y))) (h (0 + x.i))))]))] = [SV.v (.string (strOf (numAt G (oAt G x.k)) fun y => [.v (.int .u8 (G (oAt G x.k + 4 + y)))]))]
            rw [strOf_cg (n := Int.toNat ((x.n + 1 : Nat) : Int) - 4) (m := numAt G (oAt G x.k)) (r' := fun y => [.v (.int .u8 (G (oAt G x.k + 4 + y)))]) (by omega) fun y hy => by
              rw [hrow (4 + y) (by omega)]
              show [SV.v (.int .u8 (G (oAt G x.k + (4 + y))))] = _
              rw [Nat.add_assoc]]
        · have e2 : ((x.n + 1 : Nat) : Int) ≠ 4 + ((numAt G (oAt G x.k) : Nat) : Int) := by rwa [beq_eq_false_iff_ne] at e2
          exact ⟨⟨x.i + 1, x.k, x.kc, x.n + 1, c1, 0⟩, ⟨⟨by show x.i + 1 ≤ m; omega, by show n + (x.i + 1) = oAt G x.k + (x.n + 1); omega, (at_more (T := n + x.i) (k := x.k) x3 (by omega) (by omega) (by omega) (by omega)).2, x4⟩, ⟨rfl, rfl⟩, ⟨rfl, Nat.le_refl _, rfl, rfl, rfl⟩, ⟨rfl, Nat.le_refl _, fun _ _ => rfl⟩, rfl, Nat.le_refl _, fun i hi => by
            show [SV.v (.int .u8 (bop (Nat.blt i x.n) (shG (oAt G x.k) G (0 + i)) (h (0 + x.i))))] = _
            rw [hrow i hi]⟩, by show m - (x.i + 1) < m - x.i; omega⟩
  · have hge := of_decide_eq_false hge
    have hm' : n + m = n + x.i := by omega
    rw [hm', kOf_eq x3.1 x3.2.2, x3.2.1] at hz
    exact absurd rfl hz
end Go.Proofs.Ythjaamckmadngaa
end
section
namespace Go.Proofs.Ythjaamckmadngaa
open Go.SE Go.RowKit
def badF (G : Nat → Int) (T : Nat) : Bool := !(errAt G T (kOf G T) == 0)
def giveW (br : Bool) (q0 p : Prop) (o n c N : Nat) (g : Nat → Int) (e m : Nat) (h : Nat → Int) : Eff :=
  .alt br (.det (some (q0 ∧ p)) (.tup [nilS, iV 12]) [(0, fdB true true false (.sl 1 1 o n c)), (1, bG N g e)])
    (.alt (badF (jnG n o g h) (n + m)) (geBad ((q0 ∧ p ∧ o + c ≤ e) ∧ gvP (jnG n o g h) (n + m)) [(1, killed (bG N g e))] (jnG n o g h) (n + m)) (geOk ((q0 ∧ p ∧ o + c ≤ e) ∧ gvP (jnG n o g h) (n + m)) [(1, killed (bG N g e))] (jnG n o g h) (n + m)))
def sGiveW (args : List SV) (bs : List Blk) : Option Eff := match args with
  | [.vp 0 0, .sl 2 1 0 m _] => match bs with
    | [B, H, D] => match fdOf [B, H] with
      | some (.used true br o n c N g e p) => bif dOk D then some (giveW br (D.n = m ∧ ∀ i, i < m → isByte (D.row i)) p o n c N g e m (fun i => SE.byteOf (D.row i))) else none
      | _ => none
    | _ => none
  | _ => none
def giveR (br : Bool) (q0 p : Prop) (o n c N : Nat) (g : Nat → Int) (e m : Nat) (h : Nat → Int) : Eff :=
  .alt br (.det (some (q0 ∧ p)) (.tup [nilS, iV 12]) [(0, rfB true true false (.sl 1 1 o n c)), (1, bG N g e)])
    (.alt (badF (jnG n 0 g h) (n + m)) (rgBad ((q0 ∧ p ∧ (o = 0 ∧ N = n) ∧ n ≤ c ∧ c ≤ e) ∧ gvP (jnG n 0 g h) (n + m) ∧ atK (jnG n 0 g h) n 0) [(1, killed (bG N g e))] (jnG n 0 g h) (n + m)) (rgOk ((q0 ∧ p ∧ (o = 0 ∧ N = n) ∧ n ≤ c ∧ c ≤ e) ∧ gvP (jnG n 0 g h) (n + m) ∧ atK (jnG n 0 g h) n 0) [(1, killed (bG N g e))] (jnG n 0 g h) (n + m)))
def sGiveR (args : List SV) (bs : List Blk) : Option Eff := match args with
  | [.vp 0 0, .sl 2 1 0 m _] => match bs with
    | [B, H, D] => match rfOf [B, H] with
      | some (.used true br o n c N g e p) => bif dOk D then some (giveR br (D.n = m ∧ ∀ i, i < m → isByte (D.row i)) p o n c N g e m (fun i => SE.byteOf (D.row i))) else none
      | _ => none
    | _ => none
  | _ => none
def cpyW (q : Prop) (br : Bool) (o n c N : Nat) (g : Nat → Int) (e : Nat) : Eff := .nd q Nat 0 (fun _ => .vp 1000 0) fun c' => [(0, fdB true br false (.sl 1 1 o n c)), (1, bG N g e), (1000, fdB true br false (.sl 1001 1 0 n (n + c'))), (1001, bG n (shG o g) (n + c'))]
def sCpyW (args : List SV) (bs : List Blk) : Option Eff := match args with
  | [.vp 0 0] => match fdOf bs with
    | some (.used true br o n c N g e p) => some (cpyW (p ∧ o + n ≤ N ∧ n ≤ 1099511627776) br o n c N g e)
    | _ => none
  | _ => none
def cpyR (q : Prop) (br : Bool) (o n c N : Nat) (g : Nat → Int) (e : Nat) : Eff := .nd q Nat 0 (fun _ => .vp 1000 0) fun c' => [(0, rfB true br false (.sl 1 1 o n c)), (1, bG N g e), (1000, rfB true br false (.sl 1001 1 0 n (n + c'))), (1001, bG n (shG o g) (n + c'))]
def sCpyR (args : List SV) (bs : List Blk) : Option Eff := match args with
  | [.vp 0 0] => match rfOf bs with
    | some (.used true br o n c N g e p) => some (cpyR (p ∧ o + n ≤ N ∧ n ≤ 1099511627776) br o n c N g e)
    | _ => none
  | _ => none
noncomputable def ΛCpyW : Nat → Option LoopSpec := addPrs noΛ 3 [(8, fun nx => [1, nx + 64]), (10, fun nx => [nx + 80])]
noncomputable def ΛCpyR : Nat → Option LoopSpec := addPrs noΛ 3 [(9, fun nx => [1, nx + 32, nx + 72]), (11, fun nx => [nx + 88])]
theorem vcCpyW (q : Prop) (br : Bool) (o n c N : Nat) (g : Nat→Int) (e : Nat) : (vcFn Try.prog ΓN0 ΛCpyW Try.f8 [.vp 0 0] (heapOf [fdB true br false (.sl 1 1 o n c),bG N g e]) 64 (fun y h' => FinE [fdB true br false (.sl 1 1 o n c),bG N g e] (cpyW q br o n c N g e) y h')) = ((fdP (FdS.used true br o n c N (fun i => SE.byteOf [SV.v (.int .u8 (g i))]) e (bytesOk N e {elem:=5,size:=1,rw:=true,lock:=false,lit:=false,flat:=true,n:=N,row:=fun i => [SV.v (.int .u8 (g i))],ext:=e})))∧((((n * 1) : Nat) ≤ 140737488355328)∧(∀ c_1 : Nat,(∃ c_2 : Nat,(((SV.vp 176 0) = (SV.vp 176 0))∧((((1 : Nat) = 1)∧(((1 : Nat) ≤ 1)∧(((SV.v (.bool true)) = (SV.v (.bool true)))∧(((SV.v (.bool br)) = (SV.v (.bool br)))∧((SV.sl 1 1 o n c) = (SV.sl 1 1 o n c))))))∧((((N : Nat) = N)∧(((e : Nat) ≤ e)∧(∀ i : Nat,(((i : Nat) < N)→([(SV.v (.int .u8 (SE.byteOf [SV.v (.int .u8 (g i))])))] = [(SV.v (.int .u8 (g i)))])))))∧((((1 : Nat) = 1)∧(((1 : Nat) ≤ 1)∧(((SV.v (.bool true)) = (SV.v (.bool true)))∧(((SV.v (.bool br)) = (SV.v (.bool br)))∧((SV.sl 160 1 0 n (n + c_1)) = (SV.sl 160 1 0 n (n + c_2)))))))∧(((n : Nat) = n)∧((((n + c_2) : Nat) ≤ (n + c_1))∧(∀ i : Nat,(((i : Nat) < n)→([(SV.v (.int .u8 (SE.byteOf [SV.v (.int .u8 (g (o + i)))])))] = [(SV.v (.int .u8 (shG o g i)))]))))))))))))):=by kernel_rfl
theorem vcCpyR (q : Prop) (br : Bool) (o n c N : Nat) (g : Nat→Int) (e : Nat) : (vcFn Try.prog ΓRf0 ΛCpyR Try.f7 [.vp 0 0] (heapOf [rfB true br false (.sl 1 1 o n c),bG N g e]) 64 (fun y h' => FinE [rfB true br false (.sl 1 1 o n c),bG N g e] (cpyR q br o n c N g e) y h')) = ((rfP (RfS.used true br o n c N (fun i => SE.byteOf [SV.v (.int .u8 (g i))]) e (bytesOk N e {elem:=5,size:=1,rw:=true,lock:=false,lit:=false,flat:=true,n:=N,row:=fun i => [SV.v (.int .u8 (g i))],ext:=e})))∧((((((0 + n) * 1) : Nat) ≤ 140737488355328)∧(((0 : Nat) ≤ 0)∧(∀ y : Nat,(((y : Nat) < n)→True))))∧(∀ c_1 : Nat,(∃ c_2 : Nat,(((SV.vp 192 0) = (SV.vp 192 0))∧((((1 : Nat) = 1)∧(((1 : Nat) ≤ 1)∧(((SV.v (.bool true)) = (SV.v (.bool true)))∧(((SV.v (.bool br)) = (SV.v (.bool br)))∧((SV.sl 1 1 o n c) = (SV.sl 1 1 o n c))))))∧((((N : Nat) = N)∧(((e : Nat) ≤ e)∧(∀ i : Nat,(((i : Nat) < N)→([(SV.v (.int .u8 (SE.byteOf [SV.v (.int .u8 (g i))])))] = [(SV.v (.int .u8 (g i)))])))))∧((((1 : Nat) = 1)∧(((1 : Nat) ≤ 1)∧(((SV.v (.bool true)) = (SV.v (.bool true)))∧(((SV.v (.bool br)) = (SV.v (.bool br)))∧((SV.sl 176 1 0 (0 + n) (0 + n + c_1)) = (SV.sl 176 1 0 n (n + c_2)))))))∧((((0 + n) : Nat) = n)∧((((n + c_2) : Nat) ≤ (0 + n + c_1))∧(∀ i : Nat,(((i : Nat) < n)→([(SV.v (.int .u8 (SE.byteOf [SV.v (.int .u8 (g (o + (i - 0))))])))] = [(SV.v (.int .u8 (shG o g i)))]))))))))))))):=by kernel_rfl
def sRNew (args : List SV) (bs : List Blk) : Option Eff := match args, bs with
  | [], [] => some (.det none (.vp 1000 0) [(1000, rfB true false true nilS)])
  | _, _ => none
theorem vcRNew (q : Option Prop) : (vcFn Try.prog noCtrs noΛ Try.f6 [] (heapOf []) 64 (fun y h' => FinE [] (.det q (.vp 1000 0) [(1000,rfB true false true nilS)]) y h')) = (((SV.vp 80 0) = (SV.vp 80 0))∧(((1 : Nat) = 1)∧(((1 : Nat) ≤ 1)∧(∀ i : Nat,(((i : Nat) < 1)→([(SV.v (.bool true)),zF,zS] = [(SV.v (.bool true)),zF,zS])))))):=by kernel_rfl
def sSameNil (args : List SV) (bs : List Blk) : Option Eff := match args, bs with
  | [.v (.slice none 0 0), .v (.slice none 0 0)], [] => some (.det none (bV true) [])
  | _, _ => none
noncomputable def ΛSmN : Nat → Option LoopSpec := addLoop noΛ Try.f11 0 Nat (fun i => i = 0) (fun i => 0) [(5, fun i => .v (.int .i64 i))] []
theorem vcSameNil (q : Option Prop) : (vcFn Try.prog noCtrs ΛSmN Try.f11 [nilS,nilS] (heapOf []) 64 (fun y h' => FinE [] (.det q (bV true) []) y h')) = ((∃ x : Nat,(((x : Nat) = 0)∧((zI = (SV.v (.int .i64 ((↑x : Int)))))∧True)))∧(∀ x : Nat,(((x : Nat) = 0)→(((SV.v (.bool true)) = (SV.v (.bool true)))∧True)))):=by kernel_rfl
def orHp (s1 s2 : List SV → List Blk → Option Eff) : List SV → List Blk → Option Eff := fun a b => match s1 a b with
  | some e => some e
  | none => s2 a b
theorem badF_t {G : Nat → Int} {T : Nat} (h : badF G T = true) : errAt G T (kOf G T) ≠ 0 := fun e => by
  unfold badF at h
  rw [e] at h
  cases h
theorem badF_f {G : Nat → Int} {T : Nat} (h : badF G T = false) : errAt G T (kOf G T) = 0 := by
  unfold badF at h
  rw [Bool.not_eq_false', beq_iff_eq] at h
  exact h
theorem rowB_sm {D : Blk} {m : Nat} (h : dOk D = true) (hr : rowsOk m D) : BlkSame D (rowB D.elem m D.row D.ext D.whole) := by
  have := rowB_same h
  rw [hr.1] at this
  exact this
theorem GiveW_spec : HpSpec Try.prog 9 sGiveW := hp_spec hm ΓO0_ok Try.func9 (Λ := ΛGiveA) fun args bs e hs hp => by
  unfold sGiveW at hs
  split at hs <;> try (cases hs; done)
  rename_i m cb
  split at hs <;> try (cases hs; done)
  rename_i B H D
  split at hs <;> try (cases hs; done)
  rename_i br o n c N g e0 p hw
  obtain ⟨hd, he⟩ := bif_some' hs
  have he := Option.some.inj he
  subst he
  cases br with
  | true =>
    obtain ⟨h1, hpp⟩ : rowsOk m D ∧ p := hp _ rfl
    obtain ⟨hF, hN⟩ := fdOf_p hw hpp
    refine ⟨[fdB true true false (.sl 1 1 o n c), bG N g e0, rowB D.elem m D.row D.ext D.whole], ⟨hF.1, hF.2.1, rowB_sm hd h1, trivial⟩, ?_⟩
    unfold ΛGiveA
    simp only [hw]
    show vcFn _ _ _ _ _ _ 64 (fun y h' => FinE _ (.det (some (rowsOk m D ∧ p)) (.tup [nilS, iV 12]) [(0, fdB true true false (.sl 1 1 o n c)), (1, bG N g e0)]) y h')
    exact Eq.mpr (vcGvBu _ o n c N e0 D.elem m cb D.ext g D.row D.whole) ⟨⟨rfl, rfl, hN, fun _ _ => trivial⟩, ⟨rfl, rfl⟩, ⟨rfl, Nat.le_refl _, rfl, rfl, rfl⟩, rfl, Nat.le_refl _, fun _ _ => rfl⟩
  | false =>
    cases hb : badF (jnG n o g (fun i => SE.byteOf (D.row i))) (n + m) with
    | true =>
      have hp' : Eff.asks (.alt (badF (jnG n o g (fun i => SE.byteOf (D.row i))) (n + m)) (geBad ((rowsOk m D ∧ p ∧ o + c ≤ e0) ∧ gvP (jnG n o g (fun i => SE.byteOf (D.row i))) (n + m)) [(1, killed (bG N g e0))] (jnG n o g (fun i => SE.byteOf (D.row i))) (n + m)) (geOk ((rowsOk m D ∧ p ∧ o + c ≤ e0) ∧ gvP (jnG n o g (fun i => SE.byteOf (D.row i))) (n + m)) [(1, killed (bG N g e0))] (jnG n o g (fun i => SE.byteOf (D.row i))) (n + m))) := hp
      rw [hb] at hp'
      obtain ⟨⟨h1, hpp, hoc⟩, h2⟩ : (rowsOk m D ∧ p ∧ o + c ≤ e0) ∧ gvP (jnG n o g (fun i => SE.byteOf (D.row i))) (n + m) := hp'
      obtain ⟨hF, hN⟩ := fdOf_p hw hpp
      refine ⟨[fdB true false false (.sl 1 1 o n c), bG N g e0, byB D.elem m (fun i => SE.byteOf (D.row i)) D.ext D.whole], ⟨hF.1, hF.2.1, byB_same hd h1, trivial⟩, ?_⟩
      unfold ΛGiveA giveW
      simp only [hw]
      rw [hb]
      exact give_Ub True _ _ _ _ _ _ _ _ _ _ _ _ hN hoc h2 (badF_t hb)
    | false =>
      have hp' : Eff.asks (.alt (badF (jnG n o g (fun i => SE.byteOf (D.row i))) (n + m)) (geBad ((rowsOk m D ∧ p ∧ o + c ≤ e0) ∧ gvP (jnG n o g (fun i => SE.byteOf (D.row i))) (n + m)) [(1, killed (bG N g e0))] (jnG n o g (fun i => SE.byteOf (D.row i))) (n + m)) (geOk ((rowsOk m D ∧ p ∧ o + c ≤ e0) ∧ gvP (jnG n o g (fun i => SE.byteOf (D.row i))) (n + m)) [(1, killed (bG N g e0))] (jnG n o g (fun i => SE.byteOf (D.row i))) (n + m))) := hp
      rw [hb] at hp'
      obtain ⟨⟨h1, hpp, hoc⟩, h2⟩ : (rowsOk m D ∧ p ∧ o + c ≤ e0) ∧ gvP (jnG n o g (fun i => SE.byteOf (D.row i))) (n + m) := hp'
      obtain ⟨hF, hN⟩ := fdOf_p hw hpp
      refine ⟨[fdB true false false (.sl 1 1 o n c), bG N g e0, byB D.elem m (fun i => SE.byteOf (D.row i)) D.ext D.whole], ⟨hF.1, hF.2.1, byB_same hd h1, trivial⟩, ?_⟩
      unfold ΛGiveA giveW
      simp only [hw]
      rw [hb]
      exact give_U True _ _ _ _ _ _ _ _ _ _ _ _ hN hoc h2 (badF_f hb)
noncomputable def ΛRGvA (args : List SV) (bs : List Blk) : Nat → Option LoopSpec := match args with
  | [.vp 0 0, .sl 2 1 0 m _] => match bs with
    | [B, H, D] => match rfOf [B, H] with
      | some (.used true false o n c N g e p) => ΛRGv (jnG n 0 g (fun i => SE.byteOf (D.row i))) n m
      | _ => noΛ
    | _ => noΛ
  | _ => noΛ
theorem rfOf_p {bs : List Blk} {m br : Bool} {o n c N : Nat} {g : Nat → Int} {e : Nat} {p : Prop} (h : rfOf bs = some (.used m br o n c N g e p)) (hp : p) : blksSame bs [rfB m br false (.sl 1 1 o n c), bG N g e] ∧ N < 70368744177664 := ⟨rfOf_same h hp, rfOf_lt h hp⟩
theorem GiveR_spec : HpSpec Try.prog 10 sGiveR := hp_spec hm ΓRG_ok Try.func10 (Λ := ΛRGvA) fun args bs e hs hp => by
  unfold sGiveR at hs
  split at hs <;> try (cases hs; done)
  rename_i m cb
  split at hs <;> try (cases hs; done)
  rename_i B H D
  split at hs <;> try (cases hs; done)
  rename_i br o n c N g e0 p hw
  obtain ⟨hd, he⟩ := bif_some' hs
  have he := Option.some.inj he
  subst he
  cases br with
  | true =>
    obtain ⟨h1, hpp⟩ : rowsOk m D ∧ p := hp _ rfl
    obtain ⟨hF, hN⟩ := rfOf_p hw hpp
    refine ⟨[rfB true true false (.sl 1 1 o n c), bG N g e0, rowB D.elem m D.row D.ext D.whole], ⟨hF.1, hF.2.1, rowB_sm hd h1, trivial⟩, ?_⟩
    unfold ΛRGvA
    simp only [hw]
    show vcFn _ _ _ _ _ _ 64 (fun y h' => FinE _ (.det (some (rowsOk m D ∧ p)) (.tup [nilS, iV 12]) [(0, rfB true true false (.sl 1 1 o n c)), (1, bG N g e0)]) y h')
    exact Eq.mpr (vcRGvBr _ o n c N e0 D.elem m cb D.ext g D.row D.whole) ⟨⟨rfl, rfl, hN, fun _ _ => trivial⟩, ⟨rfl, rfl⟩, ⟨rfl, Nat.le_refl _, rfl, rfl, rfl⟩, rfl, Nat.le_refl _, fun _ _ => rfl⟩
  | false =>
    have hp' : Eff.asks (.alt (badF (jnG n 0 g (fun i => SE.byteOf (D.row i))) (n + m)) (rgBad ((rowsOk m D ∧ p ∧ (o = 0 ∧ N = n) ∧ n ≤ c ∧ c ≤ e0) ∧ gvP (jnG n 0 g (fun i => SE.byteOf (D.row i))) (n + m) ∧ atK (jnG n 0 g (fun i => SE.byteOf (D.row i))) n 0) [(1, killed (bG N g e0))] (jnG n 0 g (fun i => SE.byteOf (D.row i))) (n + m)) (rgOk ((rowsOk m D ∧ p ∧ (o = 0 ∧ N = n) ∧ n ≤ c ∧ c ≤ e0) ∧ gvP (jnG n 0 g (fun i => SE.byteOf (D.row i))) (n + m) ∧ atK (jnG n 0 g (fun i => SE.byteOf (D.row i))) n 0) [(1, killed (bG N g e0))] (jnG n 0 g (fun i => SE.byteOf (D.row i))) (n + m))) := hp
    cases hb : badF (jnG n 0 g (fun i => SE.byteOf (D.row i))) (n + m) with
    | true =>
      rw [hb] at hp'
      obtain ⟨⟨h1, hpp, ⟨rfl, rfl⟩, hc⟩, h2, h3⟩ : (rowsOk m D ∧ p ∧ (o = 0 ∧ N = n) ∧ n ≤ c ∧ c ≤ e0) ∧ gvP (jnG n 0 g (fun i => SE.byteOf (D.row i))) (n + m) ∧ atK (jnG n 0 g (fun i => SE.byteOf (D.row i))) n 0 := hp'
      obtain ⟨hF, hN⟩ := rfOf_p hw hpp
      refine ⟨[rfB true false false (.sl 1 1 0 N c), bG N g e0, byB D.elem m (fun i => SE.byteOf (D.row i)) D.ext D.whole], ⟨hF.1, hF.2.1, byB_same hd h1, trivial⟩, ?_⟩
      unfold ΛRGvA giveR
      simp only [hw]
      rw [hb]
      exact rg_Ub True _ _ _ _ _ _ _ _ _ _ hN hc h2 h3 (badF_t hb)
    | false =>
      rw [hb] at hp'
      obtain ⟨⟨h1, hpp, ⟨rfl, rfl⟩, hc⟩, h2, h3⟩ : (rowsOk m D ∧ p ∧ (o = 0 ∧ N = n) ∧ n ≤ c ∧ c ≤ e0) ∧ gvP (jnG n 0 g (fun i => SE.byteOf (D.row i))) (n + m) ∧ atK (jnG n 0 g (fun i => SE.byteOf (D.row i))) n 0 := hp'
      obtain ⟨hF, hN⟩ := rfOf_p hw hpp
      refine ⟨[rfB true false false (.sl 1 1 0 N c), bG N g e0, byB D.elem m (fun i => SE.byteOf (D.row i)) D.ext D.whole], ⟨hF.1, hF.2.1, byB_same hd h1, trivial⟩, ?_⟩
      unfold ΛRGvA giveR
      simp only [hw]
      rw [hb]
      exact rg_U True _ _ _ _ _ _ _ _ _ _ hN hc h2 h3 (badF_f hb)
theorem CpyW_spec : HpSpec Try.prog 8 sCpyW := hp_spec hm ΓN0_ok Try.func8 (Λ := fun _ _ => ΛCpyW) fun args bs e hs hp => by
  unfold sCpyW at hs
  split at hs <;> try (cases hs; done)
  split at hs <;> try (cases hs; done)
  rename_i br o n c N g e0 p hw
  have he := Option.some.inj hs
  subst he
  obtain ⟨hpp, hon, hn⟩ : p ∧ o + n ≤ N ∧ n ≤ 1099511627776 := hp
  obtain ⟨hF, hN⟩ := fdOf_p hw hpp
  refine ⟨[fdB true br false (.sl 1 1 o n c), bG N g e0], hF, Eq.mpr (vcCpyW _ br o n c N g e0) ⟨⟨rfl, rfl, hN, fun _ _ => trivial⟩, by omega, fun c1 => ⟨c1, rfl, ⟨rfl, Nat.le_refl _, rfl, rfl, rfl⟩, ⟨rfl, Nat.le_refl _, fun _ _ => rfl⟩, ⟨rfl, Nat.le_refl _, rfl, rfl, rfl⟩, rfl, Nat.le_refl _, fun _ _ => rfl⟩⟩⟩
theorem CpyR_spec : HpSpec Try.prog 7 sCpyR := hp_spec hm ΓRf0_ok Try.func7 (Λ := fun _ _ => ΛCpyR) fun args bs e hs hp => by
  unfold sCpyR at hs
  split at hs <;> try (cases hs; done)
  split at hs <;> try (cases hs; done)
  rename_i br o n c N g e0 p hw
  have he := Option.some.inj hs
  subst he
  obtain ⟨hpp, hon, hn⟩ : p ∧ o + n ≤ N ∧ n ≤ 1099511627776 := hp
  obtain ⟨hF, hN⟩ := rfOf_p hw hpp
  refine ⟨[rfB true br false (.sl 1 1 o n c), bG N g e0], hF, ?_⟩
  rw [vcCpyR, Nat.zero_add]
  exact ⟨⟨rfl, rfl, hN, fun _ _ => trivial⟩, ⟨by omega, Nat.le_refl _, fun _ _ => trivial⟩, fun c1 => ⟨c1, rfl, ⟨rfl, Nat.le_refl _, rfl, rfl, rfl⟩, ⟨rfl, Nat.le_refl _, fun _ _ => rfl⟩, ⟨rfl, Nat.le_refl _, rfl, rfl, rfl⟩, rfl, Nat.le_refl _, fun _ _ => rfl⟩⟩
theorem RNew_spec : HpSpec Try.prog 6 sRNew := hp_spec hm noCtrs_ok Try.func6 (Λ := fun _ _ => noΛ) fun args bs e hs hp => by
  unfold sRNew at hs
  split at hs <;> try (cases hs; done)
  have he := Option.some.inj hs
  subst he
  exact ⟨[], trivial, Eq.mpr (vcRNew _) ⟨rfl, rfl, Nat.le_refl _, fun _ _ => rfl⟩⟩
theorem SameNil_spec : HpSpec Try.prog 11 sSameNil := hp_spec hm noCtrs_ok Try.func11 (Λ := fun _ _ => ΛSmN) fun args bs e hs hp => by
  unfold sSameNil at hs
  split at hs <;> try (cases hs; done)
  have he := Option.some.inj hs
  subst he
  exact ⟨[], trivial, Eq.mpr (vcSameNil _) ⟨⟨0, rfl, rfl, trivial⟩, fun _ _ => ⟨rfl, trivial⟩⟩⟩
theorem hp_orE {P : Program} {f : FuncId} {s1 s2 : List SV → List Blk → Option Eff} (h1 : HpSpec P f s1) (h2 : HpSpec P f s2) : HpSpec P f (orHp s1 s2) := fun args bs e hs => by
  unfold orHp at hs
  cases h : s1 args bs with
  | some px =>
    rw [h] at hs
    exact h1 args bs e (by rw [h]; exact hs)
  | none =>
    rw [h] at hs
    exact h2 args bs e hs
theorem Same2_spec : HpSpec Try.prog 11 (orHp sSameNil (roSpec sSameStr)) := hp_orE SameNil_spec SameStr_spec
end Go.Proofs.Ythjaamckmadngaa
end
section
namespace Go.Proofs.Ythjaamckmadngaa
open Go.SE Go.RowKit
theorem kFrom_spec {G : Nat → Int} {T : Nat} : ∀ f i, (∀ j, j < i → frOk G T j = true) → T + 1 ≤ i + f → (∀ j, j < kFrom G T f i → frOk G T j = true) ∧ frOk G T (kFrom G T f i) = false
  | 0, i, h, hf => by
    refine ⟨h, ?_⟩
    show frOk G T i = false
    cases hk : frOk G T i with
    | false => rfl
    | true =>
      have h1 := (frOk_iff.1 hk).2.2
      have h2 := le_oAt G (i + 1)
      omega
  | f + 1, i, h, hf => by
    unfold kFrom
    cases hk : frOk G T i with
    | false => exact ⟨h, hk⟩
    | true =>
      rw [cond_true]
      refine kFrom_spec f (i + 1) (fun j hj => ?_) (by omega)
      by_cases hji : j = i
      · rw [hji]; exact hk
      · exact h j (by omega)
theorem kOf_spec (G : Nat → Int) (T : Nat) : (∀ j, j < kOf G T → frOk G T j = true) ∧ frOk G T (kOf G T) = false := kFrom_spec (T + 1) 0 (fun j hj => absurd hj (Nat.not_lt_zero _)) (by omega)
theorem kOf_at {G : Nat → Int} {T : Nat} (h : errAt G T (kOf G T) = 0) : atK G T (kOf G T) := ⟨(kOf_spec G T).1, h, (kOf_spec G T).2⟩
theorem numAt_sh (G : Nat → Int) (o : Nat) : numAt (shG o G) 0 = numAt G o := by
  unfold numAt shG
  rw [Nat.add_zero, Nat.zero_add, Nat.zero_add, Nat.zero_add]
theorem numAt_cg {G G' : Nat → Int} (h : ∀ y, y < 4 → G y = G' y) : numAt G 0 = numAt G' 0 := by
  unfold numAt
  rw [h 0 (by omega), Nat.zero_add, Nat.zero_add, Nat.zero_add, h 1 (by omega), h 2 (by omega), h 3 (by omega)]
theorem at0_iff {G : Nat → Int} {n : Nat} : atK G n 0 ↔ (n < 4 ∨ (1 ≤ numAt G 0 ∧ numAt G 0 ≤ 2048 ∧ n < 4 + numAt G 0)) := by
  have e1 : oAt G 1 = 0 + 4 + numAt G 0 := rfl
  have e0 : oAt G 0 = 0 := rfl
  constructor
  · rintro ⟨_, h2, h3⟩
    by_cases h4 : n < 4
    · exact Or.inl h4
    · right
      have hz : numAt G (oAt G 0) ≠ 0 := fun hz => by rw [err_zero (by rw [e0]; omega) hz] at h2; cases h2
      have hb : ¬ 2048 < numAt G (oAt G 0) := fun hb => by rw [err_big (by rw [e0]; omega) hb] at h2; cases h2
      rw [e0] at hz hb
      refine ⟨by omega, by omega, Nat.lt_of_not_le fun hh => ?_⟩
      have : frOk G n 0 = true := frOk_iff.2 ⟨by rw [e0]; omega, by rw [e0]; omega, by rw [e1]; omega⟩
      rw [h3] at this
      cases this
  · intro h
    refine ⟨fun j hj => absurd hj (Nat.not_lt_zero _), ?_, frOk_no fun hh => ?_⟩
    · rcases h with h | ⟨h1, h2, h3⟩
      · exact err_none (by rw [e0]; omega)
      · by_cases h4 : n < 4
        · exact err_none (by rw [e0]; omega)
        · exact err_part (by rw [e0]; omega) (by rw [e0]; omega) (by rw [e0]; omega)
    · obtain ⟨a1, a2, a3⟩ := hh
      rw [e0] at a1 a2
      rw [e1] at a3
      omega
theorem at0_cg {G G' : Nat → Int} {n : Nat} (h : ∀ y, y < n → G y = G' y) (ha : atK G n 0) : atK G' n 0 := by
  rw [at0_iff] at ha ⊢
  by_cases h4 : n < 4
  · exact Or.inl h4
  · rw [← numAt_cg (G := G) fun y hy => h y (by omega)]
    exact ha
theorem at0_sh {G : Nat → Int} {T k : Nat} (ha : atK G T k) (ho : oAt G k ≤ T) : atK (shG (oAt G k) G) (T - oAt G k) 0 := by
  rw [at0_iff, numAt_sh]
  obtain ⟨_, h2, h3⟩ := ha
  by_cases h4 : T < oAt G k + 4
  · exact Or.inl (by omega)
  · right
    have hz : numAt G (oAt G k) ≠ 0 := fun hz => by rw [err_zero (by omega) hz] at h2; cases h2
    have hb : ¬ 2048 < numAt G (oAt G k) := fun hb => by rw [err_big (by omega) hb] at h2; cases h2
    refine ⟨by omega, by omega, Nat.lt_of_not_le fun hh => ?_⟩
    have : frOk G T k = true := frOk_iff.2 ⟨by omega, by omega, by rw [oAt_s]; omega⟩
    rw [h3] at this
    cases this
theorem jn_sh (n o : Nat) (g h : Nat → Int) : jnG n 0 (shG o g) h = jnG n o g h := funext fun y => by
  unfold jnG shG
  rw [Nat.zero_add]
theorem jn_at {n : Nat} {g h : Nat → Int} (ha : atK g n 0) : atK (jnG n 0 g h) n 0 := at0_cg (fun y hy => (jn_l hy).symm) ha
def bytesIn (n : Nat) (g : Nat → Int) : Prop := ∀ y, y < n → 0 ≤ g y ∧ g y < 256
theorem jn_in {n m : Nat} {g h : Nat → Int} (hg : bytesIn n g) (hh : bytesIn m h) : bytesIn (n + m) (jnG n 0 g h) := fun y hy => by
  by_cases hl : y < n
  · rw [jn_l hl]; exact hg y hl
  · have e := jn_r (n := n) (g := g) (h := h) (y - n)
    rw [show n + (y - n) = y by omega] at e
    rw [e]; exact hh _ (by omega)
theorem next_ok {n m : Nat} {G : Nat → Int} (hb : bytesIn (n + m) G) (he : errAt G (n + m) (kOf G (n + m)) = 0) : oAt G (kOf G (n + m)) ≤ n + m ∧ atK (shG (oAt G (kOf G (n + m))) G) (n + m - oAt G (kOf G (n + m))) 0 ∧ bytesIn (n + m - oAt G (kOf G (n + m))) (shG (oAt G (kOf G (n + m))) G) := by
  have ho := oAt_le (kOf_spec G (n + m)).1
  exact ⟨ho, at0_sh (kOf_at he) ho, fun y hy => hb _ (by omega)⟩
end Go.Proofs.Ythjaamckmadngaa
end
section
namespace Go.Proofs.Ythjaamckmadngaa
open Go.SE Go.RowKit
theorem live_re {δ' δ'' : Dict} {w : World} {p : SE.Loc} {b b' : Blk} (h : Live δ' b w p) (es : b'.size = b.size) (en : b'.n = b.n) (ee : b'.ext = b.ext) (erw : b'.rw = b.rw) (eel : b'.elem = b.elem) (ew : b'.whole = b.whole)
    (hf : b'.flat = true → ∀ i, i < b'.n → namelessL (b'.row i) = true) (hrow : ∀ i, i < b.n → (b'.row i).length = (b.row i).length ∧ ∀ (j : Nat) x', (b'.row i)[j]? = some x' → ∃ x, (b.row i)[j]? = some x ∧ ∀ v, absV δ' x v → absV δ'' x' v) : Live δ'' b' w p := by
  obtain ⟨h1, h2, h3, h4⟩ := h
  refine ⟨h1.trans es.symm, h2.trans en.symm, fun hn => by rw [en, ee]; exact h3 hn, fun hn => ?_⟩
  obtain ⟨c, e', fz, a1, a2, a3, a4, a5, a6, a7⟩ := h4 hn
  refine ⟨c, e', fz, a1, by rw [erw]; exact a2, hf, by rw [eel]; exact a4, by rw [ee, es]; exact a5, by rw [ew, es, erw]; exact a6, fun i hi => ?_⟩
  rw [en] at hi
  obtain ⟨r1, r2⟩ := a7 i hi
  obtain ⟨q1, q2⟩ := hrow i hi
  refine ⟨by rw [es, q1]; exact r1, fun j x' hx' => ?_⟩
  obtain ⟨x, hx, hv⟩ := q2 j x' hx'
  obtain ⟨v, g1, g2⟩ := r2 j x hx
  exact ⟨v, by rw [es]; exact g1, hv v g2⟩
theorem hrep_re {δ' δ'' : Dict} {h' h'' : Heap} {w : World} (hr : HRep δ' h' w) (ρ : Nat → Nat) (hb : ∀ k b, h'' k = some b → ∃ p, δ'' k = some p ∧ (b.dead = false → Live δ'' b w p))
    (hre : ∀ k b p, h'' k = some b → b.dead = false → δ'' k = some p → p.no = false → ∃ b', h' (ρ k) = some b' ∧ b'.dead = false ∧ δ' (ρ k) = some p ∧ b'.rw = b.rw)
    (hi : ∀ k k' b b' p p', h'' k = some b → h'' k' = some b' → b.dead = false → b'.dead = false → δ'' k = some p → δ'' k' = some p' → p.no = false → p'.no = false → ρ k = ρ k' → k = k') : HRep δ'' h'' w := by
  refine ⟨hb, fun k k' r b l1 l2 hk hrw => ?_⟩
  obtain ⟨b1, p1, e1, e2, e3, e4, e5⟩ := l1
  obtain ⟨b2, p2, f1, f2, f3, f4, f5⟩ := l2
  obtain ⟨c1, g1, g2, g3, g4⟩ := hre k b1 p1 e1 e2 e3 e4
  obtain ⟨c2, i1, i2, i3, i4⟩ := hre k' b2 p2 f1 f2 f3 f4
  rw [e1] at hk
  cases hk
  exact hi k k' _ _ _ _ e1 f1 e2 f2 e3 f3 e4 f4 (hr.inj (ρ k) (ρ k') r c1 ⟨c1, p1, g1, g2, g3, e4, e5⟩ ⟨c2, p2, i1, i2, i3, f4, f5⟩ g1 (g4.trans hrw))
theorem bT {a b : Nat} (h : Nat.beq a b = true) : a = b := Nat.eq_of_beq_eq_true h
theorem upd_gen {δ δ' : Dict} {w w' : World} {B H D F F' b0 b1 : Blk} {u : List (Nat × Blk)} {l0 l1 : SE.Loc} {K : Blk} (hr : HRep δ (heapOf [B, H, D]) w) (ht : ∀ k, heapOf [B, H, D] k = none → δ k = none) (hu : Upd δ (heapOf [B, H, D]) w δ' u w')
    (hF : happ (heapOf [B, H, D]) u 0 = some F ∧ F.dead = false ∧ F'.dead = false ∧ F'.rw = F.rw) (hD : happ (heapOf [B, H, D]) u 2 = some D) (hDf : D.flat = true) (hDd : D.dead = false) (hK : K.dead = true) (hd0 : b0.dead = false) (hd1 : b1.dead = false)
    (k0 k1 : Nat) (h0 : l0.no = false → (w.heap.size ≤ l0.r ∨ rwOf δ (heapOf [B, H, D]) l0.r) ∧ (k0 ≠ 0 ∧ k0 ≠ 2) ∧ ∃ bb, happ (heapOf [B, H, D]) u k0 = some bb ∧ bb.dead = false ∧ δ' k0 = some l0 ∧ bb.rw = b0.rw)
    (h1 : l1.no = false → (w.heap.size ≤ l1.r ∨ rwOf δ (heapOf [B, H, D]) l1.r) ∧ (k1 ≠ 0 ∧ k1 ≠ 2) ∧ ∃ bb, happ (heapOf [B, H, D]) u k1 = some bb ∧ bb.dead = false ∧ δ' k1 = some l1 ∧ bb.rw = b1.rw) (h01 : l0.no = false → l1.no = false → k0 ≠ k1)
    (hl : ∀ δ'' : Dict, δ'' 1000 = some l0 → δ'' 1001 = some l1 → (∀ p, δ 0 = some p → Live δ'' F' w' p) ∧ Live δ'' b0 w' l0 ∧ Live δ'' b1 w' l1) :
    ∃ δ'' : Dict, δ'' 1000 = some l0 ∧ δ'' 1001 = some l1 ∧ Upd δ (heapOf [B, H, D]) w δ'' [(0, F'), (1, K), (1000, b0), (1001, b1)] w' := by
  let δ'' : Dict := fun k => bif Nat.beq k 1001 then some l1 else bif Nat.beq k 1000 then some l0 else δ k
  have d0 : δ'' 1000 = some l0 := rfl
  have d1 : δ'' 1001 = some l1 := rfl
  have dk : ∀ k, k ≠ 1001 → k ≠ 1000 → δ'' k = δ k := fun k a b => by
    show (bif Nat.beq k 1001 then some l1 else bif Nat.beq k 1000 then some l0 else δ k) = _
    rw [beq_false a, beq_false b]
    rfl
  obtain ⟨q0, q1, q2⟩ := hl δ'' d0 d1
  have hn : ∀ k, δ k ≠ none → k = 0 ∨ k = 1 ∨ k = 2 := fun k hk => by
    cases hh : heapOf [B, H, D] k with
    | none => exact absurd (ht k hh) hk
    | some b => match k, hh with
      | 0, _ => exact Or.inl rfl
      | 1, _ => exact Or.inr (Or.inl rfl)
      | 2, _ => exact Or.inr (Or.inr rfl)
      | _ + 3, hh => simp [heapOf] at hh
  have look : ∀ k b, happ (heapOf [B, H, D]) [(0, F'), (1, K), (1000, b0), (1001, b1)] k = some b → (k = 0 ∧ b = F') ∨ (k = 1 ∧ b = K) ∨ (k = 2 ∧ b = D) ∨ (k = 1000 ∧ b = b0) ∨ (k = 1001 ∧ b = b1) := fun k b hk => by
    simp only [happ, hset] at hk
    cases e1 : Nat.beq k 1001 with
    | true => rw [e1] at hk; exact Or.inr (Or.inr (Or.inr (Or.inr ⟨bT e1, (Option.some.inj hk).symm⟩)))
    | false =>
    rw [e1, cond_false] at hk
    cases e2 : Nat.beq k 1000 with
    | true => rw [e2] at hk; exact Or.inr (Or.inr (Or.inr (Or.inl ⟨bT e2, (Option.some.inj hk).symm⟩)))
    | false =>
    rw [e2, cond_false] at hk
    cases e3 : Nat.beq k 1 with
    | true => rw [e3] at hk; exact Or.inr (Or.inl ⟨bT e3, (Option.some.inj hk).symm⟩)
    | false =>
    rw [e3, cond_false] at hk
    cases e4 : Nat.beq k 0 with
    | true => rw [e4] at hk; exact Or.inl ⟨bT e4, (Option.some.inj hk).symm⟩
    | false =>
    rw [e4, cond_false] at hk
    match k, hk, e3, e4 with
    | 2, hk, _, _ => exact Or.inr (Or.inr (Or.inl ⟨rfl, (Option.some.inj hk).symm⟩))
    | _ + 3, hk, _, _ => simp [heapOf] at hk
  obtain ⟨p0, hp0, _⟩ := hr.blk 0 B rfl
  obtain ⟨p1, hp1, _⟩ := hr.blk 1 H rfl
  obtain ⟨p2, hp2, _⟩ := hr.blk 2 D rfl
  have hp0' := hu.le 0 p0 hp0
  have hp2' := hu.le 2 p2 hp2
  refine ⟨δ'', d0, d1, ?_, hrep_re hu.rep (fun k => bif Nat.beq k 1000 then k0 else bif Nat.beq k 1001 then k1 else k) (fun k b hk => ?_) (fun k b p hk hd hp hno => ?_) (fun k k' b b' p p' hk hk' hd hd' hp hp' hno hno' he => ?_), fun k hk hk' => ?_, fun k p hk hp hno => ?_, hu.wrel⟩
  · intro k p hk
    rcases hn k (by rw [hk]; intro hh; cases hh) with rfl | rfl | rfl <;> exact hk
  · rcases look k b hk with ⟨rfl, rfl⟩ | ⟨rfl, rfl⟩ | ⟨rfl, rfl⟩ | ⟨rfl, rfl⟩ | ⟨rfl, rfl⟩
    · exact ⟨p0, hp0, fun _ => q0 p0 hp0⟩
    · exact ⟨p1, hp1, fun hh => by rw [hK] at hh; cases hh⟩
    · refine ⟨p2, hp2, fun _ => ?_⟩
      obtain ⟨pp, e1, e2⟩ := hu.rep.blk 2 b hD
      rw [hp2'] at e1
      cases e1
      have hL := e2 hDd
      refine live_re hL rfl rfl rfl rfl rfl rfl (fun hf i hi => ?_) fun i hi => ⟨rfl, fun j x' hx' => ⟨x', hx', fun v hv => ?_⟩⟩
      · cases hno : p2.no with
        | false =>
          obtain ⟨c, e', fz, a1, a2, a3, _⟩ := hL.rep hno
          exact a3 hf i hi
        | true => have := (hL.no hno).1; omega
      · cases hno : p2.no with
        | false =>
          obtain ⟨c, e', fz, a1, a2, a3, _⟩ := hL.rep hno
          exact absV_nameless _ _ (namelessL_mem (a3 hDf i hi) _ (List.mem_of_getElem? hx')) hv
        | true => have := (hL.no hno).1; omega
    · exact ⟨l0, d0, fun _ => q1⟩
    · exact ⟨l1, d1, fun _ => q2⟩
  · rcases look k b hk with ⟨rfl, rfl⟩ | ⟨rfl, rfl⟩ | ⟨rfl, rfl⟩ | ⟨rfl, rfl⟩ | ⟨rfl, rfl⟩
    · obtain rfl : p0 = p := Option.some.inj (hp0.symm.trans hp)
      exact ⟨F, hF.1, hF.2.1, hp0', hF.2.2.2.symm⟩
    · rw [hK] at hd; cases hd
    · obtain rfl : p2 = p := Option.some.inj (hp2.symm.trans hp)
      exact ⟨b, hD, hDd, hp2', rfl⟩
    · obtain rfl : l0 = p := Option.some.inj (d0.symm.trans hp)
      obtain ⟨_, _, bb, g1, g2, g3, g4⟩ := h0 hno
      exact ⟨bb, g1, g2, g3, g4⟩
    · obtain rfl : l1 = p := Option.some.inj (d1.symm.trans hp)
      obtain ⟨_, _, bb, g1, g2, g3, g4⟩ := h1 hno
      exact ⟨bb, g1, g2, g3, g4⟩
  · have c0 : k = 1000 → k0 ≠ 0 ∧ k0 ≠ 2 := fun e => by subst e; cases (d0.symm.trans hp); exact (h0 hno).2.1
    have c1 : k = 1001 → k1 ≠ 0 ∧ k1 ≠ 2 := fun e => by subst e; cases (d1.symm.trans hp); exact (h1 hno).2.1
    have c0' : k' = 1000 → k0 ≠ 0 ∧ k0 ≠ 2 := fun e => by subst e; cases (d0.symm.trans hp'); exact (h0 hno').2.1
    have c1' : k' = 1001 → k1 ≠ 0 ∧ k1 ≠ 2 := fun e => by subst e; cases (d1.symm.trans hp'); exact (h1 hno').2.1
    have c2 : k = 1000 → k' = 1001 → k0 ≠ k1 := fun e e' => by subst e; subst e'; cases (d0.symm.trans hp); cases (d1.symm.trans hp'); exact h01 hno hno'
    have c3 : k = 1001 → k' = 1000 → k0 ≠ k1 := fun e e' => by subst e; subst e'; cases (d1.symm.trans hp); cases (d0.symm.trans hp'); exact h01 hno' hno
    rcases look k b hk with ⟨rfl, rfl⟩ | ⟨rfl, rfl⟩ | ⟨rfl, rfl⟩ | ⟨rfl, rfl⟩ | ⟨rfl, rfl⟩ <;> rcases look k' b' hk' with ⟨rfl, rfl⟩ | ⟨rfl, rfl⟩ | ⟨rfl, rfl⟩ | ⟨rfl, rfl⟩ | ⟨rfl, rfl⟩ <;> first
      | rfl
      | (rw [hK] at hd; cases hd; done)
      | (rw [hK] at hd'; cases hd'; done)
      | exact absurd (show 0 = 2 from he) (by decide)
      | exact absurd (show 2 = 0 from he) (by decide)
      | exact absurd (show 0 = k0 from he).symm (c0' rfl).1
      | exact absurd (show 0 = k1 from he).symm (c1' rfl).1
      | exact absurd (show 2 = k0 from he).symm (c0' rfl).2
      | exact absurd (show 2 = k1 from he).symm (c1' rfl).2
      | exact absurd (show k0 = 0 from he) (c0 rfl).1
      | exact absurd (show k0 = 2 from he) (c0 rfl).2
      | exact absurd (show k1 = 0 from he) (c1 rfl).1
      | exact absurd (show k1 = 2 from he) (c1 rfl).2
      | exact absurd (show k0 = k1 from he) (c2 rfl rfl)
      | exact absurd (show k1 = k0 from he).symm (c3 rfl rfl)
  · by_cases e1 : k = 1001
    · subst e1; rfl
    · by_cases e0 : k = 1000
      · subst e0; rfl
      · exact absurd (by rw [dk k e1 e0]; exact hk) hk'
  · by_cases e1 : k = 1001
    · subst e1
      obtain rfl : l1 = p := Option.some.inj (d1.symm.trans hp)
      exact (h1 hno).1
    · by_cases e0 : k = 1000
      · subst e0
        obtain rfl : l0 = p := Option.some.inj (d0.symm.trans hp)
        exact (h0 hno).1
      · rw [dk k e1 e0, hk] at hp; cases hp
end Go.Proofs.Ythjaamckmadngaa
end
section
namespace Go.Proofs.Ythjaamckmadngaa
open Go.SE Go.RowKit
structure GR where
  br : Bool
  err : Int
  k : Nat
  kc : Nat
  kd : Nat
  S : Nat → ByteArray
  o : Nat
  n : Nat
  c : Nat
  N : Nat
  e : Nat
  g : Nat → Int
structure GW (P : GR → Prop) where
  r : GR
  h : P r
theorem bG_live {δ' δ'' : Dict} {w : World} {p : SE.Loc} {n : Nat} {g : Nat → Int} {c : Nat} (h : Live δ' (bG n g c) w p) : Live δ'' (bG n g c) w p := live_re h rfl rfl rfl rfl rfl rfl (fun _ i _ => rfl) fun i _ => ⟨rfl, fun j x' hx' => ⟨x', hx', fun v hv => absV_nameless _ _ (namelessL_mem (show namelessL ((bG n g c).row i) = true from rfl) _ (List.mem_of_getElem? hx')) hv⟩⟩
theorem strB_live {δ' δ'' : Dict} {w : World} {p : SE.Loc} {n : Nat} {S : Nat → ByteArray} {c : Nat} (h : Live δ' (strB n S c) w p) : Live δ'' (strB n S c) w p := live_re h rfl rfl rfl rfl rfl rfl (fun _ i _ => rfl) fun i _ => ⟨rfl, fun j x' hx' => ⟨x', hx', fun v hv => absV_nameless _ _ (namelessL_mem (show namelessL ((strB n S c).row i) = true from rfl) _ (List.mem_of_getElem? hx')) hv⟩⟩
def noL : SE.Loc := ⟨0, 1, 0, 0, true⟩
theorem sl_re {δ' δ'' : Dict} {k k' s i n c : Nat} {v : Value} (e : δ' k = δ'' k') (h : absV δ' (.sl k s i n c) v) : absV δ'' (.sl k' s i n c) v := by
  simp only [absV] at h ⊢
  rw [← e]
  exact h
theorem sl_no {δ' δ'' : Dict} {k' : Nat} {v : Value} (e : δ'' k' = some noL) (h : absV δ' nilS v) : absV δ'' (.sl k' 1 0 0 0) v := by
  have h : v = .slice none 0 0 := h
  subst h
  simp only [absV]
  exact ⟨noL, e, rfl, Nat.le_refl _, .inr ⟨trivial, trivial, _, rfl⟩⟩
theorem tup_re {δ' δ'' : Dict} {x x' : SV} {a : Int} {r : Value} (h : absV δ' (.tup [x, iV a]) r) (hx : ∀ v, absV δ' x v → absV δ'' x' v) : absV δ'' (.tup [x', iV a]) r := by
  obtain ⟨xs, rfl, h⟩ : ∃ xs : List Value, r = .tuple xs.toArray ∧ absL δ' [x, iV a] xs := h
  match xs, h with
  | [v, v'], h =>
    have h : absV δ' x v ∧ absV δ' (iV a) v' ∧ True := h
    exact ⟨[v, v'], rfl, hx v h.1, h.2.1, trivial⟩
theorem fd_live {δ' δ'' : Dict} {w : World} {p : SE.Loc} {br fl : Bool} {a a' : SV} (h : Live δ' (fdB true br fl a) w p) (ha : ∀ v, absV δ' a v → absV δ'' a' v) : Live δ'' (fdB true br false a') w p := live_re h rfl rfl rfl rfl rfl rfl (fun hf => by cases hf) fun i _ => ⟨rfl, fun j x' hx' => match j, hx' with
  | 0, hx' => ⟨.v (.bool true), rfl, fun v hv => by cases hx'; exact hv⟩
  | 1, hx' => ⟨.v (.bool br), rfl, fun v hv => by cases hx'; exact hv⟩
  | 2, hx' => ⟨a, rfl, fun v hv => by cases hx'; exact ha v hv⟩
  | _ + 3, hx' => by cases hx'⟩
def gwRel (br : Bool) (o n c N : Nat) (g : Nat → Int) (e : Nat) (G : Nat → Int) (T : Nat) (r : GR) : Prop :=
  (br = true → r.br = true ∧ r.err = 12 ∧ r.k = 0 ∧ r.kc = 0 ∧ r.n = n ∧ r.c = c ∧ r.N = N ∧ r.e = e ∧ r.g = g ∧ r.o = o) ∧
  (br = false → badF G T = true → r.br = true ∧ r.err = errAt G T (kOf G T) ∧ r.k = kOf G T ∧ r.k ≤ r.kc ∧ r.S = frS G ∧ r.n = 0 ∧ r.c = 0 ∧ r.N = 0 ∧ r.e = 0 ∧ r.o = 0) ∧
  (br = false → badF G T = false → r.br = false ∧ r.err = 0 ∧ r.k = kOf G T ∧ r.k ≤ r.kc ∧ r.S = frS G ∧ r.n = T - oAt G (kOf G T) ∧ r.n ≤ r.c ∧ r.o + r.c ≤ r.e ∧ r.N = T ∧ r.g = G ∧ r.o = oAt G (kOf G T))
def gwR (br : Bool) (o n c N : Nat) (g : Nat → Int) (e : Nat) (G : Nat → Int) (T : Nat) (x : GC) (y : Nat) : GR := match br with
  | true => ⟨true, 12, 0, 0, 0, frS G, o, n, c, N, e, g⟩
  | false => match badF G T with
    | true => ⟨true, errAt G T (kOf G T), kOf G T, kOf G T + y, kOf G T + y, frS G, 0, 0, 0, 0, 0, g⟩
    | false => ⟨false, 0, kOf G T, kOf G T + x.d, kOf G T + x.d, frS G, oAt G (kOf G T), T - oAt G (kOf G T), T - oAt G (kOf G T) + x.a, T, T + x.a + x.b, G⟩
theorem gwR_rel (br : Bool) (o n c N : Nat) (g : Nat → Int) (e : Nat) (G : Nat → Int) (T : Nat) (x : GC) (y : Nat) : gwRel br o n c N g e G T (gwR br o n c N g e G T x y) := by
  have ho := oAt_le (kOf_spec G T).1
  unfold gwRel gwR
  cases br with
  | true => exact ⟨fun _ => ⟨rfl, rfl, rfl, rfl, rfl, rfl, rfl, rfl, rfl, rfl⟩, (fun h => by cases h), (fun h => by cases h)⟩
  | false =>
    cases hb : badF G T with
    | true => exact ⟨(fun h => by cases h), fun _ _ => ⟨rfl, rfl, rfl, Nat.le_add_right _ _, rfl, rfl, rfl, rfl, rfl, rfl⟩, (fun _ h => by cases h)⟩
    | false => exact ⟨(fun h => by cases h), (fun _ h => by cases h), fun _ _ => ⟨rfl, rfl, rfl, Nat.le_add_right _ _, rfl, rfl, Nat.le_add_right _ _, (by show oAt G (kOf G T) + (T - oAt G (kOf G T) + x.a) ≤ T + x.a + x.b; omega), rfl, rfl, rfl⟩⟩
def giveWU (q : Prop) (br : Bool) (o n c N : Nat) (g : Nat → Int) (e : Nat) (G : Nat → Int) (T : Nat) : Eff :=
  .nd q (GW (gwRel br o n c N g e G T)) ⟨gwR br o n c N g e G T ⟨0, 0, 0⟩ 0, gwR_rel ..⟩ (fun y => .tup [.sl 1001 1 0 y.r.k y.r.kc, iV y.r.err]) fun y => [(0, fdB true y.r.br false (.sl 1000 1 y.r.o y.r.n y.r.c)), (1, killed (bG N g e)), (1000, bG y.r.N y.r.g y.r.e), (1001, strB y.r.k y.r.S y.r.kd)]
def sGiveWU (args : List SV) (bs : List Blk) : Option Eff := match args with
  | [.vp 0 0, .sl 2 1 0 m _] => match bs with
    | [B, H, D] => match fdOf [B, H] with
      | some (.used true br o n c N g e p) => bif dOk D then some (giveWU ((((D.n = m ∧ ∀ i, i < m → isByte (D.row i)) ∧ p ∧ o + c ≤ e) ∧ gvP (jnG n o g (fun i => SE.byteOf (D.row i))) (n + m))) br o n c N g e (jnG n o g (fun i => SE.byteOf (D.row i))) (n + m)) else none
      | _ => none
    | _ => none
  | _ => none
theorem sGiveWU_spec : HpSpec Try.prog 9 sGiveWU := fun args bs e hs hp δ w vals ha hr ht hlen => by
  unfold sGiveWU at hs
  split at hs <;> try (cases hs; done)
  rename_i m cb
  split at hs <;> try (cases hs; done)
  rename_i B H D
  split at hs <;> try (cases hs; done)
  rename_i br o n c N g e0 p hw
  obtain ⟨hd, he⟩ := bif_some' hs
  have he := Option.some.inj he
  subst he
  have hp : (((D.n = m ∧ ∀ i, i < m → isByte (D.row i)) ∧ p ∧ o + c ≤ e0) ∧ gvP (jnG n o g (fun i => SE.byteOf (D.row i))) (n + m)) := hp
  obtain ⟨⟨hr0, hpp, hoc⟩, hg⟩ := hp
  have hF := (fdOf_p hw hpp).1
  have hHrw : H.rw = true := hF.2.1.rw
  have hHd : H.dead = false := hF.2.1.dead
  have hDf : D.flat = true ∧ D.dead = false := by
    simp only [dOk, Bool.and_eq_true, Bool.not_eq_true'] at hd
    exact ⟨hd.2, hd.1.2⟩
  generalize hG : (jnG n o g (fun i => SE.byteOf (D.row i))) = G at *
  have hs' : sGiveW [.vp 0 0, .sl 2 1 0 m cb] [B, H, D] = some (giveW br (D.n = m ∧ ∀ i, i < m → isByte (D.row i)) p o n c N g e0 m (fun i => SE.byteOf (D.row i))) := by
    unfold sGiveW
    simp only [hw]
    rw [hd]
    rfl
  have hask : (giveW br (D.n = m ∧ ∀ i, i < m → isByte (D.row i)) p o n c N g e0 m (fun i => SE.byteOf (D.row i))).asks := by
    unfold giveW
    rw [hG]
    cases br with
    | true => exact fun q hq => by cases hq; exact ⟨hr0, hpp⟩
    | false =>
      cases hb : badF G (n + m) with
      | true => exact ⟨⟨hr0, hpp, hoc⟩, hg⟩
      | false => exact ⟨⟨hr0, hpp, hoc⟩, hg⟩
  refine (GiveW_spec _ _ _ hs' hask δ w vals ha hr ht hlen).mono fun ed w' ⟨r, x, u, δ', hend, hout, hfin, hx, hu⟩ => ?_
  unfold giveW at hout
  rw [hG] at hout
  obtain ⟨p1, hp1, _⟩ := hr.blk 1 H rfl
  have hp1' := hu.le 1 p1 hp1
  obtain ⟨p0, hp0, _⟩ := hr.blk 0 B rfl
  have hp0' := hu.le 0 p0 hp0
  have fin : ∀ y : GR, finOk [B, H, D] [(0, fdB true y.br false (.sl 1000 1 y.o y.n y.c)), (1, killed (bG N g e0)), (1000, bG y.N y.g y.e), (1001, strB y.k y.S y.kd)] = true := fun y => by
    have hB1 : B.rw = true := hF.1.rw
    have hB2 : B.dead = false := hF.1.dead
    have hD1 : D.rw = false := by simp only [dOk, Bool.and_eq_true, Bool.not_eq_true'] at hd; exact hd.1.1.2
    simp only [finOk, namesFin, allFin, List.getElem?_cons_zero, List.getElem?_cons_succ, hB1, hB2, hHrw, hHd, hD1, hDf.2]
    rfl
  have none1 : ∀ k, heapOf [B, H, D] (k + 3) = none := fun k => by simp [heapOf]
  cases br with
  | true =>
    obtain ⟨rfl, rfl⟩ : x = .tup [nilS, iV 12] ∧ u = [(0, fdB true true false (.sl 1 1 o n c)), (1, bG N g e0)] := hout
    obtain ⟨δ'', e0', e1', hU⟩ := upd_gen (F := fdB true true false (.sl 1 1 o n c)) (F' := fdB true true false (.sl 1000 1 o n c)) (b0 := bG N g e0) (b1 := strB 0 (frS G) 0) (l0 := p1) (l1 := noL) (K := killed (bG N g e0)) hr ht hu ⟨rfl, rfl, rfl, rfl⟩ rfl hDf.1 hDf.2 rfl rfl rfl 1 1
      (fun hno => ⟨Or.inr ⟨1, H, rfl, hHrw, H, p1, rfl, hHd, hp1, hno, rfl⟩, ⟨by decide, by decide⟩, bG N g e0, rfl, rfl, hp1', rfl⟩) (fun hno => by cases hno) (fun _ hno => by cases hno) (fun δ'' d0 d1 => ⟨fun pp hpp => by
        obtain ⟨q, g1, g2⟩ := hu.rep.blk 0 _ rfl
        rw [hp0'] at g1
        cases g1
        rw [hp0] at hpp
        cases hpp
        exact fd_live (g2 rfl) fun v hv => sl_re (hp1'.trans d0.symm) (by exact hv), by
        obtain ⟨q, g1, g2⟩ := hu.rep.blk 1 _ rfl
        rw [hp1'] at g1
        cases g1
        exact bG_live (g2 rfl), ⟨rfl, rfl, fun _ => ⟨rfl, rfl⟩, fun hh => by cases hh⟩⟩)
    exact ⟨r, _, _, δ'', hend, ⟨⟨_, gwR_rel true o n c N g e0 G (n + m) ⟨0, 0, 0⟩ 0⟩, rfl, rfl⟩, fin _, tup_re hx fun v hv => sl_no e1' hv, hU⟩
  | false =>
    have hout : EffOut (.alt (badF G (n + m)) _ _) x u := hout
    cases hb : badF G (n + m) with
    | true =>
      rw [hb] at hout
      obtain ⟨y, rfl, rfl⟩ : ∃ y : Nat, x = .tup [.sl 1000 1 0 (kOf G (n + m)) (kOf G (n + m) + y), iV (errAt G (n + m) (kOf G (n + m)))] ∧ u = [(0, fdB true true false nilS), (1000, strB (kOf G (n + m)) (frS G) (kOf G (n + m) + y)), (1, killed (bG N g e0))] := hout
      obtain ⟨q1, hq1, hq1'⟩ := hu.rep.blk 1000 (strB (kOf G (n + m)) (frS G) (kOf G (n + m) + y)) rfl
      obtain ⟨δ'', e0', e1', hU⟩ := upd_gen (F := fdB true true false nilS) (F' := fdB true true false (.sl 1000 1 0 0 0)) (b0 := bG 0 g 0) (b1 := strB (kOf G (n + m)) (frS G) (kOf G (n + m) + y)) (l0 := noL) (l1 := q1) (K := killed (bG N g e0)) hr ht hu ⟨rfl, rfl, rfl, rfl⟩ rfl hDf.1 hDf.2 rfl rfl rfl 1000 1000
        (fun hno => by cases hno) (fun hno => ⟨hu.place 1000 q1 (ht 1000 (none1 997)) hq1 hno, ⟨by decide, by decide⟩, _, rfl, rfl, hq1, rfl⟩) (fun hno => by cases hno) (fun δ'' d0 d1 => ⟨fun pp hpp => by
          obtain ⟨q, g1, g2⟩ := hu.rep.blk 0 _ rfl
          rw [hp0'] at g1
          cases g1
          rw [hp0] at hpp
          cases hpp
          exact fd_live (g2 rfl) fun v hv => sl_no d0 hv, ⟨rfl, rfl, fun _ => ⟨rfl, rfl⟩, fun hh => by cases hh⟩, strB_live (hq1' rfl)⟩)
      have hR : gwR false o n c N g e0 G (n + m) ⟨0, 0, 0⟩ y = ⟨true, errAt G (n + m) (kOf G (n + m)), kOf G (n + m), kOf G (n + m) + y, kOf G (n + m) + y, frS G, 0, 0, 0, 0, 0, g⟩ := by
        unfold gwR
        rw [hb]
      refine ⟨r, _, _, δ'', hend, ⟨⟨_, gwR_rel false o n c N g e0 G (n + m) ⟨0, 0, 0⟩ y⟩, rfl, rfl⟩, fin _, ?_, ?_⟩
      · simp only [hR]
        exact tup_re hx fun v hv => sl_re (hq1.trans e1'.symm) hv
      · simp only [hR]
        exact hU
    | false =>
      rw [hb] at hout
      obtain ⟨y, rfl, rfl⟩ : ∃ y : GC, x = .tup [.sl 1001 1 0 (kOf G (n + m)) (kOf G (n + m) + y.d), iV 0] ∧ u = [(0, fdB true false false (.sl 1000 1 (oAt G (kOf G (n + m))) (n + m - oAt G (kOf G (n + m))) (n + m - oAt G (kOf G (n + m)) + y.a))), (1000, bG (n + m) G (n + m + y.a + y.b)), (1001, strB (kOf G (n + m)) (frS G) (kOf G (n + m) + y.d)), (1, killed (bG N g e0))] := hout
      obtain ⟨q0, hq0, hq0'⟩ := hu.rep.blk 1000 (bG (n + m) G (n + m + y.a + y.b)) rfl
      obtain ⟨q1, hq1, hq1'⟩ := hu.rep.blk 1001 (strB (kOf G (n + m)) (frS G) (kOf G (n + m) + y.d)) rfl
      obtain ⟨δ'', e0', e1', hU⟩ := upd_gen (F := fdB true false false (.sl 1000 1 (oAt G (kOf G (n + m))) (n + m - oAt G (kOf G (n + m))) (n + m - oAt G (kOf G (n + m)) + y.a))) (F' := fdB true false false (.sl 1000 1 (oAt G (kOf G (n + m))) (n + m - oAt G (kOf G (n + m))) (n + m - oAt G (kOf G (n + m)) + y.a))) (b0 := bG (n + m) G (n + m + y.a + y.b)) (b1 := strB (kOf G (n + m)) (frS G) (kOf G (n + m) + y.d)) (l0 := q0) (l1 := q1) (K := killed (bG N g e0)) hr ht hu ⟨rfl, rfl, rfl, rfl⟩ rfl hDf.1 hDf.2 rfl rfl rfl 1000 1001
        (fun hno => ⟨hu.place 1000 q0 (ht 1000 (none1 997)) hq0 hno, ⟨by decide, by decide⟩, _, rfl, rfl, hq0, rfl⟩) (fun hno => ⟨hu.place 1001 q1 (ht 1001 (none1 998)) hq1 hno, ⟨by decide, by decide⟩, _, rfl, rfl, hq1, rfl⟩) (fun _ _ => by decide) (fun δ'' d0 d1 => ⟨fun pp hpp => by
          obtain ⟨q, g1, g2⟩ := hu.rep.blk 0 _ rfl
          rw [hp0'] at g1
          cases g1
          rw [hp0] at hpp
          cases hpp
          exact fd_live (g2 rfl) fun v hv => sl_re (hq0.trans d0.symm) hv, bG_live (hq0' rfl), strB_live (hq1' rfl)⟩)
      have hR : gwR false o n c N g e0 G (n + m) y 0 = ⟨false, 0, kOf G (n + m), kOf G (n + m) + y.d, kOf G (n + m) + y.d, frS G, (oAt G (kOf G (n + m))), n + m - oAt G (kOf G (n + m)), n + m - oAt G (kOf G (n + m)) + y.a, (n + m), (n + m + y.a + y.b), G⟩ := by
        unfold gwR
        rw [hb]
      refine ⟨r, _, _, δ'', hend, ⟨⟨_, gwR_rel false o n c N g e0 G (n + m) y 0⟩, rfl, rfl⟩, fin _, ?_, ?_⟩
      · simp only [hR]
        exact tup_re hx fun v hv => sl_re (hq1.trans e1'.symm) hv
      · simp only [hR]
        exact hU
theorem rf_live {δ' δ'' : Dict} {w : World} {p : SE.Loc} {br fl : Bool} {a a' : SV} (h : Live δ' (rfB true br fl a) w p) (ha : ∀ v, absV δ' a v → absV δ'' a' v) : Live δ'' (rfB true br false a') w p := live_re h rfl rfl rfl rfl rfl rfl (fun hf => by cases hf) fun i _ => ⟨rfl, fun j x' hx' => match j, hx' with
  | 0, hx' => ⟨.v (.bool true), rfl, fun v hv => by cases hx'; exact hv⟩
  | 1, hx' => ⟨.v (.bool br), rfl, fun v hv => by cases hx'; exact hv⟩
  | 2, hx' => ⟨a, rfl, fun v hv => by cases hx'; exact ha v hv⟩
  | _ + 3, hx' => by cases hx'⟩
def grRel (br : Bool) (o n c N : Nat) (g : Nat → Int) (e : Nat) (G : Nat → Int) (T : Nat) (r : GR) : Prop :=
  (br = true → r.br = true ∧ r.err = 12 ∧ r.k = 0 ∧ r.kc = 0 ∧ r.n = n ∧ r.c = c ∧ r.N = N ∧ r.e = e ∧ r.g = g) ∧
  (br = false → badF G T = true → r.br = true ∧ r.err = errAt G T (kOf G T) ∧ r.k = kOf G T ∧ r.k ≤ r.kc ∧ r.S = frS G ∧ r.n = 0 ∧ r.c = 0 ∧ r.N = 0 ∧ r.e = 0) ∧
  (br = false → badF G T = false → r.br = false ∧ r.err = 0 ∧ r.k = kOf G T ∧ r.k ≤ r.kc ∧ r.S = frS G ∧ r.n = T - oAt G (kOf G T) ∧ r.n ≤ r.c ∧ r.c ≤ r.e ∧ r.N = (T - oAt G (kOf G T)) ∧ r.g = shG (oAt G (kOf G T)) G)
def grR (br : Bool) (o n c N : Nat) (g : Nat → Int) (e : Nat) (G : Nat → Int) (T : Nat) (x : GC) (y : Nat) : GR := match br with
  | true => ⟨true, 12, 0, 0, 0, frS G, o, n, c, N, e, g⟩
  | false => match badF G T with
    | true => ⟨true, errAt G T (kOf G T), kOf G T, kOf G T + y, kOf G T + y, frS G, 0, 0, 0, 0, 0, g⟩
    | false => ⟨false, 0, kOf G T, kOf G T + x.d, kOf G T + x.d, frS G, 0, T - oAt G (kOf G T), T - oAt G (kOf G T) + x.a, (T - oAt G (kOf G T)), (T - oAt G (kOf G T) + x.a + x.b), shG (oAt G (kOf G T)) G⟩
theorem grR_rel (br : Bool) (o n c N : Nat) (g : Nat → Int) (e : Nat) (G : Nat → Int) (T : Nat) (x : GC) (y : Nat) : grRel br o n c N g e G T (grR br o n c N g e G T x y) := by
  have ho := oAt_le (kOf_spec G T).1
  unfold grRel grR
  cases br with
  | true => exact ⟨fun _ => ⟨rfl, rfl, rfl, rfl, rfl, rfl, rfl, rfl, rfl⟩, (fun h => by cases h), (fun h => by cases h)⟩
  | false =>
    cases hb : badF G T with
    | true => exact ⟨(fun h => by cases h), fun _ _ => ⟨rfl, rfl, rfl, Nat.le_add_right _ _, rfl, rfl, rfl, rfl, rfl⟩, (fun _ h => by cases h)⟩
    | false => exact ⟨(fun h => by cases h), (fun _ h => by cases h), fun _ _ => ⟨rfl, rfl, rfl, Nat.le_add_right _ _, rfl, rfl, Nat.le_add_right _ _, (by show T - oAt G (kOf G T) + x.a ≤ (T - oAt G (kOf G T) + x.a + x.b); omega), rfl, rfl⟩⟩
def giveRU (q : Prop) (br : Bool) (o n c N : Nat) (g : Nat → Int) (e : Nat) (G : Nat → Int) (T : Nat) : Eff :=
  .nd q (GW (grRel br o n c N g e G T)) ⟨grR br o n c N g e G T ⟨0, 0, 0⟩ 0, grR_rel ..⟩ (fun y => .tup [.sl 1001 1 0 y.r.k y.r.kc, iV y.r.err]) fun y => [(0, rfB true y.r.br false (.sl 1000 1 0 y.r.n y.r.c)), (1, killed (bG N g e)), (1000, bG y.r.N y.r.g y.r.e), (1001, strB y.r.k y.r.S y.r.kd)]
def sGiveRU (args : List SV) (bs : List Blk) : Option Eff := match args with
  | [.vp 0 0, .sl 2 1 0 m _] => match bs with
    | [B, H, D] => match rfOf [B, H] with
      | some (.used true br o n c N g e p) => bif dOk D then some (giveRU ((((D.n = m ∧ ∀ i, i < m → isByte (D.row i)) ∧ p ∧ (o = 0 ∧ N = n) ∧ n ≤ c ∧ c ≤ e) ∧ gvP (jnG n 0 g (fun i => SE.byteOf (D.row i))) (n + m) ∧ atK (jnG n 0 g (fun i => SE.byteOf (D.row i))) n 0)) br o n c N g e (jnG n 0 g (fun i => SE.byteOf (D.row i))) (n + m)) else none
      | _ => none
    | _ => none
  | _ => none
theorem sGiveRU_spec : HpSpec Try.prog 10 sGiveRU := fun args bs e hs hp δ w vals ha hr ht hlen => by
  unfold sGiveRU at hs
  split at hs <;> try (cases hs; done)
  rename_i m cb
  split at hs <;> try (cases hs; done)
  rename_i B H D
  split at hs <;> try (cases hs; done)
  rename_i br o n c N g e0 p hw
  obtain ⟨hd, he⟩ := bif_some' hs
  have he := Option.some.inj he
  subst he
  have hp : (((D.n = m ∧ ∀ i, i < m → isByte (D.row i)) ∧ p ∧ (o = 0 ∧ N = n) ∧ n ≤ c ∧ c ≤ e0) ∧ gvP (jnG n 0 g (fun i => SE.byteOf (D.row i))) (n + m) ∧ atK (jnG n 0 g (fun i => SE.byteOf (D.row i))) n 0) := hp
  obtain ⟨⟨hr0, hpp, hoN, hnc⟩, hg, hat⟩ := hp
  have hF := (rfOf_p hw hpp).1
  have hHrw : H.rw = true := hF.2.1.rw
  have hHd : H.dead = false := hF.2.1.dead
  have hDf : D.flat = true ∧ D.dead = false := by
    simp only [dOk, Bool.and_eq_true, Bool.not_eq_true'] at hd
    exact ⟨hd.2, hd.1.2⟩
  generalize hG : (jnG n 0 g (fun i => SE.byteOf (D.row i))) = G at *
  have hs' : sGiveR [.vp 0 0, .sl 2 1 0 m cb] [B, H, D] = some (giveR br (D.n = m ∧ ∀ i, i < m → isByte (D.row i)) p o n c N g e0 m (fun i => SE.byteOf (D.row i))) := by
    unfold sGiveR
    simp only [hw]
    rw [hd]
    rfl
  have hask : (giveR br (D.n = m ∧ ∀ i, i < m → isByte (D.row i)) p o n c N g e0 m (fun i => SE.byteOf (D.row i))).asks := by
    unfold giveR
    rw [hG]
    cases br with
    | true => exact fun q hq => by cases hq; exact ⟨hr0, hpp⟩
    | false =>
      cases hb : badF G (n + m) with
      | true => exact ⟨⟨hr0, hpp, hoN, hnc⟩, hg, hat⟩
      | false => exact ⟨⟨hr0, hpp, hoN, hnc⟩, hg, hat⟩
  refine (GiveR_spec _ _ _ hs' hask δ w vals ha hr ht hlen).mono fun ed w' ⟨r, x, u, δ', hend, hout, hfin, hx, hu⟩ => ?_
  unfold giveR at hout
  rw [hG] at hout
  obtain ⟨p1, hp1, _⟩ := hr.blk 1 H rfl
  have hp1' := hu.le 1 p1 hp1
  obtain ⟨p0, hp0, _⟩ := hr.blk 0 B rfl
  have hp0' := hu.le 0 p0 hp0
  have fin : ∀ y : GR, finOk [B, H, D] [(0, rfB true y.br false (.sl 1000 1 0 y.n y.c)), (1, killed (bG N g e0)), (1000, bG y.N y.g y.e), (1001, strB y.k y.S y.kd)] = true := fun y => by
    have hB1 : B.rw = true := hF.1.rw
    have hB2 : B.dead = false := hF.1.dead
    have hD1 : D.rw = false := by simp only [dOk, Bool.and_eq_true, Bool.not_eq_true'] at hd; exact hd.1.1.2
    simp only [finOk, namesFin, allFin, List.getElem?_cons_zero, List.getElem?_cons_succ, hB1, hB2, hHrw, hHd, hD1, hDf.2]
    rfl
  have none1 : ∀ k, heapOf [B, H, D] (k + 3) = none := fun k => by simp [heapOf]
  cases br with
  | true =>
    obtain ⟨rfl, rfl⟩ : x = .tup [nilS, iV 12] ∧ u = [(0, rfB true true false (.sl 1 1 o n c)), (1, bG N g e0)] := hout
    obtain ⟨δ'', e0', e1', hU⟩ := upd_gen (F := rfB true true false (.sl 1 1 o n c)) (F' := rfB true true false (.sl 1000 1 0 n c)) (b0 := bG N g e0) (b1 := strB 0 (frS G) 0) (l0 := p1) (l1 := noL) (K := killed (bG N g e0)) hr ht hu ⟨rfl, rfl, rfl, rfl⟩ rfl hDf.1 hDf.2 rfl rfl rfl 1 1
      (fun hno => ⟨Or.inr ⟨1, H, rfl, hHrw, H, p1, rfl, hHd, hp1, hno, rfl⟩, ⟨by decide, by decide⟩, bG N g e0, rfl, rfl, hp1', rfl⟩) (fun hno => by cases hno) (fun _ hno => by cases hno) (fun δ'' d0 d1 => ⟨fun pp hpp => by
        obtain ⟨q, g1, g2⟩ := hu.rep.blk 0 _ rfl
        rw [hp0'] at g1
        cases g1
        rw [hp0] at hpp
        cases hpp
        exact rf_live (g2 rfl) fun v hv => sl_re (hp1'.trans d0.symm) (by rw [← hoN.1]; exact hv), by
        obtain ⟨q, g1, g2⟩ := hu.rep.blk 1 _ rfl
        rw [hp1'] at g1
        cases g1
        exact bG_live (g2 rfl), ⟨rfl, rfl, fun _ => ⟨rfl, rfl⟩, fun hh => by cases hh⟩⟩)
    exact ⟨r, _, _, δ'', hend, ⟨⟨_, grR_rel true o n c N g e0 G (n + m) ⟨0, 0, 0⟩ 0⟩, rfl, rfl⟩, fin _, tup_re hx fun v hv => sl_no e1' hv, hU⟩
  | false =>
    have hout : EffOut (.alt (badF G (n + m)) _ _) x u := hout
    cases hb : badF G (n + m) with
    | true =>
      rw [hb] at hout
      obtain ⟨y, rfl, rfl⟩ : ∃ y : Nat, x = .tup [.sl 1000 1 0 (kOf G (n + m)) (kOf G (n + m) + y), iV (errAt G (n + m) (kOf G (n + m)))] ∧ u = [(0, rfB true true false nilS), (1000, strB (kOf G (n + m)) (frS G) (kOf G (n + m) + y)), (1, killed (bG N g e0))] := hout
      obtain ⟨q1, hq1, hq1'⟩ := hu.rep.blk 1000 (strB (kOf G (n + m)) (frS G) (kOf G (n + m) + y)) rfl
      obtain ⟨δ'', e0', e1', hU⟩ := upd_gen (F := rfB true true false nilS) (F' := rfB true true false (.sl 1000 1 0 0 0)) (b0 := bG 0 g 0) (b1 := strB (kOf G (n + m)) (frS G) (kOf G (n + m) + y)) (l0 := noL) (l1 := q1) (K := killed (bG N g e0)) hr ht hu ⟨rfl, rfl, rfl, rfl⟩ rfl hDf.1 hDf.2 rfl rfl rfl 1000 1000
        (fun hno => by cases hno) (fun hno => ⟨hu.place 1000 q1 (ht 1000 (none1 997)) hq1 hno, ⟨by decide, by decide⟩, _, rfl, rfl, hq1, rfl⟩) (fun hno => by cases hno) (fun δ'' d0 d1 => ⟨fun pp hpp => by
          obtain ⟨q, g1, g2⟩ := hu.rep.blk 0 _ rfl
          rw [hp0'] at g1
          cases g1
          rw [hp0] at hpp
          cases hpp
          exact rf_live (g2 rfl) fun v hv => sl_no d0 hv, ⟨rfl, rfl, fun _ => ⟨rfl, rfl⟩, fun hh => by cases hh⟩, strB_live (hq1' rfl)⟩)
      have hR : grR false o n c N g e0 G (n + m) ⟨0, 0, 0⟩ y = ⟨true, errAt G (n + m) (kOf G (n + m)), kOf G (n + m), kOf G (n + m) + y, kOf G (n + m) + y, frS G, 0, 0, 0, 0, 0, g⟩ := by
        unfold grR
        rw [hb]
      refine ⟨r, _, _, δ'', hend, ⟨⟨_, grR_rel false o n c N g e0 G (n + m) ⟨0, 0, 0⟩ y⟩, rfl, rfl⟩, fin _, ?_, ?_⟩
      · simp only [hR]
        exact tup_re hx fun v hv => sl_re (hq1.trans e1'.symm) hv
      · simp only [hR]
        exact hU
    | false =>
      rw [hb] at hout
      obtain ⟨y, rfl, rfl⟩ : ∃ y : GC, x = .tup [.sl 1001 1 0 (kOf G (n + m)) (kOf G (n + m) + y.d), iV 0] ∧ u = [(0, rfB true false false (.sl 1000 1 0 (n + m - oAt G (kOf G (n + m))) (n + m - oAt G (kOf G (n + m)) + y.a))), (1000, bG (n + m - oAt G (kOf G (n + m))) (shG (oAt G (kOf G (n + m))) G) (n + m - oAt G (kOf G (n + m)) + y.a + y.b)), (1001, strB (kOf G (n + m)) (frS G) (kOf G (n + m) + y.d)), (1, killed (bG N g e0))] := hout
      obtain ⟨q0, hq0, hq0'⟩ := hu.rep.blk 1000 (bG (n + m - oAt G (kOf G (n + m))) (shG (oAt G (kOf G (n + m))) G) (n + m - oAt G (kOf G (n + m)) + y.a + y.b)) rfl
      obtain ⟨q1, hq1, hq1'⟩ := hu.rep.blk 1001 (strB (kOf G (n + m)) (frS G) (kOf G (n + m) + y.d)) rfl
      obtain ⟨δ'', e0', e1', hU⟩ := upd_gen (F := rfB true false false (.sl 1000 1 0 (n + m - oAt G (kOf G (n + m))) (n + m - oAt G (kOf G (n + m)) + y.a))) (F' := rfB true false false (.sl 1000 1 0 (n + m - oAt G (kOf G (n + m))) (n + m - oAt G (kOf G (n + m)) + y.a))) (b0 := bG (n + m - oAt G (kOf G (n + m))) (shG (oAt G (kOf G (n + m))) G) (n + m - oAt G (kOf G (n + m)) + y.a + y.b)) (b1 := strB (kOf G (n + m)) (frS G) (kOf G (n + m) + y.d)) (l0 := q0) (l1 := q1) (K := killed (bG N g e0)) hr ht hu ⟨rfl, rfl, rfl, rfl⟩ rfl hDf.1 hDf.2 rfl rfl rfl 1000 1001
        (fun hno => ⟨hu.place 1000 q0 (ht 1000 (none1 997)) hq0 hno, ⟨by decide, by decide⟩, _, rfl, rfl, hq0, rfl⟩) (fun hno => ⟨hu.place 1001 q1 (ht 1001 (none1 998)) hq1 hno, ⟨by decide, by decide⟩, _, rfl, rfl, hq1, rfl⟩) (fun _ _ => by decide) (fun δ'' d0 d1 => ⟨fun pp hpp => by
          obtain ⟨q, g1, g2⟩ := hu.rep.blk 0 _ rfl
          rw [hp0'] at g1
          cases g1
          rw [hp0] at hpp
          cases hpp
          exact rf_live (g2 rfl) fun v hv => sl_re (hq0.trans d0.symm) hv, bG_live (hq0' rfl), strB_live (hq1' rfl)⟩)
      have hR : grR false o n c N g e0 G (n + m) y 0 = ⟨false, 0, kOf G (n + m), kOf G (n + m) + y.d, kOf G (n + m) + y.d, frS G, 0, n + m - oAt G (kOf G (n + m)), n + m - oAt G (kOf G (n + m)) + y.a, (n + m - oAt G (kOf G (n + m))), (n + m - oAt G (kOf G (n + m)) + y.a + y.b), (shG (oAt G (kOf G (n + m))) G)⟩ := by
        unfold grR
        rw [hb]
      refine ⟨r, _, _, δ'', hend, ⟨⟨_, grR_rel false o n c N g e0 G (n + m) y 0⟩, rfl, rfl⟩, fin _, ?_, ?_⟩
      · simp only [hR]
        exact tup_re hx fun v hv => sl_re (hq1.trans e1'.symm) hv
      · simp only [hR]
        exact hU
end Go.Proofs.Ythjaamckmadngaa
end
section
namespace Go.Proofs.Ythjaamckmadngaa
open Go.SE Go.RowKit
def pcB (Ln : Nat → Nat) (Gn : Nat → Nat → Int) (k : Nat) : Blk := { elem := 0, size := 1, rw := false, lock := false, lit := false, flat := true, n := Ln k, row := fun i => [.v (.int .u8 (Gn k i))], ext := 0 }
def nsB (n : Nat) (Ln Cn : Nat → Nat) : Blk := { elem := 0, size := 1, rw := false, lock := false, lit := false, flat := false, n := n, row := fun j => [.sl (j + 4096) 1 0 (Ln (j + 4096)) (Cn (j + 4096))], ext := 0 }
def nsH (n : Nat) (Ln Cn : Nat → Nat) (Gn : Nat → Nat → Int) : Heap := fun k => bif Nat.beq k 0 then some (nsB n Ln Cn) else bif Nat.blt k 4096 then none else some (pcB Ln Gn k)
def smF (Ln : Nat → Nat) : Nat → Int
  | 0 => 0
  | k + 1 => IntKind.i64.wrap (smF Ln k + Ln (k + 4096))
structure FX where
  k : Nat
  br : Bool
  o : Nat
  n : Nat
  c : Nat
  N : Nat
  ex : Nat
  g : Nat → Int
  cr : Nat
  er : Nat
structure LX where
  x : FX
  bl : Bool
  ol : Nat
  nl : Nat
  cl : Nat
  Nl : Nat
  el : Nat
  gl : Nat → Int
  cw : Nat
  ew : Nat
  gw : Nat → Int
structure IX where
  j : Nat
  n : Nat
  e : Nat
  f : Nat → Int
def fxI (np : Nat) (x : FX) : Prop := x.k ≤ np ∧ (x.br = true → x.n = 0) ∧ x.N < 70368744177664 ∧ (x.o + x.n ≤ x.N ∧ x.n ≤ x.c ∧ x.o + x.c ≤ x.ex) ∧ (x.n ≤ x.cr ∧ x.cr ≤ x.er) ∧ x.n ≤ 4000 * x.k ∧ bytesIn x.n (shG x.o x.g) ∧ atK (shG x.o x.g) x.n 0
def lxI (np : Nat) (at' : Int) (y : LX) : Prop := fxI np y.x ∧ at' < y.x.k ∧ y.Nl < 70368744177664 ∧ y.nl < 70368744177664
def ifVp (t u : Nat) (s : St) : SV := match s.tmps.getD t .unk with
  | .vp _ _ => s.tmps.getD u .unk
  | _ => .unk
def cell2 (t : Nat) (s : St) : SV := match s.tmps.getD t .unk with
  | .vp k _ => inVar k 2 s
  | _ => .unk
noncomputable def ΛFd (Ln : Nat → Nat) (np : Nat) (at' : Int) : Nat → Option LoopSpec :=
  addPrs (addLoopR (addLoopM (addLoopN (addLoop noΛ Try.f3 0 Nat (fun k => k ≤ np) (fun k => np - k) [(6, fun k => .v (.int .i64 k)), (5, fun k => .v (.int .i64 (smF Ln k)))] [])
    Try.f3 2 FX (fun x => fxI np x) (fun x => np - x.k) [(7, fun _ => .vp 280 0), (8, fun _ => .vp 288 0), (9, fun _ => nilP), (10, fun _ => nilP), (11, fun x => .v (.int .i64 x.k))]
      [(280, fun x => fdB true x.br false (.sl 41 1 x.o x.n x.c)), (288, fun x => rfB true x.br false (.sl 42 1 0 x.n x.cr))]
      [(41, fun x => bG x.N x.g x.ex, inVar 280 2), (42, fun x => bG x.n (shG x.o x.g) x.er, inVar 288 2)])
    Try.f3 2 LX (fun y => lxI np at' y) (fun y => np - y.x.k) [(7, fun _ => .vp 45 0), (8, fun _ => .vp 288 0), (9, fun _ => .vp 280 0), (10, fun _ => .vp 46 0), (11, fun y => .v (.int .i64 y.x.k))]
      [(280, fun y => fdB true y.bl false (.sl 47 1 y.ol y.nl y.cl)), (288, fun y => rfB true y.x.br false (.sl 42 1 0 y.x.n y.x.cr))]
      [(45, fun y => fdB true y.x.br false (.sl 41 1 y.x.o y.x.n y.x.c), ifVp 9 7), (41, fun y => bG y.x.N y.x.g y.x.ex, cell2 7), (42, fun y => bG y.x.n (shG y.x.o y.x.g) y.x.er, inVar 288 2),
        (46, fun y => rfB true y.bl false (.sl 48 1 0 y.nl y.cw), ifVp 10 10), (47, fun y => bG y.Nl y.gl y.el, inVar 280 2), (48, fun y => bG y.nl y.gw y.ew, cell2 10)])
    Try.f3 4 IX (fun x => x.j ≤ x.n) (fun s x => match s.heap 584 with | some b => b.n = x.n ∧ b.ext = x.e | none => False) (fun x => x.n - x.j) [(17, fun x => .v (.int .i64 x.j))] [(584, fun x => bG x.n x.f x.e)])
    24 [(11, fun _ => [280, 464, 45, 41, 465, 616]), (13, fun _ => [288, 42, 704]), (18, fun _ => [280, 464, 45, 41, 465, 616]), (20, fun _ => [288, 42, 704])]
noncomputable def ΓFd : Ctrs := addCtr (addCtr (addCtr (addCtr (addCtr (addCtr (addCtr (addCtr (addCtr (addCtr (addCtr (addCtr noCtrs 5 (hpCtr false sNewFeed)) 6 (hpCtr false sRNew)) 8 (hpCtr true sCpyW)) 7 (hpCtr true sCpyR)) 9 (hpCtr true sGiveWU)) 10 (hpCtr true sGiveRU)) 11 (hpCtr false (orHp sSameNil (roSpec sSameStr)))) 12 (hpCtr true (sFd (iV 0) vHeld))) 13 (hpCtr true (sRf (iV 0) vRHel))) 14 (hpCtr true (sFd (bV false) vBroken))) 15 (hpCtr true (sRf (bV false) vRBro))) 4 (pureCtr sAwake)
end Go.Proofs.Ythjaamckmadngaa
end
