/-
  Contracts at constants, for the examples that every law calls: the call 'release'.
-/
import Derived.Test.YtjdldadmaaeimaaWiG
set_option maxRecDepth 100000
set_option linter.unusedSimpArgs false
set_option linter.unusedVariables false
namespace Go.Proofs.Ytjdldadmaaeimaa
open Go.SE Go.RowKit

/-- A contract at constants: at the arguments a the result is r. -/
def sAt (a : List SV) (r : SV) (args : List SV) : Option (Option Prop × SV) := some (some (args = a), r)
def zN : List SV := [iV 0, bV false]
def zShape : List SV := [iV 0, iV 0, iV 0, iV 0, nilS]
def zSh : SV := .agg zShape
def relC : SV := .agg ([iV 6, iV 1, iV 0, iV 0, iV 0] ++ zShape ++ (zN ++ zN ++ zN ++ zN) ++ (zN ++ zN) ++ zN ++ [iV 0, bV false] ++ (zN ++ zN) ++ (zN ++ zN) ++ [iV 2] ++ [iV 0, iV 0, iV 0, iV 0] ++ [iV 0, iV 0] ++ [iV 0, iV 0])
def ΛZ (fn : Func) (t : Nat) : Nat → Option LoopSpec := addLoop noΛ fn 0 Nat (fun z => z = 0) (fun z => z) [(t, fun z => .v (.int .i64 z))] []
/-- done: what was written. -/
def sDone (args : List SV) (bs : List Blk) : Option Eff := match args with
  | [.vp 0 0] => match wrOf bs with
    | some (.used (some b) n g c p) => some (.det (some (p ∧ 1 ≤ n ∧ n < 1000000000)) (bif b then .tup [strS emp, iV 3] else .tup [strS (strOfNums (lstG n g)), iV 0]) [(0, wB (some b) false (.sl 1 1 0 n c)), (1, bG n g c)])
    | _ => none
  | _ => none
def sDone0 (b : Bool) (n : Nat) (g : Nat → Int) (c : Nat) : Eff := .det none (bif b then .tup [strS emp, iV 3] else .tup [strS (strOfNums (lstG n g)), iV 0]) [(0, wB (some b) false (.sl 1 1 0 n c)), (1, bG n g c)]
def relL : List Int := [6] ++ (c4 1 ++ c4 2)
def sCallR (args : List SV) (bs : List Blk) : Option Eff := match args with
  | [.vp 0 0, x] => match wrOf bs with
    | some (.fresh (some b)) => some (apE (.fresh (some b)) 0 (x = relC) 9 relL false)
    | _ => none
  | _ => none
def ΓH0 : Ctrs := addCtr noCtrs 106 (pureCtr (sAt [nilS, nilS] (bV true)))
def ΓH1 : Ctrs := addCtr ΓH0 72 (pureCtr (sAt [zSh, zSh] (bV true)))
theorem vcUsedR (R : SV → Prop) : (vcPure Try.prog noCtrs noΛ Try.f69 [relC] R) =
(R (SV.tup [(SV.agg [(SV.v (Value.int IntKind.i64 6)), (SV.v (Value.int IntKind.i64 1)), (SV.v (Value.int IntKind.i64 0)), (SV.v (Value.int IntKind.i64 0)), (SV.v (Value.int IntKind.i64 0)), (SV.v (Value.int IntKind.i64 0)), (SV.v (Value.int IntKind.i64 0)), (SV.v (Value.int IntKind.i64 0)), (SV.v (Value.int IntKind.i64 0)), (SV.v (Value.slice none 0 0)), (SV.v (Value.int IntKind.i64 0)), (SV.v (Value.bool false)), (SV.v (Value.int IntKind.i64 0)), (SV.v (Value.bool false)), (SV.v (Value.int IntKind.i64 0)), (SV.v (Value.bool false)), (SV.v (Value.int IntKind.i64 0)), (SV.v (Value.bool false)), (SV.v (Value.int IntKind.i64 0)), (SV.v (Value.bool false)), (SV.v (Value.int IntKind.i64 0)), (SV.v (Value.bool false)), (SV.v (Value.int IntKind.i64 0)), (SV.v (Value.bool false)), (SV.v (Value.int IntKind.i64 0)), (SV.v (Value.bool false)), (SV.v (Value.int IntKind.i64 0)), (SV.v (Value.bool false)), (SV.v (Value.int IntKind.i64 0)), (SV.v (Value.bool false)), (SV.v (Value.int IntKind.i64 0)), (SV.v (Value.bool false)), (SV.v (Value.int IntKind.i64 0)), (SV.v (Value.bool false)), (SV.v (Value.int IntKind.i64 2)), (SV.v (Value.int IntKind.i64 0)), (SV.v (Value.int IntKind.i64 0)), (SV.v (Value.int IntKind.i64 0)), (SV.v (Value.int IntKind.i64 0)), (SV.v (Value.int IntKind.i64 0)), (SV.v (Value.int IntKind.i64 0)), (SV.v (Value.int IntKind.i64 0)), (SV.v (Value.int IntKind.i64 0))]), (SV.v (Value.bool true))])) := by kernel_rfl
theorem vcEqZ (R : SV → Prop) : (vcPure Try.prog noCtrs (ΛZ Try.f106 13) Try.f106 [nilS, nilS] R) =
((∃ x : Nat, (((x : Nat) = 0) ∧ (((SV.v (Value.int IntKind.i64 0)) = (SV.v (Value.int IntKind.i64 ((↑x : Int))))) ∧ True))) ∧ (∀ x : Nat, (((x : Nat) = 0) → (R (SV.v (Value.bool true)))))) := by kernel_rfl
theorem vcSameShZ (R : SV → Prop) : (vcPure Try.prog ΓH0 noΛ Try.f72 [zSh, zSh] R) =
(([(SV.v (Value.slice none 0 0)), (SV.v (Value.slice none 0 0))] = [(SV.v (Value.slice none 0 0)), (SV.v (Value.slice none 0 0))]) ∧ (R (SV.v (Value.bool true)))) := by kernel_rfl
theorem vcSameR (R : SV → Prop) : (vcPure Try.prog ΓH1 noΛ Try.f25 [relC, relC] R) =
(([(SV.agg [(SV.v (Value.int IntKind.i64 0)), (SV.v (Value.int IntKind.i64 0)), (SV.v (Value.int IntKind.i64 0)), (SV.v (Value.int IntKind.i64 0)), (SV.v (Value.slice none 0 0))]), (SV.agg [(SV.v (Value.int IntKind.i64 0)), (SV.v (Value.int IntKind.i64 0)), (SV.v (Value.int IntKind.i64 0)), (SV.v (Value.int IntKind.i64 0)), (SV.v (Value.slice none 0 0))])] = [(SV.agg [(SV.v (Value.int IntKind.i64 0)), (SV.v (Value.int IntKind.i64 0)), (SV.v (Value.int IntKind.i64 0)), (SV.v (Value.int IntKind.i64 0)), (SV.v (Value.slice none 0 0))]), (SV.agg [(SV.v (Value.int IntKind.i64 0)), (SV.v (Value.int IntKind.i64 0)), (SV.v (Value.int IntKind.i64 0)), (SV.v (Value.int IntKind.i64 0)), (SV.v (Value.slice none 0 0))])]) ∧ (R (SV.v (Value.bool true)))) := by kernel_rfl
theorem at_spec {Γ : Ctrs} (hΓ : ∀ f g, Γ f = some g → g.ok Try.prog f) {f : FuncId} {fn : Func} (hf : Try.prog.funcs[f]? = some fn) {a : List SV} {r : SV} (ha : plainL a = true) (hr : plain r = true) {Λ : Nat → Option LoopSpec} (h : vcPure Try.prog Γ Λ fn a (· = r)) : PureSpec Try.prog f (sAt a r) :=
  vc_spec hm hΓ hf (Λ := fun _ => Λ) fun args p x hs hp => by
    unfold sAt at hs
    cases hs
    have := hp _ rfl
    subst this
    exact ⟨ha, hr, h⟩
theorem UsedR_spec : PureSpec Try.prog 69 (sAt [relC] (.tup [relC, bV true])) := at_spec noCtrs_ok Try.func69 (by kernel_rfl) (by kernel_rfl) (by rw [vcUsedR]; kernel_rfl)
theorem EqZ_spec : PureSpec Try.prog 106 (sAt [nilS, nilS] (bV true)) := at_spec noCtrs_ok Try.func106 (by kernel_rfl) (by kernel_rfl) (Eq.mpr (vcEqZ _) ⟨⟨0, rfl, rfl, trivial⟩, fun _ _ => rfl⟩)
theorem ΓH0_ok : ∀ f g, ΓH0 f = some g → g.ok Try.prog f := addCtr_ok noCtrs_ok (pure_ok Try.func106 (by kernel_rfl) (by kernel_rfl) EqZ_spec)
theorem SameShZ_spec : PureSpec Try.prog 72 (sAt [zSh, zSh] (bV true)) := at_spec ΓH0_ok Try.func72 (by kernel_rfl) (by kernel_rfl) (Λ := noΛ) (by rw [vcSameShZ]; exact ⟨rfl, rfl⟩)
theorem ΓH1_ok : ∀ f g, ΓH1 f = some g → g.ok Try.prog f := addCtr_ok ΓH0_ok (pure_ok Try.func72 (by kernel_rfl) (by kernel_rfl) SameShZ_spec)
theorem SameR_spec : PureSpec Try.prog 25 (sAt [relC, relC] (bV true)) := at_spec ΓH1_ok Try.func25 (by kernel_rfl) (by kernel_rfl) (Λ := noΛ) (by rw [vcSameR]; exact ⟨rfl, rfl⟩)
end Go.Proofs.Ytjdldadmaaeimaa
