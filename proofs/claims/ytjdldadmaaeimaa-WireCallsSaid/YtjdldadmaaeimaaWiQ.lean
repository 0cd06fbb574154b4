/-
  Contracts at constants: the call 'count' read from its bytes.
-/
import Derived.Test.YtjdldadmaaeimaaWiR
import Derived.Test.YtjdldadmaaeimaaWiH
set_option maxRecDepth 100000
set_option linter.unusedSimpArgs false
set_option linter.unusedVariables false
namespace Go.Proofs.Ytjdldadmaaeimaa
open Go.SE Go.RowKit

def cntStr : ByteArray := ⟨#[10, 0, 0, 0, 7]⟩
def cntC : SV := .agg ([iV 10, iV 7, iV 0, iV 0, iV 0] ++ zShape ++ (zN ++ zN ++ zN ++ zN) ++ (zN ++ zN) ++ zN ++ [iV 0, bV false] ++ (zN ++ zN) ++ (zN ++ zN) ++ [iV 0] ++ [iV 0, iV 0, iV 0, iV 0] ++ [iV 0, iV 0] ++ [iV 0, iV 0])
def fCall10 : List SV → ByteArray → Int → Option (Prop × SV × Int)
  | [], s, k => some (k = 0 ∧ s = cntStr, cntC, 5)
  | _, _, _ => none
def ΓQ0 : Ctrs := addCtr (addCtr (addCtr noCtrs 120 (hpCtr true (sRdG fKind10))) 121 (hpCtr true (sRdG fRdCount))) 131 (hpCtr true (sRdG fEnd))
theorem vcCall10  : (vcFn Try.prog ΓQ0 noΛ Try.f85 [.vp 0 0] (heapOf [rdB cntStr 0]) 64 (fun y h' => FinE [rdB cntStr 0] (.det none cntC [(0, rdB cntStr 5)]) y h')) =
(((rdQ cntStr 0 1) ∧ (((10 : Int) = 10) ∧ ((1 : Int) ≤ 10))) ∧ (((rdQ cntStr 1 4) ∧ ((7 : Int) ≤ 2147483647)) ∧ (((5 : Int) = 5) ∧ ((((SV.v (Value.int IntKind.i64 10)) = (SV.v (Value.int IntKind.i64 10))) ∧ (((SV.v (Value.int IntKind.i64 7)) = (SV.v (Value.int IntKind.i64 7))) ∧ (((SV.v (Value.int IntKind.i64 0)) = (SV.v (Value.int IntKind.i64 0))) ∧ (((SV.v (Value.int IntKind.i64 0)) = (SV.v (Value.int IntKind.i64 0))) ∧ (((SV.v (Value.int IntKind.i64 0)) = (SV.v (Value.int IntKind.i64 0))) ∧ (((SV.v (Value.int IntKind.i64 0)) = (SV.v (Value.int IntKind.i64 0))) ∧ (((SV.v (Value.int IntKind.i64 0)) = (SV.v (Value.int IntKind.i64 0))) ∧ (((SV.v (Value.int IntKind.i64 0)) = (SV.v (Value.int IntKind.i64 0))) ∧ (((SV.v (Value.int IntKind.i64 0)) = (SV.v (Value.int IntKind.i64 0))) ∧ (((SV.v (Value.slice none 0 0)) = (SV.v (Value.slice none 0 0))) ∧ (((SV.v (Value.int IntKind.i64 0)) = (SV.v (Value.int IntKind.i64 0))) ∧ (((SV.v (Value.bool false)) = (SV.v (Value.bool false))) ∧ (((SV.v (Value.int IntKind.i64 0)) = (SV.v (Value.int IntKind.i64 0))) ∧ (((SV.v (Value.bool false)) = (SV.v (Value.bool false))) ∧ (((SV.v (Value.int IntKind.i64 0)) = (SV.v (Value.int IntKind.i64 0))) ∧ (((SV.v (Value.bool false)) = (SV.v (Value.bool false))) ∧ (((SV.v (Value.int IntKind.i64 0)) = (SV.v (Value.int IntKind.i64 0))) ∧ (((SV.v (Value.bool false)) = (SV.v (Value.bool false))) ∧ (((SV.v (Value.int IntKind.i64 0)) = (SV.v (Value.int IntKind.i64 0))) ∧ (((SV.v (Value.bool false)) = (SV.v (Value.bool false))) ∧ (((SV.v (Value.int IntKind.i64 0)) = (SV.v (Value.int IntKind.i64 0))) ∧ (((SV.v (Value.bool false)) = (SV.v (Value.bool false))) ∧ (((SV.v (Value.int IntKind.i64 0)) = (SV.v (Value.int IntKind.i64 0))) ∧ (((SV.v (Value.bool false)) = (SV.v (Value.bool false))) ∧ (((SV.v (Value.int IntKind.i64 0)) = (SV.v (Value.int IntKind.i64 0))) ∧ (((SV.v (Value.bool false)) = (SV.v (Value.bool false))) ∧ (((SV.v (Value.int IntKind.i64 0)) = (SV.v (Value.int IntKind.i64 0))) ∧ (((SV.v (Value.bool false)) = (SV.v (Value.bool false))) ∧ (((SV.v (Value.int IntKind.i64 0)) = (SV.v (Value.int IntKind.i64 0))) ∧ (((SV.v (Value.bool false)) = (SV.v (Value.bool false))) ∧ (((SV.v (Value.int IntKind.i64 0)) = (SV.v (Value.int IntKind.i64 0))) ∧ (((SV.v (Value.bool false)) = (SV.v (Value.bool false))) ∧ (((SV.v (Value.int IntKind.i64 0)) = (SV.v (Value.int IntKind.i64 0))) ∧ (((SV.v (Value.bool false)) = (SV.v (Value.bool false))) ∧ (((SV.v (Value.int IntKind.i64 0)) = (SV.v (Value.int IntKind.i64 0))) ∧ (((SV.v (Value.int IntKind.i64 0)) = (SV.v (Value.int IntKind.i64 0))) ∧ (((SV.v (Value.int IntKind.i64 0)) = (SV.v (Value.int IntKind.i64 0))) ∧ (((SV.v (Value.int IntKind.i64 0)) = (SV.v (Value.int IntKind.i64 0))) ∧ (((SV.v (Value.int IntKind.i64 0)) = (SV.v (Value.int IntKind.i64 0))) ∧ (((SV.v (Value.int IntKind.i64 0)) = (SV.v (Value.int IntKind.i64 0))) ∧ (((SV.v (Value.int IntKind.i64 0)) = (SV.v (Value.int IntKind.i64 0))) ∧ (((SV.v (Value.int IntKind.i64 0)) = (SV.v (Value.int IntKind.i64 0))) ∧ ((SV.v (Value.int IntKind.i64 0)) = (SV.v (Value.int IntKind.i64 0))))))))))))))))))))))))))))))))))))))))))))) ∧ (((1 : Nat) = 1) ∧ (((1 : Nat) ≤ 1) ∧ (∀ i : Nat, (((i : Nat) < 1) → ([(SV.v (Value.string cntStr)), (SV.v (Value.int IntKind.i64 5))] = [(SV.v (Value.string cntStr)), (SV.v (Value.int IntKind.i64 5))]))))))))) := by kernel_rfl
def ΓQ1 : Ctrs := addCtr noCtrs 85 (hpCtr true (sRdG fCall10))
def dA (fn : Func) : Code := match fn.body with
  | some (.seq a _) => a
  | _ => .skip
def dB (fn : Func) : Code := match fn.body with
  | some (.seq _ (.seq _ b)) => b
  | _ => .skip
def dC (fn : Func) : Code := match fn.body with
  | some (.seq _ b) => b
  | _ => .skip
def sReadC (args : List SV) (bs : List Blk) : Option Eff := match args, bs with
  | [.v (.string s)], [] => some (.det (some (s = cntStr)) (.tup [cntC, iV 0]) [])
  | _, _ => none
theorem vcReadC (q : Option Prop) : (vcFnD Try.prog ΓQ1 noΛ Try.f38 Try.f84 (dA Try.f38) (dB Try.f38) (dC Try.f84) 3 5 [.v (.string cntStr)] (heapOf []) 64 (fun y h' => FinE [] (.det q (.tup [cntC, iV 0]) []) y h')) =
((((0 : Int) = 0) ∧ (cntStr = cntStr)) ∧ (((((SV.v (Value.int IntKind.i64 10)) = (SV.v (Value.int IntKind.i64 10))) ∧ (((SV.v (Value.int IntKind.i64 7)) = (SV.v (Value.int IntKind.i64 7))) ∧ (((SV.v (Value.int IntKind.i64 0)) = (SV.v (Value.int IntKind.i64 0))) ∧ (((SV.v (Value.int IntKind.i64 0)) = (SV.v (Value.int IntKind.i64 0))) ∧ (((SV.v (Value.int IntKind.i64 0)) = (SV.v (Value.int IntKind.i64 0))) ∧ (((SV.v (Value.int IntKind.i64 0)) = (SV.v (Value.int IntKind.i64 0))) ∧ (((SV.v (Value.int IntKind.i64 0)) = (SV.v (Value.int IntKind.i64 0))) ∧ (((SV.v (Value.int IntKind.i64 0)) = (SV.v (Value.int IntKind.i64 0))) ∧ (((SV.v (Value.int IntKind.i64 0)) = (SV.v (Value.int IntKind.i64 0))) ∧ (((SV.v (Value.slice none 0 0)) = (SV.v (Value.slice none 0 0))) ∧ (((SV.v (Value.int IntKind.i64 0)) = (SV.v (Value.int IntKind.i64 0))) ∧ (((SV.v (Value.bool false)) = (SV.v (Value.bool false))) ∧ (((SV.v (Value.int IntKind.i64 0)) = (SV.v (Value.int IntKind.i64 0))) ∧ (((SV.v (Value.bool false)) = (SV.v (Value.bool false))) ∧ (((SV.v (Value.int IntKind.i64 0)) = (SV.v (Value.int IntKind.i64 0))) ∧ (((SV.v (Value.bool false)) = (SV.v (Value.bool false))) ∧ (((SV.v (Value.int IntKind.i64 0)) = (SV.v (Value.int IntKind.i64 0))) ∧ (((SV.v (Value.bool false)) = (SV.v (Value.bool false))) ∧ (((SV.v (Value.int IntKind.i64 0)) = (SV.v (Value.int IntKind.i64 0))) ∧ (((SV.v (Value.bool false)) = (SV.v (Value.bool false))) ∧ (((SV.v (Value.int IntKind.i64 0)) = (SV.v (Value.int IntKind.i64 0))) ∧ (((SV.v (Value.bool false)) = (SV.v (Value.bool false))) ∧ (((SV.v (Value.int IntKind.i64 0)) = (SV.v (Value.int IntKind.i64 0))) ∧ (((SV.v (Value.bool false)) = (SV.v (Value.bool false))) ∧ (((SV.v (Value.int IntKind.i64 0)) = (SV.v (Value.int IntKind.i64 0))) ∧ (((SV.v (Value.bool false)) = (SV.v (Value.bool false))) ∧ (((SV.v (Value.int IntKind.i64 0)) = (SV.v (Value.int IntKind.i64 0))) ∧ (((SV.v (Value.bool false)) = (SV.v (Value.bool false))) ∧ (((SV.v (Value.int IntKind.i64 0)) = (SV.v (Value.int IntKind.i64 0))) ∧ (((SV.v (Value.bool false)) = (SV.v (Value.bool false))) ∧ (((SV.v (Value.int IntKind.i64 0)) = (SV.v (Value.int IntKind.i64 0))) ∧ (((SV.v (Value.bool false)) = (SV.v (Value.bool false))) ∧ (((SV.v (Value.int IntKind.i64 0)) = (SV.v (Value.int IntKind.i64 0))) ∧ (((SV.v (Value.bool false)) = (SV.v (Value.bool false))) ∧ (((SV.v (Value.int IntKind.i64 0)) = (SV.v (Value.int IntKind.i64 0))) ∧ (((SV.v (Value.int IntKind.i64 0)) = (SV.v (Value.int IntKind.i64 0))) ∧ (((SV.v (Value.int IntKind.i64 0)) = (SV.v (Value.int IntKind.i64 0))) ∧ (((SV.v (Value.int IntKind.i64 0)) = (SV.v (Value.int IntKind.i64 0))) ∧ (((SV.v (Value.int IntKind.i64 0)) = (SV.v (Value.int IntKind.i64 0))) ∧ (((SV.v (Value.int IntKind.i64 0)) = (SV.v (Value.int IntKind.i64 0))) ∧ (((SV.v (Value.int IntKind.i64 0)) = (SV.v (Value.int IntKind.i64 0))) ∧ (((SV.v (Value.int IntKind.i64 0)) = (SV.v (Value.int IntKind.i64 0))) ∧ ((SV.v (Value.int IntKind.i64 0)) = (SV.v (Value.int IntKind.i64 0))))))))))))))))))))))))))))))))))))))))))))) ∧ ((SV.v (Value.int IntKind.i64 0)) = (SV.v (Value.int IntKind.i64 0)))) ∧ True)) := by kernel_rfl
theorem defer38 : ∃ o rid, Try.f38.body = some (.seq (dA Try.f38) (.seq (.region rid #[o] false) (dB Try.f38))) ∧ o.guard = none ∧ o.dst = none ∧ ∀ (a : Act) (w : World), (execOp a.eval o).run Try.prog w = .ok (.defer { target := .fn (.func 84) #[], args := #[a.eval (.tmp 3)] }) w :=
  ⟨_, _, rfl, rfl, rfl, fun a w => by simp [execOp, resolve, Act.eval, Deferred.ofValue]⟩
theorem caught84 : ∃ o rid, Try.f84.body = some (.seq (.region rid #[o] false) (dC Try.f84)) ∧ o.guard = none ∧ o.dst = some 5 ∧ ∀ (ρ : Operand → Value) (w : World), (execOp ρ o).run Try.prog w = .ok .recover w :=
  ⟨_, _, rfl, rfl, rfl, fun ρ w => rfl⟩
theorem cnt_size : cntStr.size = 5 := rfl
theorem ΓQ0_ok : ∀ f g, ΓQ0 f = some g → g.ok Try.prog f := addCtr_ok (addCtr_ok (addCtr_ok noCtrs_ok (hp_ok Try.func120 (by kernel_rfl) (by kernel_rfl) Kind10_spec)) (hp_ok Try.func121 (by kernel_rfl) (by kernel_rfl) RdCount_spec)) (hp_ok Try.func131 (by kernel_rfl) (by kernel_rfl) RdEnd_spec)
theorem Call10_spec : HpSpec Try.prog 85 (sRdG fCall10) := rd_spec ΓQ0_ok Try.func85 (Λ := fun _ _ _ => noΛ) fun rest s k q x k' h hq => by
  unfold fCall10 at h
  split at h <;> try (cases h; done)
  cases h
  obtain ⟨rfl, rfl⟩ := hq
  rw [vcCall10]
  refine ⟨⟨⟨⟨by omega, by omega⟩, ⟨by omega, by rw [cnt_size]; omega⟩, by rw [cnt_size]; omega⟩, rfl, by omega⟩, ⟨⟨⟨by omega, by omega⟩, ⟨by omega, by rw [cnt_size]; omega⟩, by rw [cnt_size]; omega⟩, by omega⟩, rfl, ?_, rfl, Nat.le_refl _, fun _ _ => rfl⟩
  repeat (first | exact rfl | refine ⟨rfl, ?_⟩)
theorem ΓQ1_ok : ∀ f g, ΓQ1 f = some g → g.ok Try.prog f := addCtr_ok noCtrs_ok (hp_ok Try.func85 (by kernel_rfl) (by kernel_rfl) Call10_spec)
theorem vcReadC_holds (q : Option Prop) : vcFnD Try.prog ΓQ1 noΛ Try.f38 Try.f84 (dA Try.f38) (dB Try.f38) (dC Try.f84) 3 5 [.v (.string cntStr)] (heapOf []) 64 (fun y h' => FinE [] (.det q (.tup [cntC, iV 0]) []) y h') := by
  rw [vcReadC]
  refine ⟨⟨rfl, rfl⟩, ⟨?_, rfl⟩, trivial⟩
  repeat (first | exact rfl | refine ⟨rfl, ?_⟩)
theorem ReadC_spec : HpSpec Try.prog 38 sReadC := hp_spec_of fun args bs e hs hp => by
  unfold sReadC at hs
  split at hs
  · rename_i s
    have he := Option.some.inj hs
    subst he
    have hx : s = cntStr := hp _ rfl
    subst hx
    obtain ⟨o, rid, b1, b2, b3, b4⟩ := defer38
    obtain ⟨o2, rid2, d1, d2, d3, d4⟩ := caught84
    exact ⟨[], trivial, fun δ w vals ha hr ht => fn_callsD hm ΓQ1_ok Try.func38 Try.func84 b1 b4 b2 b3 (by kernel_rfl) d1 d4 d2 d3 rfl (by kernel_rfl) (by kernel_rfl) ha hr ht (vcReadC_holds _)⟩
  · cases hs
end Go.Proofs.Ytjdldadmaaeimaa
