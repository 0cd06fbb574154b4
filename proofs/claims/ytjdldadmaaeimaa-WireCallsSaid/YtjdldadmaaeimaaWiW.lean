/-
  awake answers true.
-/
import Derived.Test.YtjdldadmaaeimaaWiK
import Derived.Test.YtjdldadmaaeimaaWiQ
set_option maxRecDepth 100000
set_option linter.unusedSimpArgs false
set_option linter.unusedVariables false
namespace Go.Proofs.Ytjdldadmaaeimaa
open Go.SE Go.RowKit

def frT (s : ByteArray) : ByteArray := bif Nat.beq s.size 0 then emp else bif Nat.blt 2048 s.size then emp else strOfNums (be (s.size : Int) 4) ++ s
def frE (s : ByteArray) : Int := bif Nat.beq s.size 0 then 7 else bif Nat.blt 2048 s.size then 6 else 0
def sFrame2 : List SV → Option (Option Prop × SV)
  | [.v (.string s)] => some (some (s.size < 4294967296), .tup [strS (frT s), iV (frE s)])
  | _ => none
def ΓA0 : Ctrs := addCtr (addCtr (addCtr (addCtr (addCtr (addCtr noCtrs 24 (pureCtr (sAt [relC] (.tup [strS relStr, iV 0])))) 38 (hpCtr true sReadC)) 32 (pureCtr (sAt [repC] (.tup [strS repStr, iV 0])))) 21 (pureCtr sFrame2)) 16 (pureCtr sName)) 18 (pureCtr sKind)
theorem vcAwake (R : SV → Prop) : (vcPure Try.prog ΓA0 noΛ Try.f20 [] R) =
(([(SV.agg [(SV.v (Value.int IntKind.i64 6)), (SV.v (Value.int IntKind.i64 1)), (SV.v (Value.int IntKind.i64 0)), (SV.v (Value.int IntKind.i64 0)), (SV.v (Value.int IntKind.i64 0)), (SV.v (Value.int IntKind.i64 0)), (SV.v (Value.int IntKind.i64 0)), (SV.v (Value.int IntKind.i64 0)), (SV.v (Value.int IntKind.i64 0)), (SV.v (Value.slice none 0 0)), (SV.v (Value.int IntKind.i64 0)), (SV.v (Value.bool false)), (SV.v (Value.int IntKind.i64 0)), (SV.v (Value.bool false)), (SV.v (Value.int IntKind.i64 0)), (SV.v (Value.bool false)), (SV.v (Value.int IntKind.i64 0)), (SV.v (Value.bool false)), (SV.v (Value.int IntKind.i64 0)), (SV.v (Value.bool false)), (SV.v (Value.int IntKind.i64 0)), (SV.v (Value.bool false)), (SV.v (Value.int IntKind.i64 0)), (SV.v (Value.bool false)), (SV.v (Value.int IntKind.i64 0)), (SV.v (Value.bool false)), (SV.v (Value.int IntKind.i64 0)), (SV.v (Value.bool false)), (SV.v (Value.int IntKind.i64 0)), (SV.v (Value.bool false)), (SV.v (Value.int IntKind.i64 0)), (SV.v (Value.bool false)), (SV.v (Value.int IntKind.i64 0)), (SV.v (Value.bool false)), (SV.v (Value.int IntKind.i64 2)), (SV.v (Value.int IntKind.i64 0)), (SV.v (Value.int IntKind.i64 0)), (SV.v (Value.int IntKind.i64 0)), (SV.v (Value.int IntKind.i64 0)), (SV.v (Value.int IntKind.i64 0)), (SV.v (Value.int IntKind.i64 0)), (SV.v (Value.int IntKind.i64 0)), (SV.v (Value.int IntKind.i64 0))])] = [(SV.agg [(SV.v (Value.int IntKind.i64 6)), (SV.v (Value.int IntKind.i64 1)), (SV.v (Value.int IntKind.i64 0)), (SV.v (Value.int IntKind.i64 0)), (SV.v (Value.int IntKind.i64 0)), (SV.v (Value.int IntKind.i64 0)), (SV.v (Value.int IntKind.i64 0)), (SV.v (Value.int IntKind.i64 0)), (SV.v (Value.int IntKind.i64 0)), (SV.v (Value.slice none 0 0)), (SV.v (Value.int IntKind.i64 0)), (SV.v (Value.bool false)), (SV.v (Value.int IntKind.i64 0)), (SV.v (Value.bool false)), (SV.v (Value.int IntKind.i64 0)), (SV.v (Value.bool false)), (SV.v (Value.int IntKind.i64 0)), (SV.v (Value.bool false)), (SV.v (Value.int IntKind.i64 0)), (SV.v (Value.bool false)), (SV.v (Value.int IntKind.i64 0)), (SV.v (Value.bool false)), (SV.v (Value.int IntKind.i64 0)), (SV.v (Value.bool false)), (SV.v (Value.int IntKind.i64 0)), (SV.v (Value.bool false)), (SV.v (Value.int IntKind.i64 0)), (SV.v (Value.bool false)), (SV.v (Value.int IntKind.i64 0)), (SV.v (Value.bool false)), (SV.v (Value.int IntKind.i64 0)), (SV.v (Value.bool false)), (SV.v (Value.int IntKind.i64 0)), (SV.v (Value.bool false)), (SV.v (Value.int IntKind.i64 2)), (SV.v (Value.int IntKind.i64 0)), (SV.v (Value.int IntKind.i64 0)), (SV.v (Value.int IntKind.i64 0)), (SV.v (Value.int IntKind.i64 0)), (SV.v (Value.int IntKind.i64 0)), (SV.v (Value.int IntKind.i64 0)), (SV.v (Value.int IntKind.i64 0)), (SV.v (Value.int IntKind.i64 0))])]) ∧ (({ data := #[10, 0, 0, 0, 7] } = cntStr) ∧ (([(SV.agg [(SV.v (Value.int IntKind.i64 10)), (SV.v (Value.int IntKind.i64 7)), (SV.v (Value.int IntKind.i64 0)), (SV.v (Value.int IntKind.i64 0)), (SV.v (Value.int IntKind.i64 0)), (SV.v (Value.int IntKind.i64 0)), (SV.v (Value.int IntKind.i64 0)), (SV.v (Value.int IntKind.i64 0)), (SV.v (Value.int IntKind.i64 0)), (SV.v (Value.int IntKind.i64 0)), (SV.v (Value.int IntKind.i64 0)), (SV.v (Value.slice none 0 0)), (SV.v (Value.int IntKind.i64 0)), (SV.v (Value.bool false)), (SV.v (Value.int IntKind.i64 0)), (SV.v (Value.bool false)), (SV.v (Value.int IntKind.i64 0)), (SV.v (Value.bool false)), (SV.v (Value.int IntKind.i64 0)), (SV.v (Value.bool false)), (SV.v (Value.int IntKind.i64 0)), (SV.v (Value.bool false)), (SV.v (Value.int IntKind.i64 0)), (SV.v (Value.bool false)), (SV.v (Value.int IntKind.i64 0)), (SV.v (Value.bool false)), (SV.v (Value.int IntKind.i64 0)), (SV.v (Value.bool false)), (SV.v (Value.int IntKind.i64 0)), (SV.v (Value.bool false)), (SV.v (Value.int IntKind.i64 0)), (SV.v (Value.bool false)), (SV.v (Value.bool false)), (SV.v (Value.int IntKind.i64 0)), (SV.v (Value.slice none 0 0)), (SV.v (Value.bool false)), (SV.v (Value.int IntKind.i64 0)), (SV.v (Value.bool false)), (SV.v (Value.int IntKind.i64 0)), (SV.v (Value.bool false)), (SV.v (Value.int IntKind.i64 0)), (SV.v (Value.bool false)), (SV.v (Value.int IntKind.i64 3))])] = [(SV.agg [(SV.v (Value.int IntKind.i64 10)), (SV.v (Value.int IntKind.i64 7)), (SV.v (Value.int IntKind.i64 0)), (SV.v (Value.int IntKind.i64 0)), (SV.v (Value.int IntKind.i64 0)), (SV.v (Value.int IntKind.i64 0)), (SV.v (Value.int IntKind.i64 0)), (SV.v (Value.int IntKind.i64 0)), (SV.v (Value.int IntKind.i64 0)), (SV.v (Value.int IntKind.i64 0)), (SV.v (Value.int IntKind.i64 0)), (SV.v (Value.slice none 0 0)), (SV.v (Value.int IntKind.i64 0)), (SV.v (Value.bool false)), (SV.v (Value.int IntKind.i64 0)), (SV.v (Value.bool false)), (SV.v (Value.int IntKind.i64 0)), (SV.v (Value.bool false)), (SV.v (Value.int IntKind.i64 0)), (SV.v (Value.bool false)), (SV.v (Value.int IntKind.i64 0)), (SV.v (Value.bool false)), (SV.v (Value.int IntKind.i64 0)), (SV.v (Value.bool false)), (SV.v (Value.int IntKind.i64 0)), (SV.v (Value.bool false)), (SV.v (Value.int IntKind.i64 0)), (SV.v (Value.bool false)), (SV.v (Value.int IntKind.i64 0)), (SV.v (Value.bool false)), (SV.v (Value.int IntKind.i64 0)), (SV.v (Value.bool false)), (SV.v (Value.bool false)), (SV.v (Value.int IntKind.i64 0)), (SV.v (Value.slice none 0 0)), (SV.v (Value.bool false)), (SV.v (Value.int IntKind.i64 0)), (SV.v (Value.bool false)), (SV.v (Value.int IntKind.i64 0)), (SV.v (Value.bool false)), (SV.v (Value.int IntKind.i64 0)), (SV.v (Value.bool false)), (SV.v (Value.int IntKind.i64 3))])]) ∧ (((2 : Nat) < 4294967296) ∧ (((((-9223372036854775808) : Int) ≤ 9) ∧ ((9 : Int) < 9223372036854775808)) ∧ (R (SV.v (Value.bool true)))))))) := by kernel_rfl
def sAwake : List SV → Option (Option Prop × SV)
  | [] => some (none, bV true)
  | _ => none
theorem frame2 (s : ByteArray) : frameS s = .tup [strS (frT s), iV (frE s)] := by
  unfold frameS frT frE
  cases Nat.beq s.size 0 with
  | true => rfl
  | false => cases Nat.blt 2048 s.size <;> rfl
theorem sFrame_eq (s : ByteArray) : sFrame [.v (.string s)] = sFrame2 [.v (.string s)] := by
  show some (some (s.size < 4294967296), frameS s) = _
  rw [frame2]
  rfl
theorem frame2_of {f : FuncId} (h : PureSpec Try.prog f sFrame) : PureSpec Try.prog f sFrame2 := fun args p x hs hp => by
  refine h args p x ?_ hp
  rw [← hs]
  unfold sFrame2 at hs
  split at hs
  · exact sFrame_eq _
  · cases hs
theorem ΓA0_ok : ∀ f g, ΓA0 f = some g → g.ok Try.prog f := addCtr_ok (addCtr_ok (addCtr_ok (addCtr_ok (addCtr_ok (addCtr_ok noCtrs_ok (pure_ok Try.func24 (by kernel_rfl) (by kernel_rfl) Call_spec)) (hp_ok Try.func38 (by kernel_rfl) (by kernel_rfl) ReadC_spec)) (pure_ok Try.func32 (by kernel_rfl) (by kernel_rfl) Reply_spec)) (pure_ok Try.func21 (by kernel_rfl) (by kernel_rfl) (frame2_of Frame_spec))) (pure_ok Try.func16 (by kernel_rfl) (by kernel_rfl) Name_spec)) (pure_ok Try.func18 (by kernel_rfl) (by kernel_rfl) Kind_spec)
theorem Awake_spec : PureSpec Try.prog 20 (sAt [] (bV true)) := at_spec ΓA0_ok Try.func20 (by kernel_rfl) (by kernel_rfl) (Λ := noΛ) (by
  rw [vcAwake]
  exact ⟨rfl, rfl, rfl, by omega, ⟨by omega, by omega⟩, rfl⟩)
theorem Awake0_spec : PureSpec Try.prog 20 sAwake := fun args p x hs hp => by
  unfold sAwake at hs
  split at hs
  · cases hs
    exact Awake_spec [] (some ([] = [])) (bV true) rfl (fun q hq => by cases hq; rfl)
  · cases hs
end Go.Proofs.Ytjdldadmaaeimaa
