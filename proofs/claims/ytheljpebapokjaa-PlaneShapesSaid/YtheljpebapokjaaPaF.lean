/-
  Contracts: the iterator over corners as a value; convex.
-/
import Derived.Test.YtheljpebapokjaaPaE
import Derived.Test.YtheljpebapokjaaPaIt
set_option maxRecDepth 100000
set_option linter.unusedSimpArgs false
set_option linter.unusedVariables false
namespace Go.Proofs.Ytheljpebapokjaa
open Go.SE Go.RowKit

def roS (el : Nat) (lo li fl wh : Bool) (n ext : Nat) (row : Nat → List SV) : Blk := { elem := el, size := 2, rw := false, lock := lo, lit := li, flat := fl, n := n, row := row, ext := ext, dead := false, whole := wh }
def cornersE (n cap : Nat) : Eff := .det none (.fn 134 [.vp 1000 0]) [(1000, varBlk 30 [.sl 0 2 0 n cap])]
def sCorners (args : List SV) (bs : List Blk) : Option Eff := match args, bs with
  | [.sl 0 2 0 n cap], [b] => bif !b.rw && !b.dead && Nat.beq b.size 2 then some (cornersE n cap) else none
  | _, _ => none
def ΓW1 : Ctrs := addCtr (addCtr (addCtr (addCtr noCtrs 88 (hpCtr false sCorners)) 151 (pureCtr sMinus)) 89 (pureCtr sCross)) 152 (pureCtr sSpan)
theorem vcCorners (el n cap n' ext : Nat) (lo li fl wh : Bool) (row : Nat → List SV) : (vcFn Try.prog noCtrs noΛ Try.f88 [.sl 0 2 0 n cap] (heapOf [roS el lo li fl wh n' ext row]) 64 (fun y h' => FinE [roS el lo li fl wh n' ext row] (cornersE n cap) y h')) =
(((134 = 134) ∧ ((SV.vp 64 0) = (SV.vp 64 0))) ∧ (((1 : Nat) = 1) ∧ (((1 : Nat) ≤ 1) ∧ ((SV.sl 0 2 0 n cap) = (SV.sl 0 2 0 n cap))))) := by kernel_rfl
theorem Corners1_spec : HpSpec Try.prog 88 sCorners := hp_spec hm noCtrs_ok Try.func88 (Λ := fun _ _ => noΛ) fun args bs e hs hp => by
  unfold sCorners at hs
  split at hs <;> try (cases hs; done)
  rename_i n cap b
  obtain ⟨el, sz, rw, lo, li, fl, n', row, ext, de, wh⟩ := b
  cases hc : (!rw && !de && Nat.beq sz 2) with
  | false => simp only [hc, cond_false] at hs; cases hs
  | true =>
    simp only [hc, cond_true, Option.some.injEq] at hs
    subst hs
    simp only [Bool.and_eq_true, Bool.not_eq_true', Nat.beq_eq] at hc
    obtain ⟨⟨rfl, rfl⟩, rfl⟩ := hc
    refine ⟨[roS el lo li fl wh n' ext row], ⟨BlkSame.refl _, trivial⟩, ?_⟩
    refine Eq.mpr (vcCorners el n cap n' ext lo li fl wh row) ?_
    exact ⟨⟨rfl, rfl⟩, rfl, Nat.le_refl _, rfl⟩
end Go.Proofs.Ytheljpebapokjaa
