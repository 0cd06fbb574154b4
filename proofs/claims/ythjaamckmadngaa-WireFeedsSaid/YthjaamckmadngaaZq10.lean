/-
  What the proof uses, part 10.
-/
import Derived.Laws.BitsAllLaws
import Derived.Laws.MathBits
import Derived.Test.YthjaamckmadngaaZq9
set_option maxRecDepth 100000
set_option linter.unusedSimpArgs false
set_option linter.unusedVariables false

section
namespace Go.Proofs.Ythjaamckmadngaa
open Go.SE
def U64 (x : Int) : Prop := 0 ≤ x ∧ x < 18446744073709551616
def I64 (x : Int) : Prop := -9223372036854775808 ≤ x ∧ x < 9223372036854775808
theorem wrap_u64 (n : Int) : IntKind.u64.wrap n = n % 18446744073709551616 := by simp [IntKind.wrap, IntKind.bits, IntKind.signed]
theorem wrap_u32 (n : Int) : IntKind.u32.wrap n = n % 4294967296 := by simp [IntKind.wrap, IntKind.bits, IntKind.signed]
theorem wrap_u8 (n : Int) : IntKind.u8.wrap n = n % 256 := by simp [IntKind.wrap, IntKind.bits, IntKind.signed]
theorem wrap_i64e (n : Int) : IntKind.i64.wrap n = if n % 18446744073709551616 ≥ 9223372036854775808 then n % 18446744073709551616 - 18446744073709551616 else n % 18446744073709551616 := by
  simp [IntKind.wrap, IntKind.bits, IntKind.signed]
theorem wrap_i64 {n : Int} (h : I64 n) : IntKind.i64.wrap n = n := by
  obtain ⟨h1, h2⟩ := h
  rw [wrap_i64e]; split <;> omega
theorem u64_in {n : Int} (h : U64 n) : IntKind.u64.wrap n = n := by obtain ⟨h1, h2⟩ := h; rw [wrap_u64]; omega
theorem int_mk {k : IntKind} {v v' : Int} (h1 : v = v') : SV.v (.int k v) = .v (.int k v') := by rw [h1]
def sv (n : Bool) (m : Int) : Int := if n then -m else m
end Go.Proofs.Ythjaamckmadngaa
end
