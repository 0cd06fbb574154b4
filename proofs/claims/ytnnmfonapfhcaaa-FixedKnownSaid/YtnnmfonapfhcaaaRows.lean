/-
  No cell of these rows narrows 'for every input' (looked for: loops, veiled, ifaces, maps, wideKeys, modest, calm, conditions, laid).
  DERIVED. THE GIVEN ROWS OF THIS SEAT. 14 by the template 'for every input the law returns true; each argument reads behind the call as it read before'; 0 by the template 'total and deterministic' (their statements: YtnnmfonapfhcaaaTotals.lean).
  GIVEN WITH THE SEED: the statements are not yours to turn. If you find one false, say at which input.
  Laid BY PROGRAM, IN A SANDBOX (cutbox-rows.mjs): the forced cells as the released guide's own fill.sh prints them over the translation 8cb57718a2b38881… (all of the seat's roots in one cut). By AI agents, Wed Nov 11 2026. No macro, syntax, notation, axiom, sorry.
-/
import Derived.Test.YtnnmfonapfhcaaaChecked
import GoSem.Claim
import GoSem.ClaimJoined
import GoSem.ClaimMapViews
import Derived.JoinedTies
import Derived.KernelRfl
namespace Go.Proofs.Ytnnmfonapfhcaaa
/- THE CELL 'sum', in the pinned program and in every row, IS THE sha256 OF THE DUMP (.gsa) THAT YtnnmfonapfhcaaaProg.lean LOADS. Nothing in Lean hashes anything: it is a label: what it is worth is what the hold of that sum in a sandbox is worth. -/
noncomputable def Try.pinned : Pinned := { name := "ytnnmfonapfhcaaa", sum := "8cb57718a2b3888180b22b47b26dfbc58b19dbe770113848dfbbee505fda4c59", checked := Try.checked }
namespace Rows
def none {H : Type} : Left H := { results := [], args := [] }

/-- 'bagatellelaw01.FixedWhole': WHATEVER THE INPUT: true; the input reads as it did. -/
def fixedWholeSpec : ChangeSpec := { name := "fixedWhole", fn := fun _ => fun
  | [d1, d2, d3, d4, d5] => { results := [.lit (.bool true)], args := [d1, d2, d3, d4, d5] }
  | _ => none }
def fixedWholeRow : OpenClaim := { program := "ytnnmfonapfhcaaa", sum := "8cb57718a2b3888180b22b47b26dfbc58b19dbe770113848dfbbee505fda4c59", func := "bagatelle/bagatellelaw01.FixedWhole", spec := "fixedWhole", inPlace := ["math/bits.Add64", "math/bits.Sub64", "internal/abi.NoEscape"], named := ["math/bits.divideError", "math/bits.overflowError"], apart := false }
def FixedWholeSaid : Prop := fixedWholeRow.holds Try.pinned (OpenSpec.ofChange fixedWholeSpec)

/-- ITS FALSE NEIGHBOUR: 'it returns false'. Refute it at one input. -/
def fixedWholeWrong : ChangeSpec := { name := "fixedWhole", fn := fun _ => fun
  | [d1, d2, d3, d4, d5] => { results := [.lit (.bool false)], args := [d1, d2, d3, d4, d5] }
  | _ => none }
def FixedWholeWrongFalsely : Prop := fixedWholeRow.holds Try.pinned (OpenSpec.ofChange fixedWholeWrong)

/-- 'bagatellelaw01.FixedMonotone': WHATEVER THE INPUT: true; the input reads as it did. -/
def fixedMonotoneSpec : ChangeSpec := { name := "fixedMonotone", fn := fun _ => fun
  | [d1, d2, d3] => { results := [.lit (.bool true)], args := [d1, d2, d3] }
  | _ => none }
def fixedMonotoneRow : OpenClaim := { program := "ytnnmfonapfhcaaa", sum := "8cb57718a2b3888180b22b47b26dfbc58b19dbe770113848dfbbee505fda4c59", func := "bagatelle/bagatellelaw01.FixedMonotone", spec := "fixedMonotone", inPlace := ["math/bits.Add64", "math/bits.Sub64", "internal/abi.NoEscape"], named := ["math/bits.divideError", "math/bits.overflowError"], apart := false }
def FixedMonotoneSaid : Prop := fixedMonotoneRow.holds Try.pinned (OpenSpec.ofChange fixedMonotoneSpec)

/-- ITS FALSE NEIGHBOUR: 'it returns false'. Refute it at one input. -/
def fixedMonotoneWrong : ChangeSpec := { name := "fixedMonotone", fn := fun _ => fun
  | [d1, d2, d3] => { results := [.lit (.bool false)], args := [d1, d2, d3] }
  | _ => none }
def FixedMonotoneWrongFalsely : Prop := fixedMonotoneRow.holds Try.pinned (OpenSpec.ofChange fixedMonotoneWrong)

/-- 'bagatellelaw01.FixedLists': WHATEVER THE INPUT: true; the input reads as it did. -/
def fixedListsSpec : ChangeSpec := { name := "fixedLists", fn := fun _ => fun
  | [d1, d2, d3, d4] => { results := [.lit (.bool true)], args := [d1, d2, d3, d4] }
  | _ => none }
def fixedListsRow : OpenClaim := { program := "ytnnmfonapfhcaaa", sum := "8cb57718a2b3888180b22b47b26dfbc58b19dbe770113848dfbbee505fda4c59", func := "bagatelle/bagatellelaw01.FixedLists", spec := "fixedLists", inPlace := ["internal/abi.NoEscape", "math/bits.Add64", "math/bits.Sub64"], named := ["math/bits.divideError", "math/bits.overflowError"], apart := false }
def FixedListsSaid : Prop := fixedListsRow.holds Try.pinned (OpenSpec.ofChange fixedListsSpec)

/-- ITS FALSE NEIGHBOUR: 'it returns false'. Refute it at one input. -/
def fixedListsWrong : ChangeSpec := { name := "fixedLists", fn := fun _ => fun
  | [d1, d2, d3, d4] => { results := [.lit (.bool false)], args := [d1, d2, d3, d4] }
  | _ => none }
def FixedListsWrongFalsely : Prop := fixedListsRow.holds Try.pinned (OpenSpec.ofChange fixedListsWrong)

/-- 'bagatellelaw01.FixedScale': WHATEVER THE INPUT: true; the input reads as it did. -/
def fixedScaleSpec : ChangeSpec := { name := "fixedScale", fn := fun _ => fun
  | [d1, d2] => { results := [.lit (.bool true)], args := [d1, d2] }
  | _ => none }
def fixedScaleRow : OpenClaim := { program := "ytnnmfonapfhcaaa", sum := "8cb57718a2b3888180b22b47b26dfbc58b19dbe770113848dfbbee505fda4c59", func := "bagatelle/bagatellelaw01.FixedScale", spec := "fixedScale", inPlace := ["internal/abi.NoEscape", "math/bits.Add64", "math/bits.Sub64"], named := ["math/bits.divideError", "math/bits.overflowError"], apart := false }
def FixedScaleSaid : Prop := fixedScaleRow.holds Try.pinned (OpenSpec.ofChange fixedScaleSpec)

/-- ITS FALSE NEIGHBOUR: 'it returns false'. Refute it at one input. -/
def fixedScaleWrong : ChangeSpec := { name := "fixedScale", fn := fun _ => fun
  | [d1, d2] => { results := [.lit (.bool false)], args := [d1, d2] }
  | _ => none }
def FixedScaleWrongFalsely : Prop := fixedScaleRow.holds Try.pinned (OpenSpec.ofChange fixedScaleWrong)

/-- 'bagatellelaw01.FixedOps': WHATEVER THE INPUT: true; the input reads as it did. -/
def fixedOpsSpec : ChangeSpec := { name := "fixedOps", fn := fun _ => fun
  | [d1, d2, d3, d4] => { results := [.lit (.bool true)], args := [d1, d2, d3, d4] }
  | _ => none }
def fixedOpsRow : OpenClaim := { program := "ytnnmfonapfhcaaa", sum := "8cb57718a2b3888180b22b47b26dfbc58b19dbe770113848dfbbee505fda4c59", func := "bagatelle/bagatellelaw01.FixedOps", spec := "fixedOps", inPlace := ["math/bits.Add64", "math/bits.Sub64", "internal/abi.NoEscape"], named := ["math/bits.divideError", "math/bits.overflowError"], apart := false }
def FixedOpsSaid : Prop := fixedOpsRow.holds Try.pinned (OpenSpec.ofChange fixedOpsSpec)

/-- ITS FALSE NEIGHBOUR: 'it returns false'. Refute it at one input. -/
def fixedOpsWrong : ChangeSpec := { name := "fixedOps", fn := fun _ => fun
  | [d1, d2, d3, d4] => { results := [.lit (.bool false)], args := [d1, d2, d3, d4] }
  | _ => none }
def FixedOpsWrongFalsely : Prop := fixedOpsRow.holds Try.pinned (OpenSpec.ofChange fixedOpsWrong)

/-- 'bagatellelaw01.FixedRoots': WHATEVER THE INPUT: true; the input reads as it did. -/
def fixedRootsSpec : ChangeSpec := { name := "fixedRoots", fn := fun _ => fun
  | [d1, d2, d3, d4] => { results := [.lit (.bool true)], args := [d1, d2, d3, d4] }
  | _ => none }
def fixedRootsRow : OpenClaim := { program := "ytnnmfonapfhcaaa", sum := "8cb57718a2b3888180b22b47b26dfbc58b19dbe770113848dfbbee505fda4c59", func := "bagatelle/bagatellelaw01.FixedRoots", spec := "fixedRoots", inPlace := ["math/bits.Add64", "math/bits.Sub64", "internal/abi.NoEscape"], named := ["math/bits.divideError", "math/bits.overflowError"], apart := false }
def FixedRootsSaid : Prop := fixedRootsRow.holds Try.pinned (OpenSpec.ofChange fixedRootsSpec)

/-- ITS FALSE NEIGHBOUR: 'it returns false'. Refute it at one input. -/
def fixedRootsWrong : ChangeSpec := { name := "fixedRoots", fn := fun _ => fun
  | [d1, d2, d3, d4] => { results := [.lit (.bool false)], args := [d1, d2, d3, d4] }
  | _ => none }
def FixedRootsWrongFalsely : Prop := fixedRootsRow.holds Try.pinned (OpenSpec.ofChange fixedRootsWrong)

/-- 'bagatellelaw01.FixedOrder': WHATEVER THE INPUT: true; the input reads as it did. -/
def fixedOrderSpec : ChangeSpec := { name := "fixedOrder", fn := fun _ => fun
  | [d1, d2, d3] => { results := [.lit (.bool true)], args := [d1, d2, d3] }
  | _ => none }
def fixedOrderRow : OpenClaim := { program := "ytnnmfonapfhcaaa", sum := "8cb57718a2b3888180b22b47b26dfbc58b19dbe770113848dfbbee505fda4c59", func := "bagatelle/bagatellelaw01.FixedOrder", spec := "fixedOrder", inPlace := ["math/bits.Add64", "math/bits.Sub64", "internal/abi.NoEscape"], named := ["math/bits.divideError", "math/bits.overflowError"], apart := false }
def FixedOrderSaid : Prop := fixedOrderRow.holds Try.pinned (OpenSpec.ofChange fixedOrderSpec)

/-- ITS FALSE NEIGHBOUR: 'it returns false'. Refute it at one input. -/
def fixedOrderWrong : ChangeSpec := { name := "fixedOrder", fn := fun _ => fun
  | [d1, d2, d3] => { results := [.lit (.bool false)], args := [d1, d2, d3] }
  | _ => none }
def FixedOrderWrongFalsely : Prop := fixedOrderRow.holds Try.pinned (OpenSpec.ofChange fixedOrderWrong)

/-- 'bagatellelaw01.FixedTexts': WHATEVER THE INPUT: true; the input reads as it did. -/
def fixedTextsSpec : ChangeSpec := { name := "fixedTexts", fn := fun _ => fun
  | [d1, d2] => { results := [.lit (.bool true)], args := [d1, d2] }
  | _ => none }
def fixedTextsRow : OpenClaim := { program := "ytnnmfonapfhcaaa", sum := "8cb57718a2b3888180b22b47b26dfbc58b19dbe770113848dfbbee505fda4c59", func := "bagatelle/bagatellelaw01.FixedTexts", spec := "fixedTexts", inPlace := ["internal/abi.NoEscape", "math/bits.Add64", "math/bits.Sub64"], recurses := true, named := ["math/bits.divideError", "math/bits.overflowError"], apart := false }
def FixedTextsSaid : Prop := fixedTextsRow.holds Try.pinned (OpenSpec.ofChange fixedTextsSpec)

/-- ITS FALSE NEIGHBOUR: 'it returns false'. Refute it at one input. -/
def fixedTextsWrong : ChangeSpec := { name := "fixedTexts", fn := fun _ => fun
  | [d1, d2] => { results := [.lit (.bool false)], args := [d1, d2] }
  | _ => none }
def FixedTextsWrongFalsely : Prop := fixedTextsRow.holds Try.pinned (OpenSpec.ofChange fixedTextsWrong)

/-- 'bagatellelaw01.FixedBack': WHATEVER THE INPUT: true; the input reads as it did. -/
def fixedBackSpec : ChangeSpec := { name := "fixedBack", fn := fun _ => fun
  | [d1, d2, d3] => { results := [.lit (.bool true)], args := [d1, d2, d3] }
  | _ => none }
def fixedBackRow : OpenClaim := { program := "ytnnmfonapfhcaaa", sum := "8cb57718a2b3888180b22b47b26dfbc58b19dbe770113848dfbbee505fda4c59", func := "bagatelle/bagatellelaw01.FixedBack", spec := "fixedBack", inPlace := ["internal/abi.NoEscape", "math/bits.Add64", "math/bits.Sub64"], named := ["math/bits.divideError", "math/bits.overflowError"], apart := false }
def FixedBackSaid : Prop := fixedBackRow.holds Try.pinned (OpenSpec.ofChange fixedBackSpec)

/-- ITS FALSE NEIGHBOUR: 'it returns false'. Refute it at one input. -/
def fixedBackWrong : ChangeSpec := { name := "fixedBack", fn := fun _ => fun
  | [d1, d2, d3] => { results := [.lit (.bool false)], args := [d1, d2, d3] }
  | _ => none }
def FixedBackWrongFalsely : Prop := fixedBackRow.holds Try.pinned (OpenSpec.ofChange fixedBackWrong)

/-- 'bagatellelaw01.FixedRooted': WHATEVER THE INPUT: true; the input reads as it did. -/
def fixedRootedSpec : ChangeSpec := { name := "fixedRooted", fn := fun _ => fun
  | [d1, d2] => { results := [.lit (.bool true)], args := [d1, d2] }
  | _ => none }
def fixedRootedRow : OpenClaim := { program := "ytnnmfonapfhcaaa", sum := "8cb57718a2b3888180b22b47b26dfbc58b19dbe770113848dfbbee505fda4c59", func := "bagatelle/bagatellelaw01.FixedRooted", spec := "fixedRooted", inPlace := ["math/bits.Add64", "internal/abi.NoEscape", "math/bits.Sub64"], named := ["math/bits.divideError", "math/bits.overflowError"], apart := false }
def FixedRootedSaid : Prop := fixedRootedRow.holds Try.pinned (OpenSpec.ofChange fixedRootedSpec)

/-- ITS FALSE NEIGHBOUR: 'it returns false'. Refute it at one input. -/
def fixedRootedWrong : ChangeSpec := { name := "fixedRooted", fn := fun _ => fun
  | [d1, d2] => { results := [.lit (.bool false)], args := [d1, d2] }
  | _ => none }
def FixedRootedWrongFalsely : Prop := fixedRootedRow.holds Try.pinned (OpenSpec.ofChange fixedRootedWrong)

/-- 'bagatellelaw01.FixedTurns': WHATEVER THE INPUT: true; the input reads as it did. -/
def fixedTurnsSpec : ChangeSpec := { name := "fixedTurns", fn := fun _ => fun
  | [d] => { results := [.lit (.bool true)], args := [d] }
  | _ => none }
def fixedTurnsRow : OpenClaim := { program := "ytnnmfonapfhcaaa", sum := "8cb57718a2b3888180b22b47b26dfbc58b19dbe770113848dfbbee505fda4c59", func := "bagatelle/bagatellelaw01.FixedTurns", spec := "fixedTurns", inPlace := ["math/bits.Add64", "math/bits.Sub64", "internal/abi.NoEscape"], named := ["math/bits.divideError", "math/bits.overflowError"], apart := false }
def FixedTurnsSaid : Prop := fixedTurnsRow.holds Try.pinned (OpenSpec.ofChange fixedTurnsSpec)

/-- ITS FALSE NEIGHBOUR: 'it returns false'. Refute it at one input. -/
def fixedTurnsWrong : ChangeSpec := { name := "fixedTurns", fn := fun _ => fun
  | [d] => { results := [.lit (.bool false)], args := [d] }
  | _ => none }
def FixedTurnsWrongFalsely : Prop := fixedTurnsRow.holds Try.pinned (OpenSpec.ofChange fixedTurnsWrong)

/-- 'bagatellelaw01.FixedCircle': WHATEVER THE INPUT: true; the input reads as it did. -/
def fixedCircleSpec : ChangeSpec := { name := "fixedCircle", fn := fun _ => fun
  | [d] => { results := [.lit (.bool true)], args := [d] }
  | _ => none }
def fixedCircleRow : OpenClaim := { program := "ytnnmfonapfhcaaa", sum := "8cb57718a2b3888180b22b47b26dfbc58b19dbe770113848dfbbee505fda4c59", func := "bagatelle/bagatellelaw01.FixedCircle", spec := "fixedCircle", inPlace := ["math/bits.Add64", "math/bits.Sub64", "internal/abi.NoEscape"], named := ["math/bits.divideError", "math/bits.overflowError"], apart := false }
def FixedCircleSaid : Prop := fixedCircleRow.holds Try.pinned (OpenSpec.ofChange fixedCircleSpec)

/-- ITS FALSE NEIGHBOUR: 'it returns false'. Refute it at one input. -/
def fixedCircleWrong : ChangeSpec := { name := "fixedCircle", fn := fun _ => fun
  | [d] => { results := [.lit (.bool false)], args := [d] }
  | _ => none }
def FixedCircleWrongFalsely : Prop := fixedCircleRow.holds Try.pinned (OpenSpec.ofChange fixedCircleWrong)

/-- 'bagatellelaw01.FixedFlags': WHATEVER THE INPUT: true; the input reads as it did. -/
def fixedFlagsSpec : ChangeSpec := { name := "fixedFlags", fn := fun _ => fun
  | [d1, d2, d3] => { results := [.lit (.bool true)], args := [d1, d2, d3] }
  | _ => none }
def fixedFlagsRow : OpenClaim := { program := "ytnnmfonapfhcaaa", sum := "8cb57718a2b3888180b22b47b26dfbc58b19dbe770113848dfbbee505fda4c59", func := "bagatelle/bagatellelaw01.FixedFlags", spec := "fixedFlags", inPlace := ["math/bits.Add64", "math/bits.Sub64", "internal/abi.NoEscape"], named := ["math/bits.divideError", "math/bits.overflowError"], apart := false }
def FixedFlagsSaid : Prop := fixedFlagsRow.holds Try.pinned (OpenSpec.ofChange fixedFlagsSpec)

/-- ITS FALSE NEIGHBOUR: 'it returns false'. Refute it at one input. -/
def fixedFlagsWrong : ChangeSpec := { name := "fixedFlags", fn := fun _ => fun
  | [d1, d2, d3] => { results := [.lit (.bool false)], args := [d1, d2, d3] }
  | _ => none }
def FixedFlagsWrongFalsely : Prop := fixedFlagsRow.holds Try.pinned (OpenSpec.ofChange fixedFlagsWrong)

/-- 'bagatellelaw01.FixedKnown': WHATEVER THE INPUT: true; the input reads as it did. -/
def fixedKnownSpec : ChangeSpec := { name := "fixedKnown", fn := fun _ => fun
  | [] => { results := [.lit (.bool true)], args := [] }
  | _ => none }
def fixedKnownRow : OpenClaim := { program := "ytnnmfonapfhcaaa", sum := "8cb57718a2b3888180b22b47b26dfbc58b19dbe770113848dfbbee505fda4c59", func := "bagatelle/bagatellelaw01.FixedKnown", spec := "fixedKnown", inPlace := ["internal/abi.NoEscape", "math/bits.Add64", "math/bits.Sub64"], named := ["math/bits.divideError", "math/bits.overflowError"], apart := false }
def FixedKnownSaid : Prop := fixedKnownRow.holds Try.pinned (OpenSpec.ofChange fixedKnownSpec)

/-- ITS FALSE NEIGHBOUR: 'it returns false'. Refute it at one input. -/
def fixedKnownWrong : ChangeSpec := { name := "fixedKnown", fn := fun _ => fun
  | [] => { results := [.lit (.bool false)], args := [] }
  | _ => none }
def FixedKnownWrongFalsely : Prop := fixedKnownRow.holds Try.pinned (OpenSpec.ofChange fixedKnownWrong)

/- THE SECOND FORM. 'bulk': how many values and letters a reading holds, each counted each time it is reached (what is shared counts as often as it is met; a slice's spare places count too). A statement '..UptoSaid' is the law's where the arguments, and the package variables that the reading takes, are together of bulk at most 1048576: NARROWER than '..Said'. Prove '..Said' where nothing that the law and all that it calls make is longer than what came in: it says more and counts as full. Else prove '..UptoSaid'. A law counts once. -/
mutual
def uptoBulk {H : Type} : DataW H → Nat
  | .lit (.string bytes) => bytes.length + 1
  | .lit _ => 1
  | .nil => 1
  | .ptr d => uptoBulk d + 1
  | .slice elems spare => uptoBulkAll elems + uptoBulkAll spare + 1
  | .agg parts => uptoBulkAll parts + 1
  | .iface _ d => uptoBulk d + 1
  | .map entries => uptoBulkEntries entries + 1
  | .held _ => 1
def uptoBulkAll {H : Type} : List (DataW H) → Nat
  | [] => 0
  | d :: r => uptoBulk d + uptoBulkAll r
def uptoBulkEntries {H : Type} : List (Lit × DataW H) → Nat
  | [] => 0
  | x :: r => uptoBulkEntry x + uptoBulkEntries r
def uptoBulkEntry {H : Type} : Lit × DataW H → Nat
  | (.string bytes, d) => bytes.length + uptoBulk d + 1
  | (_, d) => uptoBulk d + 1
 end
def uptoSmall : (H : Type) → List (DataW H) → Bool := fun _ ds => decide (uptoBulkAll ds ≤ 1048576)
def OpenSpec.upto (s : _root_.Go.ChangeSpec) : _root_.Go.OpenSpec := { _root_.Go.OpenSpec.ofChange s with cond := some uptoSmall }

/-- 'bagatellelaw01.FixedWhole', WHERE WHAT IT READS IS OF BULK AT MOST 1048576: true; the input reads as it did. -/
def fixedWholeUptoRow : OpenClaim := { program := "ytnnmfonapfhcaaa", sum := "8cb57718a2b3888180b22b47b26dfbc58b19dbe770113848dfbbee505fda4c59", func := "bagatelle/bagatellelaw01.FixedWhole", spec := "fixedWhole", inPlace := ["math/bits.Add64", "math/bits.Sub64", "internal/abi.NoEscape"], named := ["math/bits.divideError", "math/bits.overflowError"], apart := false, narrowed := true }
def FixedWholeUptoSaid : Prop := fixedWholeUptoRow.holds Try.pinned (OpenSpec.upto fixedWholeSpec)

/-- 'bagatellelaw01.FixedMonotone', WHERE WHAT IT READS IS OF BULK AT MOST 1048576: true; the input reads as it did. -/
def fixedMonotoneUptoRow : OpenClaim := { program := "ytnnmfonapfhcaaa", sum := "8cb57718a2b3888180b22b47b26dfbc58b19dbe770113848dfbbee505fda4c59", func := "bagatelle/bagatellelaw01.FixedMonotone", spec := "fixedMonotone", inPlace := ["math/bits.Add64", "math/bits.Sub64", "internal/abi.NoEscape"], named := ["math/bits.divideError", "math/bits.overflowError"], apart := false, narrowed := true }
def FixedMonotoneUptoSaid : Prop := fixedMonotoneUptoRow.holds Try.pinned (OpenSpec.upto fixedMonotoneSpec)

/-- 'bagatellelaw01.FixedLists', WHERE WHAT IT READS IS OF BULK AT MOST 1048576: true; the input reads as it did. -/
def fixedListsUptoRow : OpenClaim := { program := "ytnnmfonapfhcaaa", sum := "8cb57718a2b3888180b22b47b26dfbc58b19dbe770113848dfbbee505fda4c59", func := "bagatelle/bagatellelaw01.FixedLists", spec := "fixedLists", inPlace := ["internal/abi.NoEscape", "math/bits.Add64", "math/bits.Sub64"], named := ["math/bits.divideError", "math/bits.overflowError"], apart := false, narrowed := true }
def FixedListsUptoSaid : Prop := fixedListsUptoRow.holds Try.pinned (OpenSpec.upto fixedListsSpec)

/-- 'bagatellelaw01.FixedScale', WHERE WHAT IT READS IS OF BULK AT MOST 1048576: true; the input reads as it did. -/
def fixedScaleUptoRow : OpenClaim := { program := "ytnnmfonapfhcaaa", sum := "8cb57718a2b3888180b22b47b26dfbc58b19dbe770113848dfbbee505fda4c59", func := "bagatelle/bagatellelaw01.FixedScale", spec := "fixedScale", inPlace := ["internal/abi.NoEscape", "math/bits.Add64", "math/bits.Sub64"], named := ["math/bits.divideError", "math/bits.overflowError"], apart := false, narrowed := true }
def FixedScaleUptoSaid : Prop := fixedScaleUptoRow.holds Try.pinned (OpenSpec.upto fixedScaleSpec)

/-- 'bagatellelaw01.FixedOps', WHERE WHAT IT READS IS OF BULK AT MOST 1048576: true; the input reads as it did. -/
def fixedOpsUptoRow : OpenClaim := { program := "ytnnmfonapfhcaaa", sum := "8cb57718a2b3888180b22b47b26dfbc58b19dbe770113848dfbbee505fda4c59", func := "bagatelle/bagatellelaw01.FixedOps", spec := "fixedOps", inPlace := ["math/bits.Add64", "math/bits.Sub64", "internal/abi.NoEscape"], named := ["math/bits.divideError", "math/bits.overflowError"], apart := false, narrowed := true }
def FixedOpsUptoSaid : Prop := fixedOpsUptoRow.holds Try.pinned (OpenSpec.upto fixedOpsSpec)

/-- 'bagatellelaw01.FixedRoots', WHERE WHAT IT READS IS OF BULK AT MOST 1048576: true; the input reads as it did. -/
def fixedRootsUptoRow : OpenClaim := { program := "ytnnmfonapfhcaaa", sum := "8cb57718a2b3888180b22b47b26dfbc58b19dbe770113848dfbbee505fda4c59", func := "bagatelle/bagatellelaw01.FixedRoots", spec := "fixedRoots", inPlace := ["math/bits.Add64", "math/bits.Sub64", "internal/abi.NoEscape"], named := ["math/bits.divideError", "math/bits.overflowError"], apart := false, narrowed := true }
def FixedRootsUptoSaid : Prop := fixedRootsUptoRow.holds Try.pinned (OpenSpec.upto fixedRootsSpec)

/-- 'bagatellelaw01.FixedOrder', WHERE WHAT IT READS IS OF BULK AT MOST 1048576: true; the input reads as it did. -/
def fixedOrderUptoRow : OpenClaim := { program := "ytnnmfonapfhcaaa", sum := "8cb57718a2b3888180b22b47b26dfbc58b19dbe770113848dfbbee505fda4c59", func := "bagatelle/bagatellelaw01.FixedOrder", spec := "fixedOrder", inPlace := ["math/bits.Add64", "math/bits.Sub64", "internal/abi.NoEscape"], named := ["math/bits.divideError", "math/bits.overflowError"], apart := false, narrowed := true }
def FixedOrderUptoSaid : Prop := fixedOrderUptoRow.holds Try.pinned (OpenSpec.upto fixedOrderSpec)

/-- 'bagatellelaw01.FixedTexts', WHERE WHAT IT READS IS OF BULK AT MOST 1048576: true; the input reads as it did. -/
def fixedTextsUptoRow : OpenClaim := { program := "ytnnmfonapfhcaaa", sum := "8cb57718a2b3888180b22b47b26dfbc58b19dbe770113848dfbbee505fda4c59", func := "bagatelle/bagatellelaw01.FixedTexts", spec := "fixedTexts", inPlace := ["internal/abi.NoEscape", "math/bits.Add64", "math/bits.Sub64"], recurses := true, named := ["math/bits.divideError", "math/bits.overflowError"], apart := false, narrowed := true }
def FixedTextsUptoSaid : Prop := fixedTextsUptoRow.holds Try.pinned (OpenSpec.upto fixedTextsSpec)

/-- 'bagatellelaw01.FixedBack', WHERE WHAT IT READS IS OF BULK AT MOST 1048576: true; the input reads as it did. -/
def fixedBackUptoRow : OpenClaim := { program := "ytnnmfonapfhcaaa", sum := "8cb57718a2b3888180b22b47b26dfbc58b19dbe770113848dfbbee505fda4c59", func := "bagatelle/bagatellelaw01.FixedBack", spec := "fixedBack", inPlace := ["internal/abi.NoEscape", "math/bits.Add64", "math/bits.Sub64"], named := ["math/bits.divideError", "math/bits.overflowError"], apart := false, narrowed := true }
def FixedBackUptoSaid : Prop := fixedBackUptoRow.holds Try.pinned (OpenSpec.upto fixedBackSpec)

/-- 'bagatellelaw01.FixedRooted', WHERE WHAT IT READS IS OF BULK AT MOST 1048576: true; the input reads as it did. -/
def fixedRootedUptoRow : OpenClaim := { program := "ytnnmfonapfhcaaa", sum := "8cb57718a2b3888180b22b47b26dfbc58b19dbe770113848dfbbee505fda4c59", func := "bagatelle/bagatellelaw01.FixedRooted", spec := "fixedRooted", inPlace := ["math/bits.Add64", "internal/abi.NoEscape", "math/bits.Sub64"], named := ["math/bits.divideError", "math/bits.overflowError"], apart := false, narrowed := true }
def FixedRootedUptoSaid : Prop := fixedRootedUptoRow.holds Try.pinned (OpenSpec.upto fixedRootedSpec)

/-- 'bagatellelaw01.FixedTurns', WHERE WHAT IT READS IS OF BULK AT MOST 1048576: true; the input reads as it did. -/
def fixedTurnsUptoRow : OpenClaim := { program := "ytnnmfonapfhcaaa", sum := "8cb57718a2b3888180b22b47b26dfbc58b19dbe770113848dfbbee505fda4c59", func := "bagatelle/bagatellelaw01.FixedTurns", spec := "fixedTurns", inPlace := ["math/bits.Add64", "math/bits.Sub64", "internal/abi.NoEscape"], named := ["math/bits.divideError", "math/bits.overflowError"], apart := false, narrowed := true }
def FixedTurnsUptoSaid : Prop := fixedTurnsUptoRow.holds Try.pinned (OpenSpec.upto fixedTurnsSpec)

/-- 'bagatellelaw01.FixedCircle', WHERE WHAT IT READS IS OF BULK AT MOST 1048576: true; the input reads as it did. -/
def fixedCircleUptoRow : OpenClaim := { program := "ytnnmfonapfhcaaa", sum := "8cb57718a2b3888180b22b47b26dfbc58b19dbe770113848dfbbee505fda4c59", func := "bagatelle/bagatellelaw01.FixedCircle", spec := "fixedCircle", inPlace := ["math/bits.Add64", "math/bits.Sub64", "internal/abi.NoEscape"], named := ["math/bits.divideError", "math/bits.overflowError"], apart := false, narrowed := true }
def FixedCircleUptoSaid : Prop := fixedCircleUptoRow.holds Try.pinned (OpenSpec.upto fixedCircleSpec)

/-- 'bagatellelaw01.FixedFlags', WHERE WHAT IT READS IS OF BULK AT MOST 1048576: true; the input reads as it did. -/
def fixedFlagsUptoRow : OpenClaim := { program := "ytnnmfonapfhcaaa", sum := "8cb57718a2b3888180b22b47b26dfbc58b19dbe770113848dfbbee505fda4c59", func := "bagatelle/bagatellelaw01.FixedFlags", spec := "fixedFlags", inPlace := ["math/bits.Add64", "math/bits.Sub64", "internal/abi.NoEscape"], named := ["math/bits.divideError", "math/bits.overflowError"], apart := false, narrowed := true }
def FixedFlagsUptoSaid : Prop := fixedFlagsUptoRow.holds Try.pinned (OpenSpec.upto fixedFlagsSpec)

/-- 'bagatellelaw01.FixedKnown', WHERE WHAT IT READS IS OF BULK AT MOST 1048576: true; the input reads as it did. -/
def fixedKnownUptoRow : OpenClaim := { program := "ytnnmfonapfhcaaa", sum := "8cb57718a2b3888180b22b47b26dfbc58b19dbe770113848dfbbee505fda4c59", func := "bagatelle/bagatellelaw01.FixedKnown", spec := "fixedKnown", inPlace := ["internal/abi.NoEscape", "math/bits.Add64", "math/bits.Sub64"], named := ["math/bits.divideError", "math/bits.overflowError"], apart := false, narrowed := true }
def FixedKnownUptoSaid : Prop := fixedKnownUptoRow.holds Try.pinned (OpenSpec.upto fixedKnownSpec)

end Rows
end Go.Proofs.Ytnnmfonapfhcaaa
