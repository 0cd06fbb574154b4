/-
  PlaneKnown: what the law reckons.
-/
import Derived.Test.YtheljpebapokjaaPaW
set_option maxRecDepth 100000
set_option linter.unusedSimpArgs false
set_option linter.unusedVariables false
namespace Go.Proofs.Ytheljpebapokjaa
open Go.SE Go.RowKit

def triG : Nat → Int × Int
  | 0 => (-100, -100)
  | 1 => (100, -100)
  | _ => (0, 100)
def sTri (args : List SV) (bs : List Blk) : Option Eff := match args, bs with
  | [], [] => some (.det none (.sl 1000 2 0 3 3) [(1000, spB 3 3 triG)])
  | _, _ => none
theorem vcTri  : (vcFn Try.prog noCtrs noΛ Try.f77 [] (heapOf []) 64 (fun y h' => FinE [] (.det none (.sl 1000 2 0 3 3) [(1000, spB 3 3 triG)]) y h')) =
(((SV.sl 96 2 0 3 3) = (SV.sl 96 2 0 3 3)) ∧ (((3 : Nat) = 3) ∧ (((3 : Nat) ≤ 3) ∧ (∀ i : Nat, (((i : Nat) < 3) → ([(SV.v (Value.int IntKind.i64 (bop (Nat.beq i 0) (-100) (bop (Nat.beq i 1) 100 0)))), (SV.v (Value.int IntKind.i64 (bop (Nat.beq i 0) (-100) (bop (Nat.beq i 1) (-100) 100))))] = [(SV.v (Value.int IntKind.i64 (Prod.fst (triG i)))), (SV.v (Value.int IntKind.i64 (Prod.snd (triG i))))])))))) := by kernel_rfl
theorem vcKnownV (R : SV → Prop) : (vcPure Try.prog ΓN noΛ Try.f78 [] R) =
(((I64 128) ∧ (I64 (-64))) ∧ (((I64 12884901888) ∧ (I64 (-17179869184))) ∧ ((((I64 4294967296) ∧ (I64 8589934592)) ∧ ((I64 12884901888) ∧ (I64 17179869184))) ∧ ((((I64 4294967296) ∧ (I64 8589934592)) ∧ ((I64 12884901888) ∧ (I64 17179869184))) ∧ (((I64 8589934592) ∧ ((I64 4294967296) ∧ (I64 0))) ∧ ((((isVI [SV.v (Value.int IntKind.i64 4294967296), SV.v (Value.bool false), SV.v (Value.int IntKind.i64 8589934592), SV.v (Value.bool false)]) ∧ ((isVI [SV.v (Value.int IntKind.i64 12884901888), SV.v (Value.bool false), SV.v (Value.int IntKind.i64 17179869184), SV.v (Value.bool false)]) ∧ ((isVI [SV.v (Value.int IntKind.i64 21474836480), SV.v (Value.bool false), SV.v (Value.int IntKind.i64 25769803776), SV.v (Value.bool false)]) ∧ True))) ∧ (((3 : Nat) = 3) ∧ ((3 : Nat) < 1099511627776))) ∧ ((((I64 8589934592) ∧ (I64 (-8589934592))) ∧ (I64 2147483648)) ∧ (((I64 0) ∧ (I64 0)) ∧ ((((I64 8589934592) ∧ (I64 0)) ∧ (((I64 0) ∧ (I64 17179869184)) ∧ ((I64 25769803776) ∧ (I64 8589934592)))) ∧ ((((I64 4294967296) ∧ (I64 8589934592)) ∧ (((I64 8589934592) ∧ (I64 17179869184)) ∧ ((I64 4294967296) ∧ (I64 4294967296)))) ∧ (((I64 4294967296) ∧ (I64 0)) ∧ (((I64 0) ∧ (I64 0)) ∧ ((((I64 0) ∧ (I64 4294967296)) ∧ ((I64 12884901888) ∧ (I64 17179869184))) ∧ ((((I64 0) ∧ (I64 4294967296)) ∧ ((I64 12884901888) ∧ (I64 17179869184))) ∧ ((((I64 42949672960) ∧ (I64 85899345920)) ∧ (((I64 0) ∧ (I64 4294967296)) ∧ ((I64 12884901888) ∧ (I64 17179869184)))) ∧ ((((I64 42949672960) ∧ (I64 85899345920)) ∧ (((I64 0) ∧ (I64 4294967296)) ∧ ((I64 25769803776) ∧ (I64 98784247808)))) ∧ (R (SV.v (Value.bool true))))))))))))))))))) := by kernel_rfl
noncomputable def ΓKn : Ctrs := addCtr (addCtr ΓN 77 (hpCtr false sTri)) 78 (pureCtr sAwake2)
theorem vcKnownL (R : SV → Prop) : (vcPure Try.prog ΓKn noΛ Try.f16 [] R) =
((I64 16) ∧ ((I64 15) ∧ (((I64 16) ∧ (I64 4097)) ∧ ((shOk { k := 4, r := 0, w := 0, h := 0 }) ∧ ((shOk { k := 1, r := 0, w := 1, h := 0 }) ∧ ((spPre 3 (winBlk (decB (Can.es { es := [], bs := [] }) 408 (spB 3 3 triG)) 2 0 3)) ∧ (∀ c : Nat, ((((0 : Int) ≤ 2) ∧ ((2 : Int) < 3)) ∧ ((((0 : Int) ≤ 1) ∧ ((1 : Int) < 3)) ∧ ((((0 : Int) ≤ 0) ∧ ((0 : Int) < 3)) ∧ ((spPre 3 (winBlk (flatBlk 48 2 3 [SV.v (Value.int IntKind.i64 0), SV.v (Value.int IntKind.i64 100), SV.v (Value.int IntKind.i64 100), SV.v (Value.int IntKind.i64 (-100)), SV.v (Value.int IntKind.i64 (-100)), SV.v (Value.int IntKind.i64 (-100))]) 2 0 3)) ∧ (∀ c_1 : Nat, ((spPre 2 (winBlk (flatBlk 48 2 2 [SV.v (Value.int IntKind.i64 1), SV.v (Value.int IntKind.i64 0), SV.v (Value.int IntKind.i64 2), SV.v (Value.int IntKind.i64 0)]) 2 0 2)) ∧ (∀ c_2 : Nat, ((spPre 3 (winBlk (flatBlk 48 2 3 [SV.v (Value.int IntKind.i64 100), SV.v (Value.int IntKind.i64 0), SV.v (Value.int IntKind.i64 200), SV.v (Value.int IntKind.i64 0), SV.v (Value.int IntKind.i64 0), SV.v (Value.int IntKind.i64 200)]) 2 0 3)) ∧ (∀ c_3 : Nat, (((shOk { k := 3, r := 0, w := 0, h := 0 }) ∧ (((isPI [SV.v (Value.int IntKind.i64 (-100)), SV.v (Value.int IntKind.i64 (-100))]) ∧ ((isPI [SV.v (Value.int IntKind.i64 100), SV.v (Value.int IntKind.i64 (-100))]) ∧ ((isPI [SV.v (Value.int IntKind.i64 0), SV.v (Value.int IntKind.i64 100)]) ∧ True))) ∧ (((3 : Nat) = 3) ∧ ((3 : Nat) < 1099511627776)))) ∧ 
(sel ((rchS (chkS { k := 3, r := 0, w := 0, h := 0 } 3 fun i => gi [SV.v (Value.int IntKind.i64 (Prod.fst (rowG (winBlk (decB (Can.es { es := [], bs := [] }) 408 (spB 3 3 triG)) 2 0 3) (0 + i)))), SV.v (Value.int IntKind.i64 (Prod.snd (rowG (winBlk (decB (Can.es { es := [], bs := [] }) 408 (spB 3 3 triG)) 2 0 3) (0 + i))))]) { k := 3, r := 0, w := 0, h := 0 } 3 fun i => gi [SV.v (Value.int IntKind.i64 (Prod.fst (rowG (winBlk (decB (Can.es { es := [], bs := [] }) 408 (spB 3 3 triG)) 2 0 3) (0 + i)))), SV.v (Value.int IntKind.i64 (Prod.snd (rowG (winBlk (decB (Can.es { es := [], bs := [] }) 408 (spB 3 3 triG)) 2 0 3) (0 + i))))]) == 142) (((rowsPre 3 3 fun y => [SV.v (Value.int IntKind.i64 (Prod.fst (rowG (winBlk (decB (Can.es { es := [], bs := [] }) 408 (spB 3 3 triG)) 2 0 3) (0 + y)))), SV.v (Value.int IntKind.i64 (Prod.snd (rowG (winBlk (decB (Can.es { es := [], bs := [] }) 408 (spB 3 3 triG)) 2 0 3) (0 + y))))]) ∧ (rowsPre 3 3 fun y => [SV.v (Value.int IntKind.i64 (Prod.fst (triG (0 + y)))), SV.v (Value.int IntKind.i64 (Prod.snd (triG (0 + y))))])) ∧ ((shOk { k := 2, r := 0, w := 16, h := 32 }) ∧ (∀ c_4 : Nat, (((rowsPre 4 4 fun y => [SV.v (Value.int IntKind.i64 (Prod.fst (corG { k := 2, r := 0, w := 16, h := 32 } zP (0 + y)))), SV.v (Value.int IntKind.i64 (Prod.snd (corG { k := 2, r := 0, w := 16, h := 32 } zP (0 + y))))]) ∧ (rowsPre 4 4 fun y => [SV.v (Value.int IntKind.i64 (bop (Nat.beq (0 + y) 0) (-16) (bop (Nat.beq (0 + y) 1) 16 (bop (Nat.beq (0 + y) 2) 16 (-16))))), SV.v (Value.int IntKind.i64 (bop (Nat.beq (0 + y) 0) (-32) (bop (Nat.beq (0 + y) 1) (-32) (bop (Nat.beq (0 + y) 2) 32 32))))])) ∧ ((shOk { k := 2, r := 0, w := 16, h := 32 }) ∧ 
(sel (rchS 0 { k := 2, r := 0, w := 16, h := 32 } 0 zP == 36) ((shOk { k := 4, r := 0, w := 0, h := 0 }) ∧ (((shOk { k := 2, r := 0, w := 256, h := 256 }) ∧ (I64 2)) ∧ (((shOk { k := 2, r := 0, w := 256, h := 256 }) ∧ (I64 0)) ∧ (R (SV.v (Value.bool true)))))) (((shOk { k := 2, r := 0, w := 256, h := 256 }) ∧ (I64 2)) ∧ (((shOk { k := 2, r := 0, w := 256, h := 256 }) ∧ (I64 0)) ∧ (R (SV.v (Value.bool false))))))))))) ((shOk { k := 2, r := 0, w := 16, h := 32 }) ∧ (∀ c_4 : Nat, (((rowsPre 4 4 fun y => [SV.v (Value.int IntKind.i64 (Prod.fst (corG { k := 2, r := 0, w := 16, h := 32 } zP (0 + y)))), SV.v (Value.int IntKind.i64 (Prod.snd (corG { k := 2, r := 0, w := 16, h := 32 } zP (0 + y))))]) ∧ (rowsPre 4 4 fun y => [SV.v (Value.int IntKind.i64 (bop (Nat.beq (0 + y) 0) (-16) (bop (Nat.beq (0 + y) 1) 16 (bop (Nat.beq (0 + y) 2) 16 (-16))))), SV.v (Value.int IntKind.i64 (bop (Nat.beq (0 + y) 0) (-32) (bop (Nat.beq (0 + y) 1) (-32) (bop (Nat.beq (0 + y) 2) 32 32))))])) ∧ ((shOk { k := 2, r := 0, w := 16, h := 32 }) ∧ 
(sel (rchS 0 { k := 2, r := 0, w := 16, h := 32 } 0 zP == 36) ((shOk { k := 4, r := 0, w := 0, h := 0 }) ∧ (((shOk { k := 2, r := 0, w := 256, h := 256 }) ∧ (I64 2)) ∧ (((shOk { k := 2, r := 0, w := 256, h := 256 }) ∧ (I64 0)) ∧ (R (SV.v (Value.bool false)))))) (((shOk { k := 2, r := 0, w := 256, h := 256 }) ∧ (I64 2)) ∧ (((shOk { k := 2, r := 0, w := 256, h := 256 }) ∧ (I64 0)) ∧ (R (SV.v (Value.bool false)))))))))))))))))))))))))))) := by kernel_rfl
theorem selK {b : Bool} {x y : Prop} (h : b = true) (hx : x) : sel b x y := by subst h; exact hx
theorem Tri_spec : HpSpec Try.prog 77 sTri := hp_spec hm noCtrs_ok Try.func77 (Λ := fun _ _ => noΛ) fun args bs e hs hp => by
  unfold sTri at hs
  split at hs <;> try (cases hs; done)
  cases hs
  refine ⟨[], trivial, ?_⟩
  refine Eq.mpr vcTri ?_
  refine ⟨rfl, rfl, Nat.le_refl _, fun i hi => ?_⟩
  obtain rfl | rfl | rfl : i = 0 ∨ i = 1 ∨ i = 2 := by omega
  · rfl
  · rfl
  · rfl
theorem knownV_vc : vcPure Try.prog ΓN noΛ Try.f78 [] (fun y => y = .v (.bool true)) := by
  refine Eq.mpr (vcKnownV _) ?_
  repeat' (first | exact ⟨of_decide_eq_true rfl, of_decide_eq_true rfl⟩ | exact trivial | exact rfl | refine ⟨?_, ?_⟩)
theorem KnownV_spec : PureSpec Try.prog 78 sAwake2 := vc_spec hm ΓN_ok Try.func78 (Λ := fun _ => noΛ) fun args p x h hp => by
  unfold sAwake2 at h
  split at h <;> try (cases h; done)
  cases h
  exact ⟨rfl, rfl, knownV_vc⟩
theorem ΓKn_ok : ∀ f g, ΓKn f = some g → g.ok Try.prog f := addCtr_ok (addCtr_ok ΓN_ok (hp_ok Try.func77 (by kernel_rfl) (by kernel_rfl) Tri_spec)) (pure_ok Try.func78 (by kernel_rfl) (by kernel_rfl) KnownV_spec)
theorem sqUp_is {n : Int} {m : Nat} (h : n ≤ 1099511627776) (h1 : n ≤ ((m + 1 : Nat) : Int) * ((m + 1 : Nat) : Int)) (h2 : (m : Int) * m < n) : sqUp n = m + 1 :=
  (sqUp_eq h h1 fun j hj => by
    have := sq_mono (show j ≤ m by omega)
    omega).symm
theorem tri_fun : (fun i => gi [SV.v (Value.int IntKind.i64 (Prod.fst (rowG (winBlk (decB (Can.es { es := [], bs := [] }) 408 (spB 3 3 triG)) 2 0 3) (0 + i)))), SV.v (Value.int IntKind.i64 (Prod.snd (rowG (winBlk (decB (Can.es { es := [], bs := [] }) 408 (spB 3 3 triG)) 2 0 3) (0 + i))))]) = triG := funext fun i => by
  show triG (0 + (0 + i)) = triG i
  rw [Nat.zero_add, Nat.zero_add]
theorem reach_tri : rchS (chkS { k := 3, r := 0, w := 0, h := 0 } 3 triG) { k := 3, r := 0, w := 0, h := 0 } 3 triG = 142 := by
  have e : chkS { k := 3, r := 0, w := 0, h := 0 } 3 triG = 0 := by decide +kernel
  rw [e]
  show max (max (max 0 (sqUp 20000 : Int)) (sqUp 20000)) (sqUp 10000) = 142
  rw [sqUp_is (n := 20000) (m := 141) (by decide) (by decide) (by decide), sqUp_is (n := 10000) (m := 99) (by decide) (by decide) (by decide)]
  decide
theorem reach_box : rchS 0 { k := 2, r := 0, w := 16, h := 32 } 0 zP = 36 := by
  show max (max (max (max 0 (sqUp 1280 : Int)) (sqUp 1280)) (sqUp 1280)) (sqUp 1280) = 36
  rw [sqUp_is (n := 1280) (m := 35) (by decide) (by decide) (by decide)]
  decide
theorem knownL_vc : vcPure Try.prog ΓKn noΛ Try.f16 [] (fun y => y = .v (.bool true)) := by
  refine Eq.mpr (vcKnownL _) ?_
  rw [tri_fun, reach_tri, reach_box]
  have l : ∀ n : Int, decide (-9223372036854775808 ≤ n) = true ∧ decide (n < 9223372036854775808) = true → I64 n := fun n h => lit_i n h
  refine ⟨l _ ⟨rfl, rfl⟩, l _ ⟨rfl, rfl⟩, ⟨l _ ⟨rfl, rfl⟩, l _ ⟨rfl, rfl⟩⟩, ⟨⟨l _ ⟨rfl, rfl⟩, l _ ⟨rfl, rfl⟩⟩, l _ ⟨rfl, rfl⟩, l _ ⟨rfl, rfl⟩⟩, ⟨⟨l _ ⟨rfl, rfl⟩, l _ ⟨rfl, rfl⟩⟩, l _ ⟨rfl, rfl⟩, l _ ⟨rfl, rfl⟩⟩, ?_, fun c => ⟨by decide, by decide, by decide, ?_, fun c1 => ⟨?_, fun c2 => ⟨?_, fun c3 => ⟨?_, selK rfl ⟨⟨?_, ?_⟩, ?_, fun c4 => ⟨⟨?_, ?_⟩, ?_, selK rfl ⟨?_, ⟨?_, l _ ⟨rfl, rfl⟩⟩, ⟨?_, l _ ⟨rfl, rfl⟩⟩, rfl⟩⟩⟩⟩⟩⟩⟩⟩
  all_goals repeat' (first | exact ⟨of_decide_eq_true rfl, of_decide_eq_true rfl⟩ | exact trivial | exact rfl | exact of_decide_eq_true rfl | refine ⟨?_, ?_⟩)
theorem KnownL_spec : PureSpec Try.prog 16 sAwake2 := vc_spec hm ΓKn_ok Try.func16 (Λ := fun _ => noΛ) fun args p x h hp => by
  unfold sAwake2 at h
  split at h <;> try (cases h; done)
  cases h
  exact ⟨rfl, rfl, knownL_vc⟩
end Go.Proofs.Ytheljpebapokjaa
