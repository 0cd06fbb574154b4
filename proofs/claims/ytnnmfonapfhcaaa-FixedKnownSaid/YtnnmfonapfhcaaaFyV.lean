/-
  FixedKnown: the plain part.
-/
import Derived.Test.YtnnmfonapfhcaaaFyU
import Derived.Test.YtnnmfonapfhcaaaFyK
import Derived.Test.YtnnmfonapfhcaaaFyM
set_option maxRecDepth 100000
set_option linter.unusedSimpArgs false
set_option linter.unusedVariables false
namespace Go.Proofs.Ytnnmfonapfhcaaa
open Go.SE Go.RowKit

/-! ### a text is read: reckoned -/
def pcOk (s : List Int) : Bool := decide (-9223372036854775807 ≤ candV s) && (decide (candV s ≤ 9223372036854775807) && (textB (candV s) (candF s) == s))
def pcV (s : List Int) : Int := bif pcOk s then candV s else 0
def pcF (s : List Int) : Bool := pcOk s && candF s
def pcE (s : List Int) : Int := bif pcOk s then 0 else 4
def sParseC : List SV → Option (Option Prop × SV)
  | [.v (.string s)] => some (some (s.size < 1099511627776), .tup [numS (pcV (byt s)) (pcF (byt s)), .v (.int .i64 (pcE (byt s)))])
  | _ => none
def sNo : List SV → Option (Option Prop × SV)
  | [.v (.string s)] => some (some (s.size < 1099511627776), .v (.bool (!pcOk (byt s))))
  | _ => none
def sTextOf : List SV → Option (Option Prop × SV)
  | [.agg [.v (.int .i64 v), .v (.bool f)], .v (.string s)] => some (some (I64 v), .v (.bool (strOfNums (textB (sndV v) (sndF v f)) == s)))
  | _ => none
/-! ### no numbers -/
def sValues0 (args : List SV) (bs : List Blk) : Option Eff := match args, bs with
  | [.v (.slice none 0 0)], [] => some (.det none (.tup [.sl 1000 1 0 0 0, .v (.bool false)]) [(1000, iB 0 fun _ => 0)])
  | _, _ => none
def sNum0 : List SV → Option (Option Prop × SV)
  | [.v (.slice none 0 0)] => some (none, numS 0 false)
  | _ => none
def sMost0 : List SV → Option (Option Prop × SV)
  | [.v (.int .i64 _), .v (.slice none 0 0)] => some (none, numS 0 false)
  | _ => none
theorem vcValues0  : (vcFn Try.prog ΓC (ΛValues 0 (fun _ => 0) (fun _ => false)) Try.f81 [.v (.slice none 0 0)] (heapOf []) 64 (fun y h' => FinE [] (.det none (.tup [.sl 1000 1 0 0 0, .v (.bool false)]) [(1000, iB 0 fun _ => 0)]) y h')) =
((((0 : Int) ≤ 0) ∧ (((0 : Int) ≤ 0) ∧ ((0 : Int) ≤ 140737488355328))) ∧ ((∃ x : Nat, ((Nat.le x 0) ∧ ((((SV.v (Value.int IntKind.i64 0)) = (SV.v (Value.int IntKind.i64 ((↑x : Int))))) ∧ ((SV.v (Value.bool false)) = (SV.v (Value.bool false)))) ∧ (((0 : Nat) = 0) ∧ (((0 : Nat) ≤ 0) ∧ (∀ i : Nat, (((i : Nat) < 0) → ([(SV.v (Value.int IntKind.i64 0))] = [(SV.v (Value.int IntKind.i64 (if i < x then 0 else 0)))])))))))) ∧ (∀ x : Nat, ((Nat.le x 0) → ((((SV.sl 96 1 0 0 0) = (SV.sl 96 1 0 0 0)) ∧ ((SV.v (Value.bool false)) = (SV.v (Value.bool false)))) ∧ (((0 : Nat) = 0) ∧ (((0 : Nat) ≤ 0) ∧ (∀ i : Nat, (((i : Nat) < 0) → ([(SV.v (Value.int IntKind.i64 (if i < x then 0 else 0)))] = [(SV.v (Value.int IntKind.i64 0))])))))))))) := by kernel_rfl
def ΓN0 : Ctrs := addCtr ΓC 81 (hpCtr false sValues0)
theorem vcSum0 (R : SV → Prop) : (vcPure Try.prog ΓN0 (ΛSum 0 (fun _ => [])) Try.f32 [.v (.slice none 0 0)] R) =
((∃ x : KE, ((invS 0 (fun x => []) x) ∧ (((SV.v (Value.int IntKind.i64 0)) = (SV.v (Value.int IntKind.i64 ((↑(KE.k x) : Int))))) ∧ (((1 : Nat) = 1) ∧ (((1 : Nat) ≤ 1) ∧ (∀ i : Nat, (((i : Nat) < 1) → ([(SV.v (Value.bool false)), (SV.v (Value.int IntKind.u64 0)), (SV.v (Value.int IntKind.u64 0))] = [(SV.v (Value.bool (KE.n x))), (SV.v (Value.int IntKind.u64 (KE.m x % 18446744073709551616))), (SV.v (Value.int IntKind.u64 (KE.m x / 18446744073709551616)))])))))))) ∧ (∀ x : KE, ((invS 0 (fun x => []) x) → (((U64 (KE.m x % 18446744073709551616)) ∧ (U64 (KE.m x / 18446744073709551616))) ∧ (R (SV.agg [(SV.v (Value.int IntKind.i64 (fitV (KE.n x) (MM (KE.m x % 18446744073709551616) (KE.m x / 18446744073709551616))))), (SV.v (Value.bool (fitF (MM (KE.m x % 18446744073709551616) (KE.m x / 18446744073709551616)) false)))])))))) := by kernel_rfl
theorem vcMost0 (o : Int) (R : SV → Prop) : (vcPure Try.prog ΓN0 noΛ Try.f79 [.v (.int .i64 o), .v (.slice none 0 0)] R) =
(R (SV.agg [(SV.v (Value.int IntKind.i64 0)), (SV.v (Value.bool false))])) := by kernel_rfl
def ΓN1 : Ctrs := addCtr noCtrs 79 (pureCtr sMost0)
theorem vcMin0 (R : SV → Prop) : (vcPure Try.prog ΓN1 noΛ Try.f28 [.v (.slice none 0 0)] R) =
(R (SV.agg [(SV.v (Value.int IntKind.i64 0)), (SV.v (Value.bool false))])) := by kernel_rfl
def ΓN2 : Ctrs := addCtr (addCtr noCtrs 62 (pureCtr sText)) 60 (pureCtr sParseC)
theorem vcTextOf (v : Int) (f : Bool) (s : ByteArray) (R : SV → Prop) : (vcPure Try.prog ΓN2 noΛ Try.f70 [numS v f, .v (.string s)] R) =
((I64 v) ∧ (R (SV.v (Value.bool (strOfNums (textB (sndV v) (sndF v f)) == s))))) := by kernel_rfl
theorem vcNo (s : ByteArray) (R : SV → Prop) : (vcPure Try.prog ΓN2 noΛ Try.f71 [.v (.string s)] R) =
((((ByteArray.size s) : Nat) < 1099511627776) ∧ 
(sel (pcE (byt s) == 4) (R (SV.v (Value.bool (pcV (byt s) == 0 && pcF (byt s) == false)))) (R (SV.v (Value.bool false))))) := by kernel_rfl
def ΓN3 : Ctrs := addCtr (addCtr (addCtr (addCtr (addCtr (addCtr (addCtr (addCtr (addCtr (noCtrs) 21 (pureCtr sOrder)) 17 (pureCtr sFloor)) 19 (pureCtr sRound)) 38 (pureCtr sInt)) 47 (pureCtr sNeg)) 64 (pureCtr sWrap)) 39 (pureCtr sMul)) 40 (pureCtr sDiv)) 45 (pureCtr sRatio)
def ΓN4 : Ctrs := addCtr (addCtr (addCtr (addCtr (addCtr (addCtr (addCtr (addCtr (addCtr (addCtr ΓN3 35 (pureCtr sClamp)) 30 (roCtr (sMinMax (-1)))) 54 (pureCtr sSqrt)) 56 (pureCtr sHypot)) 66 (pureCtr sSin)) 32 (pureCtr sNum0)) 28 (pureCtr sNum0)) 60 (pureCtr sParseC)) 70 (pureCtr sTextOf)) 71 (pureCtr sNo)
theorem vcKnown (R : SV → Prop) : (vcPure Try.prog ΓN4 noΛ Try.f16 [] R) =
((I64 3) ∧ ((I64 12884901888) ∧ ((I64 2147483648) ∧ ((I64 9223372036854775807) ∧ ((I64 (-2147483648)) ∧ (((45 : Int) ≤ 9223372036854775807) ∧ ((I64 (-9223372036854775807)) ∧ (((I64 1) ∧ (I64 3)) ∧ (((I64 (-1)) ∧ (I64 2)) ∧ ((I64 (-2147483648)) ∧ (((I64 5) ∧ (I64 0)) ∧ ((I64 9223372036854775807) ∧ (((I64 0) ∧ (I64 0)) ∧ ((I64 0) ∧ (((I64 3) ∧ (I64 2)) ∧ ((I64 2147483648) ∧ (((I64 6442450944) ∧ (I64 (-2147483648))) ∧ ((I64 (-3221225472)) ∧ ((I64 1) ∧ ((I64 (-4)) ∧ (((I64 4294967296) ∧ (I64 (-17179869184))) ∧ ((I64 (-1073741824)) ∧ ((I64 (-1)) ∧ ((I64 3) ∧ (((I64 (-4294967296)) ∧ (I64 12884901888)) ∧ ((I64 2) ∧ ((I64 8589934592) ∧ ((I64 (-1)) ∧ ((I64 (-4294967296)) ∧ ((I64 0) ∧ ((I64 3) ∧ ((I64 (-4)) ∧ (((I64 12884901888) ∧ (I64 (-17179869184))) ∧ ((I64 21474836480) ∧ ((I64 0) ∧ ((I64 1) ∧ ((I64 (-3)) ∧ ((((isN [SV.v (Value.int IntKind.i64 4294967296), SV.v (Value.bool false)]) ∧ ((isN [SV.v (Value.int IntKind.i64 8589934592), SV.v (Value.bool true)]) ∧ ((isN [SV.v (Value.int IntKind.i64 (-12884901888)), SV.v (Value.bool false)]) ∧ True))) ∧ (((3 : Nat) = 3) ∧ ((3 : Nat) < 1099511627776))) ∧ ((I64 8589934592) ∧ ((I64 0) ∧ ((I64 5) ∧ ((I64 1) ∧ ((I64 3) ∧ (((I64 21474836480) ∧ ((I64 4294967296) ∧ (I64 12884901888))) ∧ ((I64 12884901888) ∧ ((I64 5) ∧ ((I64 3) ∧ ((I64 1) ∧ (((I64 21474836480) ∧ ((I64 12884901888) ∧ (I64 4294967296))) ∧ ((I64 12884901888) ∧ ((I64 2147483648) ∧ ((I64 2147483648) ∧ ((I64 (-2147483648)) ∧ ((I64 2147483648) ∧ (((I64 5) ∧ (I64 4)) ∧ ((I64 5368709120) ∧ ((((I64 2) ∧ (I64 3)) ∧ ((I64 6) ∧ (I64 1))) ∧ ((((I64 (-2)) ∧ (I64 3)) ∧ ((I64 1) ∧ (I64 1))) ∧ ((((I64 9223372036854775807) ∧ (I64 9223372036854775807)) ∧ ((I64 (-9223372036854775808)) ∧ (I64 (-9223372036854775808)))) ∧ ((I64 13493037705) ∧ ((I64 0) ∧ ((I64 0) ∧ (((3 : Nat) < 1099511627776) ∧ (((2 : Nat) < 1099511627776) ∧ (((2 : Nat) < 1099511627776) ∧ (((2 : Nat) < 1099511627776) ∧ (((4 : Nat) < 1099511627776) ∧ (R (SV.v (Value.bool true)))))))))))))))))))))))))))))))))))))))))))))))))))))))))))))))))))))) := by kernel_rfl
theorem pcOk_eq (s : List Int) : parOk s = pcOk s := by
  refine Bool.eq_iff_iff.2 ?_
  unfold pcOk
  rw [Bool.and_eq_true, Bool.and_eq_true, decide_eq_true_eq, decide_eq_true_eq, beq_iff_eq]
  have e : parOk s = true ↔ ∃ v f, IsText s v f := @decide_eq_true_iff _ (Classical.propDecidable _)
  rw [e]
  constructor
  · rintro ⟨v, f, h⟩
    obtain ⟨h0, h1, h2⟩ := h
    obtain ⟨e1, e2⟩ := IsText.cand ⟨h0, h1, h2⟩
    rw [← e1, ← e2]
    exact ⟨h0, h1, h2⟩
  · rintro ⟨h0, h1, h2⟩
    exact ⟨_, _, h0, h1, h2⟩
theorem sParseC_eq : sParseC = sParse := by
  have e1 : pcV = parV := funext fun s => by unfold pcV parV; rw [pcOk_eq]
  have e2 : pcF = parF := funext fun s => by unfold pcF parF; rw [pcOk_eq]
  have e3 : pcE = parE := funext fun s => by unfold pcE parE; rw [pcOk_eq]
  funext args
  unfold sParseC sParse
  rw [e1, e2, e3]
  split
  · rfl
  · split
    · rename_i h
      exact absurd rfl (h _)
    · rfl
theorem ParseC_spec : PureSpec Try.prog 60 sParseC := by rw [sParseC_eq]; exact Parse_spec
theorem Values0_spec : HpSpec Try.prog 81 sValues0 := hp_spec hm ΓC_ok Try.func81 (Λ := fun _ _ => ΛValues 0 (fun _ => 0) (fun _ => false)) fun args bs e hs hp => by
  unfold sValues0 at hs
  split at hs <;> try (cases hs; done)
  cases hs
  refine ⟨[], trivial, ?_⟩
  refine Eq.mpr vcValues0 ?_
  exact ⟨⟨by decide, by decide, by decide⟩, ⟨0, Nat.le_refl _, ⟨rfl, rfl⟩, rfl, Nat.le_refl _, fun i hi => absurd hi (Nat.not_lt_zero _)⟩, fun x _ => ⟨⟨rfl, rfl⟩, rfl, Nat.le_refl _, fun i hi => absurd hi (Nat.not_lt_zero _)⟩⟩
theorem ΓN0_ok : ∀ f g, ΓN0 f = some g → g.ok Try.prog f := addCtr_ok ΓC_ok (hp_ok Try.func81 (by kernel_rfl) (by kernel_rfl) Values0_spec)
theorem Sum0_spec : PureSpec Try.prog 32 sNum0 := vc_spec hm ΓN0_ok Try.func32 (Λ := fun _ => ΛSum 0 (fun _ => [])) fun args p x h hp => by
  unfold sNum0 at h
  split at h <;> try (cases h; done)
  cases h
  refine ⟨rfl, rfl, Eq.mpr (vcSum0 _) ?_⟩
  refine ⟨⟨⟨0, false, 0⟩, ⟨Nat.le_refl _, Int.le_refl _, by decide, by rfl⟩, rfl, rfl, Nat.le_refl _, fun _ _ => rfl⟩, fun ⟨k, n, m⟩ ⟨h1, h2, h3, h4⟩ => ?_⟩
  simp only at h1 h2 h3 h4 ⊢
  obtain rfl : k = 0 := by omega
  obtain rfl : m = 0 := by omega
  refine ⟨⟨⟨by decide, by decide⟩, by decide, by decide⟩, ?_⟩
  cases n <;> rfl
theorem Most0_spec : PureSpec Try.prog 79 sMost0 := vc_spec hm ΓN0_ok Try.func79 (Λ := fun _ => noΛ) fun args p x h hp => by
  unfold sMost0 at h
  split at h <;> try (cases h; done)
  rename_i o
  cases h
  exact ⟨rfl, rfl, Eq.mpr (vcMost0 o _) rfl⟩
theorem ΓN1_ok : ∀ f g, ΓN1 f = some g → g.ok Try.prog f := addCtr_ok noCtrs_ok (pure_ok Try.func79 (by kernel_rfl) (by kernel_rfl) Most0_spec)
theorem Min0_spec : PureSpec Try.prog 28 sNum0 := vc_spec hm ΓN1_ok Try.func28 (Λ := fun _ => noΛ) fun args p x h hp => by
  unfold sNum0 at h
  split at h <;> try (cases h; done)
  cases h
  exact ⟨rfl, rfl, Eq.mpr (vcMin0 _) rfl⟩
theorem ΓN2_ok : ∀ f g, ΓN2 f = some g → g.ok Try.prog f := addCtr_ok (addCtr_ok noCtrs_ok (pure_ok Try.func62 (by kernel_rfl) (by kernel_rfl) Text_spec)) (pure_ok Try.func60 (by kernel_rfl) (by kernel_rfl) ParseC_spec)
theorem TextOf_spec : PureSpec Try.prog 70 sTextOf := vc_spec hm ΓN2_ok Try.func70 (Λ := fun _ => noΛ) fun args p x h hp => by
  unfold sTextOf at h
  split at h <;> try (cases h; done)
  rename_i v f s
  cases h
  exact ⟨rfl, rfl, Eq.mpr (vcTextOf v f s _) ⟨hp _ rfl, rfl⟩⟩
theorem No_spec : PureSpec Try.prog 71 sNo := vc_spec hm ΓN2_ok Try.func71 (Λ := fun _ => noΛ) fun args p x h hp => by
  unfold sNo at h
  split at h <;> try (cases h; done)
  rename_i s
  cases h
  refine ⟨rfl, rfl, Eq.mpr (vcNo s _) ⟨hp _ rfl, ?_⟩⟩
  unfold pcE pcV pcF
  cases pcOk (byt s) <;> rfl
theorem ΓN3_ok : ∀ f g, ΓN3 f = some g → g.ok Try.prog f := addCtr_ok (addCtr_ok (addCtr_ok (addCtr_ok (addCtr_ok (addCtr_ok (addCtr_ok (addCtr_ok (addCtr_ok (noCtrs_ok) (pure_ok Try.func21 (by kernel_rfl) (by kernel_rfl) Order_spec)) (pure_ok Try.func17 (by kernel_rfl) (by kernel_rfl) Floor_spec)) (pure_ok Try.func19 (by kernel_rfl) (by kernel_rfl) Round_spec)) (pure_ok Try.func38 (by kernel_rfl) (by kernel_rfl) Int_spec)) (pure_ok Try.func47 (by kernel_rfl) (by kernel_rfl) Neg_spec)) (pure_ok Try.func64 (by kernel_rfl) (by kernel_rfl) Wrap_spec)) (pure_ok Try.func39 (by kernel_rfl) (by kernel_rfl) Mul_spec)) (pure_ok Try.func40 (by kernel_rfl) (by kernel_rfl) Div_spec)) (pure_ok Try.func45 (by kernel_rfl) (by kernel_rfl) Ratio_spec)
theorem ΓN4_ok : ∀ f g, ΓN4 f = some g → g.ok Try.prog f := addCtr_ok (addCtr_ok (addCtr_ok (addCtr_ok (addCtr_ok (addCtr_ok (addCtr_ok (addCtr_ok (addCtr_ok (addCtr_ok ΓN3_ok (pure_ok Try.func35 (by kernel_rfl) (by kernel_rfl) Clamp_spec)) (ro_ok Try.func30 (by kernel_rfl) (by kernel_rfl) Max_spec)) (pure_ok Try.func54 (by kernel_rfl) (by kernel_rfl) Sqrt_spec)) (pure_ok Try.func56 (by kernel_rfl) (by kernel_rfl) Hypot_spec)) (pure_ok Try.func66 (by kernel_rfl) (by kernel_rfl) Sin_spec)) (pure_ok Try.func32 (by kernel_rfl) (by kernel_rfl) Sum0_spec)) (pure_ok Try.func28 (by kernel_rfl) (by kernel_rfl) Min0_spec)) (pure_ok Try.func60 (by kernel_rfl) (by kernel_rfl) ParseC_spec)) (pure_ok Try.func70 (by kernel_rfl) (by kernel_rfl) TextOf_spec)) (pure_ok Try.func71 (by kernel_rfl) (by kernel_rfl) No_spec)
def sKnownLaw : List SV → Option (Option Prop × SV)
  | [] => some (none, .v (.bool true))
  | _ => none
theorem KnownLaw_spec : PureSpec Try.prog 16 sKnownLaw := vc_spec hm ΓN4_ok Try.func16 (Λ := fun _ => noΛ) fun args p x h hp => by
  unfold sKnownLaw at h
  split at h <;> try (cases h; done)
  cases h
  refine ⟨rfl, rfl, Eq.mpr (vcKnown _) ?_⟩
  have i : ∀ n : Int, -9223372036854775808 ≤ n → n < 9223372036854775808 → I64 n := fun n a b => ⟨a, b⟩
  simp only [and_true]
  repeat' apply And.intro
  all_goals first | decide | (exact i _ (by decide) (by decide)) | trivial | rfl
end Go.Proofs.Ytnnmfonapfhcaaa
