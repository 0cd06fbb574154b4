/-
  What the proof uses, part 12.
-/
import Derived.Test.YtjdldadmaaeimaaZr11

section
set_option maxRecDepth 100000
set_option linter.unusedSimpArgs false
set_option linter.unusedVariables false
namespace Go.Proofs.Ytjdldadmaaeimaa
open Go.SE Go.RowKit

theorem vcDone0 (q : Option Prop) (n : Nat) (g : Nat→Int) (c : Nat) : (vcFn Try.prog noCtrs noΛ Try.f71 [.vp 0 0] (heapOf (uB (some false) n g c)) 64 (fun y h' => FinE (uB (some false) n g c) (.det q (.tup [strS (strOf n fun i => [.v (.int .u8 (g i))]),iV 0]) [(0,wB (some false) false (.sl 1 1 0 n c)),(1,bG n g c)]) y h')) = ((∀ y : Nat,(((y : Nat) < n)→True))∧((((SV.v (.string (strOf n fun y => [SV.v (.int .u8 (g (0 + y)))]))) = (SV.v (.string (strOf n fun i => [SV.v (.int .u8 (g i))]))))∧((SV.v (.int .i64 0)) = (SV.v (.int .i64 0))))∧((((1 : Nat) = 1)∧(((1 : Nat) ≤ 1)∧(((SV.sl 1 1 0 n c) = (SV.sl 1 1 0 n c))∧((SV.v (.bool false)) = (SV.v (.bool false))))))∧(((n : Nat) = n)∧(((c : Nat) ≤ c)∧(∀ i : Nat,(((i : Nat) < n)→([(SV.v (.int .u8 (g i)))] = [(SV.v (.int .u8 (g i)))])))))))):=by kernel_rfl
theorem vcDone1 (q : Option Prop) (n : Nat) (g : Nat→Int) (c : Nat) : (vcFn Try.prog noCtrs noΛ Try.f71 [.vp 0 0] (heapOf (uB (some true) n g c)) 64 (fun y h' => FinE (uB (some true) n g c) (.det q (.tup [strS emp,iV 3]) [(0,wB (some true) false (.sl 1 1 0 n c)),(1,bG n g c)]) y h')) = ((((SV.v (.string ({data:=#[]}))) = (SV.v (.string emp)))∧((SV.v (.int .i64 3)) = (SV.v (.int .i64 3))))∧((((1 : Nat) = 1)∧(((1 : Nat) ≤ 1)∧(((SV.sl 1 1 0 n c) = (SV.sl 1 1 0 n c))∧((SV.v (.bool true)) = (SV.v (.bool true))))))∧(((n : Nat) = n)∧(((c : Nat) ≤ c)∧(∀ i : Nat,(((i : Nat) < n)→([(SV.v (.int .u8 (g i)))] = [(SV.v (.int .u8 (g i)))]))))))):=by kernel_rfl
def relLs : List Int := [6] ++ (c4 1 ++ c4 2)
theorem vcCallR (b : Bool) : (vcFn Try.prog ΓG0 noΛ Try.f70 [.vp 0 0,relC] (heapOf (fB (some b))) 64 (fun y h' => FinE (fB (some b)) (apE (.fresh (some b)) 0 True 9 relLs false) y h')) = ((I64 6)∧(∀ c : Nat,((((bytesOk 1 (1 + c) {elem:=5,size:=1,rw:=true,lock:=false,lit:=false,flat:=true,n:=1,row:=fun i => [SV.v (.int .u8 ((fun i => List.getD [6] i 0) i))],ext:=1 + c})∧((1 : Nat) ≤ M0))∧(I64 1))∧(∀ c_1 : Nat,((((bytesOk 5 (5 + c_1) {elem:=5,size:=1,rw:=true,lock:=false,lit:=false,flat:=true,n:=5,row:=fun i => [SV.v (.int .u8 (apG 1 (fun i => SE.byteOf [SV.v (.int .u8 ((fun i => List.getD [6] i 0) i))]) (be 1 4) i))],ext:=5 + c_1})∧((5 : Nat) ≤ M0))∧(I64 2))∧(∀ c_2 : Nat,(∃ c_3 : Nat,(True∧((((1 : Nat) = 1)∧(((1 : Nat) ≤ 1)∧(((SV.sl 288 1 0 9 (9 + c_2)) = (SV.sl 288 1 0 9 (9 + c_3)))∧((SV.v (.bool (b||false||false||false))) = (SV.v (.bool (b||false)))))))∧(((9 : Nat) = 9)∧((((9 + c_3) : Nat) ≤ (9 + c_2))∧(∀ i : Nat,(((i : Nat) < 9)→([(SV.v (.int .u8 (apG 5 (fun i => SE.byteOf [SV.v (.int .u8 (apG 1 (fun i => SE.byteOf [SV.v (.int .u8 ((fun i => List.getD [6] i 0) i))]) (be 1 4) i))]) (be 2 4) i)))] = [(SV.v (.int .u8 (List.getD relLs i 0)))])))))))))))))):=by kernel_rfl
def doneE : WrS → Option Eff
  | .used (some true) n g c p => some (.det (some p) (.tup [strS emp, iV 3]) [(0, wB (some true) false (.sl 1 1 0 n c)), (1, bG n g c)])
  | .used (some false) n g c p => some (.det (some p) (.tup [strS (strOf n fun i => [.v (.int .u8 (g i))]), iV 0]) [(0, wB (some false) false (.sl 1 1 0 n c)), (1, bG n g c)])
  | _ => none
def sDoneX (args : List SV) (bs : List Blk) : Option Eff := match args with
  | [.vp 0 0] => match wrOf bs with
    | some w => doneE w
    | none => none
  | _ => none
def ΓI0 : Ctrs := addCtr (addCtr (addCtr (addCtr noCtrs 69 (pureCtr (sAt [relC] (.tup [relC, bV true])))) 25 (pureCtr (sAt [relC, relC] (bV true)))) 70 (hpCtr true sCallR)) 71 (hpCtr true sDoneX)
theorem vcCall (R : SV→Prop) : (vcPure Try.prog ΓI0 noΛ Try.f24 [relC] R) = (([(SV.agg [(SV.v (.int .i64 6)),(SV.v (.int .i64 1)),(SV.v (.int .i64 0)),(SV.v (.int .i64 0)),(SV.v (.int .i64 0)),(SV.v (.int .i64 0)),(SV.v (.int .i64 0)),(SV.v (.int .i64 0)),(SV.v (.int .i64 0)),(SV.v (Value.slice none 0 0)),(SV.v (.int .i64 0)),(SV.v (.bool false)),(SV.v (.int .i64 0)),(SV.v (.bool false)),(SV.v (.int .i64 0)),(SV.v (.bool false)),(SV.v (.int .i64 0)),(SV.v (.bool false)),(SV.v (.int .i64 0)),(SV.v (.bool false)),(SV.v (.int .i64 0)),(SV.v (.bool false)),(SV.v (.int .i64 0)),(SV.v (.bool false)),(SV.v (.int .i64 0)),(SV.v (.bool false)),(SV.v (.int .i64 0)),(SV.v (.bool false)),(SV.v (.int .i64 0)),(SV.v (.bool false)),(SV.v (.int .i64 0)),(SV.v (.bool false)),(SV.v (.int .i64 0)),(SV.v (.bool false)),(SV.v (.int .i64 2)),(SV.v (.int .i64 0)),(SV.v (.int .i64 0)),(SV.v (.int .i64 0)),(SV.v (.int .i64 0)),(SV.v (.int .i64 0)),(SV.v (.int .i64 0)),(SV.v (.int .i64 0)),(SV.v (.int .i64 0))])] = [(SV.agg [(SV.v (.int .i64 6)),(SV.v (.int .i64 1)),(SV.v (.int .i64 0)),(SV.v (.int .i64 0)),(SV.v (.int .i64 0)),(SV.v (.int .i64 0)),(SV.v (.int .i64 0)),(SV.v (.int .i64 0)),(SV.v (.int .i64 0)),(SV.v (Value.slice none 0 0)),(SV.v (.int .i64 0)),(SV.v (.bool false)),(SV.v (.int .i64 0)),(SV.v (.bool false)),(SV.v (.int .i64 0)),(SV.v (.bool false)),(SV.v (.int .i64 0)),(SV.v (.bool false)),(SV.v (.int .i64 0)),(SV.v (.bool false)),(SV.v (.int .i64 0)),(SV.v (.bool false)),(SV.v (.int .i64 0)),(SV.v (.bool false)),(SV.v (.int .i64 0)),(SV.v (.bool false)),(SV.v (.int .i64 0)),(SV.v (.bool false)),(SV.v (.int .i64 0)),(SV.v (.bool false)),(SV.v (.int .i64 0)),(SV.v (.bool false)),(SV.v (.int .i64 0)),(SV.v (.bool false)),(SV.v (.int .i64 2)),(SV.v (.int .i64 0)),(SV.v (.int .i64 0)),(SV.v (.int .i64 0)),(SV.v (.int .i64 0)),(SV.v (.int .i64 0)),(SV.v (.int .i64 0)),(SV.v (.int .i64 0)),(SV.v (.int .i64 0))])])∧(([(SV.agg [(SV.v (.int .i64 6)),(SV.v (.int .i64 1)),(SV.v (.int .i64 0)),(SV.v (.int .i64 0)),(SV.v (.int .i64 0)),(SV.v (.int .i64 0)),(SV.v (.int .i64 0)),(SV.v (.int .i64 0)),(SV.v (.int .i64 0)),(SV.v (Value.slice none 0 0)),(SV.v (.int .i64 0)),(SV.v (.bool false)),(SV.v (.int .i64 0)),(SV.v (.bool false)),(SV.v (.int .i64 0)),(SV.v (.bool false)),(SV.v (.int .i64 0)),(SV.v (.bool false)),(SV.v (.int .i64 0)),(SV.v (.bool false)),(SV.v (.int .i64 0)),(SV.v (.bool false)),(SV.v (.int .i64 0)),(SV.v (.bool false)),(SV.v (.int .i64 0)),(SV.v (.bool false)),(SV.v (.int .i64 0)),(SV.v (.bool false)),(SV.v (.int .i64 0)),(SV.v (.bool false)),(SV.v (.int .i64 0)),(SV.v (.bool false)),(SV.v (.int .i64 0)),(SV.v (.bool false)),(SV.v (.int .i64 2)),(SV.v (.int .i64 0)),(SV.v (.int .i64 0)),(SV.v (.int .i64 0)),(SV.v (.int .i64 0)),(SV.v (.int .i64 0)),(SV.v (.int .i64 0)),(SV.v (.int .i64 0)),(SV.v (.int .i64 0))]),(SV.agg [(SV.v (.int .i64 6)),(SV.v (.int .i64 1)),(SV.v (.int .i64 0)),(SV.v (.int .i64 0)),(SV.v (.int .i64 0)),(SV.v (.int .i64 0)),(SV.v (.int .i64 0)),(SV.v (.int .i64 0)),(SV.v (.int .i64 0)),(SV.v (Value.slice none 0 0)),(SV.v (.int .i64 0)),(SV.v (.bool false)),(SV.v (.int .i64 0)),(SV.v (.bool false)),(SV.v (.int .i64 0)),(SV.v (.bool false)),(SV.v (.int .i64 0)),(SV.v (.bool false)),(SV.v (.int .i64 0)),(SV.v (.bool false)),(SV.v (.int .i64 0)),(SV.v (.bool false)),(SV.v (.int .i64 0)),(SV.v (.bool false)),(SV.v (.int .i64 0)),(SV.v (.bool false)),(SV.v (.int .i64 0)),(SV.v (.bool false)),(SV.v (.int .i64 0)),(SV.v (.bool false)),(SV.v (.int .i64 0)),(SV.v (.bool false)),(SV.v (.int .i64 0)),(SV.v (.bool false)),(SV.v (.int .i64 2)),(SV.v (.int .i64 0)),(SV.v (.int .i64 0)),(SV.v (.int .i64 0)),(SV.v (.int .i64 0)),(SV.v (.int .i64 0)),(SV.v (.int .i64 0)),(SV.v (.int .i64 0)),(SV.v (.int .i64 0))])] = [(SV.agg [(SV.v (.int .i64 6)),(SV.v (.int .i64 1)),(SV.v (.int .i64 0)),(SV.v (.int .i64 0)),(SV.v (.int .i64 0)),(SV.v (.int .i64 0)),(SV.v (.int .i64 0)),(SV.v (.int .i64 0)),(SV.v (.int .i64 0)),(SV.v (Value.slice none 0 0)),(SV.v (.int .i64 0)),(SV.v (.bool false)),(SV.v (.int .i64 0)),(SV.v (.bool false)),(SV.v (.int .i64 0)),(SV.v (.bool false)),(SV.v (.int .i64 0)),(SV.v (.bool false)),(SV.v (.int .i64 0)),(SV.v (.bool false)),(SV.v (.int .i64 0)),(SV.v (.bool false)),(SV.v (.int .i64 0)),(SV.v (.bool false)),(SV.v (.int .i64 0)),(SV.v (.bool false)),(SV.v (.int .i64 0)),(SV.v (.bool false)),(SV.v (.int .i64 0)),(SV.v (.bool false)),(SV.v (.int .i64 0)),(SV.v (.bool false)),(SV.v (.int .i64 0)),(SV.v (.bool false)),(SV.v (.int .i64 2)),(SV.v (.int .i64 0)),(SV.v (.int .i64 0)),(SV.v (.int .i64 0)),(SV.v (.int .i64 0)),(SV.v (.int .i64 0)),(SV.v (.int .i64 0)),(SV.v (.int .i64 0)),(SV.v (.int .i64 0))]),(SV.agg [(SV.v (.int .i64 6)),(SV.v (.int .i64 1)),(SV.v (.int .i64 0)),(SV.v (.int .i64 0)),(SV.v (.int .i64 0)),(SV.v (.int .i64 0)),(SV.v (.int .i64 0)),(SV.v (.int .i64 0)),(SV.v (.int .i64 0)),(SV.v (Value.slice none 0 0)),(SV.v (.int .i64 0)),(SV.v (.bool false)),(SV.v (.int .i64 0)),(SV.v (.bool false)),(SV.v (.int .i64 0)),(SV.v (.bool false)),(SV.v (.int .i64 0)),(SV.v (.bool false)),(SV.v (.int .i64 0)),(SV.v (.bool false)),(SV.v (.int .i64 0)),(SV.v (.bool false)),(SV.v (.int .i64 0)),(SV.v (.bool false)),(SV.v (.int .i64 0)),(SV.v (.bool false)),(SV.v (.int .i64 0)),(SV.v (.bool false)),(SV.v (.int .i64 0)),(SV.v (.bool false)),(SV.v (.int .i64 0)),(SV.v (.bool false)),(SV.v (.int .i64 0)),(SV.v (.bool false)),(SV.v (.int .i64 2)),(SV.v (.int .i64 0)),(SV.v (.int .i64 0)),(SV.v (.int .i64 0)),(SV.v (.int .i64 0)),(SV.v (.int .i64 0)),(SV.v (.int .i64 0)),(SV.v (.int .i64 0)),(SV.v (.int .i64 0))])])∧(((SV.agg [(SV.v (.int .i64 6)),(SV.v (.int .i64 1)),(SV.v (.int .i64 0)),(SV.v (.int .i64 0)),(SV.v (.int .i64 0)),(SV.v (.int .i64 0)),(SV.v (.int .i64 0)),(SV.v (.int .i64 0)),(SV.v (.int .i64 0)),(SV.v (Value.slice none 0 0)),(SV.v (.int .i64 0)),(SV.v (.bool false)),(SV.v (.int .i64 0)),(SV.v (.bool false)),(SV.v (.int .i64 0)),(SV.v (.bool false)),(SV.v (.int .i64 0)),(SV.v (.bool false)),(SV.v (.int .i64 0)),(SV.v (.bool false)),(SV.v (.int .i64 0)),(SV.v (.bool false)),(SV.v (.int .i64 0)),(SV.v (.bool false)),(SV.v (.int .i64 0)),(SV.v (.bool false)),(SV.v (.int .i64 0)),(SV.v (.bool false)),(SV.v (.int .i64 0)),(SV.v (.bool false)),(SV.v (.int .i64 0)),(SV.v (.bool false)),(SV.v (.int .i64 0)),(SV.v (.bool false)),(SV.v (.int .i64 2)),(SV.v (.int .i64 0)),(SV.v (.int .i64 0)),(SV.v (.int .i64 0)),(SV.v (.int .i64 0)),(SV.v (.int .i64 0)),(SV.v (.int .i64 0)),(SV.v (.int .i64 0)),(SV.v (.int .i64 0))]) = (SV.agg [(SV.v (.int .i64 6)),(SV.v (.int .i64 1)),(SV.v (.int .i64 0)),(SV.v (.int .i64 0)),(SV.v (.int .i64 0)),(SV.v (.int .i64 0)),(SV.v (.int .i64 0)),(SV.v (.int .i64 0)),(SV.v (.int .i64 0)),(SV.v (Value.slice none 0 0)),(SV.v (.int .i64 0)),(SV.v (.bool false)),(SV.v (.int .i64 0)),(SV.v (.bool false)),(SV.v (.int .i64 0)),(SV.v (.bool false)),(SV.v (.int .i64 0)),(SV.v (.bool false)),(SV.v (.int .i64 0)),(SV.v (.bool false)),(SV.v (.int .i64 0)),(SV.v (.bool false)),(SV.v (.int .i64 0)),(SV.v (.bool false)),(SV.v (.int .i64 0)),(SV.v (.bool false)),(SV.v (.int .i64 0)),(SV.v (.bool false)),(SV.v (.int .i64 0)),(SV.v (.bool false)),(SV.v (.int .i64 0)),(SV.v (.bool false)),(SV.v (.int .i64 0)),(SV.v (.bool false)),(SV.v (.int .i64 2)),(SV.v (.int .i64 0)),(SV.v (.int .i64 0)),(SV.v (.int .i64 0)),(SV.v (.int .i64 0)),(SV.v (.int .i64 0)),(SV.v (.int .i64 0)),(SV.v (.int .i64 0)),(SV.v (.int .i64 0))]))∧(∀ c : Nat,((bytesOk 9 (9 + c) {elem:=5,size:=1,rw:=true,lock:=false,lit:=false,flat:=true,n:=9,row:=fun i => [SV.v (.int .u8 ((fun i => List.getD relL i 0) i))],ext:=9 + c})∧(R (SV.tup [(SV.v (.string (strOf 9 fun i => [SV.v (.int .u8 (SE.byteOf [SV.v (.int .u8 ((fun i => List.getD relL i 0) i))]))]))),(SV.v (.int .i64 0))]))))))):=by kernel_rfl
theorem done_plain (n : Nat) (g : Nat → Int) : (strOf n fun i => [SV.v (.int .u8 (g (0 + i)))]) = strOf n fun i => [SV.v (.int .u8 (g i))] := by simp only [Nat.zero_add]
theorem ΓG0_ok : ∀ f g, ΓG0 f = some g → g.ok Try.prog f := addCtr_ok (addCtr_ok (addCtr_ok ΓF1_ok (hp_ok Try.func103 (by kernel_rfl) (by kernel_rfl) Handle_spec)) (hp_ok Try.func99 (by kernel_rfl) (by kernel_rfl) Vec_spec)) (hp_ok Try.func98 (by kernel_rfl) (by kernel_rfl) Pose_spec)
theorem rel_row (i : Nat) (hi : i < 9) : apG 5 (apG 1 (fun i => ([6] : List Int).getD i 0) (be 1 4)) (be 2 4) i = relLs.getD i 0 := by
  rw [apG_ap (by rw [be_len])]
  have h := lstG_ap 1 (fun i => ([6] : List Int).getD i 0) (be 1 4 ++ be 2 4)
  have e : relLs = [6] ++ (be 1 4 ++ be 2 4) := rfl
  rw [e]
  by_cases h1 : i < 1
  · have : i = 0 := by omega
    subst this; rfl
  · obtain ⟨j, rfl⟩ : ∃ j, i = j + 1 := ⟨i - 1, by omega⟩
    rw [apG_new h1, Nat.add_sub_cancel]
    rfl
theorem CallR_spec : HpSpec Try.prog 70 sCallR := hp_spec hm ΓG0_ok Try.func70 (Λ := fun _ _ => noΛ) fun args bs e hs hp => by
  unfold sCallR at hs
  split at hs <;> try (cases hs; done)
  rename_i x
  split at hs <;> try (cases hs; done)
  rename_i b hw
  cases hs
  have hx : x = relC := hp
  subst hx
  refine ⟨_, wrOf_fresh hw, Eq.mpr (vcCallR b) ⟨⟨by omega, by omega⟩, fun c => ⟨⟨⟨bytesOk_bG _ _ _ (by omega), by show 1 ≤ 1099511627776; omega⟩, ⟨by omega, by omega⟩⟩, fun c1 => ⟨⟨⟨bytesOk_bG _ _ _ (by omega), by show 5 ≤ 1099511627776; omega⟩, ⟨by omega, by omega⟩⟩, fun c2 => tailU rfl (by simp) fun i hi => rel_row i hi⟩⟩⟩⟩
theorem done_arm {w : WrS} {e : Eff} (h : doneE w = some e) (hp : e.asks) : ∃ (b : Bool) (n : Nat) (g : Nat → Int) (c : Nat) (p : Prop), w = .used (some b) n g c p ∧ p ∧ vcFn Try.prog noCtrs noΛ Try.f71 [.vp 0 0] (heapOf (uB (some b) n g c)) 64 (fun y h' => FinE (uB (some b) n g c) e y h') := by
  cases w with
  | fresh k => cases h
  | used k n g c p =>
    cases k with
    | none => cases h
    | some b =>
      cases b with
      | true =>
        have he := Option.some.inj h
        subst he
        refine ⟨true, n, g, c, p, rfl, hp p rfl, ?_⟩
        rw [vcDone1]
        exact ⟨⟨rfl, rfl⟩, ⟨rfl, Nat.le_refl _, rfl, rfl⟩, rfl, Nat.le_refl _, fun _ _ => rfl⟩
      | false =>
        have he := Option.some.inj h
        subst he
        refine ⟨false, n, g, c, p, rfl, hp p rfl, ?_⟩
        rw [vcDone0]
        exact ⟨fun _ _ => trivial, ⟨congrArg (fun z => SV.v (.string z)) (done_plain n g), rfl⟩, ⟨rfl, Nat.le_refl _, rfl, rfl⟩, rfl, Nat.le_refl _, fun _ _ => rfl⟩
theorem Done_spec : HpSpec Try.prog 71 sDoneX := hp_spec hm noCtrs_ok Try.func71 (Λ := fun _ _ => noΛ) fun args bs e hs hp => by
  unfold sDoneX at hs
  split at hs
  · split at hs
    · rename_i w hw
      obtain ⟨b, n, g, c, p, rfl, h1, h2⟩ := done_arm hs hp
      exact ⟨_, (wrOf_used hw h1).1, h2⟩
    · cases hs
  · cases hs
theorem ΓI0_ok : ∀ f g, ΓI0 f = some g → g.ok Try.prog f := addCtr_ok (addCtr_ok (addCtr_ok (addCtr_ok noCtrs_ok (pure_ok Try.func69 (by kernel_rfl) (by kernel_rfl) UsedR_spec)) (pure_ok Try.func25 (by kernel_rfl) (by kernel_rfl) SameR_spec)) (hp_ok Try.func70 (by kernel_rfl) (by kernel_rfl) CallR_spec)) (hp_ok Try.func71 (by kernel_rfl) (by kernel_rfl) Done_spec)
end Go.Proofs.Ytjdldadmaaeimaa
end

section
set_option maxRecDepth 100000
set_option linter.unusedSimpArgs false
set_option linter.unusedVariables false
namespace Go.Proofs.Ytjdldadmaaeimaa
open Go.SE Go.RowKit

def kN (k : Int) (n : Nat) : Nat := bif decide (k = 1) then caN1 n else (bif decide (k = 2) then caN2 n else (bif decide (k = 3) then caN3 n else (bif decide (k = 4) then caN4 n else (bif decide (k = 5) then caN5 n else (bif decide (k = 6) then caN6 n else (bif decide (k = 7) then caN7 n else (bif decide (k = 8) then caN8 n else (bif decide (k = 9) then caN9 n else (bif decide (k = 10) then caN10 n else (0))))))))))
def kT (k : Int) (c : CV) (n : Nat) (x y : Nat → Int) : List Int := bif decide (k = 1) then caT1 c n x y else (bif decide (k = 2) then caT2 c n x y else (bif decide (k = 3) then caT3 c n x y else (bif decide (k = 4) then caT4 c n x y else (bif decide (k = 5) then caT5 c n x y else (bif decide (k = 6) then caT6 c n x y else (bif decide (k = 7) then caT7 c n x y else (bif decide (k = 8) then caT8 c n x y else (bif decide (k = 9) then caT9 c n x y else (bif decide (k = 10) then caT10 c n x y else ([]))))))))))
def kB (k : Int) (c : CV) (n : Nat) : Bool := bif decide (k = 1) then caB1 c n else (bif decide (k = 2) then caB2 c n else (bif decide (k = 3) then caB3 c n else (bif decide (k = 4) then caB4 c n else (bif decide (k = 5) then caB5 c n else (bif decide (k = 6) then caB6 c n else (bif decide (k = 7) then caB7 c n else (bif decide (k = 8) then caB8 c n else (bif decide (k = 9) then caB9 c n else (bif decide (k = 10) then caB10 c n else (false))))))))))
def gX (S : Blk) : Nat → Int := fun i => (rowG S i).1
def gY (S : Blk) : Nat → Int := fun i => (rowG S i).2
def sCallW (args : List SV) (bs : List Blk) : Option Eff := match args with
  | [.vp 0 0, .agg l] => match cellsOf l with
    | some (k, c, .sl 1 2 0 n _) => match bs with
      | [B, S] => match wrOf [B] with
        | some (.fresh (some b)) => bif okB S then some (apE (.fresh (some b)) 0 ((1 ≤ k ∧ k ≤ 10) ∧ cvOk c ∧ spPre n S ∧ n < 100) (5 + kN k n) (caL k c (kT k c n (gX S) (gY S))) (caB c (kB k c n))) else none
        | _ => none
      | _ => none
    | _ => none
  | _ => none
def sDoneG (args : List SV) (bs : List Blk) : Option Eff := match args with
  | [.vp 0 0] => match wrOf bs with
    | some (.used (some b) n g c p) => some (.det (some p) (.tup [strS (bif b then emp else strOf n fun i => [.v (.int .u8 (g i))]), iV (bif b then 3 else 0)]) [(0, wB (some b) false (.sl 1 1 0 n c)), (1, bG n g c)])
    | _ => none
  | _ => none
theorem vcDoneG0 (q : Option Prop) (n : Nat) (g : Nat→Int) (c : Nat) : (vcFn Try.prog noCtrs noΛ Try.f71 [.vp 0 0] (heapOf (uB (some false) n g c)) 64 (fun y h' => FinE (uB (some false) n g c) (.det q (.tup [strS (bif false then emp else strOf n fun i => [.v (.int .u8 (g i))]),iV (bif false then 3 else 0)]) [(0,wB (some false) false (.sl 1 1 0 n c)),(1,bG n g c)]) y h')) = ((∀ y : Nat,(((y : Nat) < n)→True))∧((((SV.v (.string (strOf n fun y => [SV.v (.int .u8 (g (0 + y)))]))) = (SV.v (.string (bif false then emp else strOf n fun i => [SV.v (.int .u8 (g i))]))))∧((SV.v (.int .i64 0)) = (SV.v (.int .i64 0))))∧((((1 : Nat) = 1)∧(((1 : Nat) ≤ 1)∧(((SV.sl 1 1 0 n c) = (SV.sl 1 1 0 n c))∧((SV.v (.bool false)) = (SV.v (.bool false))))))∧(((n : Nat) = n)∧(((c : Nat) ≤ c)∧(∀ i : Nat,(((i : Nat) < n)→([(SV.v (.int .u8 (g i)))] = [(SV.v (.int .u8 (g i)))])))))))):=by kernel_rfl
theorem vcDoneG1 (q : Option Prop) (n : Nat) (g : Nat→Int) (c : Nat) : (vcFn Try.prog noCtrs noΛ Try.f71 [.vp 0 0] (heapOf (uB (some true) n g c)) 64 (fun y h' => FinE (uB (some true) n g c) (.det q (.tup [strS (bif true then emp else strOf n fun i => [.v (.int .u8 (g i))]),iV (bif true then 3 else 0)]) [(0,wB (some true) false (.sl 1 1 0 n c)),(1,bG n g c)]) y h')) = ((((SV.v (.string ({data:=#[]}))) = (SV.v (.string (bif true then emp else strOf n fun i => [SV.v (.int .u8 (g i))]))))∧((SV.v (.int .i64 3)) = (SV.v (.int .i64 3))))∧((((1 : Nat) = 1)∧(((1 : Nat) ≤ 1)∧(((SV.sl 1 1 0 n c) = (SV.sl 1 1 0 n c))∧((SV.v (.bool true)) = (SV.v (.bool true))))))∧(((n : Nat) = n)∧(((c : Nat) ≤ c)∧(∀ i : Nat,(((i : Nat) < n)→([(SV.v (.int .u8 (g i)))] = [(SV.v (.int .u8 (g i)))]))))))):=by kernel_rfl
theorem bif_some2' {b : Bool} {α : Type _} {x : Option α} {y : α} (h : (bif b then x else none) = some y) : b = true ∧ x = some y := by
  cases b with
  | true => exact ⟨rfl, h⟩
  | false => cases h
theorem same_ptB {S : Blk} {n : Nat} (h1 : okB S = true) (h2 : spPre n S) : BlkSame S (ptB S.elem n (gX S) (gY S) S.ext S.whole) := by
  simp only [okB, Bool.and_eq_true, Bool.not_eq_true'] at h1
  obtain ⟨⟨⟨a1, a2⟩, a3⟩, a4⟩ := h1
  obtain ⟨b1, b2, _⟩ := h2
  have b1 := okAll_rows.1 b1
  exact ⟨Nat.eq_of_beq_eq_true a3, a1, a4, b2, rfl, a2, rfl, rfl, fun i hi => (isPI_row (b1 i hi)).1⟩
theorem DoneG_spec : HpSpec Try.prog 71 sDoneG := hp_spec hm noCtrs_ok Try.func71 (Λ := fun _ _ => noΛ) fun args bs e hs hp => by
  unfold sDoneG at hs
  split at hs
  · split at hs
    · rename_i b n g c p hw
      have he := Option.some.inj hs
      subst he
      refine ⟨uB (some b) n g c, (wrOf_used hw (hp p rfl)).1, ?_⟩
      cases b with
      | false =>
        rw [vcDoneG0]
        exact ⟨fun _ _ => trivial, ⟨congrArg (fun z => SV.v (.string z)) (done_plain n g), rfl⟩, ⟨rfl, Nat.le_refl _, rfl, rfl⟩, rfl, Nat.le_refl _, fun _ _ => rfl⟩
      | true =>
        rw [vcDoneG1]
        exact ⟨⟨rfl, rfl⟩, ⟨rfl, Nat.le_refl _, rfl, rfl⟩, rfl, Nat.le_refl _, fun _ _ => rfl⟩
    · cases hs
  · cases hs
end Go.Proofs.Ytjdldadmaaeimaa
end

section
set_option maxRecDepth 100000
set_option linter.unusedSimpArgs false
set_option linter.unusedVariables false
namespace Go.Proofs.Ytjdldadmaaeimaa
open Go.SE Go.RowKit

theorem win_sp {n : Nat} {g : Nat → Int × Int} (hn : n < 1099511627776) (hg : ∀ i, i < n → I64 (g i).1 ∧ I64 (g i).2) : spPre n (winBlk (Ro.blk { s := 2, n := n, row := fun i => [SV.v (.int .i64 (g i).1), SV.v (.int .i64 (g i).2)] }) 2 0 n) := ⟨okAll_rows.2 fun i hi => by
  show isPI [SV.v (.int .i64 (g (0 + i)).1), SV.v (.int .i64 (g (0 + i)).2)]
  rw [Nat.zero_add]; exact hg i hi, rfl, hn⟩
theorem win_gX {n m : Nat} (g : Nat → Int × Int) : gX (winBlk (Ro.blk { s := 2, n := m, row := fun i => [SV.v (.int .i64 (g i).1), SV.v (.int .i64 (g i).2)] }) 2 0 n) = fun i => (g i).1 := funext fun i => by
  show (g (0 + i)).1 = _
  rw [Nat.zero_add]
theorem win_gY {n m : Nat} (g : Nat → Int × Int) : gY (winBlk (Ro.blk { s := 2, n := m, row := fun i => [SV.v (.int .i64 (g i).1), SV.v (.int .i64 (g i).2)] }) 2 0 n) = fun i => (g i).2 := funext fun i => by
  show (g (0 + i)).2 = _
  rw [Nat.zero_add]
end Go.Proofs.Ytjdldadmaaeimaa
end

section
set_option maxRecDepth 100000
set_option linter.unusedSimpArgs false
set_option linter.unusedVariables false
namespace Go.Proofs.Ytjdldadmaaeimaa
open Go.SE Go.RowKit

def hdS (k r w h : Int) (n : Nat) : List Int := [k % 256] ++ (i8 r ++ (i8 w ++ (i8 h ++ [(n : Int) % 256])))
def rShS (s : ByteArray) (b : Bool) (k r w h : Int) (n : Nat) (x y : Nat → Int) : ByteArray := s ++ strOfNums (hdS k r w h n) ++ (bif b then emp else strOfNums (spotsL x y n))
def sRShape (args : List SV) (bs : List Blk) : Option Eff := match args, bs with
  | [.vp 0 0, .agg [.v (.int .i64 k), .v (.int .i64 r), .v (.int .i64 w), .v (.int .i64 h), .sl 1 2 0 n _]], [B, S] => match B.row 0 with
    | [.v (.string s), .v (.bool b0)] => bif rOk B && okB S then some (.det (some (((I64 k ∧ I64 r ∧ I64 w ∧ I64 h) ∧ spPre n S ∧ n < 100) ∧ s.size ≤ 800000000)) (.tup []) [(0, rB (rShS s (b0 || shBad k n) k r w h n (gX S) (gY S)) (b0 || shBad k n))]) else none
    | _ => none
  | _, _ => none
noncomputable def ΛRSh (s : ByteArray) (b : Bool) (k r w h : Int) (n : Nat) (x y : Nat → Int) : Nat → Option LoopSpec := addLoop noΛ Try.f109 0 Nat (fun i => i ≤ n ∧ (b = true → i = 0)) (fun i => n - i) [(4, fun i => .v (.int .i64 i))] [(0, fun i => rB (s ++ strOfNums (hdS k r w h n) ++ strOfNums (spotsL x y i)) b)]
def ΓRs : Ctrs := addCtr ΓE1 117 (hpCtr true (sRApp 1000000000 fRSpot))
theorem vcRShape (q : Option Prop) (s : ByteArray) (b0 : Bool) (k r w h : Int) (e n m cap xt : Nat) (x y : Nat→Int) (wh : Bool) : (vcFn Try.prog ΓRs (ΛRSh s (b0||shBad k n) k r w h n x y) Try.f109 [.vp 0 0,.agg [.v (.int .i64 k),.v (.int .i64 r),.v (.int .i64 w),.v (.int .i64 h),.sl 1 2 0 n cap]] (heapOf [rB s b0,ptB e m x y xt wh]) 64 (fun y' h' => FinE [rB s b0,ptB e m x y xt wh] (.det q (.tup []) [(0,rB (rShS s (b0||shBad k n) k r w h n x y) (b0||shBad k n))]) y' h')) = ((((I64 k)∧(((0 : Int) ≤ 1)∧((1 : Int) ≤ 8)))∧(((ByteArray.size s) : Nat) ≤ M0))∧(((I64 r)∧(((ByteArray.size (s++strOfNums (be (k % 18446744073709551616) 1))) : Nat) ≤ M0))∧(((I64 w)∧(((ByteArray.size (s++strOfNums (be (k % 18446744073709551616) 1)++strOfNums (i8 r))) : Nat) ≤ M0))∧(((I64 h)∧(((ByteArray.size (s++strOfNums (be (k % 18446744073709551616) 1)++strOfNums (i8 r)++strOfNums (i8 w))) : Nat) ≤ M0))∧((((I64 (↑n : Int))∧(((0 : Int) ≤ 1)∧((1 : Int) ≤ 8)))∧(((ByteArray.size (s++strOfNums (be (k % 18446744073709551616) 1)++strOfNums (i8 r)++strOfNums (i8 w)++strOfNums (i8 h))) : Nat) ≤ M0))∧((∃ x_1 : Nat,((((x_1 : Nat) ≤ n)∧(((b0||shBad k n) = true)→((x_1 : Nat) = 0)))∧(((SV.v (.int .i64 0)) = (SV.v (.int .i64 ((↑x_1 : Int)))))∧(((1 : Nat) = 1)∧(((1 : Nat) ≤ 1)∧(∀ i : Nat,(((i : Nat) < 1)→([(SV.v (.string (s++strOfNums (be (k % 18446744073709551616) 1)++strOfNums (i8 r)++strOfNums (i8 w)++strOfNums (i8 h)++strOfNums (be ((↑n : Int) % 18446744073709551616) 1)))),(SV.v (.bool (b0||notIn k 255||false||false||false||notIn (↑n : Int) 8)))] = [(SV.v (.string (s++strOfNums (hdS k r w h n)++strOfNums (spotsL x y x_1)))),(SV.v (.bool (b0||shBad k n)))]))))))))∧(∀ x_1 : Nat,((((x_1 : Nat) ≤ n)∧(((b0||shBad k n) = true)→((x_1 : Nat) = 0)))→(sel (decide ((↑x_1 : Int) < (↑n : Int))) (sel (!(b0||shBad k n)) ((((0 : Int) ≤ ((↑x_1 : Int)))∧((((↑x_1 : Int)) : Int) < ((↑n : Int))))∧((((I64 (x (0 + Int.toNat (↑x_1 : Int))))∧(I64 (y (0 + Int.toNat (↑x_1 : Int)))))∧(((ByteArray.size (s++strOfNums (hdS k r w h n)++strOfNums (spotsL x y x_1))) : Nat) ≤ 1000000000))∧(∃ x' : Nat,(((((x' : Nat) ≤ n)∧(((b0||shBad k n) = true)→((x' : Nat) = 0)))∧(((SV.v (.int .i64 (IntKind.wrap IntKind.i64 ((↑x_1 : Int) + 1)))) = (SV.v (.int .i64 ((↑x' : Int)))))∧(((1 : Nat) = 1)∧(((1 : Nat) ≤ 1)∧(∀ i : Nat,(((i : Nat) < 1)→([(SV.v (.string (s++strOfNums (hdS k r w h n)++strOfNums (spotsL x y x_1)++strOfNums (i8 (x (0 + Int.toNat (↑x_1 : Int)))++i8 (y (0 + Int.toNat (↑x_1 : Int))))))),(SV.v (.bool (b0||shBad k n||false)))] = [(SV.v (.string (s++strOfNums (hdS k r w h n)++strOfNums (spotsL x y x')))),(SV.v (.bool (b0||shBad k n)))])))))))∧(((n - x') : Nat) < (n - x_1)))))) (True∧(((1 : Nat) = 1)∧(((1 : Nat) ≤ 1)∧(∀ i : Nat,(((i : Nat) < 1)→([(SV.v (.string (s++strOfNums (hdS k r w h n)++strOfNums (spotsL x y x_1)))),(SV.v (.bool (b0||shBad k n)))] = [(SV.v (.string (rShS s (b0||shBad k n) k r w h n x y))),(SV.v (.bool (b0||shBad k n)))]))))))) (True∧(((1 : Nat) = 1)∧(((1 : Nat) ≤ 1)∧(∀ i : Nat,(((i : Nat) < 1)→([(SV.v (.string (s++strOfNums (hdS k r w h n)++strOfNums (spotsL x y x_1)))),(SV.v (.bool (b0||shBad k n)))] = [(SV.v (.string (rShS s (b0||shBad k n) k r w h n x y))),(SV.v (.bool (b0||shBad k n)))]))))))))))))))):=by kernel_rfl
theorem esz : (({ data := #[] } : ByteArray)).size = 0 := rfl
theorem b1l (v : Int) : (be v 1).length = 1 := be_len v 1
theorem ro_split' {f : FuncId} {s : List SV → List Ro → Option (Option Prop × SV)} {s1 s2 : List SV → List Ro → Option (Option Prop × SV)} (h1 : RoSpec Try.prog f s1) (h2 : RoSpec Try.prog f s2) (h : ∀ args rs p, s args rs = some p → s1 args rs = some p ∨ s2 args rs = some p) : RoSpec Try.prog f s := fun args bs e hs => by
  unfold roSpec at hs
  cases hr : roOf bs with
  | none => rw [hr] at hs; cases hs
  | some rs =>
    rw [hr] at hs
    cases hq : s args rs with
    | none => simp only [hq] at hs; cases hs
    | some p =>
      rcases h args rs p hq with e1 | e1
      · exact h1 args bs e (by unfold roSpec; rw [hr]; simp only; rw [e1, ← hq]; exact hs)
      · exact h2 args bs e (by unfold roSpec; rw [hr]; simp only; rw [e1, ← hq]; exact hs)
theorem gi_rows0 (g : Nat → Int × Int) : (fun i => gi [SV.v (.int .i64 (g (0 + i)).1), SV.v (.int .i64 (g (0 + i)).2)]) = g := by
  funext i
  rw [Nat.zero_add]
  rfl
theorem rowG_roh {n : Nat} {g : Nat → Int × Int} : rowG (winBlk (Ro.blk { s := 2, n := n, row := fun i => [SV.v (.int .i64 (g i).1), SV.v (.int .i64 (g i).2)] }) 2 0 n) = g := by
  funext i
  show (gi [SV.v (.int .i64 (g (0 + i)).1), SV.v (.int .i64 (g (0 + i)).2)]) = _
  rw [Nat.zero_add]
  rfl
theorem eqP_self (p : Int × Int) : eqP p p = true := by unfold eqP; rw [beq_self_eq_true, beq_self_eq_true]; rfl
theorem sameS_self (a : ShB) (n : Nat) (g : Nat → Int × Int) : sameS a n g a n g = true := by
  unfold sameS eqSh sameP
  simp only [beq_self_eq_true, Nat.beq_refl, Bool.true_and, Bool.and_true]
  exact List.all_eq_true.2 fun i _ => eqP_self _
theorem bs_self (s : ByteArray) : (s == s) = true := by
  show (s.data == s.data) = true
  exact beq_self_eq_true _
theorem hd_str (s : ByteArray) (k r w h : Int) (n : Nat) : s ++ strOfNums (be (k % 18446744073709551616) 1) ++ strOfNums (i8 r) ++ strOfNums (i8 w) ++ strOfNums (i8 h) ++ strOfNums (be ((n : Int) % 18446744073709551616) 1) = s ++ strOfNums (hdS k r w h n) := by
  rw [be_one, be_one, str_app2, str_app2, str_app2, str_app2]
  unfold hdS
  simp only [List.append_assoc]
theorem hdl (k r w h : Int) (n : Nat) : (hdS k r w h n).length = 26 := by
  unfold hdS
  simp only [List.length_append, i8l, List.length_cons, List.length_nil]
theorem ΓRs_ok : ∀ f g, ΓRs f = some g → g.ok Try.prog f := addCtr_ok ΓE1_ok (hp_ok Try.func117 (by kernel_rfl) (by kernel_rfl) RSpot_spec)
theorem rshape {q : Option Prop} {s : ByteArray} {b0 : Bool} {k r w h : Int} {e n m cap xt : Nat} {x y : Nat → Int} {wh : Bool} (hk : I64 k) (hr : I64 r) (hw : I64 w) (hh : I64 h) (hn : n < 100) (hv : ∀ i, i < n → I64 (x i) ∧ I64 (y i)) (hs : s.size ≤ 800000000) : vcFn Try.prog ΓRs (ΛRSh s (b0 || shBad k n) k r w h n x y) Try.f109 [.vp 0 0, .agg [.v (.int .i64 k), .v (.int .i64 r), .v (.int .i64 w), .v (.int .i64 h), .sl 1 2 0 n cap]] (heapOf [rB s b0, ptB e m x y xt wh]) 64 (fun y' h' => FinE [rB s b0, ptB e m x y xt wh] (.det q (.tup []) [(0, rB (rShS s (b0 || shBad k n) k r w h n x y) (b0 || shBad k n))]) y' h') := by
  have b1 : ∀ v : Int, (be v 1).length = 1 := fun v => be_len v 1
  refine Eq.mpr (vcRShape q s b0 k r w h e n m cap xt x y wh) ⟨⟨⟨hk, by omega, by omega⟩, by show s.size ≤ 1099511627776; omega⟩, ⟨hr, ?_⟩, ⟨hw, ?_⟩, ⟨hh, ?_⟩, ⟨⟨⟨by omega, by omega⟩, by omega, by omega⟩, ?_⟩, ⟨0, ⟨Nat.zero_le _, fun _ => rfl⟩, rfl, rfl, Nat.le_refl _, fun i _ => ?_⟩, fun z ⟨h1, h2⟩ => sel_of (fun hlt => sel_of (fun hb => ?_) fun hb => ?_) fun hge => ?_⟩
  · rw [size_app, size_str, b1]; show _ ≤ 1099511627776; omega
  · rw [size_app, size_app, size_str, size_str, b1, i8l]; show _ ≤ 1099511627776; omega
  · rw [size_app, size_app, size_app, size_str, size_str, size_str, b1, i8l, i8l]; show _ ≤ 1099511627776; omega
  · rw [size_app, size_app, size_app, size_app, size_str, size_str, size_str, size_str, b1, i8l, i8l, i8l]; show _ ≤ 1099511627776; omega
  · rw [hd_str]
    show [SV.v (.string _), _] = [SV.v (.string (_ ++ strOfNums [])), _]
    rw [str_nil, app_emp]
    simp only [Bool.or_false, shBad, Bool.or_assoc]
  · have hlt := of_decide_eq_true hlt
    have hlt : z < n := by omega
    rw [show 0 + Int.toNat (z : Int) = z by omega]
    refine ⟨⟨by omega, by omega⟩, ⟨hv z hlt, ?_⟩, z + 1, ⟨⟨hlt, fun hc => ?_⟩, int_mk (wrap_i64 ⟨by omega, by omega⟩), rfl, Nat.le_refl _, fun i _ => ?_⟩, by omega⟩
    · rw [size_app, size_app, size_str, size_str, hdl, spotsL_len]; omega
    · rw [hc] at hb; cases hb
    · rw [str_app2, Bool.or_false]
      rfl
  · refine ⟨trivial, rfl, Nat.le_refl _, fun i _ => ?_⟩
    have hb : (b0 || shBad k n) = true := by
      cases hc : (b0 || shBad k n) with
      | true => rfl
      | false => rw [hc] at hb; cases hb
    have hz := h2 hb
    subst hz
    unfold rShS
    rw [hb]
    show [SV.v (.string (_ ++ strOfNums [])), _] = [SV.v (.string (_ ++ emp)), _]
    rw [str_nil]
  · have hge := of_decide_eq_false hge
    have hz : z = n := by omega
    refine ⟨trivial, rfl, Nat.le_refl _, fun i _ => ?_⟩
    unfold rShS
    cases hb : (b0 || shBad k n) with
    | false => rw [hz]; rfl
    | true =>
      have h0 := h2 hb
      subst h0
      show [SV.v (.string (_ ++ strOfNums [])), _] = [SV.v (.string (_ ++ emp)), _]
      rw [str_nil]
theorem RShape_spec : HpSpec Try.prog 109 sRShape := hp_spec hm ΓRs_ok Try.func109 (Λ := fun args bs => match args, bs with
    | [.vp 0 0, .agg [.v (.int _ k), .v (.int _ r), .v (.int _ w), .v (.int _ h), .sl _ _ _ n _]], [B, S] => match B.row 0 with
      | [.v (.string s), .v (.bool b0)] => ΛRSh s (b0 || shBad k n) k r w h n (gX S) (gY S)
      | _ => noΛ
    | _, _ => noΛ) fun args bs e hs hp => by
  unfold sRShape at hs
  split at hs
  · rename_i k r w h n cap B S
    split at hs
    · rename_i s b0 hB
      obtain ⟨hb, he⟩ := bif_some2' hs
      have he := Option.some.inj he
      subst he
      rw [Bool.and_eq_true] at hb
      obtain ⟨⟨⟨hk, hr, hw, hh⟩, hsp, hn⟩, hsz⟩ := hp _ rfl
      refine ⟨[rB s b0, ptB S.elem n (gX S) (gY S) S.ext S.whole], ⟨rOk_same hb.1 hB, same_ptB hb.2 hsp, trivial⟩, ?_⟩
      simp only [hB]
      exact rshape hk hr hw hh hn (pre_of hsp).2 hsz
    · cases hs
  · cases hs
theorem rShS_size (s : ByteArray) (b : Bool) (k r w h : Int) (n : Nat) (x y : Nat → Int) (hn : n < 100) : (rShS s b k r w h n x y).size ≤ s.size + 1700 := by
  unfold rShS
  rw [size_app, size_app, size_str, hdl]
  cases b with
  | true => show _ + _ + 0 ≤ _; omega
  | false =>
    rw [cond_false, size_str, spotsL_len]; omega
end Go.Proofs.Ytjdldadmaaeimaa
end

section
set_option maxRecDepth 100000
set_option linter.unusedSimpArgs false
set_option linter.unusedVariables false
namespace Go.Proofs.Ytjdldadmaaeimaa
open Go.SE Go.RowKit
structure BV where
  sk : Int
  sr : Int
  sw : Int
  sh : Int
  p0v : Int
  p0f : Bool
  p1v : Int
  p1f : Bool
  p2v : Int
  p2f : Bool
  p3v : Int
  p3f : Bool
  v0v : Int
  v0f : Bool
  v1v : Int
  v1f : Bool
  w0v : Int
  w0f : Bool
  m0v : Int
  m0f : Bool
  m1v : Int
  m1f : Bool
  st : Int
  asl : Bool
  flt : Bool
  bv : Int
structure RV where
  id : Int
  bs : Int
  bg : Int
  ver : Int
  gr : Int
  o : BV
  hit : Bool
  htv : Int
  htf : Bool
  x0v : Int
  x0f : Bool
  x1v : Int
  x1f : Bool
  cnt : Int
def boS (b : BV) (P : SV) : SV := .agg [.v (.int .i64 b.sk), .v (.int .i64 b.sr), .v (.int .i64 b.sw), .v (.int .i64 b.sh), P, .v (.int .i64 b.p0v), .v (.bool b.p0f), .v (.int .i64 b.p1v), .v (.bool b.p1f), .v (.int .i64 b.p2v), .v (.bool b.p2f), .v (.int .i64 b.p3v), .v (.bool b.p3f), .v (.int .i64 b.v0v), .v (.bool b.v0f), .v (.int .i64 b.v1v), .v (.bool b.v1f), .v (.int .i64 b.w0v), .v (.bool b.w0f), .v (.int .i64 b.m0v), .v (.bool b.m0f), .v (.int .i64 b.m1v), .v (.bool b.m1f), .v (.int .i64 b.st), .v (.bool b.asl), .v (.bool b.flt), .v (.int .i64 b.bv)]
def reS (k e : Int) (c : RV) (P H : SV) : SV := .agg [.v (.int .i64 k), .v (.int .i64 c.id), .v (.int .i64 e), .v (.int .i64 c.bs), .v (.int .i64 c.bg), .v (.int .i64 c.ver), .v (.int .i64 c.gr), .v (.int .i64 c.o.sk), .v (.int .i64 c.o.sr), .v (.int .i64 c.o.sw), .v (.int .i64 c.o.sh), P, .v (.int .i64 c.o.p0v), .v (.bool c.o.p0f), .v (.int .i64 c.o.p1v), .v (.bool c.o.p1f), .v (.int .i64 c.o.p2v), .v (.bool c.o.p2f), .v (.int .i64 c.o.p3v), .v (.bool c.o.p3f), .v (.int .i64 c.o.v0v), .v (.bool c.o.v0f), .v (.int .i64 c.o.v1v), .v (.bool c.o.v1f), .v (.int .i64 c.o.w0v), .v (.bool c.o.w0f), .v (.int .i64 c.o.m0v), .v (.bool c.o.m0f), .v (.int .i64 c.o.m1v), .v (.bool c.o.m1f), .v (.int .i64 c.o.st), .v (.bool c.o.asl), .v (.bool c.o.flt), .v (.int .i64 c.o.bv), H, .v (.bool c.hit), .v (.int .i64 c.htv), .v (.bool c.htf), .v (.int .i64 c.x0v), .v (.bool c.x0f), .v (.int .i64 c.x1v), .v (.bool c.x1f), .v (.int .i64 c.cnt)]
def zBV : BV := ⟨0, 0, 0, 0, 0, false, 0, false, 0, false, 0, false, 0, false, 0, false, 0, false, 0, false, 0, false, 0, false, false, 0⟩
def uR0 (c : RV) : RV := ⟨c.id, 0, 0, 0, 0, zBV, false, 0, false, 0, false, 0, false, 0⟩
def uR1 (c : RV) : RV := ⟨c.id, c.bs, c.bg, c.ver, 0, zBV, false, 0, false, 0, false, 0, false, 0⟩
def uR2 (c : RV) : RV := ⟨c.id, c.bs, c.bg, 0, 0, zBV, false, 0, false, 0, false, 0, false, 0⟩
def uR3 (c : RV) : RV := ⟨c.id, c.bs, c.bg, c.ver, 0, zBV, false, 0, false, 0, false, 0, false, 0⟩
def uR4 (c : RV) : RV := ⟨c.id, c.bs, c.bg, c.ver, c.gr, zBV, false, 0, false, 0, false, 0, false, 0⟩
def uR5 (c : RV) : RV := ⟨c.id, 0, 0, 0, c.gr, zBV, false, 0, false, 0, false, 0, false, 0⟩
def uR6 (c : RV) : RV := ⟨c.id, 0, 0, 0, c.gr, zBV, false, 0, false, 0, false, 0, false, 0⟩
def uR7 (c : RV) : RV := ⟨c.id, c.bs, c.bg, 0, 0, c.o, false, 0, false, 0, false, 0, false, 0⟩
def uR8 (c : RV) : RV := ⟨c.id, 0, 0, 0, 0, zBV, false, 0, false, 0, false, 0, false, 0⟩
def uR9 (c : RV) : RV := ⟨c.id, bif c.hit then c.bs else 0, bif c.hit then c.bg else 0, 0, 0, zBV, c.hit, bif c.hit then c.htv else 0, bif c.hit then c.htf else false, bif c.hit then c.x0v else 0, bif c.hit then c.x0f else false, bif c.hit then c.x1v else 0, bif c.hit then c.x1f else false, 0⟩
def uR10 (c : RV) : RV := ⟨c.id, 0, 0, 0, 0, zBV, false, 0, false, 0, false, 0, false, c.cnt⟩
def uT0 (c : RV) : RV := ⟨0, 0, 0, 0, 0, zBV, false, 0, false, 0, false, 0, false, 0⟩
def uRN (e : Int) (c : RV) : RV := ⟨c.id, 0, 0, bif e == 14 then c.ver else 0, 0, zBV, false, 0, false, 0, false, 0, false, 0⟩
def uTN (k e : Int) (c : RV) : RV := ⟨bif k == 0 then 0 else c.id, 0, 0, bif e == 14 then c.ver else 0, 0, zBV, false, 0, false, 0, false, 0, false, 0⟩
def uRK (k e : Int) (c : RV) : RV := bif e == 0 then (bif decide (k = 0) then uR0 c else (bif decide (k = 1) then uR1 c else (bif decide (k = 2) then uR2 c else (bif decide (k = 3) then uR3 c else (bif decide (k = 4) then uR4 c else (bif decide (k = 5) then uR5 c else (bif decide (k = 6) then uR6 c else (bif decide (k = 7) then uR7 c else (bif decide (k = 8) then uR8 c else (bif decide (k = 9) then uR9 c else (bif decide (k = 10) then uR10 c else (c)))))))))))) else uRN e c
def cellsOfB (l : List SV) : Option (BV × SV) := tkI l fun x_o_sk l => tkI l fun x_o_sr l => tkI l fun x_o_sw l => tkI l fun x_o_sh l => tkA l fun x_P l => tkI l fun x_o_p0v l => tkB l fun x_o_p0f l => tkI l fun x_o_p1v l => tkB l fun x_o_p1f l => tkI l fun x_o_p2v l => tkB l fun x_o_p2f l => tkI l fun x_o_p3v l => tkB l fun x_o_p3f l => tkI l fun x_o_v0v l => tkB l fun x_o_v0f l => tkI l fun x_o_v1v l => tkB l fun x_o_v1f l => tkI l fun x_o_w0v l => tkB l fun x_o_w0f l => tkI l fun x_o_m0v l => tkB l fun x_o_m0f l => tkI l fun x_o_m1v l => tkB l fun x_o_m1f l => tkI l fun x_o_st l => tkB l fun x_o_asl l => tkB l fun x_o_flt l => tkI l fun x_o_bv l => tkE l (⟨x_o_sk, x_o_sr, x_o_sw, x_o_sh, x_o_p0v, x_o_p0f, x_o_p1v, x_o_p1f, x_o_p2v, x_o_p2f, x_o_p3v, x_o_p3f, x_o_v0v, x_o_v0f, x_o_v1v, x_o_v1f, x_o_w0v, x_o_w0f, x_o_m0v, x_o_m0f, x_o_m1v, x_o_m1f, x_o_st, x_o_asl, x_o_flt, x_o_bv⟩, x_P)
def cellsOfR (l : List SV) : Option (Int × Int × RV × SV × SV) := tkI l fun x_k l => tkI l fun x_id l => tkI l fun x_e l => tkI l fun x_bs l => tkI l fun x_bg l => tkI l fun x_ver l => tkI l fun x_gr l => tkI l fun x_o_sk l => tkI l fun x_o_sr l => tkI l fun x_o_sw l => tkI l fun x_o_sh l => tkA l fun x_P l => tkI l fun x_o_p0v l => tkB l fun x_o_p0f l => tkI l fun x_o_p1v l => tkB l fun x_o_p1f l => tkI l fun x_o_p2v l => tkB l fun x_o_p2f l => tkI l fun x_o_p3v l => tkB l fun x_o_p3f l => tkI l fun x_o_v0v l => tkB l fun x_o_v0f l => tkI l fun x_o_v1v l => tkB l fun x_o_v1f l => tkI l fun x_o_w0v l => tkB l fun x_o_w0f l => tkI l fun x_o_m0v l => tkB l fun x_o_m0f l => tkI l fun x_o_m1v l => tkB l fun x_o_m1f l => tkI l fun x_o_st l => tkB l fun x_o_asl l => tkB l fun x_o_flt l => tkI l fun x_o_bv l => tkA l fun x_H l => tkB l fun x_hit l => tkI l fun x_htv l => tkB l fun x_htf l => tkI l fun x_x0v l => tkB l fun x_x0f l => tkI l fun x_x1v l => tkB l fun x_x1f l => tkI l fun x_cnt l => tkE l (x_k, x_e, ⟨x_id, x_bs, x_bg, x_ver, x_gr, ⟨x_o_sk, x_o_sr, x_o_sw, x_o_sh, x_o_p0v, x_o_p0f, x_o_p1v, x_o_p1f, x_o_p2v, x_o_p2f, x_o_p3v, x_o_p3f, x_o_v0v, x_o_v0f, x_o_v1v, x_o_v1f, x_o_w0v, x_o_w0f, x_o_m0v, x_o_m0f, x_o_m1v, x_o_m1f, x_o_st, x_o_asl, x_o_flt, x_o_bv⟩, x_hit, x_htv, x_htf, x_x0v, x_x0f, x_x1v, x_x1f, x_cnt⟩, x_P, x_H)
noncomputable def ΛShown : Nat → Option LoopSpec := (addPr (addPr noΛ 21 [(5, fun _ => 136), (7, fun _ => 136)]) 24 [(5, fun _ => 136), (7, fun _ => 136)])
noncomputable def ΛTold : Nat → Option LoopSpec := (addPr (addPr (addPr (addPr noΛ 11 [(5, fun _ => 136), (7, fun _ => 136)]) 15 [(7, fun _ => 136), (9, fun _ => 136), (11, fun _ => 136)]) 20 [(5, fun _ => 136), (7, fun _ => 136)]) 25 [(5, fun _ => 136), (7, fun _ => 136)])
theorem vcShown0 (c : RV) (e1 n cap xt : Nat) (x y : Nat→Int) (wh : Bool) (e2 m cp xt2 : Nat) (x2 y2 : Nat→Int) (wh2 : Bool) (R : SV→Prop) : (vcFn Try.prog noCtrs ΛShown Try.f77 [reS 0 0 c (.sl 0 2 0 n cap) (.sl 1 2 0 m cp)] (heapOf [ptB e1 n x y xt wh,ptB e2 m x2 y2 xt2 wh2]) 64 (fun y' _ => R y')) = (R (SV.agg [(SV.v (.int .i64 0)),(SV.v (.int .i64 (RV.id c))),(SV.v (.int .i64 0)),(SV.v (.int .i64 0)),(SV.v (.int .i64 0)),(SV.v (.int .i64 0)),(SV.v (.int .i64 0)),(SV.v (.int .i64 0)),(SV.v (.int .i64 0)),(SV.v (.int .i64 0)),(SV.v (.int .i64 0)),(SV.v (Value.slice none 0 0)),(SV.v (.int .i64 0)),(SV.v (.bool false)),(SV.v (.int .i64 0)),(SV.v (.bool false)),(SV.v (.int .i64 0)),(SV.v (.bool false)),(SV.v (.int .i64 0)),(SV.v (.bool false)),(SV.v (.int .i64 0)),(SV.v (.bool false)),(SV.v (.int .i64 0)),(SV.v (.bool false)),(SV.v (.int .i64 0)),(SV.v (.bool false)),(SV.v (.int .i64 0)),(SV.v (.bool false)),(SV.v (.int .i64 0)),(SV.v (.bool false)),(SV.v (.int .i64 0)),(SV.v (.bool false)),(SV.v (.bool false)),(SV.v (.int .i64 0)),(SV.v (Value.slice none 0 0)),(SV.v (.bool false)),(SV.v (.int .i64 0)),(SV.v (.bool false)),(SV.v (.int .i64 0)),(SV.v (.bool false)),(SV.v (.int .i64 0)),(SV.v (.bool false)),(SV.v (.int .i64 0))])):=by kernel_rfl
theorem vcTold0 (c : RV) (e1 n cap xt : Nat) (x y : Nat→Int) (wh : Bool) (e2 m cp xt2 : Nat) (x2 y2 : Nat→Int) (wh2 : Bool) (R : SV→Prop) : (vcFn Try.prog noCtrs ΛTold Try.f80 [reS 0 0 c (.sl 0 2 0 n cap) (.sl 1 2 0 m cp)] (heapOf [ptB e1 n x y xt wh,ptB e2 m x2 y2 xt2 wh2]) 64 (fun y' _ => R y')) = (R (SV.agg [(SV.v (.int .i64 0)),(SV.v (.int .i64 0)),(SV.v (.int .i64 0)),(SV.v (.int .i64 0)),(SV.v (.int .i64 0)),(SV.v (.int .i64 0)),(SV.v (.int .i64 0)),(SV.v (.int .i64 0)),(SV.v (.int .i64 0)),(SV.v (.int .i64 0)),(SV.v (.int .i64 0)),(SV.v (Value.slice none 0 0)),(SV.v (.int .i64 0)),(SV.v (.bool false)),(SV.v (.int .i64 0)),(SV.v (.bool false)),(SV.v (.int .i64 0)),(SV.v (.bool false)),(SV.v (.int .i64 0)),(SV.v (.bool false)),(SV.v (.int .i64 0)),(SV.v (.bool false)),(SV.v (.int .i64 0)),(SV.v (.bool false)),(SV.v (.int .i64 0)),(SV.v (.bool false)),(SV.v (.int .i64 0)),(SV.v (.bool false)),(SV.v (.int .i64 0)),(SV.v (.bool false)),(SV.v (.int .i64 0)),(SV.v (.bool false)),(SV.v (.bool false)),(SV.v (.int .i64 0)),(SV.v (Value.slice none 0 0)),(SV.v (.bool false)),(SV.v (.int .i64 0)),(SV.v (.bool false)),(SV.v (.int .i64 0)),(SV.v (.bool false)),(SV.v (.int .i64 0)),(SV.v (.bool false)),(SV.v (.int .i64 0))])):=by kernel_rfl
theorem vcShown1 (c : RV) (e1 n cap xt : Nat) (x y : Nat→Int) (wh : Bool) (e2 m cp xt2 : Nat) (x2 y2 : Nat→Int) (wh2 : Bool) (R : SV→Prop) : (vcFn Try.prog noCtrs ΛShown Try.f77 [reS 1 0 c (.sl 0 2 0 n cap) (.sl 1 2 0 m cp)] (heapOf [ptB e1 n x y xt wh,ptB e2 m x2 y2 xt2 wh2]) 64 (fun y' _ => R y')) = (R (SV.agg [(SV.v (.int .i64 1)),(SV.v (.int .i64 (RV.id c))),(SV.v (.int .i64 0)),(SV.v (.int .i64 (RV.bs c))),(SV.v (.int .i64 (RV.bg c))),(SV.v (.int .i64 (RV.ver c))),(SV.v (.int .i64 0)),(SV.v (.int .i64 0)),(SV.v (.int .i64 0)),(SV.v (.int .i64 0)),(SV.v (.int .i64 0)),(SV.v (Value.slice none 0 0)),(SV.v (.int .i64 0)),(SV.v (.bool false)),(SV.v (.int .i64 0)),(SV.v (.bool false)),(SV.v (.int .i64 0)),(SV.v (.bool false)),(SV.v (.int .i64 0)),(SV.v (.bool false)),(SV.v (.int .i64 0)),(SV.v (.bool false)),(SV.v (.int .i64 0)),(SV.v (.bool false)),(SV.v (.int .i64 0)),(SV.v (.bool false)),(SV.v (.int .i64 0)),(SV.v (.bool false)),(SV.v (.int .i64 0)),(SV.v (.bool false)),(SV.v (.int .i64 0)),(SV.v (.bool false)),(SV.v (.bool false)),(SV.v (.int .i64 0)),(SV.v (Value.slice none 0 0)),(SV.v (.bool false)),(SV.v (.int .i64 0)),(SV.v (.bool false)),(SV.v (.int .i64 0)),(SV.v (.bool false)),(SV.v (.int .i64 0)),(SV.v (.bool false)),(SV.v (.int .i64 0))])):=by kernel_rfl
theorem vcTold1 (c : RV) (e1 n cap xt : Nat) (x y : Nat→Int) (wh : Bool) (e2 m cp xt2 : Nat) (x2 y2 : Nat→Int) (wh2 : Bool) (R : SV→Prop) : (vcFn Try.prog noCtrs ΛTold Try.f80 [reS 1 0 c (.sl 0 2 0 n cap) (.sl 1 2 0 m cp)] (heapOf [ptB e1 n x y xt wh,ptB e2 m x2 y2 xt2 wh2]) 64 (fun y' _ => R y')) = (R (SV.agg [(SV.v (.int .i64 1)),(SV.v (.int .i64 (RV.id c))),(SV.v (.int .i64 0)),(SV.v (.int .i64 (RV.bs c))),(SV.v (.int .i64 (RV.bg c))),(SV.v (.int .i64 (RV.ver c))),(SV.v (.int .i64 0)),(SV.v (.int .i64 0)),(SV.v (.int .i64 0)),(SV.v (.int .i64 0)),(SV.v (.int .i64 0)),(SV.v (Value.slice none 0 0)),(SV.v (.int .i64 0)),(SV.v (.bool false)),(SV.v (.int .i64 0)),(SV.v (.bool false)),(SV.v (.int .i64 0)),(SV.v (.bool false)),(SV.v (.int .i64 0)),(SV.v (.bool false)),(SV.v (.int .i64 0)),(SV.v (.bool false)),(SV.v (.int .i64 0)),(SV.v (.bool false)),(SV.v (.int .i64 0)),(SV.v (.bool false)),(SV.v (.int .i64 0)),(SV.v (.bool false)),(SV.v (.int .i64 0)),(SV.v (.bool false)),(SV.v (.int .i64 0)),(SV.v (.bool false)),(SV.v (.bool false)),(SV.v (.int .i64 0)),(SV.v (Value.slice none 0 0)),(SV.v (.bool false)),(SV.v (.int .i64 0)),(SV.v (.bool false)),(SV.v (.int .i64 0)),(SV.v (.bool false)),(SV.v (.int .i64 0)),(SV.v (.bool false)),(SV.v (.int .i64 0))])):=by kernel_rfl
theorem vcShown2 (c : RV) (e1 n cap xt : Nat) (x y : Nat→Int) (wh : Bool) (e2 m cp xt2 : Nat) (x2 y2 : Nat→Int) (wh2 : Bool) (R : SV→Prop) : (vcFn Try.prog noCtrs ΛShown Try.f77 [reS 2 0 c (.sl 0 2 0 n cap) (.sl 1 2 0 m cp)] (heapOf [ptB e1 n x y xt wh,ptB e2 m x2 y2 xt2 wh2]) 64 (fun y' _ => R y')) = (R (SV.agg [(SV.v (.int .i64 2)),(SV.v (.int .i64 (RV.id c))),(SV.v (.int .i64 0)),(SV.v (.int .i64 (RV.bs c))),(SV.v (.int .i64 (RV.bg c))),(SV.v (.int .i64 0)),(SV.v (.int .i64 0)),(SV.v (.int .i64 0)),(SV.v (.int .i64 0)),(SV.v (.int .i64 0)),(SV.v (.int .i64 0)),(SV.v (Value.slice none 0 0)),(SV.v (.int .i64 0)),(SV.v (.bool false)),(SV.v (.int .i64 0)),(SV.v (.bool false)),(SV.v (.int .i64 0)),(SV.v (.bool false)),(SV.v (.int .i64 0)),(SV.v (.bool false)),(SV.v (.int .i64 0)),(SV.v (.bool false)),(SV.v (.int .i64 0)),(SV.v (.bool false)),(SV.v (.int .i64 0)),(SV.v (.bool false)),(SV.v (.int .i64 0)),(SV.v (.bool false)),(SV.v (.int .i64 0)),(SV.v (.bool false)),(SV.v (.int .i64 0)),(SV.v (.bool false)),(SV.v (.bool false)),(SV.v (.int .i64 0)),(SV.v (Value.slice none 0 0)),(SV.v (.bool false)),(SV.v (.int .i64 0)),(SV.v (.bool false)),(SV.v (.int .i64 0)),(SV.v (.bool false)),(SV.v (.int .i64 0)),(SV.v (.bool false)),(SV.v (.int .i64 0))])):=by kernel_rfl
theorem vcTold2 (c : RV) (e1 n cap xt : Nat) (x y : Nat→Int) (wh : Bool) (e2 m cp xt2 : Nat) (x2 y2 : Nat→Int) (wh2 : Bool) (R : SV→Prop) : (vcFn Try.prog noCtrs ΛTold Try.f80 [reS 2 0 c (.sl 0 2 0 n cap) (.sl 1 2 0 m cp)] (heapOf [ptB e1 n x y xt wh,ptB e2 m x2 y2 xt2 wh2]) 64 (fun y' _ => R y')) = (R (SV.agg [(SV.v (.int .i64 2)),(SV.v (.int .i64 (RV.id c))),(SV.v (.int .i64 0)),(SV.v (.int .i64 (RV.bs c))),(SV.v (.int .i64 (RV.bg c))),(SV.v (.int .i64 0)),(SV.v (.int .i64 0)),(SV.v (.int .i64 0)),(SV.v (.int .i64 0)),(SV.v (.int .i64 0)),(SV.v (.int .i64 0)),(SV.v (Value.slice none 0 0)),(SV.v (.int .i64 0)),(SV.v (.bool false)),(SV.v (.int .i64 0)),(SV.v (.bool false)),(SV.v (.int .i64 0)),(SV.v (.bool false)),(SV.v (.int .i64 0)),(SV.v (.bool false)),(SV.v (.int .i64 0)),(SV.v (.bool false)),(SV.v (.int .i64 0)),(SV.v (.bool false)),(SV.v (.int .i64 0)),(SV.v (.bool false)),(SV.v (.int .i64 0)),(SV.v (.bool false)),(SV.v (.int .i64 0)),(SV.v (.bool false)),(SV.v (.int .i64 0)),(SV.v (.bool false)),(SV.v (.bool false)),(SV.v (.int .i64 0)),(SV.v (Value.slice none 0 0)),(SV.v (.bool false)),(SV.v (.int .i64 0)),(SV.v (.bool false)),(SV.v (.int .i64 0)),(SV.v (.bool false)),(SV.v (.int .i64 0)),(SV.v (.bool false)),(SV.v (.int .i64 0))])):=by kernel_rfl
theorem vcShown3 (c : RV) (e1 n cap xt : Nat) (x y : Nat→Int) (wh : Bool) (e2 m cp xt2 : Nat) (x2 y2 : Nat→Int) (wh2 : Bool) (R : SV→Prop) : (vcFn Try.prog noCtrs ΛShown Try.f77 [reS 3 0 c (.sl 0 2 0 n cap) (.sl 1 2 0 m cp)] (heapOf [ptB e1 n x y xt wh,ptB e2 m x2 y2 xt2 wh2]) 64 (fun y' _ => R y')) = (R (SV.agg [(SV.v (.int .i64 3)),(SV.v (.int .i64 (RV.id c))),(SV.v (.int .i64 0)),(SV.v (.int .i64 (RV.bs c))),(SV.v (.int .i64 (RV.bg c))),(SV.v (.int .i64 (RV.ver c))),(SV.v (.int .i64 0)),(SV.v (.int .i64 0)),(SV.v (.int .i64 0)),(SV.v (.int .i64 0)),(SV.v (.int .i64 0)),(SV.v (Value.slice none 0 0)),(SV.v (.int .i64 0)),(SV.v (.bool false)),(SV.v (.int .i64 0)),(SV.v (.bool false)),(SV.v (.int .i64 0)),(SV.v (.bool false)),(SV.v (.int .i64 0)),(SV.v (.bool false)),(SV.v (.int .i64 0)),(SV.v (.bool false)),(SV.v (.int .i64 0)),(SV.v (.bool false)),(SV.v (.int .i64 0)),(SV.v (.bool false)),(SV.v (.int .i64 0)),(SV.v (.bool false)),(SV.v (.int .i64 0)),(SV.v (.bool false)),(SV.v (.int .i64 0)),(SV.v (.bool false)),(SV.v (.bool false)),(SV.v (.int .i64 0)),(SV.v (Value.slice none 0 0)),(SV.v (.bool false)),(SV.v (.int .i64 0)),(SV.v (.bool false)),(SV.v (.int .i64 0)),(SV.v (.bool false)),(SV.v (.int .i64 0)),(SV.v (.bool false)),(SV.v (.int .i64 0))])):=by kernel_rfl
theorem vcTold3 (c : RV) (e1 n cap xt : Nat) (x y : Nat→Int) (wh : Bool) (e2 m cp xt2 : Nat) (x2 y2 : Nat→Int) (wh2 : Bool) (R : SV→Prop) : (vcFn Try.prog noCtrs ΛTold Try.f80 [reS 3 0 c (.sl 0 2 0 n cap) (.sl 1 2 0 m cp)] (heapOf [ptB e1 n x y xt wh,ptB e2 m x2 y2 xt2 wh2]) 64 (fun y' _ => R y')) = (R (SV.agg [(SV.v (.int .i64 3)),(SV.v (.int .i64 (RV.id c))),(SV.v (.int .i64 0)),(SV.v (.int .i64 (RV.bs c))),(SV.v (.int .i64 (RV.bg c))),(SV.v (.int .i64 (RV.ver c))),(SV.v (.int .i64 0)),(SV.v (.int .i64 0)),(SV.v (.int .i64 0)),(SV.v (.int .i64 0)),(SV.v (.int .i64 0)),(SV.v (Value.slice none 0 0)),(SV.v (.int .i64 0)),(SV.v (.bool false)),(SV.v (.int .i64 0)),(SV.v (.bool false)),(SV.v (.int .i64 0)),(SV.v (.bool false)),(SV.v (.int .i64 0)),(SV.v (.bool false)),(SV.v (.int .i64 0)),(SV.v (.bool false)),(SV.v (.int .i64 0)),(SV.v (.bool false)),(SV.v (.int .i64 0)),(SV.v (.bool false)),(SV.v (.int .i64 0)),(SV.v (.bool false)),(SV.v (.int .i64 0)),(SV.v (.bool false)),(SV.v (.int .i64 0)),(SV.v (.bool false)),(SV.v (.bool false)),(SV.v (.int .i64 0)),(SV.v (Value.slice none 0 0)),(SV.v (.bool false)),(SV.v (.int .i64 0)),(SV.v (.bool false)),(SV.v (.int .i64 0)),(SV.v (.bool false)),(SV.v (.int .i64 0)),(SV.v (.bool false)),(SV.v (.int .i64 0))])):=by kernel_rfl
theorem vcShown4 (c : RV) (e1 n cap xt : Nat) (x y : Nat→Int) (wh : Bool) (e2 m cp xt2 : Nat) (x2 y2 : Nat→Int) (wh2 : Bool) (R : SV→Prop) : (vcFn Try.prog noCtrs ΛShown Try.f77 [reS 4 0 c (.sl 0 2 0 n cap) (.sl 1 2 0 m cp)] (heapOf [ptB e1 n x y xt wh,ptB e2 m x2 y2 xt2 wh2]) 64 (fun y' _ => R y')) = (R (SV.agg [(SV.v (.int .i64 4)),(SV.v (.int .i64 (RV.id c))),(SV.v (.int .i64 0)),(SV.v (.int .i64 (RV.bs c))),(SV.v (.int .i64 (RV.bg c))),(SV.v (.int .i64 (RV.ver c))),(SV.v (.int .i64 (RV.gr c))),(SV.v (.int .i64 0)),(SV.v (.int .i64 0)),(SV.v (.int .i64 0)),(SV.v (.int .i64 0)),(SV.v (Value.slice none 0 0)),(SV.v (.int .i64 0)),(SV.v (.bool false)),(SV.v (.int .i64 0)),(SV.v (.bool false)),(SV.v (.int .i64 0)),(SV.v (.bool false)),(SV.v (.int .i64 0)),(SV.v (.bool false)),(SV.v (.int .i64 0)),(SV.v (.bool false)),(SV.v (.int .i64 0)),(SV.v (.bool false)),(SV.v (.int .i64 0)),(SV.v (.bool false)),(SV.v (.int .i64 0)),(SV.v (.bool false)),(SV.v (.int .i64 0)),(SV.v (.bool false)),(SV.v (.int .i64 0)),(SV.v (.bool false)),(SV.v (.bool false)),(SV.v (.int .i64 0)),(SV.v (Value.slice none 0 0)),(SV.v (.bool false)),(SV.v (.int .i64 0)),(SV.v (.bool false)),(SV.v (.int .i64 0)),(SV.v (.bool false)),(SV.v (.int .i64 0)),(SV.v (.bool false)),(SV.v (.int .i64 0))])):=by kernel_rfl
theorem vcTold4 (c : RV) (e1 n cap xt : Nat) (x y : Nat→Int) (wh : Bool) (e2 m cp xt2 : Nat) (x2 y2 : Nat→Int) (wh2 : Bool) (R : SV→Prop) : (vcFn Try.prog noCtrs ΛTold Try.f80 [reS 4 0 c (.sl 0 2 0 n cap) (.sl 1 2 0 m cp)] (heapOf [ptB e1 n x y xt wh,ptB e2 m x2 y2 xt2 wh2]) 64 (fun y' _ => R y')) = (R (SV.agg [(SV.v (.int .i64 4)),(SV.v (.int .i64 (RV.id c))),(SV.v (.int .i64 0)),(SV.v (.int .i64 (RV.bs c))),(SV.v (.int .i64 (RV.bg c))),(SV.v (.int .i64 (RV.ver c))),(SV.v (.int .i64 (RV.gr c))),(SV.v (.int .i64 0)),(SV.v (.int .i64 0)),(SV.v (.int .i64 0)),(SV.v (.int .i64 0)),(SV.v (Value.slice none 0 0)),(SV.v (.int .i64 0)),(SV.v (.bool false)),(SV.v (.int .i64 0)),(SV.v (.bool false)),(SV.v (.int .i64 0)),(SV.v (.bool false)),(SV.v (.int .i64 0)),(SV.v (.bool false)),(SV.v (.int .i64 0)),(SV.v (.bool false)),(SV.v (.int .i64 0)),(SV.v (.bool false)),(SV.v (.int .i64 0)),(SV.v (.bool false)),(SV.v (.int .i64 0)),(SV.v (.bool false)),(SV.v (.int .i64 0)),(SV.v (.bool false)),(SV.v (.int .i64 0)),(SV.v (.bool false)),(SV.v (.bool false)),(SV.v (.int .i64 0)),(SV.v (Value.slice none 0 0)),(SV.v (.bool false)),(SV.v (.int .i64 0)),(SV.v (.bool false)),(SV.v (.int .i64 0)),(SV.v (.bool false)),(SV.v (.int .i64 0)),(SV.v (.bool false)),(SV.v (.int .i64 0))])):=by kernel_rfl
theorem vcShown5 (c : RV) (e1 n cap xt : Nat) (x y : Nat→Int) (wh : Bool) (e2 m cp xt2 : Nat) (x2 y2 : Nat→Int) (wh2 : Bool) (R : SV→Prop) : (vcFn Try.prog noCtrs ΛShown Try.f77 [reS 5 0 c (.sl 0 2 0 n cap) (.sl 1 2 0 m cp)] (heapOf [ptB e1 n x y xt wh,ptB e2 m x2 y2 xt2 wh2]) 64 (fun y' _ => R y')) = (R (SV.agg [(SV.v (.int .i64 5)),(SV.v (.int .i64 (RV.id c))),(SV.v (.int .i64 0)),(SV.v (.int .i64 0)),(SV.v (.int .i64 0)),(SV.v (.int .i64 0)),(SV.v (.int .i64 (RV.gr c))),(SV.v (.int .i64 0)),(SV.v (.int .i64 0)),(SV.v (.int .i64 0)),(SV.v (.int .i64 0)),(SV.v (Value.slice none 0 0)),(SV.v (.int .i64 0)),(SV.v (.bool false)),(SV.v (.int .i64 0)),(SV.v (.bool false)),(SV.v (.int .i64 0)),(SV.v (.bool false)),(SV.v (.int .i64 0)),(SV.v (.bool false)),(SV.v (.int .i64 0)),(SV.v (.bool false)),(SV.v (.int .i64 0)),(SV.v (.bool false)),(SV.v (.int .i64 0)),(SV.v (.bool false)),(SV.v (.int .i64 0)),(SV.v (.bool false)),(SV.v (.int .i64 0)),(SV.v (.bool false)),(SV.v (.int .i64 0)),(SV.v (.bool false)),(SV.v (.bool false)),(SV.v (.int .i64 0)),(SV.v (Value.slice none 0 0)),(SV.v (.bool false)),(SV.v (.int .i64 0)),(SV.v (.bool false)),(SV.v (.int .i64 0)),(SV.v (.bool false)),(SV.v (.int .i64 0)),(SV.v (.bool false)),(SV.v (.int .i64 0))])):=by kernel_rfl
theorem vcTold5 (c : RV) (e1 n cap xt : Nat) (x y : Nat→Int) (wh : Bool) (e2 m cp xt2 : Nat) (x2 y2 : Nat→Int) (wh2 : Bool) (R : SV→Prop) : (vcFn Try.prog noCtrs ΛTold Try.f80 [reS 5 0 c (.sl 0 2 0 n cap) (.sl 1 2 0 m cp)] (heapOf [ptB e1 n x y xt wh,ptB e2 m x2 y2 xt2 wh2]) 64 (fun y' _ => R y')) = (R (SV.agg [(SV.v (.int .i64 5)),(SV.v (.int .i64 (RV.id c))),(SV.v (.int .i64 0)),(SV.v (.int .i64 0)),(SV.v (.int .i64 0)),(SV.v (.int .i64 0)),(SV.v (.int .i64 (RV.gr c))),(SV.v (.int .i64 0)),(SV.v (.int .i64 0)),(SV.v (.int .i64 0)),(SV.v (.int .i64 0)),(SV.v (Value.slice none 0 0)),(SV.v (.int .i64 0)),(SV.v (.bool false)),(SV.v (.int .i64 0)),(SV.v (.bool false)),(SV.v (.int .i64 0)),(SV.v (.bool false)),(SV.v (.int .i64 0)),(SV.v (.bool false)),(SV.v (.int .i64 0)),(SV.v (.bool false)),(SV.v (.int .i64 0)),(SV.v (.bool false)),(SV.v (.int .i64 0)),(SV.v (.bool false)),(SV.v (.int .i64 0)),(SV.v (.bool false)),(SV.v (.int .i64 0)),(SV.v (.bool false)),(SV.v (.int .i64 0)),(SV.v (.bool false)),(SV.v (.bool false)),(SV.v (.int .i64 0)),(SV.v (Value.slice none 0 0)),(SV.v (.bool false)),(SV.v (.int .i64 0)),(SV.v (.bool false)),(SV.v (.int .i64 0)),(SV.v (.bool false)),(SV.v (.int .i64 0)),(SV.v (.bool false)),(SV.v (.int .i64 0))])):=by kernel_rfl
theorem vcShown6 (c : RV) (e1 n cap xt : Nat) (x y : Nat→Int) (wh : Bool) (e2 m cp xt2 : Nat) (x2 y2 : Nat→Int) (wh2 : Bool) (R : SV→Prop) : (vcFn Try.prog noCtrs ΛShown Try.f77 [reS 6 0 c (.sl 0 2 0 n cap) (.sl 1 2 0 m cp)] (heapOf [ptB e1 n x y xt wh,ptB e2 m x2 y2 xt2 wh2]) 64 (fun y' _ => R y')) = (R (SV.agg [(SV.v (.int .i64 6)),(SV.v (.int .i64 (RV.id c))),(SV.v (.int .i64 0)),(SV.v (.int .i64 0)),(SV.v (.int .i64 0)),(SV.v (.int .i64 0)),(SV.v (.int .i64 (RV.gr c))),(SV.v (.int .i64 0)),(SV.v (.int .i64 0)),(SV.v (.int .i64 0)),(SV.v (.int .i64 0)),(SV.v (Value.slice none 0 0)),(SV.v (.int .i64 0)),(SV.v (.bool false)),(SV.v (.int .i64 0)),(SV.v (.bool false)),(SV.v (.int .i64 0)),(SV.v (.bool false)),(SV.v (.int .i64 0)),(SV.v (.bool false)),(SV.v (.int .i64 0)),(SV.v (.bool false)),(SV.v (.int .i64 0)),(SV.v (.bool false)),(SV.v (.int .i64 0)),(SV.v (.bool false)),(SV.v (.int .i64 0)),(SV.v (.bool false)),(SV.v (.int .i64 0)),(SV.v (.bool false)),(SV.v (.int .i64 0)),(SV.v (.bool false)),(SV.v (.bool false)),(SV.v (.int .i64 0)),(SV.v (Value.slice none 0 0)),(SV.v (.bool false)),(SV.v (.int .i64 0)),(SV.v (.bool false)),(SV.v (.int .i64 0)),(SV.v (.bool false)),(SV.v (.int .i64 0)),(SV.v (.bool false)),(SV.v (.int .i64 0))])):=by kernel_rfl
theorem vcTold6 (c : RV) (e1 n cap xt : Nat) (x y : Nat→Int) (wh : Bool) (e2 m cp xt2 : Nat) (x2 y2 : Nat→Int) (wh2 : Bool) (R : SV→Prop) : (vcFn Try.prog noCtrs ΛTold Try.f80 [reS 6 0 c (.sl 0 2 0 n cap) (.sl 1 2 0 m cp)] (heapOf [ptB e1 n x y xt wh,ptB e2 m x2 y2 xt2 wh2]) 64 (fun y' _ => R y')) = (R (SV.agg [(SV.v (.int .i64 6)),(SV.v (.int .i64 (RV.id c))),(SV.v (.int .i64 0)),(SV.v (.int .i64 0)),(SV.v (.int .i64 0)),(SV.v (.int .i64 0)),(SV.v (.int .i64 (RV.gr c))),(SV.v (.int .i64 0)),(SV.v (.int .i64 0)),(SV.v (.int .i64 0)),(SV.v (.int .i64 0)),(SV.v (Value.slice none 0 0)),(SV.v (.int .i64 0)),(SV.v (.bool false)),(SV.v (.int .i64 0)),(SV.v (.bool false)),(SV.v (.int .i64 0)),(SV.v (.bool false)),(SV.v (.int .i64 0)),(SV.v (.bool false)),(SV.v (.int .i64 0)),(SV.v (.bool false)),(SV.v (.int .i64 0)),(SV.v (.bool false)),(SV.v (.int .i64 0)),(SV.v (.bool false)),(SV.v (.int .i64 0)),(SV.v (.bool false)),(SV.v (.int .i64 0)),(SV.v (.bool false)),(SV.v (.int .i64 0)),(SV.v (.bool false)),(SV.v (.bool false)),(SV.v (.int .i64 0)),(SV.v (Value.slice none 0 0)),(SV.v (.bool false)),(SV.v (.int .i64 0)),(SV.v (.bool false)),(SV.v (.int .i64 0)),(SV.v (.bool false)),(SV.v (.int .i64 0)),(SV.v (.bool false)),(SV.v (.int .i64 0))])):=by kernel_rfl
theorem vcShown7 (c : RV) (e1 n cap xt : Nat) (x y : Nat→Int) (wh : Bool) (e2 m cp xt2 : Nat) (x2 y2 : Nat→Int) (wh2 : Bool) (R : SV→Prop) : (vcFn Try.prog noCtrs ΛShown Try.f77 [reS 7 0 c (.sl 0 2 0 n cap) (.sl 1 2 0 m cp)] (heapOf [ptB e1 n x y xt wh,ptB e2 m x2 y2 xt2 wh2]) 64 (fun y' _ => R y')) = (R (SV.agg [(SV.v (.int .i64 7)),(SV.v (.int .i64 (RV.id c))),(SV.v (.int .i64 0)),(SV.v (.int .i64 (RV.bs c))),(SV.v (.int .i64 (RV.bg c))),(SV.v (.int .i64 0)),(SV.v (.int .i64 0)),(SV.v (.int .i64 (BV.sk (RV.o c)))),(SV.v (.int .i64 (BV.sr (RV.o c)))),(SV.v (.int .i64 (BV.sw (RV.o c)))),(SV.v (.int .i64 (BV.sh (RV.o c)))),(SV.sl 0 2 0 n cap),(SV.v (.int .i64 (BV.p0v (RV.o c)))),(SV.v (.bool (BV.p0f (RV.o c)))),(SV.v (.int .i64 (BV.p1v (RV.o c)))),(SV.v (.bool (BV.p1f (RV.o c)))),(SV.v (.int .i64 (BV.p2v (RV.o c)))),(SV.v (.bool (BV.p2f (RV.o c)))),(SV.v (.int .i64 (BV.p3v (RV.o c)))),(SV.v (.bool (BV.p3f (RV.o c)))),(SV.v (.int .i64 (BV.v0v (RV.o c)))),(SV.v (.bool (BV.v0f (RV.o c)))),(SV.v (.int .i64 (BV.v1v (RV.o c)))),(SV.v (.bool (BV.v1f (RV.o c)))),(SV.v (.int .i64 (BV.w0v (RV.o c)))),(SV.v (.bool (BV.w0f (RV.o c)))),(SV.v (.int .i64 (BV.m0v (RV.o c)))),(SV.v (.bool (BV.m0f (RV.o c)))),(SV.v (.int .i64 (BV.m1v (RV.o c)))),(SV.v (.bool (BV.m1f (RV.o c)))),(SV.v (.int .i64 (BV.st (RV.o c)))),(SV.v (.bool (BV.asl (RV.o c)))),(SV.v (.bool (BV.flt (RV.o c)))),(SV.v (.int .i64 (BV.bv (RV.o c)))),(SV.v (Value.slice none 0 0)),(SV.v (.bool false)),(SV.v (.int .i64 0)),(SV.v (.bool false)),(SV.v (.int .i64 0)),(SV.v (.bool false)),(SV.v (.int .i64 0)),(SV.v (.bool false)),(SV.v (.int .i64 0))])):=by kernel_rfl
theorem vcTold7 (c : RV) (e1 n cap xt : Nat) (x y : Nat→Int) (wh : Bool) (e2 m cp xt2 : Nat) (x2 y2 : Nat→Int) (wh2 : Bool) (R : SV→Prop) : (vcFn Try.prog noCtrs ΛTold Try.f80 [reS 7 0 c (.sl 0 2 0 n cap) (.sl 1 2 0 m cp)] (heapOf [ptB e1 n x y xt wh,ptB e2 m x2 y2 xt2 wh2]) 64 (fun y' _ => R y')) = (R (SV.agg [(SV.v (.int .i64 7)),(SV.v (.int .i64 (RV.id c))),(SV.v (.int .i64 0)),(SV.v (.int .i64 (RV.bs c))),(SV.v (.int .i64 (RV.bg c))),(SV.v (.int .i64 0)),(SV.v (.int .i64 0)),(SV.v (.int .i64 (BV.sk (RV.o c)))),(SV.v (.int .i64 (BV.sr (RV.o c)))),(SV.v (.int .i64 (BV.sw (RV.o c)))),(SV.v (.int .i64 (BV.sh (RV.o c)))),(SV.sl 0 2 0 n cap),(SV.v (.int .i64 (BV.p0v (RV.o c)))),(SV.v (.bool (BV.p0f (RV.o c)))),(SV.v (.int .i64 (BV.p1v (RV.o c)))),(SV.v (.bool (BV.p1f (RV.o c)))),(SV.v (.int .i64 (BV.p2v (RV.o c)))),(SV.v (.bool (BV.p2f (RV.o c)))),(SV.v (.int .i64 (BV.p3v (RV.o c)))),(SV.v (.bool (BV.p3f (RV.o c)))),(SV.v (.int .i64 (BV.v0v (RV.o c)))),(SV.v (.bool (BV.v0f (RV.o c)))),(SV.v (.int .i64 (BV.v1v (RV.o c)))),(SV.v (.bool (BV.v1f (RV.o c)))),(SV.v (.int .i64 (BV.w0v (RV.o c)))),(SV.v (.bool (BV.w0f (RV.o c)))),(SV.v (.int .i64 (BV.m0v (RV.o c)))),(SV.v (.bool (BV.m0f (RV.o c)))),(SV.v (.int .i64 (BV.m1v (RV.o c)))),(SV.v (.bool (BV.m1f (RV.o c)))),(SV.v (.int .i64 (BV.st (RV.o c)))),(SV.v (.bool (BV.asl (RV.o c)))),(SV.v (.bool (BV.flt (RV.o c)))),(SV.v (.int .i64 (BV.bv (RV.o c)))),(SV.v (Value.slice none 0 0)),(SV.v (.bool false)),(SV.v (.int .i64 0)),(SV.v (.bool false)),(SV.v (.int .i64 0)),(SV.v (.bool false)),(SV.v (.int .i64 0)),(SV.v (.bool false)),(SV.v (.int .i64 0))])):=by kernel_rfl
theorem vcShown8 (c : RV) (e1 n cap xt : Nat) (x y : Nat→Int) (wh : Bool) (e2 m cp xt2 : Nat) (x2 y2 : Nat→Int) (wh2 : Bool) (R : SV→Prop) : (vcFn Try.prog noCtrs ΛShown Try.f77 [reS 8 0 c (.sl 0 2 0 n cap) (.sl 1 2 0 m cp)] (heapOf [ptB e1 n x y xt wh,ptB e2 m x2 y2 xt2 wh2]) 64 (fun y' _ => R y')) = (R (SV.agg [(SV.v (.int .i64 8)),(SV.v (.int .i64 (RV.id c))),(SV.v (.int .i64 0)),(SV.v (.int .i64 0)),(SV.v (.int .i64 0)),(SV.v (.int .i64 0)),(SV.v (.int .i64 0)),(SV.v (.int .i64 0)),(SV.v (.int .i64 0)),(SV.v (.int .i64 0)),(SV.v (.int .i64 0)),(SV.v (Value.slice none 0 0)),(SV.v (.int .i64 0)),(SV.v (.bool false)),(SV.v (.int .i64 0)),(SV.v (.bool false)),(SV.v (.int .i64 0)),(SV.v (.bool false)),(SV.v (.int .i64 0)),(SV.v (.bool false)),(SV.v (.int .i64 0)),(SV.v (.bool false)),(SV.v (.int .i64 0)),(SV.v (.bool false)),(SV.v (.int .i64 0)),(SV.v (.bool false)),(SV.v (.int .i64 0)),(SV.v (.bool false)),(SV.v (.int .i64 0)),(SV.v (.bool false)),(SV.v (.int .i64 0)),(SV.v (.bool false)),(SV.v (.bool false)),(SV.v (.int .i64 0)),(SV.sl 1 2 0 m cp),(SV.v (.bool false)),(SV.v (.int .i64 0)),(SV.v (.bool false)),(SV.v (.int .i64 0)),(SV.v (.bool false)),(SV.v (.int .i64 0)),(SV.v (.bool false)),(SV.v (.int .i64 0))])):=by kernel_rfl
theorem vcTold8 (c : RV) (e1 n cap xt : Nat) (x y : Nat→Int) (wh : Bool) (e2 m cp xt2 : Nat) (x2 y2 : Nat→Int) (wh2 : Bool) (R : SV→Prop) : (vcFn Try.prog noCtrs ΛTold Try.f80 [reS 8 0 c (.sl 0 2 0 n cap) (.sl 1 2 0 m cp)] (heapOf [ptB e1 n x y xt wh,ptB e2 m x2 y2 xt2 wh2]) 64 (fun y' _ => R y')) = (R (SV.agg [(SV.v (.int .i64 8)),(SV.v (.int .i64 (RV.id c))),(SV.v (.int .i64 0)),(SV.v (.int .i64 0)),(SV.v (.int .i64 0)),(SV.v (.int .i64 0)),(SV.v (.int .i64 0)),(SV.v (.int .i64 0)),(SV.v (.int .i64 0)),(SV.v (.int .i64 0)),(SV.v (.int .i64 0)),(SV.v (Value.slice none 0 0)),(SV.v (.int .i64 0)),(SV.v (.bool false)),(SV.v (.int .i64 0)),(SV.v (.bool false)),(SV.v (.int .i64 0)),(SV.v (.bool false)),(SV.v (.int .i64 0)),(SV.v (.bool false)),(SV.v (.int .i64 0)),(SV.v (.bool false)),(SV.v (.int .i64 0)),(SV.v (.bool false)),(SV.v (.int .i64 0)),(SV.v (.bool false)),(SV.v (.int .i64 0)),(SV.v (.bool false)),(SV.v (.int .i64 0)),(SV.v (.bool false)),(SV.v (.int .i64 0)),(SV.v (.bool false)),(SV.v (.bool false)),(SV.v (.int .i64 0)),(SV.sl 1 2 0 m cp),(SV.v (.bool false)),(SV.v (.int .i64 0)),(SV.v (.bool false)),(SV.v (.int .i64 0)),(SV.v (.bool false)),(SV.v (.int .i64 0)),(SV.v (.bool false)),(SV.v (.int .i64 0))])):=by kernel_rfl
theorem vcShown9 (c : RV) (e1 n cap xt : Nat) (x y : Nat→Int) (wh : Bool) (e2 m cp xt2 : Nat) (x2 y2 : Nat→Int) (wh2 : Bool) (R : SV→Prop) : (vcFn Try.prog noCtrs ΛShown Try.f77 [reS 9 0 c (.sl 0 2 0 n cap) (.sl 1 2 0 m cp)] (heapOf [ptB e1 n x y xt wh,ptB e2 m x2 y2 xt2 wh2]) 64 (fun y' _ => R y')) = (sel (RV.hit c) (R (SV.agg [(SV.v (.int .i64 9)),(SV.v (.int .i64 (RV.id c))),(SV.v (.int .i64 0)),(SV.v (.int .i64 (RV.bs c))),(SV.v (.int .i64 (RV.bg c))),(SV.v (.int .i64 0)),(SV.v (.int .i64 0)),(SV.v (.int .i64 0)),(SV.v (.int .i64 0)),(SV.v (.int .i64 0)),(SV.v (.int .i64 0)),(SV.v (Value.slice none 0 0)),(SV.v (.int .i64 0)),(SV.v (.bool false)),(SV.v (.int .i64 0)),(SV.v (.bool false)),(SV.v (.int .i64 0)),(SV.v (.bool false)),(SV.v (.int .i64 0)),(SV.v (.bool false)),(SV.v (.int .i64 0)),(SV.v (.bool false)),(SV.v (.int .i64 0)),(SV.v (.bool false)),(SV.v (.int .i64 0)),(SV.v (.bool false)),(SV.v (.int .i64 0)),(SV.v (.bool false)),(SV.v (.int .i64 0)),(SV.v (.bool false)),(SV.v (.int .i64 0)),(SV.v (.bool false)),(SV.v (.bool false)),(SV.v (.int .i64 0)),(SV.v (Value.slice none 0 0)),(SV.v (.bool (RV.hit c))),(SV.v (.int .i64 (RV.htv c))),(SV.v (.bool (RV.htf c))),(SV.v (.int .i64 (RV.x0v c))),(SV.v (.bool (RV.x0f c))),(SV.v (.int .i64 (RV.x1v c))),(SV.v (.bool (RV.x1f c))),(SV.v (.int .i64 0))])) (R (SV.agg [(SV.v (.int .i64 9)),(SV.v (.int .i64 (RV.id c))),(SV.v (.int .i64 0)),(SV.v (.int .i64 0)),(SV.v (.int .i64 0)),(SV.v (.int .i64 0)),(SV.v (.int .i64 0)),(SV.v (.int .i64 0)),(SV.v (.int .i64 0)),(SV.v (.int .i64 0)),(SV.v (.int .i64 0)),(SV.v (Value.slice none 0 0)),(SV.v (.int .i64 0)),(SV.v (.bool false)),(SV.v (.int .i64 0)),(SV.v (.bool false)),(SV.v (.int .i64 0)),(SV.v (.bool false)),(SV.v (.int .i64 0)),(SV.v (.bool false)),(SV.v (.int .i64 0)),(SV.v (.bool false)),(SV.v (.int .i64 0)),(SV.v (.bool false)),(SV.v (.int .i64 0)),(SV.v (.bool false)),(SV.v (.int .i64 0)),(SV.v (.bool false)),(SV.v (.int .i64 0)),(SV.v (.bool false)),(SV.v (.int .i64 0)),(SV.v (.bool false)),(SV.v (.bool false)),(SV.v (.int .i64 0)),(SV.v (Value.slice none 0 0)),(SV.v (.bool false)),(SV.v (.int .i64 0)),(SV.v (.bool false)),(SV.v (.int .i64 0)),(SV.v (.bool false)),(SV.v (.int .i64 0)),(SV.v (.bool false)),(SV.v (.int .i64 0))]))):=by kernel_rfl
theorem vcTold9 (c : RV) (e1 n cap xt : Nat) (x y : Nat→Int) (wh : Bool) (e2 m cp xt2 : Nat) (x2 y2 : Nat→Int) (wh2 : Bool) (R : SV→Prop) : (vcFn Try.prog noCtrs ΛTold Try.f80 [reS 9 0 c (.sl 0 2 0 n cap) (.sl 1 2 0 m cp)] (heapOf [ptB e1 n x y xt wh,ptB e2 m x2 y2 xt2 wh2]) 64 (fun y' _ => R y')) = (sel (RV.hit c) (R (SV.agg [(SV.v (.int .i64 9)),(SV.v (.int .i64 (RV.id c))),(SV.v (.int .i64 0)),(SV.v (.int .i64 (RV.bs c))),(SV.v (.int .i64 (RV.bg c))),(SV.v (.int .i64 0)),(SV.v (.int .i64 0)),(SV.v (.int .i64 0)),(SV.v (.int .i64 0)),(SV.v (.int .i64 0)),(SV.v (.int .i64 0)),(SV.v (Value.slice none 0 0)),(SV.v (.int .i64 0)),(SV.v (.bool false)),(SV.v (.int .i64 0)),(SV.v (.bool false)),(SV.v (.int .i64 0)),(SV.v (.bool false)),(SV.v (.int .i64 0)),(SV.v (.bool false)),(SV.v (.int .i64 0)),(SV.v (.bool false)),(SV.v (.int .i64 0)),(SV.v (.bool false)),(SV.v (.int .i64 0)),(SV.v (.bool false)),(SV.v (.int .i64 0)),(SV.v (.bool false)),(SV.v (.int .i64 0)),(SV.v (.bool false)),(SV.v (.int .i64 0)),(SV.v (.bool false)),(SV.v (.bool false)),(SV.v (.int .i64 0)),(SV.v (Value.slice none 0 0)),(SV.v (.bool (RV.hit c))),(SV.v (.int .i64 (RV.htv c))),(SV.v (.bool (RV.htf c))),(SV.v (.int .i64 (RV.x0v c))),(SV.v (.bool (RV.x0f c))),(SV.v (.int .i64 (RV.x1v c))),(SV.v (.bool (RV.x1f c))),(SV.v (.int .i64 0))])) (R (SV.agg [(SV.v (.int .i64 9)),(SV.v (.int .i64 (RV.id c))),(SV.v (.int .i64 0)),(SV.v (.int .i64 0)),(SV.v (.int .i64 0)),(SV.v (.int .i64 0)),(SV.v (.int .i64 0)),(SV.v (.int .i64 0)),(SV.v (.int .i64 0)),(SV.v (.int .i64 0)),(SV.v (.int .i64 0)),(SV.v (Value.slice none 0 0)),(SV.v (.int .i64 0)),(SV.v (.bool false)),(SV.v (.int .i64 0)),(SV.v (.bool false)),(SV.v (.int .i64 0)),(SV.v (.bool false)),(SV.v (.int .i64 0)),(SV.v (.bool false)),(SV.v (.int .i64 0)),(SV.v (.bool false)),(SV.v (.int .i64 0)),(SV.v (.bool false)),(SV.v (.int .i64 0)),(SV.v (.bool false)),(SV.v (.int .i64 0)),(SV.v (.bool false)),(SV.v (.int .i64 0)),(SV.v (.bool false)),(SV.v (.int .i64 0)),(SV.v (.bool false)),(SV.v (.bool false)),(SV.v (.int .i64 0)),(SV.v (Value.slice none 0 0)),(SV.v (.bool false)),(SV.v (.int .i64 0)),(SV.v (.bool false)),(SV.v (.int .i64 0)),(SV.v (.bool false)),(SV.v (.int .i64 0)),(SV.v (.bool false)),(SV.v (.int .i64 0))]))):=by kernel_rfl
theorem vcShown10 (c : RV) (e1 n cap xt : Nat) (x y : Nat→Int) (wh : Bool) (e2 m cp xt2 : Nat) (x2 y2 : Nat→Int) (wh2 : Bool) (R : SV→Prop) : (vcFn Try.prog noCtrs ΛShown Try.f77 [reS 10 0 c (.sl 0 2 0 n cap) (.sl 1 2 0 m cp)] (heapOf [ptB e1 n x y xt wh,ptB e2 m x2 y2 xt2 wh2]) 64 (fun y' _ => R y')) = (R (SV.agg [(SV.v (.int .i64 10)),(SV.v (.int .i64 (RV.id c))),(SV.v (.int .i64 0)),(SV.v (.int .i64 0)),(SV.v (.int .i64 0)),(SV.v (.int .i64 0)),(SV.v (.int .i64 0)),(SV.v (.int .i64 0)),(SV.v (.int .i64 0)),(SV.v (.int .i64 0)),(SV.v (.int .i64 0)),(SV.v (Value.slice none 0 0)),(SV.v (.int .i64 0)),(SV.v (.bool false)),(SV.v (.int .i64 0)),(SV.v (.bool false)),(SV.v (.int .i64 0)),(SV.v (.bool false)),(SV.v (.int .i64 0)),(SV.v (.bool false)),(SV.v (.int .i64 0)),(SV.v (.bool false)),(SV.v (.int .i64 0)),(SV.v (.bool false)),(SV.v (.int .i64 0)),(SV.v (.bool false)),(SV.v (.int .i64 0)),(SV.v (.bool false)),(SV.v (.int .i64 0)),(SV.v (.bool false)),(SV.v (.int .i64 0)),(SV.v (.bool false)),(SV.v (.bool false)),(SV.v (.int .i64 0)),(SV.v (Value.slice none 0 0)),(SV.v (.bool false)),(SV.v (.int .i64 0)),(SV.v (.bool false)),(SV.v (.int .i64 0)),(SV.v (.bool false)),(SV.v (.int .i64 0)),(SV.v (.bool false)),(SV.v (.int .i64 (RV.cnt c)))])):=by kernel_rfl
theorem vcTold10 (c : RV) (e1 n cap xt : Nat) (x y : Nat→Int) (wh : Bool) (e2 m cp xt2 : Nat) (x2 y2 : Nat→Int) (wh2 : Bool) (R : SV→Prop) : (vcFn Try.prog noCtrs ΛTold Try.f80 [reS 10 0 c (.sl 0 2 0 n cap) (.sl 1 2 0 m cp)] (heapOf [ptB e1 n x y xt wh,ptB e2 m x2 y2 xt2 wh2]) 64 (fun y' _ => R y')) = (R (SV.agg [(SV.v (.int .i64 10)),(SV.v (.int .i64 (RV.id c))),(SV.v (.int .i64 0)),(SV.v (.int .i64 0)),(SV.v (.int .i64 0)),(SV.v (.int .i64 0)),(SV.v (.int .i64 0)),(SV.v (.int .i64 0)),(SV.v (.int .i64 0)),(SV.v (.int .i64 0)),(SV.v (.int .i64 0)),(SV.v (Value.slice none 0 0)),(SV.v (.int .i64 0)),(SV.v (.bool false)),(SV.v (.int .i64 0)),(SV.v (.bool false)),(SV.v (.int .i64 0)),(SV.v (.bool false)),(SV.v (.int .i64 0)),(SV.v (.bool false)),(SV.v (.int .i64 0)),(SV.v (.bool false)),(SV.v (.int .i64 0)),(SV.v (.bool false)),(SV.v (.int .i64 0)),(SV.v (.bool false)),(SV.v (.int .i64 0)),(SV.v (.bool false)),(SV.v (.int .i64 0)),(SV.v (.bool false)),(SV.v (.int .i64 0)),(SV.v (.bool false)),(SV.v (.bool false)),(SV.v (.int .i64 0)),(SV.v (Value.slice none 0 0)),(SV.v (.bool false)),(SV.v (.int .i64 0)),(SV.v (.bool false)),(SV.v (.int .i64 0)),(SV.v (.bool false)),(SV.v (.int .i64 0)),(SV.v (.bool false)),(SV.v (.int .i64 (RV.cnt c)))])):=by kernel_rfl
theorem vcShownP (k : Int) (a : Nat) (c : RV) (e1 n cap xt : Nat) (x y : Nat→Int) (wh : Bool) (e2 m cp xt2 : Nat) (x2 y2 : Nat→Int) (wh2 : Bool) (R : SV→Prop) : (vcFn Try.prog noCtrs ΛShown Try.f77 [reS k (Int.ofNat (a + 1)) c (.sl 0 2 0 n cap) (.sl 1 2 0 m cp)] (heapOf [ptB e1 n x y xt wh,ptB e2 m x2 y2 xt2 wh2]) 64 (fun y' _ => R y')) = (sel (Int.ofNat (a + 1) == 14) (R (SV.agg [(SV.v (.int .i64 k)),(SV.v (.int .i64 (RV.id c))),(SV.v (.int .i64 (Int.ofNat (a + 1)))),(SV.v (.int .i64 0)),(SV.v (.int .i64 0)),(SV.v (.int .i64 (RV.ver c))),(SV.v (.int .i64 0)),(SV.v (.int .i64 0)),(SV.v (.int .i64 0)),(SV.v (.int .i64 0)),(SV.v (.int .i64 0)),(SV.v (Value.slice none 0 0)),(SV.v (.int .i64 0)),(SV.v (.bool false)),(SV.v (.int .i64 0)),(SV.v (.bool false)),(SV.v (.int .i64 0)),(SV.v (.bool false)),(SV.v (.int .i64 0)),(SV.v (.bool false)),(SV.v (.int .i64 0)),(SV.v (.bool false)),(SV.v (.int .i64 0)),(SV.v (.bool false)),(SV.v (.int .i64 0)),(SV.v (.bool false)),(SV.v (.int .i64 0)),(SV.v (.bool false)),(SV.v (.int .i64 0)),(SV.v (.bool false)),(SV.v (.int .i64 0)),(SV.v (.bool false)),(SV.v (.bool false)),(SV.v (.int .i64 0)),(SV.v (Value.slice none 0 0)),(SV.v (.bool false)),(SV.v (.int .i64 0)),(SV.v (.bool false)),(SV.v (.int .i64 0)),(SV.v (.bool false)),(SV.v (.int .i64 0)),(SV.v (.bool false)),(SV.v (.int .i64 0))])) (R (SV.agg [(SV.v (.int .i64 k)),(SV.v (.int .i64 (RV.id c))),(SV.v (.int .i64 (Int.ofNat (a + 1)))),(SV.v (.int .i64 0)),(SV.v (.int .i64 0)),(SV.v (.int .i64 0)),(SV.v (.int .i64 0)),(SV.v (.int .i64 0)),(SV.v (.int .i64 0)),(SV.v (.int .i64 0)),(SV.v (.int .i64 0)),(SV.v (Value.slice none 0 0)),(SV.v (.int .i64 0)),(SV.v (.bool false)),(SV.v (.int .i64 0)),(SV.v (.bool false)),(SV.v (.int .i64 0)),(SV.v (.bool false)),(SV.v (.int .i64 0)),(SV.v (.bool false)),(SV.v (.int .i64 0)),(SV.v (.bool false)),(SV.v (.int .i64 0)),(SV.v (.bool false)),(SV.v (.int .i64 0)),(SV.v (.bool false)),(SV.v (.int .i64 0)),(SV.v (.bool false)),(SV.v (.int .i64 0)),(SV.v (.bool false)),(SV.v (.int .i64 0)),(SV.v (.bool false)),(SV.v (.bool false)),(SV.v (.int .i64 0)),(SV.v (Value.slice none 0 0)),(SV.v (.bool false)),(SV.v (.int .i64 0)),(SV.v (.bool false)),(SV.v (.int .i64 0)),(SV.v (.bool false)),(SV.v (.int .i64 0)),(SV.v (.bool false)),(SV.v (.int .i64 0))]))):=by kernel_rfl
theorem vcToldP (k : Int) (a : Nat) (c : RV) (e1 n cap xt : Nat) (x y : Nat→Int) (wh : Bool) (e2 m cp xt2 : Nat) (x2 y2 : Nat→Int) (wh2 : Bool) (R : SV→Prop) : (vcFn Try.prog noCtrs ΛTold Try.f80 [reS k (Int.ofNat (a + 1)) c (.sl 0 2 0 n cap) (.sl 1 2 0 m cp)] (heapOf [ptB e1 n x y xt wh,ptB e2 m x2 y2 xt2 wh2]) 64 (fun y' _ => R y')) = (sel (k == 0) (sel (Int.ofNat (a + 1) == 14) (R (SV.agg [(SV.v (.int .i64 k)),(SV.v (.int .i64 0)),(SV.v (.int .i64 (Int.ofNat (a + 1)))),(SV.v (.int .i64 0)),(SV.v (.int .i64 0)),(SV.v (.int .i64 (RV.ver c))),(SV.v (.int .i64 0)),(SV.v (.int .i64 0)),(SV.v (.int .i64 0)),(SV.v (.int .i64 0)),(SV.v (.int .i64 0)),(SV.v (Value.slice none 0 0)),(SV.v (.int .i64 0)),(SV.v (.bool false)),(SV.v (.int .i64 0)),(SV.v (.bool false)),(SV.v (.int .i64 0)),(SV.v (.bool false)),(SV.v (.int .i64 0)),(SV.v (.bool false)),(SV.v (.int .i64 0)),(SV.v (.bool false)),(SV.v (.int .i64 0)),(SV.v (.bool false)),(SV.v (.int .i64 0)),(SV.v (.bool false)),(SV.v (.int .i64 0)),(SV.v (.bool false)),(SV.v (.int .i64 0)),(SV.v (.bool false)),(SV.v (.int .i64 0)),(SV.v (.bool false)),(SV.v (.bool false)),(SV.v (.int .i64 0)),(SV.v (Value.slice none 0 0)),(SV.v (.bool false)),(SV.v (.int .i64 0)),(SV.v (.bool false)),(SV.v (.int .i64 0)),(SV.v (.bool false)),(SV.v (.int .i64 0)),(SV.v (.bool false)),(SV.v (.int .i64 0))])) (R (SV.agg [(SV.v (.int .i64 k)),(SV.v (.int .i64 0)),(SV.v (.int .i64 (Int.ofNat (a + 1)))),(SV.v (.int .i64 0)),(SV.v (.int .i64 0)),(SV.v (.int .i64 0)),(SV.v (.int .i64 0)),(SV.v (.int .i64 0)),(SV.v (.int .i64 0)),(SV.v (.int .i64 0)),(SV.v (.int .i64 0)),(SV.v (Value.slice none 0 0)),(SV.v (.int .i64 0)),(SV.v (.bool false)),(SV.v (.int .i64 0)),(SV.v (.bool false)),(SV.v (.int .i64 0)),(SV.v (.bool false)),(SV.v (.int .i64 0)),(SV.v (.bool false)),(SV.v (.int .i64 0)),(SV.v (.bool false)),(SV.v (.int .i64 0)),(SV.v (.bool false)),(SV.v (.int .i64 0)),(SV.v (.bool false)),(SV.v (.int .i64 0)),(SV.v (.bool false)),(SV.v (.int .i64 0)),(SV.v (.bool false)),(SV.v (.int .i64 0)),(SV.v (.bool false)),(SV.v (.bool false)),(SV.v (.int .i64 0)),(SV.v (Value.slice none 0 0)),(SV.v (.bool false)),(SV.v (.int .i64 0)),(SV.v (.bool false)),(SV.v (.int .i64 0)),(SV.v (.bool false)),(SV.v (.int .i64 0)),(SV.v (.bool false)),(SV.v (.int .i64 0))]))) (sel (Int.ofNat (a + 1) == 14) (R (SV.agg [(SV.v (.int .i64 k)),(SV.v (.int .i64 (RV.id c))),(SV.v (.int .i64 (Int.ofNat (a + 1)))),(SV.v (.int .i64 0)),(SV.v (.int .i64 0)),(SV.v (.int .i64 (RV.ver c))),(SV.v (.int .i64 0)),(SV.v (.int .i64 0)),(SV.v (.int .i64 0)),(SV.v (.int .i64 0)),(SV.v (.int .i64 0)),(SV.v (Value.slice none 0 0)),(SV.v (.int .i64 0)),(SV.v (.bool false)),(SV.v (.int .i64 0)),(SV.v (.bool false)),(SV.v (.int .i64 0)),(SV.v (.bool false)),(SV.v (.int .i64 0)),(SV.v (.bool false)),(SV.v (.int .i64 0)),(SV.v (.bool false)),(SV.v (.int .i64 0)),(SV.v (.bool false)),(SV.v (.int .i64 0)),(SV.v (.bool false)),(SV.v (.int .i64 0)),(SV.v (.bool false)),(SV.v (.int .i64 0)),(SV.v (.bool false)),(SV.v (.int .i64 0)),(SV.v (.bool false)),(SV.v (.bool false)),(SV.v (.int .i64 0)),(SV.v (Value.slice none 0 0)),(SV.v (.bool false)),(SV.v (.int .i64 0)),(SV.v (.bool false)),(SV.v (.int .i64 0)),(SV.v (.bool false)),(SV.v (.int .i64 0)),(SV.v (.bool false)),(SV.v (.int .i64 0))])) (R (SV.agg [(SV.v (.int .i64 k)),(SV.v (.int .i64 (RV.id c))),(SV.v (.int .i64 (Int.ofNat (a + 1)))),(SV.v (.int .i64 0)),(SV.v (.int .i64 0)),(SV.v (.int .i64 0)),(SV.v (.int .i64 0)),(SV.v (.int .i64 0)),(SV.v (.int .i64 0)),(SV.v (.int .i64 0)),(SV.v (.int .i64 0)),(SV.v (Value.slice none 0 0)),(SV.v (.int .i64 0)),(SV.v (.bool false)),(SV.v (.int .i64 0)),(SV.v (.bool false)),(SV.v (.int .i64 0)),(SV.v (.bool false)),(SV.v (.int .i64 0)),(SV.v (.bool false)),(SV.v (.int .i64 0)),(SV.v (.bool false)),(SV.v (.int .i64 0)),(SV.v (.bool false)),(SV.v (.int .i64 0)),(SV.v (.bool false)),(SV.v (.int .i64 0)),(SV.v (.bool false)),(SV.v (.int .i64 0)),(SV.v (.bool false)),(SV.v (.int .i64 0)),(SV.v (.bool false)),(SV.v (.bool false)),(SV.v (.int .i64 0)),(SV.v (Value.slice none 0 0)),(SV.v (.bool false)),(SV.v (.int .i64 0)),(SV.v (.bool false)),(SV.v (.int .i64 0)),(SV.v (.bool false)),(SV.v (.int .i64 0)),(SV.v (.bool false)),(SV.v (.int .i64 0))])))):=by kernel_rfl
theorem vcShownM (k : Int) (a : Nat) (c : RV) (e1 n cap xt : Nat) (x y : Nat→Int) (wh : Bool) (e2 m cp xt2 : Nat) (x2 y2 : Nat→Int) (wh2 : Bool) (R : SV→Prop) : (vcFn Try.prog noCtrs ΛShown Try.f77 [reS k (Int.negSucc a) c (.sl 0 2 0 n cap) (.sl 1 2 0 m cp)] (heapOf [ptB e1 n x y xt wh,ptB e2 m x2 y2 xt2 wh2]) 64 (fun y' _ => R y')) = (R (SV.agg [(SV.v (.int .i64 k)),(SV.v (.int .i64 (RV.id c))),(SV.v (.int .i64 (Int.negSucc a))),(SV.v (.int .i64 0)),(SV.v (.int .i64 0)),(SV.v (.int .i64 0)),(SV.v (.int .i64 0)),(SV.v (.int .i64 0)),(SV.v (.int .i64 0)),(SV.v (.int .i64 0)),(SV.v (.int .i64 0)),(SV.v (Value.slice none 0 0)),(SV.v (.int .i64 0)),(SV.v (.bool false)),(SV.v (.int .i64 0)),(SV.v (.bool false)),(SV.v (.int .i64 0)),(SV.v (.bool false)),(SV.v (.int .i64 0)),(SV.v (.bool false)),(SV.v (.int .i64 0)),(SV.v (.bool false)),(SV.v (.int .i64 0)),(SV.v (.bool false)),(SV.v (.int .i64 0)),(SV.v (.bool false)),(SV.v (.int .i64 0)),(SV.v (.bool false)),(SV.v (.int .i64 0)),(SV.v (.bool false)),(SV.v (.int .i64 0)),(SV.v (.bool false)),(SV.v (.bool false)),(SV.v (.int .i64 0)),(SV.v (Value.slice none 0 0)),(SV.v (.bool false)),(SV.v (.int .i64 0)),(SV.v (.bool false)),(SV.v (.int .i64 0)),(SV.v (.bool false)),(SV.v (.int .i64 0)),(SV.v (.bool false)),(SV.v (.int .i64 0))])):=by kernel_rfl
theorem vcToldM (k : Int) (a : Nat) (c : RV) (e1 n cap xt : Nat) (x y : Nat→Int) (wh : Bool) (e2 m cp xt2 : Nat) (x2 y2 : Nat→Int) (wh2 : Bool) (R : SV→Prop) : (vcFn Try.prog noCtrs ΛTold Try.f80 [reS k (Int.negSucc a) c (.sl 0 2 0 n cap) (.sl 1 2 0 m cp)] (heapOf [ptB e1 n x y xt wh,ptB e2 m x2 y2 xt2 wh2]) 64 (fun y' _ => R y')) = (sel (k == 0) (R (SV.agg [(SV.v (.int .i64 k)),(SV.v (.int .i64 0)),(SV.v (.int .i64 (Int.negSucc a))),(SV.v (.int .i64 0)),(SV.v (.int .i64 0)),(SV.v (.int .i64 0)),(SV.v (.int .i64 0)),(SV.v (.int .i64 0)),(SV.v (.int .i64 0)),(SV.v (.int .i64 0)),(SV.v (.int .i64 0)),(SV.v (Value.slice none 0 0)),(SV.v (.int .i64 0)),(SV.v (.bool false)),(SV.v (.int .i64 0)),(SV.v (.bool false)),(SV.v (.int .i64 0)),(SV.v (.bool false)),(SV.v (.int .i64 0)),(SV.v (.bool false)),(SV.v (.int .i64 0)),(SV.v (.bool false)),(SV.v (.int .i64 0)),(SV.v (.bool false)),(SV.v (.int .i64 0)),(SV.v (.bool false)),(SV.v (.int .i64 0)),(SV.v (.bool false)),(SV.v (.int .i64 0)),(SV.v (.bool false)),(SV.v (.int .i64 0)),(SV.v (.bool false)),(SV.v (.bool false)),(SV.v (.int .i64 0)),(SV.v (Value.slice none 0 0)),(SV.v (.bool false)),(SV.v (.int .i64 0)),(SV.v (.bool false)),(SV.v (.int .i64 0)),(SV.v (.bool false)),(SV.v (.int .i64 0)),(SV.v (.bool false)),(SV.v (.int .i64 0))])) (R (SV.agg [(SV.v (.int .i64 k)),(SV.v (.int .i64 (RV.id c))),(SV.v (.int .i64 (Int.negSucc a))),(SV.v (.int .i64 0)),(SV.v (.int .i64 0)),(SV.v (.int .i64 0)),(SV.v (.int .i64 0)),(SV.v (.int .i64 0)),(SV.v (.int .i64 0)),(SV.v (.int .i64 0)),(SV.v (.int .i64 0)),(SV.v (Value.slice none 0 0)),(SV.v (.int .i64 0)),(SV.v (.bool false)),(SV.v (.int .i64 0)),(SV.v (.bool false)),(SV.v (.int .i64 0)),(SV.v (.bool false)),(SV.v (.int .i64 0)),(SV.v (.bool false)),(SV.v (.int .i64 0)),(SV.v (.bool false)),(SV.v (.int .i64 0)),(SV.v (.bool false)),(SV.v (.int .i64 0)),(SV.v (.bool false)),(SV.v (.int .i64 0)),(SV.v (.bool false)),(SV.v (.int .i64 0)),(SV.v (.bool false)),(SV.v (.int .i64 0)),(SV.v (.bool false)),(SV.v (.bool false)),(SV.v (.int .i64 0)),(SV.v (Value.slice none 0 0)),(SV.v (.bool false)),(SV.v (.int .i64 0)),(SV.v (.bool false)),(SV.v (.int .i64 0)),(SV.v (.bool false)),(SV.v (.int .i64 0)),(SV.v (.bool false)),(SV.v (.int .i64 0))]))):=by kernel_rfl
def sShown (args : List SV) (bs : List Blk) : Option Eff := match args with
  | [.agg l] => match cellsOfR l with
    | some (k, e, c, .sl 0 2 0 n cap, .sl 1 2 0 m cp) => match bs with
      | [S, H] => bif okB S && okB H then (bif e == 0 then (bif decide (k = 0) then some (.det (some (spPre n S ∧ spPre m H)) (reS 0 0 (uR0 c) (nilS) (nilS)) []) else (bif decide (k = 1) then some (.det (some (spPre n S ∧ spPre m H)) (reS 1 0 (uR1 c) (nilS) (nilS)) []) else (bif decide (k = 2) then some (.det (some (spPre n S ∧ spPre m H)) (reS 2 0 (uR2 c) (nilS) (nilS)) []) else (bif decide (k = 3) then some (.det (some (spPre n S ∧ spPre m H)) (reS 3 0 (uR3 c) (nilS) (nilS)) []) else (bif decide (k = 4) then some (.det (some (spPre n S ∧ spPre m H)) (reS 4 0 (uR4 c) (nilS) (nilS)) []) else (bif decide (k = 5) then some (.det (some (spPre n S ∧ spPre m H)) (reS 5 0 (uR5 c) (nilS) (nilS)) []) else (bif decide (k = 6) then some (.det (some (spPre n S ∧ spPre m H)) (reS 6 0 (uR6 c) (nilS) (nilS)) []) else (bif decide (k = 7) then some (.det (some (spPre n S ∧ spPre m H)) (reS 7 0 (uR7 c) (.sl 0 2 0 n cap) (nilS)) []) else (bif decide (k = 8) then some (.det (some (spPre n S ∧ spPre m H)) (reS 8 0 (uR8 c) (nilS) (.sl 1 2 0 m cp)) []) else (bif decide (k = 9) then some (.det (some (spPre n S ∧ spPre m H)) (reS 9 0 (uR9 c) (nilS) (nilS)) []) else (bif decide (k = 10) then some (.det (some (spPre n S ∧ spPre m H)) (reS 10 0 (uR10 c) (nilS) (nilS)) []) else (none)))))))))))) else some (.det (some (spPre n S ∧ spPre m H)) (reS k e (uRN e c) nilS nilS) [])) else none
      | _ => none
    | _ => none
  | _ => none
def sTold (args : List SV) (bs : List Blk) : Option Eff := match args with
  | [.agg l] => match cellsOfR l with
    | some (k, e, c, .sl 0 2 0 n cap, .sl 1 2 0 m cp) => match bs with
      | [S, H] => bif okB S && okB H then (bif e == 0 then (bif decide (k = 0) then some (.det (some (spPre n S ∧ spPre m H)) (reS 0 0 (uT0 c) (nilS) (nilS)) []) else (bif decide (k = 1) then some (.det (some (spPre n S ∧ spPre m H)) (reS 1 0 (uR1 c) (nilS) (nilS)) []) else (bif decide (k = 2) then some (.det (some (spPre n S ∧ spPre m H)) (reS 2 0 (uR2 c) (nilS) (nilS)) []) else (bif decide (k = 3) then some (.det (some (spPre n S ∧ spPre m H)) (reS 3 0 (uR3 c) (nilS) (nilS)) []) else (bif decide (k = 4) then some (.det (some (spPre n S ∧ spPre m H)) (reS 4 0 (uR4 c) (nilS) (nilS)) []) else (bif decide (k = 5) then some (.det (some (spPre n S ∧ spPre m H)) (reS 5 0 (uR5 c) (nilS) (nilS)) []) else (bif decide (k = 6) then some (.det (some (spPre n S ∧ spPre m H)) (reS 6 0 (uR6 c) (nilS) (nilS)) []) else (bif decide (k = 7) then some (.det (some (spPre n S ∧ spPre m H)) (reS 7 0 (uR7 c) (.sl 0 2 0 n cap) (nilS)) []) else (bif decide (k = 8) then some (.det (some (spPre n S ∧ spPre m H)) (reS 8 0 (uR8 c) (nilS) (.sl 1 2 0 m cp)) []) else (bif decide (k = 9) then some (.det (some (spPre n S ∧ spPre m H)) (reS 9 0 (uR9 c) (nilS) (nilS)) []) else (bif decide (k = 10) then some (.det (some (spPre n S ∧ spPre m H)) (reS 10 0 (uR10 c) (nilS) (nilS)) []) else (none)))))))))))) else some (.det (some (spPre n S ∧ spPre m H)) (reS k e (uTN k e c) nilS nilS) [])) else none
      | _ => none
    | _ => none
  | _ => none
theorem finE_post {bs : List Blk} {q : Option Prop} {x : SV} : (fun (y : SV) (h' : Heap) => FinE bs (.det q x []) y h') = fun y _ => FinE bs (.det q x []) y noHeap := rfl
theorem e_or {e : Int} (h : (e == 0) = false) : (∃ a : Nat, e = Int.ofNat (a + 1)) ∨ ∃ a : Nat, e = Int.negSucc a := by
  match e, h with
  | Int.ofNat 0, h => cases h
  | Int.ofNat (a + 1), _ => exact .inl ⟨a, rfl⟩
  | Int.negSucc a, _ => exact .inr ⟨a, rfl⟩
theorem reps_eq {l : List SV} {k e : Int} {c : RV} {P H : SV} (h : cellsOfR l = some (k, e, c, P, H)) : SV.agg l = reS k e c P H := by
  unfold cellsOfR at h
  obtain ⟨x_k, l_k, e_k, h_k⟩ := tkI_eq h
  subst e_k
  clear h
  obtain ⟨x_id, l_id, e_id, h_id⟩ := tkI_eq h_k
  subst e_id
  clear h_k
  obtain ⟨x_e, l_e, e_e, h_e⟩ := tkI_eq h_id
  subst e_e
  clear h_id
  obtain ⟨x_bs, l_bs, e_bs, h_bs⟩ := tkI_eq h_e
  subst e_bs
  clear h_e
  obtain ⟨x_bg, l_bg, e_bg, h_bg⟩ := tkI_eq h_bs
  subst e_bg
  clear h_bs
  obtain ⟨x_ver, l_ver, e_ver, h_ver⟩ := tkI_eq h_bg
  subst e_ver
  clear h_bg
  obtain ⟨x_gr, l_gr, e_gr, h_gr⟩ := tkI_eq h_ver
  subst e_gr
  clear h_ver
  obtain ⟨x_o_sk, l_o_sk, e_o_sk, h_o_sk⟩ := tkI_eq h_gr
  subst e_o_sk
  clear h_gr
  obtain ⟨x_o_sr, l_o_sr, e_o_sr, h_o_sr⟩ := tkI_eq h_o_sk
  subst e_o_sr
  clear h_o_sk
  obtain ⟨x_o_sw, l_o_sw, e_o_sw, h_o_sw⟩ := tkI_eq h_o_sr
  subst e_o_sw
  clear h_o_sr
  obtain ⟨x_o_sh, l_o_sh, e_o_sh, h_o_sh⟩ := tkI_eq h_o_sw
  subst e_o_sh
  clear h_o_sw
  obtain ⟨x_P, l_P, e_P, h_P⟩ := tkA_eq h_o_sh
  subst e_P
  clear h_o_sh
  obtain ⟨x_o_p0v, l_o_p0v, e_o_p0v, h_o_p0v⟩ := tkI_eq h_P
  subst e_o_p0v
  clear h_P
  obtain ⟨x_o_p0f, l_o_p0f, e_o_p0f, h_o_p0f⟩ := tkB_eq h_o_p0v
  subst e_o_p0f
  clear h_o_p0v
  obtain ⟨x_o_p1v, l_o_p1v, e_o_p1v, h_o_p1v⟩ := tkI_eq h_o_p0f
  subst e_o_p1v
  clear h_o_p0f
  obtain ⟨x_o_p1f, l_o_p1f, e_o_p1f, h_o_p1f⟩ := tkB_eq h_o_p1v
  subst e_o_p1f
  clear h_o_p1v
  obtain ⟨x_o_p2v, l_o_p2v, e_o_p2v, h_o_p2v⟩ := tkI_eq h_o_p1f
  subst e_o_p2v
  clear h_o_p1f
  obtain ⟨x_o_p2f, l_o_p2f, e_o_p2f, h_o_p2f⟩ := tkB_eq h_o_p2v
  subst e_o_p2f
  clear h_o_p2v
  obtain ⟨x_o_p3v, l_o_p3v, e_o_p3v, h_o_p3v⟩ := tkI_eq h_o_p2f
  subst e_o_p3v
  clear h_o_p2f
  obtain ⟨x_o_p3f, l_o_p3f, e_o_p3f, h_o_p3f⟩ := tkB_eq h_o_p3v
  subst e_o_p3f
  clear h_o_p3v
  obtain ⟨x_o_v0v, l_o_v0v, e_o_v0v, h_o_v0v⟩ := tkI_eq h_o_p3f
  subst e_o_v0v
  clear h_o_p3f
  obtain ⟨x_o_v0f, l_o_v0f, e_o_v0f, h_o_v0f⟩ := tkB_eq h_o_v0v
  subst e_o_v0f
  clear h_o_v0v
  obtain ⟨x_o_v1v, l_o_v1v, e_o_v1v, h_o_v1v⟩ := tkI_eq h_o_v0f
  subst e_o_v1v
  clear h_o_v0f
  obtain ⟨x_o_v1f, l_o_v1f, e_o_v1f, h_o_v1f⟩ := tkB_eq h_o_v1v
  subst e_o_v1f
  clear h_o_v1v
  obtain ⟨x_o_w0v, l_o_w0v, e_o_w0v, h_o_w0v⟩ := tkI_eq h_o_v1f
  subst e_o_w0v
  clear h_o_v1f
  obtain ⟨x_o_w0f, l_o_w0f, e_o_w0f, h_o_w0f⟩ := tkB_eq h_o_w0v
  subst e_o_w0f
  clear h_o_w0v
  obtain ⟨x_o_m0v, l_o_m0v, e_o_m0v, h_o_m0v⟩ := tkI_eq h_o_w0f
  subst e_o_m0v
  clear h_o_w0f
  obtain ⟨x_o_m0f, l_o_m0f, e_o_m0f, h_o_m0f⟩ := tkB_eq h_o_m0v
  subst e_o_m0f
  clear h_o_m0v
  obtain ⟨x_o_m1v, l_o_m1v, e_o_m1v, h_o_m1v⟩ := tkI_eq h_o_m0f
  subst e_o_m1v
  clear h_o_m0f
  obtain ⟨x_o_m1f, l_o_m1f, e_o_m1f, h_o_m1f⟩ := tkB_eq h_o_m1v
  subst e_o_m1f
  clear h_o_m1v
  obtain ⟨x_o_st, l_o_st, e_o_st, h_o_st⟩ := tkI_eq h_o_m1f
  subst e_o_st
  clear h_o_m1f
  obtain ⟨x_o_asl, l_o_asl, e_o_asl, h_o_asl⟩ := tkB_eq h_o_st
  subst e_o_asl
  clear h_o_st
  obtain ⟨x_o_flt, l_o_flt, e_o_flt, h_o_flt⟩ := tkB_eq h_o_asl
  subst e_o_flt
  clear h_o_asl
  obtain ⟨x_o_bv, l_o_bv, e_o_bv, h_o_bv⟩ := tkI_eq h_o_flt
  subst e_o_bv
  clear h_o_flt
  obtain ⟨x_H, l_H, e_H, h_H⟩ := tkA_eq h_o_bv
  subst e_H
  clear h_o_bv
  obtain ⟨x_hit, l_hit, e_hit, h_hit⟩ := tkB_eq h_H
  subst e_hit
  clear h_H
  obtain ⟨x_htv, l_htv, e_htv, h_htv⟩ := tkI_eq h_hit
  subst e_htv
  clear h_hit
  obtain ⟨x_htf, l_htf, e_htf, h_htf⟩ := tkB_eq h_htv
  subst e_htf
  clear h_htv
  obtain ⟨x_x0v, l_x0v, e_x0v, h_x0v⟩ := tkI_eq h_htf
  subst e_x0v
  clear h_htf
  obtain ⟨x_x0f, l_x0f, e_x0f, h_x0f⟩ := tkB_eq h_x0v
  subst e_x0f
  clear h_x0v
  obtain ⟨x_x1v, l_x1v, e_x1v, h_x1v⟩ := tkI_eq h_x0f
  subst e_x1v
  clear h_x0f
  obtain ⟨x_x1f, l_x1f, e_x1f, h_x1f⟩ := tkB_eq h_x1v
  subst e_x1f
  clear h_x1v
  obtain ⟨x_cnt, l_cnt, e_cnt, h_cnt⟩ := tkI_eq h_x1f
  subst e_cnt
  clear h_x1f
  obtain ⟨e0, h0⟩ := tkE_eq h_cnt
  subst e0
  obtain ⟨q0, h1⟩ := Prod.mk.inj h0
  clear h0
  obtain ⟨q1, h2⟩ := Prod.mk.inj h1
  clear h1
  obtain ⟨q2, h3⟩ := Prod.mk.inj h2
  clear h2
  obtain ⟨q3, h4⟩ := Prod.mk.inj h3
  clear h3
  subst q0 q1 q2 q3 h4
  rfl
theorem bods_eq {l : List SV} {c : BV} {P : SV} (h : cellsOfB l = some (c, P)) : SV.agg l = boS c P := by
  unfold cellsOfB at h
  obtain ⟨x_o_sk, l_o_sk, e_o_sk, h_o_sk⟩ := tkI_eq h
  subst e_o_sk
  clear h
  obtain ⟨x_o_sr, l_o_sr, e_o_sr, h_o_sr⟩ := tkI_eq h_o_sk
  subst e_o_sr
  clear h_o_sk
  obtain ⟨x_o_sw, l_o_sw, e_o_sw, h_o_sw⟩ := tkI_eq h_o_sr
  subst e_o_sw
  clear h_o_sr
  obtain ⟨x_o_sh, l_o_sh, e_o_sh, h_o_sh⟩ := tkI_eq h_o_sw
  subst e_o_sh
  clear h_o_sw
  obtain ⟨x_P, l_P, e_P, h_P⟩ := tkA_eq h_o_sh
  subst e_P
  clear h_o_sh
  obtain ⟨x_o_p0v, l_o_p0v, e_o_p0v, h_o_p0v⟩ := tkI_eq h_P
  subst e_o_p0v
  clear h_P
  obtain ⟨x_o_p0f, l_o_p0f, e_o_p0f, h_o_p0f⟩ := tkB_eq h_o_p0v
  subst e_o_p0f
  clear h_o_p0v
  obtain ⟨x_o_p1v, l_o_p1v, e_o_p1v, h_o_p1v⟩ := tkI_eq h_o_p0f
  subst e_o_p1v
  clear h_o_p0f
  obtain ⟨x_o_p1f, l_o_p1f, e_o_p1f, h_o_p1f⟩ := tkB_eq h_o_p1v
  subst e_o_p1f
  clear h_o_p1v
  obtain ⟨x_o_p2v, l_o_p2v, e_o_p2v, h_o_p2v⟩ := tkI_eq h_o_p1f
  subst e_o_p2v
  clear h_o_p1f
  obtain ⟨x_o_p2f, l_o_p2f, e_o_p2f, h_o_p2f⟩ := tkB_eq h_o_p2v
  subst e_o_p2f
  clear h_o_p2v
  obtain ⟨x_o_p3v, l_o_p3v, e_o_p3v, h_o_p3v⟩ := tkI_eq h_o_p2f
  subst e_o_p3v
  clear h_o_p2f
  obtain ⟨x_o_p3f, l_o_p3f, e_o_p3f, h_o_p3f⟩ := tkB_eq h_o_p3v
  subst e_o_p3f
  clear h_o_p3v
  obtain ⟨x_o_v0v, l_o_v0v, e_o_v0v, h_o_v0v⟩ := tkI_eq h_o_p3f
  subst e_o_v0v
  clear h_o_p3f
  obtain ⟨x_o_v0f, l_o_v0f, e_o_v0f, h_o_v0f⟩ := tkB_eq h_o_v0v
  subst e_o_v0f
  clear h_o_v0v
  obtain ⟨x_o_v1v, l_o_v1v, e_o_v1v, h_o_v1v⟩ := tkI_eq h_o_v0f
  subst e_o_v1v
  clear h_o_v0f
  obtain ⟨x_o_v1f, l_o_v1f, e_o_v1f, h_o_v1f⟩ := tkB_eq h_o_v1v
  subst e_o_v1f
  clear h_o_v1v
  obtain ⟨x_o_w0v, l_o_w0v, e_o_w0v, h_o_w0v⟩ := tkI_eq h_o_v1f
  subst e_o_w0v
  clear h_o_v1f
  obtain ⟨x_o_w0f, l_o_w0f, e_o_w0f, h_o_w0f⟩ := tkB_eq h_o_w0v
  subst e_o_w0f
  clear h_o_w0v
  obtain ⟨x_o_m0v, l_o_m0v, e_o_m0v, h_o_m0v⟩ := tkI_eq h_o_w0f
  subst e_o_m0v
  clear h_o_w0f
  obtain ⟨x_o_m0f, l_o_m0f, e_o_m0f, h_o_m0f⟩ := tkB_eq h_o_m0v
  subst e_o_m0f
  clear h_o_m0v
  obtain ⟨x_o_m1v, l_o_m1v, e_o_m1v, h_o_m1v⟩ := tkI_eq h_o_m0f
  subst e_o_m1v
  clear h_o_m0f
  obtain ⟨x_o_m1f, l_o_m1f, e_o_m1f, h_o_m1f⟩ := tkB_eq h_o_m1v
  subst e_o_m1f
  clear h_o_m1v
  obtain ⟨x_o_st, l_o_st, e_o_st, h_o_st⟩ := tkI_eq h_o_m1f
  subst e_o_st
  clear h_o_m1f
  obtain ⟨x_o_asl, l_o_asl, e_o_asl, h_o_asl⟩ := tkB_eq h_o_st
  subst e_o_asl
  clear h_o_st
  obtain ⟨x_o_flt, l_o_flt, e_o_flt, h_o_flt⟩ := tkB_eq h_o_asl
  subst e_o_flt
  clear h_o_asl
  obtain ⟨x_o_bv, l_o_bv, e_o_bv, h_o_bv⟩ := tkI_eq h_o_flt
  subst e_o_bv
  clear h_o_flt
  obtain ⟨e0, h0⟩ := tkE_eq h_o_bv
  subst e0
  obtain ⟨q0, h1⟩ := Prod.mk.inj h0
  clear h0
  subst q0 h1
  rfl
theorem shown_0 {q : Option Prop} {c : RV} {e1 n cap xt : Nat} {x y : Nat → Int} {wh : Bool} {e2 m cp xt2 : Nat} {x2 y2 : Nat → Int} {wh2 : Bool} : vcFn Try.prog noCtrs ΛShown Try.f77 [reS 0 0 c (.sl 0 2 0 n cap) (.sl 1 2 0 m cp)] (heapOf [ptB e1 n x y xt wh, ptB e2 m x2 y2 xt2 wh2]) 64 (fun y' h' => FinE [ptB e1 n x y xt wh, ptB e2 m x2 y2 xt2 wh2] (.det q (reS 0 0 (uR0 c) (nilS) (nilS)) []) y' h') := by
  rw [finE_post, vcShown0]
  (refine ⟨?_, trivial⟩; repeat (first | exact rfl | refine ⟨rfl, ?_⟩))
theorem told_0 {q : Option Prop} {c : RV} {e1 n cap xt : Nat} {x y : Nat → Int} {wh : Bool} {e2 m cp xt2 : Nat} {x2 y2 : Nat → Int} {wh2 : Bool} : vcFn Try.prog noCtrs ΛTold Try.f80 [reS 0 0 c (.sl 0 2 0 n cap) (.sl 1 2 0 m cp)] (heapOf [ptB e1 n x y xt wh, ptB e2 m x2 y2 xt2 wh2]) 64 (fun y' h' => FinE [ptB e1 n x y xt wh, ptB e2 m x2 y2 xt2 wh2] (.det q (reS 0 0 (uT0 c) (nilS) (nilS)) []) y' h') := by
  rw [finE_post, vcTold0]
  (refine ⟨?_, trivial⟩; repeat (first | exact rfl | refine ⟨rfl, ?_⟩))
theorem shown_1 {q : Option Prop} {c : RV} {e1 n cap xt : Nat} {x y : Nat → Int} {wh : Bool} {e2 m cp xt2 : Nat} {x2 y2 : Nat → Int} {wh2 : Bool} : vcFn Try.prog noCtrs ΛShown Try.f77 [reS 1 0 c (.sl 0 2 0 n cap) (.sl 1 2 0 m cp)] (heapOf [ptB e1 n x y xt wh, ptB e2 m x2 y2 xt2 wh2]) 64 (fun y' h' => FinE [ptB e1 n x y xt wh, ptB e2 m x2 y2 xt2 wh2] (.det q (reS 1 0 (uR1 c) (nilS) (nilS)) []) y' h') := by
  rw [finE_post, vcShown1]
  (refine ⟨?_, trivial⟩; repeat (first | exact rfl | refine ⟨rfl, ?_⟩))
theorem told_1 {q : Option Prop} {c : RV} {e1 n cap xt : Nat} {x y : Nat → Int} {wh : Bool} {e2 m cp xt2 : Nat} {x2 y2 : Nat → Int} {wh2 : Bool} : vcFn Try.prog noCtrs ΛTold Try.f80 [reS 1 0 c (.sl 0 2 0 n cap) (.sl 1 2 0 m cp)] (heapOf [ptB e1 n x y xt wh, ptB e2 m x2 y2 xt2 wh2]) 64 (fun y' h' => FinE [ptB e1 n x y xt wh, ptB e2 m x2 y2 xt2 wh2] (.det q (reS 1 0 (uR1 c) (nilS) (nilS)) []) y' h') := by
  rw [finE_post, vcTold1]
  (refine ⟨?_, trivial⟩; repeat (first | exact rfl | refine ⟨rfl, ?_⟩))
theorem shown_2 {q : Option Prop} {c : RV} {e1 n cap xt : Nat} {x y : Nat → Int} {wh : Bool} {e2 m cp xt2 : Nat} {x2 y2 : Nat → Int} {wh2 : Bool} : vcFn Try.prog noCtrs ΛShown Try.f77 [reS 2 0 c (.sl 0 2 0 n cap) (.sl 1 2 0 m cp)] (heapOf [ptB e1 n x y xt wh, ptB e2 m x2 y2 xt2 wh2]) 64 (fun y' h' => FinE [ptB e1 n x y xt wh, ptB e2 m x2 y2 xt2 wh2] (.det q (reS 2 0 (uR2 c) (nilS) (nilS)) []) y' h') := by
  rw [finE_post, vcShown2]
  (refine ⟨?_, trivial⟩; repeat (first | exact rfl | refine ⟨rfl, ?_⟩))
theorem told_2 {q : Option Prop} {c : RV} {e1 n cap xt : Nat} {x y : Nat → Int} {wh : Bool} {e2 m cp xt2 : Nat} {x2 y2 : Nat → Int} {wh2 : Bool} : vcFn Try.prog noCtrs ΛTold Try.f80 [reS 2 0 c (.sl 0 2 0 n cap) (.sl 1 2 0 m cp)] (heapOf [ptB e1 n x y xt wh, ptB e2 m x2 y2 xt2 wh2]) 64 (fun y' h' => FinE [ptB e1 n x y xt wh, ptB e2 m x2 y2 xt2 wh2] (.det q (reS 2 0 (uR2 c) (nilS) (nilS)) []) y' h') := by
  rw [finE_post, vcTold2]
  (refine ⟨?_, trivial⟩; repeat (first | exact rfl | refine ⟨rfl, ?_⟩))
theorem shown_3 {q : Option Prop} {c : RV} {e1 n cap xt : Nat} {x y : Nat → Int} {wh : Bool} {e2 m cp xt2 : Nat} {x2 y2 : Nat → Int} {wh2 : Bool} : vcFn Try.prog noCtrs ΛShown Try.f77 [reS 3 0 c (.sl 0 2 0 n cap) (.sl 1 2 0 m cp)] (heapOf [ptB e1 n x y xt wh, ptB e2 m x2 y2 xt2 wh2]) 64 (fun y' h' => FinE [ptB e1 n x y xt wh, ptB e2 m x2 y2 xt2 wh2] (.det q (reS 3 0 (uR3 c) (nilS) (nilS)) []) y' h') := by
  rw [finE_post, vcShown3]
  (refine ⟨?_, trivial⟩; repeat (first | exact rfl | refine ⟨rfl, ?_⟩))
theorem told_3 {q : Option Prop} {c : RV} {e1 n cap xt : Nat} {x y : Nat → Int} {wh : Bool} {e2 m cp xt2 : Nat} {x2 y2 : Nat → Int} {wh2 : Bool} : vcFn Try.prog noCtrs ΛTold Try.f80 [reS 3 0 c (.sl 0 2 0 n cap) (.sl 1 2 0 m cp)] (heapOf [ptB e1 n x y xt wh, ptB e2 m x2 y2 xt2 wh2]) 64 (fun y' h' => FinE [ptB e1 n x y xt wh, ptB e2 m x2 y2 xt2 wh2] (.det q (reS 3 0 (uR3 c) (nilS) (nilS)) []) y' h') := by
  rw [finE_post, vcTold3]
  (refine ⟨?_, trivial⟩; repeat (first | exact rfl | refine ⟨rfl, ?_⟩))
theorem shown_4 {q : Option Prop} {c : RV} {e1 n cap xt : Nat} {x y : Nat → Int} {wh : Bool} {e2 m cp xt2 : Nat} {x2 y2 : Nat → Int} {wh2 : Bool} : vcFn Try.prog noCtrs ΛShown Try.f77 [reS 4 0 c (.sl 0 2 0 n cap) (.sl 1 2 0 m cp)] (heapOf [ptB e1 n x y xt wh, ptB e2 m x2 y2 xt2 wh2]) 64 (fun y' h' => FinE [ptB e1 n x y xt wh, ptB e2 m x2 y2 xt2 wh2] (.det q (reS 4 0 (uR4 c) (nilS) (nilS)) []) y' h') := by
  rw [finE_post, vcShown4]
  (refine ⟨?_, trivial⟩; repeat (first | exact rfl | refine ⟨rfl, ?_⟩))
theorem told_4 {q : Option Prop} {c : RV} {e1 n cap xt : Nat} {x y : Nat → Int} {wh : Bool} {e2 m cp xt2 : Nat} {x2 y2 : Nat → Int} {wh2 : Bool} : vcFn Try.prog noCtrs ΛTold Try.f80 [reS 4 0 c (.sl 0 2 0 n cap) (.sl 1 2 0 m cp)] (heapOf [ptB e1 n x y xt wh, ptB e2 m x2 y2 xt2 wh2]) 64 (fun y' h' => FinE [ptB e1 n x y xt wh, ptB e2 m x2 y2 xt2 wh2] (.det q (reS 4 0 (uR4 c) (nilS) (nilS)) []) y' h') := by
  rw [finE_post, vcTold4]
  (refine ⟨?_, trivial⟩; repeat (first | exact rfl | refine ⟨rfl, ?_⟩))
theorem shown_5 {q : Option Prop} {c : RV} {e1 n cap xt : Nat} {x y : Nat → Int} {wh : Bool} {e2 m cp xt2 : Nat} {x2 y2 : Nat → Int} {wh2 : Bool} : vcFn Try.prog noCtrs ΛShown Try.f77 [reS 5 0 c (.sl 0 2 0 n cap) (.sl 1 2 0 m cp)] (heapOf [ptB e1 n x y xt wh, ptB e2 m x2 y2 xt2 wh2]) 64 (fun y' h' => FinE [ptB e1 n x y xt wh, ptB e2 m x2 y2 xt2 wh2] (.det q (reS 5 0 (uR5 c) (nilS) (nilS)) []) y' h') := by
  rw [finE_post, vcShown5]
  (refine ⟨?_, trivial⟩; repeat (first | exact rfl | refine ⟨rfl, ?_⟩))
theorem told_5 {q : Option Prop} {c : RV} {e1 n cap xt : Nat} {x y : Nat → Int} {wh : Bool} {e2 m cp xt2 : Nat} {x2 y2 : Nat → Int} {wh2 : Bool} : vcFn Try.prog noCtrs ΛTold Try.f80 [reS 5 0 c (.sl 0 2 0 n cap) (.sl 1 2 0 m cp)] (heapOf [ptB e1 n x y xt wh, ptB e2 m x2 y2 xt2 wh2]) 64 (fun y' h' => FinE [ptB e1 n x y xt wh, ptB e2 m x2 y2 xt2 wh2] (.det q (reS 5 0 (uR5 c) (nilS) (nilS)) []) y' h') := by
  rw [finE_post, vcTold5]
  (refine ⟨?_, trivial⟩; repeat (first | exact rfl | refine ⟨rfl, ?_⟩))
theorem shown_6 {q : Option Prop} {c : RV} {e1 n cap xt : Nat} {x y : Nat → Int} {wh : Bool} {e2 m cp xt2 : Nat} {x2 y2 : Nat → Int} {wh2 : Bool} : vcFn Try.prog noCtrs ΛShown Try.f77 [reS 6 0 c (.sl 0 2 0 n cap) (.sl 1 2 0 m cp)] (heapOf [ptB e1 n x y xt wh, ptB e2 m x2 y2 xt2 wh2]) 64 (fun y' h' => FinE [ptB e1 n x y xt wh, ptB e2 m x2 y2 xt2 wh2] (.det q (reS 6 0 (uR6 c) (nilS) (nilS)) []) y' h') := by
  rw [finE_post, vcShown6]
  (refine ⟨?_, trivial⟩; repeat (first | exact rfl | refine ⟨rfl, ?_⟩))
theorem told_6 {q : Option Prop} {c : RV} {e1 n cap xt : Nat} {x y : Nat → Int} {wh : Bool} {e2 m cp xt2 : Nat} {x2 y2 : Nat → Int} {wh2 : Bool} : vcFn Try.prog noCtrs ΛTold Try.f80 [reS 6 0 c (.sl 0 2 0 n cap) (.sl 1 2 0 m cp)] (heapOf [ptB e1 n x y xt wh, ptB e2 m x2 y2 xt2 wh2]) 64 (fun y' h' => FinE [ptB e1 n x y xt wh, ptB e2 m x2 y2 xt2 wh2] (.det q (reS 6 0 (uR6 c) (nilS) (nilS)) []) y' h') := by
  rw [finE_post, vcTold6]
  (refine ⟨?_, trivial⟩; repeat (first | exact rfl | refine ⟨rfl, ?_⟩))
theorem shown_7 {q : Option Prop} {c : RV} {e1 n cap xt : Nat} {x y : Nat → Int} {wh : Bool} {e2 m cp xt2 : Nat} {x2 y2 : Nat → Int} {wh2 : Bool} : vcFn Try.prog noCtrs ΛShown Try.f77 [reS 7 0 c (.sl 0 2 0 n cap) (.sl 1 2 0 m cp)] (heapOf [ptB e1 n x y xt wh, ptB e2 m x2 y2 xt2 wh2]) 64 (fun y' h' => FinE [ptB e1 n x y xt wh, ptB e2 m x2 y2 xt2 wh2] (.det q (reS 7 0 (uR7 c) (.sl 0 2 0 n cap) (nilS)) []) y' h') := by
  rw [finE_post, vcShown7]
  (refine ⟨?_, trivial⟩; repeat (first | exact rfl | refine ⟨rfl, ?_⟩))
theorem told_7 {q : Option Prop} {c : RV} {e1 n cap xt : Nat} {x y : Nat → Int} {wh : Bool} {e2 m cp xt2 : Nat} {x2 y2 : Nat → Int} {wh2 : Bool} : vcFn Try.prog noCtrs ΛTold Try.f80 [reS 7 0 c (.sl 0 2 0 n cap) (.sl 1 2 0 m cp)] (heapOf [ptB e1 n x y xt wh, ptB e2 m x2 y2 xt2 wh2]) 64 (fun y' h' => FinE [ptB e1 n x y xt wh, ptB e2 m x2 y2 xt2 wh2] (.det q (reS 7 0 (uR7 c) (.sl 0 2 0 n cap) (nilS)) []) y' h') := by
  rw [finE_post, vcTold7]
  (refine ⟨?_, trivial⟩; repeat (first | exact rfl | refine ⟨rfl, ?_⟩))
theorem shown_8 {q : Option Prop} {c : RV} {e1 n cap xt : Nat} {x y : Nat → Int} {wh : Bool} {e2 m cp xt2 : Nat} {x2 y2 : Nat → Int} {wh2 : Bool} : vcFn Try.prog noCtrs ΛShown Try.f77 [reS 8 0 c (.sl 0 2 0 n cap) (.sl 1 2 0 m cp)] (heapOf [ptB e1 n x y xt wh, ptB e2 m x2 y2 xt2 wh2]) 64 (fun y' h' => FinE [ptB e1 n x y xt wh, ptB e2 m x2 y2 xt2 wh2] (.det q (reS 8 0 (uR8 c) (nilS) (.sl 1 2 0 m cp)) []) y' h') := by
  rw [finE_post, vcShown8]
  (refine ⟨?_, trivial⟩; repeat (first | exact rfl | refine ⟨rfl, ?_⟩))
theorem told_8 {q : Option Prop} {c : RV} {e1 n cap xt : Nat} {x y : Nat → Int} {wh : Bool} {e2 m cp xt2 : Nat} {x2 y2 : Nat → Int} {wh2 : Bool} : vcFn Try.prog noCtrs ΛTold Try.f80 [reS 8 0 c (.sl 0 2 0 n cap) (.sl 1 2 0 m cp)] (heapOf [ptB e1 n x y xt wh, ptB e2 m x2 y2 xt2 wh2]) 64 (fun y' h' => FinE [ptB e1 n x y xt wh, ptB e2 m x2 y2 xt2 wh2] (.det q (reS 8 0 (uR8 c) (nilS) (.sl 1 2 0 m cp)) []) y' h') := by
  rw [finE_post, vcTold8]
  (refine ⟨?_, trivial⟩; repeat (first | exact rfl | refine ⟨rfl, ?_⟩))
theorem shown_9 {q : Option Prop} {c : RV} {e1 n cap xt : Nat} {x y : Nat → Int} {wh : Bool} {e2 m cp xt2 : Nat} {x2 y2 : Nat → Int} {wh2 : Bool} : vcFn Try.prog noCtrs ΛShown Try.f77 [reS 9 0 c (.sl 0 2 0 n cap) (.sl 1 2 0 m cp)] (heapOf [ptB e1 n x y xt wh, ptB e2 m x2 y2 xt2 wh2]) 64 (fun y' h' => FinE [ptB e1 n x y xt wh, ptB e2 m x2 y2 xt2 wh2] (.det q (reS 9 0 (uR9 c) (nilS) (nilS)) []) y' h') := by
  rw [finE_post, vcShown9]
  refine sel_of (fun h => ?_) fun h => ?_
  · unfold uR9; rw [h]; (refine ⟨?_, trivial⟩; repeat (first | exact rfl | refine ⟨rfl, ?_⟩))
  · unfold uR9; rw [h]; (refine ⟨?_, trivial⟩; repeat (first | exact rfl | refine ⟨rfl, ?_⟩))
theorem told_9 {q : Option Prop} {c : RV} {e1 n cap xt : Nat} {x y : Nat → Int} {wh : Bool} {e2 m cp xt2 : Nat} {x2 y2 : Nat → Int} {wh2 : Bool} : vcFn Try.prog noCtrs ΛTold Try.f80 [reS 9 0 c (.sl 0 2 0 n cap) (.sl 1 2 0 m cp)] (heapOf [ptB e1 n x y xt wh, ptB e2 m x2 y2 xt2 wh2]) 64 (fun y' h' => FinE [ptB e1 n x y xt wh, ptB e2 m x2 y2 xt2 wh2] (.det q (reS 9 0 (uR9 c) (nilS) (nilS)) []) y' h') := by
  rw [finE_post, vcTold9]
  refine sel_of (fun h => ?_) fun h => ?_
  · unfold uR9; rw [h]; (refine ⟨?_, trivial⟩; repeat (first | exact rfl | refine ⟨rfl, ?_⟩))
  · unfold uR9; rw [h]; (refine ⟨?_, trivial⟩; repeat (first | exact rfl | refine ⟨rfl, ?_⟩))
theorem shown_10 {q : Option Prop} {c : RV} {e1 n cap xt : Nat} {x y : Nat → Int} {wh : Bool} {e2 m cp xt2 : Nat} {x2 y2 : Nat → Int} {wh2 : Bool} : vcFn Try.prog noCtrs ΛShown Try.f77 [reS 10 0 c (.sl 0 2 0 n cap) (.sl 1 2 0 m cp)] (heapOf [ptB e1 n x y xt wh, ptB e2 m x2 y2 xt2 wh2]) 64 (fun y' h' => FinE [ptB e1 n x y xt wh, ptB e2 m x2 y2 xt2 wh2] (.det q (reS 10 0 (uR10 c) (nilS) (nilS)) []) y' h') := by
  rw [finE_post, vcShown10]
  (refine ⟨?_, trivial⟩; repeat (first | exact rfl | refine ⟨rfl, ?_⟩))
theorem told_10 {q : Option Prop} {c : RV} {e1 n cap xt : Nat} {x y : Nat → Int} {wh : Bool} {e2 m cp xt2 : Nat} {x2 y2 : Nat → Int} {wh2 : Bool} : vcFn Try.prog noCtrs ΛTold Try.f80 [reS 10 0 c (.sl 0 2 0 n cap) (.sl 1 2 0 m cp)] (heapOf [ptB e1 n x y xt wh, ptB e2 m x2 y2 xt2 wh2]) 64 (fun y' h' => FinE [ptB e1 n x y xt wh, ptB e2 m x2 y2 xt2 wh2] (.det q (reS 10 0 (uR10 c) (nilS) (nilS)) []) y' h') := by
  rw [finE_post, vcTold10]
  (refine ⟨?_, trivial⟩; repeat (first | exact rfl | refine ⟨rfl, ?_⟩))
theorem shown_P {q : Option Prop} {k : Int} {a : Nat} {c : RV} {e1 n cap xt : Nat} {x y : Nat → Int} {wh : Bool} {e2 m cp xt2 : Nat} {x2 y2 : Nat → Int} {wh2 : Bool} : vcFn Try.prog noCtrs ΛShown Try.f77 [reS k (Int.ofNat (a + 1)) c (.sl 0 2 0 n cap) (.sl 1 2 0 m cp)] (heapOf [ptB e1 n x y xt wh, ptB e2 m x2 y2 xt2 wh2]) 64 (fun y' h' => FinE [ptB e1 n x y xt wh, ptB e2 m x2 y2 xt2 wh2] (.det q (reS k (Int.ofNat (a + 1)) (uRN (Int.ofNat (a + 1)) c) (nilS) (nilS)) []) y' h') := by
  rw [finE_post, vcShownP]
  refine sel_of (fun g => ?_) fun g => ?_
  · unfold uRN; rw [g]; (refine ⟨?_, trivial⟩; repeat (first | exact rfl | refine ⟨rfl, ?_⟩))
  · unfold uRN; rw [g]; (refine ⟨?_, trivial⟩; repeat (first | exact rfl | refine ⟨rfl, ?_⟩))
theorem told_P {q : Option Prop} {k : Int} {a : Nat} {c : RV} {e1 n cap xt : Nat} {x y : Nat → Int} {wh : Bool} {e2 m cp xt2 : Nat} {x2 y2 : Nat → Int} {wh2 : Bool} : vcFn Try.prog noCtrs ΛTold Try.f80 [reS k (Int.ofNat (a + 1)) c (.sl 0 2 0 n cap) (.sl 1 2 0 m cp)] (heapOf [ptB e1 n x y xt wh, ptB e2 m x2 y2 xt2 wh2]) 64 (fun y' h' => FinE [ptB e1 n x y xt wh, ptB e2 m x2 y2 xt2 wh2] (.det q (reS k (Int.ofNat (a + 1)) (uTN k (Int.ofNat (a + 1)) c) (nilS) (nilS)) []) y' h') := by
  rw [finE_post, vcToldP]
  refine sel_of (fun h => sel_of (fun g => ?_) fun g => ?_) fun h => sel_of (fun g => ?_) fun g => ?_
  · unfold uTN; rw [h, g]; (refine ⟨?_, trivial⟩; repeat (first | exact rfl | refine ⟨rfl, ?_⟩))
  · unfold uTN; rw [h, g]; (refine ⟨?_, trivial⟩; repeat (first | exact rfl | refine ⟨rfl, ?_⟩))
  · unfold uTN; rw [h, g]; (refine ⟨?_, trivial⟩; repeat (first | exact rfl | refine ⟨rfl, ?_⟩))
  · unfold uTN; rw [h, g]; (refine ⟨?_, trivial⟩; repeat (first | exact rfl | refine ⟨rfl, ?_⟩))
theorem shown_M {q : Option Prop} {k : Int} {a : Nat} {c : RV} {e1 n cap xt : Nat} {x y : Nat → Int} {wh : Bool} {e2 m cp xt2 : Nat} {x2 y2 : Nat → Int} {wh2 : Bool} : vcFn Try.prog noCtrs ΛShown Try.f77 [reS k (Int.negSucc a) c (.sl 0 2 0 n cap) (.sl 1 2 0 m cp)] (heapOf [ptB e1 n x y xt wh, ptB e2 m x2 y2 xt2 wh2]) 64 (fun y' h' => FinE [ptB e1 n x y xt wh, ptB e2 m x2 y2 xt2 wh2] (.det q (reS k (Int.negSucc a) (uRN (Int.negSucc a) c) (nilS) (nilS)) []) y' h') := by
  rw [finE_post, vcShownM]
  unfold uRN; (refine ⟨?_, trivial⟩; repeat (first | exact rfl | refine ⟨rfl, ?_⟩))
theorem told_M {q : Option Prop} {k : Int} {a : Nat} {c : RV} {e1 n cap xt : Nat} {x y : Nat → Int} {wh : Bool} {e2 m cp xt2 : Nat} {x2 y2 : Nat → Int} {wh2 : Bool} : vcFn Try.prog noCtrs ΛTold Try.f80 [reS k (Int.negSucc a) c (.sl 0 2 0 n cap) (.sl 1 2 0 m cp)] (heapOf [ptB e1 n x y xt wh, ptB e2 m x2 y2 xt2 wh2]) 64 (fun y' h' => FinE [ptB e1 n x y xt wh, ptB e2 m x2 y2 xt2 wh2] (.det q (reS k (Int.negSucc a) (uTN k (Int.negSucc a) c) (nilS) (nilS)) []) y' h') := by
  rw [finE_post, vcToldM]
  refine sel_of (fun h => ?_) fun h => ?_
  · unfold uTN; rw [h]; (refine ⟨?_, trivial⟩; repeat (first | exact rfl | refine ⟨rfl, ?_⟩))
  · unfold uTN; rw [h]; (refine ⟨?_, trivial⟩; repeat (first | exact rfl | refine ⟨rfl, ?_⟩))
theorem Shown_spec : HpSpec Try.prog 77 sShown := hp_spec hm noCtrs_ok Try.func77 (Λ := fun _ _ => ΛShown) fun args bs e hs hp => by
  unfold sShown at hs
  split at hs
  · rename_i l
    split at hs
    · rename_i k e c n cap m cp hl
      split at hs
      · rename_i S H
        obtain ⟨hSH, ht⟩ := bif_some2' hs
        clear hs
        rw [Bool.and_eq_true] at hSH
        have hbs : ∀ hsp : spPre n S ∧ spPre m H, blksSame [S, H] [ptB S.elem n (gX S) (gY S) S.ext S.whole, ptB H.elem m (gX H) (gY H) H.ext H.whole] := fun hsp => ⟨same_ptB hSH.1 hsp.1, same_ptB hSH.2 hsp.2, trivial⟩
        cases he : e == 0 with
        | true =>
          rw [he, cond_true] at ht
          have hz : e = 0 := by simpa using he
          clear he
          subst hz
          by_cases h0 : k = 0
          · subst h0
            have hu := Option.some.inj ht
            clear ht
            subst hu
            refine ⟨[ptB S.elem n (gX S) (gY S) S.ext S.whole, ptB H.elem m (gX H) (gY H) H.ext H.whole], hbs (hp _ rfl), ?_⟩
            rw [reps_eq hl]
            exact shown_0
          rw [decide_eq_false h0, cond_false] at ht
          by_cases h1 : k = 1
          · subst h1
            have hu := Option.some.inj ht
            clear ht
            subst hu
            refine ⟨[ptB S.elem n (gX S) (gY S) S.ext S.whole, ptB H.elem m (gX H) (gY H) H.ext H.whole], hbs (hp _ rfl), ?_⟩
            rw [reps_eq hl]
            exact shown_1
          rw [decide_eq_false h1, cond_false] at ht
          by_cases h2 : k = 2
          · subst h2
            have hu := Option.some.inj ht
            clear ht
            subst hu
            refine ⟨[ptB S.elem n (gX S) (gY S) S.ext S.whole, ptB H.elem m (gX H) (gY H) H.ext H.whole], hbs (hp _ rfl), ?_⟩
            rw [reps_eq hl]
            exact shown_2
          rw [decide_eq_false h2, cond_false] at ht
          by_cases h3 : k = 3
          · subst h3
            have hu := Option.some.inj ht
            clear ht
            subst hu
            refine ⟨[ptB S.elem n (gX S) (gY S) S.ext S.whole, ptB H.elem m (gX H) (gY H) H.ext H.whole], hbs (hp _ rfl), ?_⟩
            rw [reps_eq hl]
            exact shown_3
          rw [decide_eq_false h3, cond_false] at ht
          by_cases h4 : k = 4
          · subst h4
            have hu := Option.some.inj ht
            clear ht
            subst hu
            refine ⟨[ptB S.elem n (gX S) (gY S) S.ext S.whole, ptB H.elem m (gX H) (gY H) H.ext H.whole], hbs (hp _ rfl), ?_⟩
            rw [reps_eq hl]
            exact shown_4
          rw [decide_eq_false h4, cond_false] at ht
          by_cases h5 : k = 5
          · subst h5
            have hu := Option.some.inj ht
            clear ht
            subst hu
            refine ⟨[ptB S.elem n (gX S) (gY S) S.ext S.whole, ptB H.elem m (gX H) (gY H) H.ext H.whole], hbs (hp _ rfl), ?_⟩
            rw [reps_eq hl]
            exact shown_5
          rw [decide_eq_false h5, cond_false] at ht
          by_cases h6 : k = 6
          · subst h6
            have hu := Option.some.inj ht
            clear ht
            subst hu
            refine ⟨[ptB S.elem n (gX S) (gY S) S.ext S.whole, ptB H.elem m (gX H) (gY H) H.ext H.whole], hbs (hp _ rfl), ?_⟩
            rw [reps_eq hl]
            exact shown_6
          rw [decide_eq_false h6, cond_false] at ht
          by_cases h7 : k = 7
          · subst h7
            have hu := Option.some.inj ht
            clear ht
            subst hu
            refine ⟨[ptB S.elem n (gX S) (gY S) S.ext S.whole, ptB H.elem m (gX H) (gY H) H.ext H.whole], hbs (hp _ rfl), ?_⟩
            rw [reps_eq hl]
            exact shown_7
          rw [decide_eq_false h7, cond_false] at ht
          by_cases h8 : k = 8
          · subst h8
            have hu := Option.some.inj ht
            clear ht
            subst hu
            refine ⟨[ptB S.elem n (gX S) (gY S) S.ext S.whole, ptB H.elem m (gX H) (gY H) H.ext H.whole], hbs (hp _ rfl), ?_⟩
            rw [reps_eq hl]
            exact shown_8
          rw [decide_eq_false h8, cond_false] at ht
          by_cases h9 : k = 9
          · subst h9
            have hu := Option.some.inj ht
            clear ht
            subst hu
            refine ⟨[ptB S.elem n (gX S) (gY S) S.ext S.whole, ptB H.elem m (gX H) (gY H) H.ext H.whole], hbs (hp _ rfl), ?_⟩
            rw [reps_eq hl]
            exact shown_9
          rw [decide_eq_false h9, cond_false] at ht
          by_cases h10 : k = 10
          · subst h10
            have hu := Option.some.inj ht
            clear ht
            subst hu
            refine ⟨[ptB S.elem n (gX S) (gY S) S.ext S.whole, ptB H.elem m (gX H) (gY H) H.ext H.whole], hbs (hp _ rfl), ?_⟩
            rw [reps_eq hl]
            exact shown_10
          rw [decide_eq_false h10, cond_false] at ht
          cases ht
        | false =>
          rw [he, cond_false] at ht
          have hu := Option.some.inj ht
          clear ht
          subst hu
          refine ⟨[ptB S.elem n (gX S) (gY S) S.ext S.whole, ptB H.elem m (gX H) (gY H) H.ext H.whole], hbs (hp _ rfl), ?_⟩
          rw [reps_eq hl]
          rcases e_or he with ⟨a, rfl⟩ | ⟨a, rfl⟩
          · exact shown_P
          · exact shown_M
      · cases hs
    · cases hs
  · cases hs
theorem Told_spec : HpSpec Try.prog 80 sTold := hp_spec hm noCtrs_ok Try.func80 (Λ := fun _ _ => ΛTold) fun args bs e hs hp => by
  unfold sTold at hs
  split at hs
  · rename_i l
    split at hs
    · rename_i k e c n cap m cp hl
      split at hs
      · rename_i S H
        obtain ⟨hSH, ht⟩ := bif_some2' hs
        clear hs
        rw [Bool.and_eq_true] at hSH
        have hbs : ∀ hsp : spPre n S ∧ spPre m H, blksSame [S, H] [ptB S.elem n (gX S) (gY S) S.ext S.whole, ptB H.elem m (gX H) (gY H) H.ext H.whole] := fun hsp => ⟨same_ptB hSH.1 hsp.1, same_ptB hSH.2 hsp.2, trivial⟩
        cases he : e == 0 with
        | true =>
          rw [he, cond_true] at ht
          have hz : e = 0 := by simpa using he
          clear he
          subst hz
          by_cases h0 : k = 0
          · subst h0
            have hu := Option.some.inj ht
            clear ht
            subst hu
            refine ⟨[ptB S.elem n (gX S) (gY S) S.ext S.whole, ptB H.elem m (gX H) (gY H) H.ext H.whole], hbs (hp _ rfl), ?_⟩
            rw [reps_eq hl]
            exact told_0
          rw [decide_eq_false h0, cond_false] at ht
          by_cases h1 : k = 1
          · subst h1
            have hu := Option.some.inj ht
            clear ht
            subst hu
            refine ⟨[ptB S.elem n (gX S) (gY S) S.ext S.whole, ptB H.elem m (gX H) (gY H) H.ext H.whole], hbs (hp _ rfl), ?_⟩
            rw [reps_eq hl]
            exact told_1
          rw [decide_eq_false h1, cond_false] at ht
          by_cases h2 : k = 2
          · subst h2
            have hu := Option.some.inj ht
            clear ht
            subst hu
            refine ⟨[ptB S.elem n (gX S) (gY S) S.ext S.whole, ptB H.elem m (gX H) (gY H) H.ext H.whole], hbs (hp _ rfl), ?_⟩
            rw [reps_eq hl]
            exact told_2
          rw [decide_eq_false h2, cond_false] at ht
          by_cases h3 : k = 3
          · subst h3
            have hu := Option.some.inj ht
            clear ht
            subst hu
            refine ⟨[ptB S.elem n (gX S) (gY S) S.ext S.whole, ptB H.elem m (gX H) (gY H) H.ext H.whole], hbs (hp _ rfl), ?_⟩
            rw [reps_eq hl]
            exact told_3
          rw [decide_eq_false h3, cond_false] at ht
          by_cases h4 : k = 4
          · subst h4
            have hu := Option.some.inj ht
            clear ht
            subst hu
            refine ⟨[ptB S.elem n (gX S) (gY S) S.ext S.whole, ptB H.elem m (gX H) (gY H) H.ext H.whole], hbs (hp _ rfl), ?_⟩
            rw [reps_eq hl]
            exact told_4
          rw [decide_eq_false h4, cond_false] at ht
          by_cases h5 : k = 5
          · subst h5
            have hu := Option.some.inj ht
            clear ht
            subst hu
            refine ⟨[ptB S.elem n (gX S) (gY S) S.ext S.whole, ptB H.elem m (gX H) (gY H) H.ext H.whole], hbs (hp _ rfl), ?_⟩
            rw [reps_eq hl]
            exact told_5
          rw [decide_eq_false h5, cond_false] at ht
          by_cases h6 : k = 6
          · subst h6
            have hu := Option.some.inj ht
            clear ht
            subst hu
            refine ⟨[ptB S.elem n (gX S) (gY S) S.ext S.whole, ptB H.elem m (gX H) (gY H) H.ext H.whole], hbs (hp _ rfl), ?_⟩
            rw [reps_eq hl]
            exact told_6
          rw [decide_eq_false h6, cond_false] at ht
          by_cases h7 : k = 7
          · subst h7
            have hu := Option.some.inj ht
            clear ht
            subst hu
            refine ⟨[ptB S.elem n (gX S) (gY S) S.ext S.whole, ptB H.elem m (gX H) (gY H) H.ext H.whole], hbs (hp _ rfl), ?_⟩
            rw [reps_eq hl]
            exact told_7
          rw [decide_eq_false h7, cond_false] at ht
          by_cases h8 : k = 8
          · subst h8
            have hu := Option.some.inj ht
            clear ht
            subst hu
            refine ⟨[ptB S.elem n (gX S) (gY S) S.ext S.whole, ptB H.elem m (gX H) (gY H) H.ext H.whole], hbs (hp _ rfl), ?_⟩
            rw [reps_eq hl]
            exact told_8
          rw [decide_eq_false h8, cond_false] at ht
          by_cases h9 : k = 9
          · subst h9
            have hu := Option.some.inj ht
            clear ht
            subst hu
            refine ⟨[ptB S.elem n (gX S) (gY S) S.ext S.whole, ptB H.elem m (gX H) (gY H) H.ext H.whole], hbs (hp _ rfl), ?_⟩
            rw [reps_eq hl]
            exact told_9
          rw [decide_eq_false h9, cond_false] at ht
          by_cases h10 : k = 10
          · subst h10
            have hu := Option.some.inj ht
            clear ht
            subst hu
            refine ⟨[ptB S.elem n (gX S) (gY S) S.ext S.whole, ptB H.elem m (gX H) (gY H) H.ext H.whole], hbs (hp _ rfl), ?_⟩
            rw [reps_eq hl]
            exact told_10
          rw [decide_eq_false h10, cond_false] at ht
          cases ht
        | false =>
          rw [he, cond_false] at ht
          have hu := Option.some.inj ht
          clear ht
          subst hu
          refine ⟨[ptB S.elem n (gX S) (gY S) S.ext S.whole, ptB H.elem m (gX H) (gY H) H.ext H.whole], hbs (hp _ rfl), ?_⟩
          rw [reps_eq hl]
          rcases e_or he with ⟨a, rfl⟩ | ⟨a, rfl⟩
          · exact told_P
          · exact told_M
      · cases hs
    · cases hs
  · cases hs
end Go.Proofs.Ytjdldadmaaeimaa
end

section
set_option maxRecDepth 100000
set_option linter.unusedSimpArgs false
set_option linter.unusedVariables false
namespace Go.Proofs.Ytjdldadmaaeimaa
open Go.SE Go.RowKit
def poB (b : BV) : List Int := vecL b.p0v b.p0f b.p1v b.p1f ++ (numL b.p2v b.p2f ++ numL b.p3v b.p3f)
def voB (b : BV) : List Int := vecL b.v0v b.v0f b.v1v b.v1f
def wmB (b : BV) : List Int := numL b.w0v b.w0f ++ numL b.m0v b.m0f ++ numL b.m1v b.m1f
def bmk (b : BV) : Int := (bif b.asl then 1 else 0) + (bif b.flt then 2 else 0)
def boT (b : BV) : List Int := poB b ++ (voB b ++ (wmB b ++ (c4 b.st ++ ([bmk b] ++ i8 b.bv))))
def boL (b : BV) (n : Nat) (x y : Nat → Int) : List Int := shL b.sk b.sr b.sw b.sh n x y ++ boT b
def boN (n : Nat) : Nat := shN n + 94
def boBad (b : BV) (n : Nat) : Bool := shBad b.sk n || ((isMin b.p0v || isMin b.p1v || (isMin b.p2v || isMin b.p3v)) || ((isMin b.v0v || isMin b.v1v) || ((isMin b.w0v || isMin b.m0v || isMin b.m1v) || (notIn b.st 2147483647 || notIn b.bv 1099511627776))))
def bvOk (b : BV) : Prop := I64 b.sk ∧ I64 b.sr ∧ I64 b.sw ∧ I64 b.sh ∧ I64 b.p0v ∧ I64 b.p1v ∧ I64 b.p2v ∧ I64 b.p3v ∧ I64 b.v0v ∧ I64 b.v1v ∧ I64 b.w0v ∧ I64 b.m0v ∧ I64 b.m1v ∧ I64 b.st ∧ I64 b.bv
def rvOk (c : RV) : Prop := I64 c.id ∧ I64 c.bs ∧ I64 c.bg ∧ I64 c.ver ∧ I64 c.gr ∧ I64 c.htv ∧ I64 c.x0v ∧ I64 c.x1v ∧ I64 c.cnt ∧ bvOk c.o
def NB2 : Nat := 800000000
def ΓPb : Ctrs := addCtr (addCtr ΓG0 118 (hpCtr true sSmall)) 97 (hpCtr true sShape)
theorem vcBodyU (b : Bool) (n0 : Nat) (g : Nat→Int) (c : Nat) (o : BV) (e n m cap xt : Nat) (x y : Nat→Int) (wh : Bool) : (vcFn Try.prog ΓPb noΛ Try.f93 [.vp 0 0,boS o (.sl 2 2 0 n cap)] (heapOf [wB (some b) false (.sl 1 1 0 n0 c),bG n0 g c,ptB e m x y xt wh]) 64 (fun y' h' => FinE [wB (some b) false (.sl 1 1 0 n0 c),bG n0 g c,ptB e m x y xt wh] (apE (.used (some b) n0 g c True) 0 True (boN n) (boL o n x y) (boBad o n)) y' h')) = ((((bytesOk n0 c {elem:=5,size:=1,rw:=true,lock:=false,lit:=false,flat:=true,n:=n0,row:=fun i => [SV.v (.int .u8 (g i))],ext:=c})∧((n0 : Nat) ≤ NB1))∧((((I64 (BV.sk o))∧((I64 (BV.sr o))∧((I64 (BV.sw o))∧(I64 (BV.sh o)))))∧(((n : Nat) = n)∧((n : Nat) < 100)))∧(∀ i : Nat,(((i : Nat) < n)→(isPair [SV.v (.int .i64 (x (0 + i))),SV.v (.int .i64 (y (0 + i)))])))))∧(∀ c_1 : Nat,((((bytesOk (n0 + shN n) (n0 + shN n + c_1) {elem:=5,size:=1,rw:=true,lock:=false,lit:=false,flat:=true,n:=n0 + shN n,row:=fun i => [SV.v (.int .u8 (apG n0 (fun i => SE.byteOf [SV.v (.int .u8 (g i))]) (shL (BV.sk o) (BV.sr o) (BV.sw o) (BV.sh o) n (fun i => pX [SV.v (.int .i64 (x (0 + i))),SV.v (.int .i64 (y (0 + i)))]) fun i => pY [SV.v (.int .i64 (x (0 + i))),SV.v (.int .i64 (y (0 + i)))]) i))],ext:=n0 + shN n + c_1})∧(((n0 + shN n) : Nat) ≤ NB0))∧((I64 (BV.p0v o))∧((I64 (BV.p1v o))∧((I64 (BV.p2v o))∧(I64 (BV.p3v o))))))∧(∀ c_2 : Nat,((((bytesOk (n0 + shN n + 36) (n0 + shN n + 36 + c_2) {elem:=5,size:=1,rw:=true,lock:=false,lit:=false,flat:=true,n:=n0 + shN n + 36,row:=fun i => [SV.v (.int .u8 (apG (n0 + shN n) (fun i => SE.byteOf [SV.v (.int .u8 (apG n0 (fun i => SE.byteOf [SV.v (.int .u8 (g i))]) (shL (BV.sk o) (BV.sr o) (BV.sw o) (BV.sh o) n (fun i => pX [SV.v (.int .i64 (x (0 + i))),SV.v (.int .i64 (y (0 + i)))]) fun i => pY [SV.v (.int .i64 (x (0 + i))),SV.v (.int .i64 (y (0 + i)))]) i))]) (vecL (BV.p0v o) (BV.p0f o) (BV.p1v o) (BV.p1f o)++(numL (BV.p2v o) (BV.p2f o)++numL (BV.p3v o) (BV.p3f o))) i))],ext:=n0 + shN n + 36 + c_2})∧(((n0 + shN n + 36) : Nat) ≤ NB0))∧((I64 (BV.v0v o))∧(I64 (BV.v1v o))))∧(∀ c_3 : Nat,((((bytesOk (n0 + shN n + 36 + 18) (n0 + shN n + 36 + 18 + c_3) {elem:=5,size:=1,rw:=true,lock:=false,lit:=false,flat:=true,n:=n0 + shN n + 36 + 18,row:=fun i => [SV.v (.int .u8 (apG (n0 + shN n + 36) (fun i => SE.byteOf [SV.v (.int .u8 (apG (n0 + shN n) (fun i => SE.byteOf [SV.v (.int .u8 (apG n0 (fun i => SE.byteOf [SV.v (.int .u8 (g i))]) (shL (BV.sk o) (BV.sr o) (BV.sw o) (BV.sh o) n (fun i => pX [SV.v (.int .i64 (x (0 + i))),SV.v (.int .i64 (y (0 + i)))]) fun i => pY [SV.v (.int .i64 (x (0 + i))),SV.v (.int .i64 (y (0 + i)))]) i))]) (vecL (BV.p0v o) (BV.p0f o) (BV.p1v o) (BV.p1f o)++(numL (BV.p2v o) (BV.p2f o)++numL (BV.p3v o) (BV.p3f o))) i))]) (vecL (BV.v0v o) (BV.v0f o) (BV.v1v o) (BV.v1f o)) i))],ext:=n0 + shN n + 36 + 18 + c_3})∧(((n0 + shN n + 36 + 18) : Nat) ≤ NB0))∧(((3 : Nat) = 3)∧(((1 : Nat) ≤ 3)∧(((3 : Nat) ≤ 100)∧(∀ i : Nat,(((i : Nat) < 3)→(isNum [SV.v (.int .i64 (bop (Nat.beq (0 + i) 0) (BV.w0v o) (bop (Nat.beq (0 + i) 1) (BV.m0v o) (BV.m1v o)))),SV.v (.bool (bop (Nat.beq (0 + i) 0) (BV.w0f o) (bop (Nat.beq (0 + i) 1) (BV.m0f o) (BV.m1f o))))])))))))∧(∀ c_4 : Nat,((((bytesOk (n0 + shN n + 36 + 18 + 27) (n0 + shN n + 36 + 18 + 27 + c_4) {elem:=5,size:=1,rw:=true,lock:=false,lit:=false,flat:=true,n:=n0 + shN n + 36 + 18 + 27,row:=fun i => [SV.v (.int .u8 (apG (n0 + shN n + 36 + 18) (fun i => SE.byteOf [SV.v (.int .u8 (apG (n0 + shN n + 36) (fun i => SE.byteOf [SV.v (.int .u8 (apG (n0 + shN n) (fun i => SE.byteOf [SV.v (.int .u8 (apG n0 (fun i => SE.byteOf [SV.v (.int .u8 (g i))]) (shL (BV.sk o) (BV.sr o) (BV.sw o) (BV.sh o) n (fun i => pX [SV.v (.int .i64 (x (0 + i))),SV.v (.int .i64 (y (0 + i)))]) fun i => pY [SV.v (.int .i64 (x (0 + i))),SV.v (.int .i64 (y (0 + i)))]) i))]) (vecL (BV.p0v o) (BV.p0f o) (BV.p1v o) (BV.p1f o)++(numL (BV.p2v o) (BV.p2f o)++numL (BV.p3v o) (BV.p3f o))) i))]) (vecL (BV.v0v o) (BV.v0f o) (BV.v1v o) (BV.v1f o)) i))]) (numsL (fun i => nV [SV.v (.int .i64 (bop (Nat.beq (0 + i) 0) (BV.w0v o) (bop (Nat.beq (0 + i) 1) (BV.m0v o) (BV.m1v o)))),SV.v (.bool (bop (Nat.beq (0 + i) 0) (BV.w0f o) (bop (Nat.beq (0 + i) 1) (BV.m0f o) (BV.m1f o))))]) (fun i => nF [SV.v (.int .i64 (bop (Nat.beq (0 + i) 0) (BV.w0v o) (bop (Nat.beq (0 + i) 1) (BV.m0v o) (BV.m1v o)))),SV.v (.bool (bop (Nat.beq (0 + i) 0) (BV.w0f o) (bop (Nat.beq (0 + i) 1) (BV.m0f o) (BV.m1f o))))]) 3) i))],ext:=n0 + shN n + 36 + 18 + 27 + c_4})∧(((n0 + shN n + 36 + 18 + 27) : Nat) ≤ M0))∧(I64 (BV.st o)))∧(∀ c_5 : Nat,(sel (BV.asl o) (sel (BV.flt o) ((((bytesOk (n0 + shN n + 36 + 18 + 27 + 4) (n0 + shN n + 36 + 18 + 27 + 4 + c_5) {elem:=5,size:=1,rw:=true,lock:=false,lit:=false,flat:=true,n:=n0 + shN n + 36 + 18 + 27 + 4,row:=fun i => [SV.v (.int .u8 (apG (n0 + shN n + 36 + 18 + 27) (fun i => SE.byteOf [SV.v (.int .u8 (apG (n0 + shN n + 36 + 18) (fun i => SE.byteOf [SV.v (.int .u8 (apG (n0 + shN n + 36) (fun i => SE.byteOf [SV.v (.int .u8 (apG (n0 + shN n) (fun i => SE.byteOf [SV.v (.int .u8 (apG n0 (fun i => SE.byteOf [SV.v (.int .u8 (g i))]) (shL (BV.sk o) (BV.sr o) (BV.sw o) (BV.sh o) n (fun i => pX [SV.v (.int .i64 (x (0 + i))),SV.v (.int .i64 (y (0 + i)))]) fun i => pY [SV.v (.int .i64 (x (0 + i))),SV.v (.int .i64 (y (0 + i)))]) i))]) (vecL (BV.p0v o) (BV.p0f o) (BV.p1v o) (BV.p1f o)++(numL (BV.p2v o) (BV.p2f o)++numL (BV.p3v o) (BV.p3f o))) i))]) (vecL (BV.v0v o) (BV.v0f o) (BV.v1v o) (BV.v1f o)) i))]) (numsL (fun i => nV [SV.v (.int .i64 (bop (Nat.beq (0 + i) 0) (BV.w0v o) (bop (Nat.beq (0 + i) 1) (BV.m0v o) (BV.m1v o)))),SV.v (.bool (bop (Nat.beq (0 + i) 0) (BV.w0f o) (bop (Nat.beq (0 + i) 1) (BV.m0f o) (BV.m1f o))))]) (fun i => nF [SV.v (.int .i64 (bop (Nat.beq (0 + i) 0) (BV.w0v o) (bop (Nat.beq (0 + i) 1) (BV.m0v o) (BV.m1v o)))),SV.v (.bool (bop (Nat.beq (0 + i) 0) (BV.w0f o) (bop (Nat.beq (0 + i) 1) (BV.m0f o) (BV.m1f o))))]) 3) i))]) (be (BV.st o % 4294967296) 4) i))],ext:=n0 + shN n + 36 + 18 + 27 + 4 + c_5})∧(((n0 + shN n + 36 + 18 + 27 + 4) : Nat) ≤ M0))∧(I64 3))∧(∀ c_6 : Nat,((((bytesOk (n0 + shN n + 36 + 18 + 27 + 4 + 1) (n0 + shN n + 36 + 18 + 27 + 4 + 1 + c_6) {elem:=5,size:=1,rw:=true,lock:=false,lit:=false,flat:=true,n:=n0 + shN n + 36 + 18 + 27 + 4 + 1,row:=fun i => [SV.v (.int .u8 (apG (n0 + shN n + 36 + 18 + 27 + 4) (fun i => SE.byteOf [SV.v (.int .u8 (apG (n0 + shN n + 36 + 18 + 27) (fun i => SE.byteOf [SV.v (.int .u8 (apG (n0 + shN n + 36 + 18) (fun i => SE.byteOf [SV.v (.int .u8 (apG (n0 + shN n + 36) (fun i => SE.byteOf [SV.v (.int .u8 (apG (n0 + shN n) (fun i => SE.byteOf [SV.v (.int .u8 (apG n0 (fun i => SE.byteOf [SV.v (.int .u8 (g i))]) (shL (BV.sk o) (BV.sr o) (BV.sw o) (BV.sh o) n (fun i => pX [SV.v (.int .i64 (x (0 + i))),SV.v (.int .i64 (y (0 + i)))]) fun i => pY [SV.v (.int .i64 (x (0 + i))),SV.v (.int .i64 (y (0 + i)))]) i))]) (vecL (BV.p0v o) (BV.p0f o) (BV.p1v o) (BV.p1f o)++(numL (BV.p2v o) (BV.p2f o)++numL (BV.p3v o) (BV.p3f o))) i))]) (vecL (BV.v0v o) (BV.v0f o) (BV.v1v o) (BV.v1f o)) i))]) (numsL (fun i => nV [SV.v (.int .i64 (bop (Nat.beq (0 + i) 0) (BV.w0v o) (bop (Nat.beq (0 + i) 1) (BV.m0v o) (BV.m1v o)))),SV.v (.bool (bop (Nat.beq (0 + i) 0) (BV.w0f o) (bop (Nat.beq (0 + i) 1) (BV.m0f o) (BV.m1f o))))]) (fun i => nF [SV.v (.int .i64 (bop (Nat.beq (0 + i) 0) (BV.w0v o) (bop (Nat.beq (0 + i) 1) (BV.m0v o) (BV.m1v o)))),SV.v (.bool (bop (Nat.beq (0 + i) 0) (BV.w0f o) (bop (Nat.beq (0 + i) 1) (BV.m0f o) (BV.m1f o))))]) 3) i))]) (be (BV.st o % 4294967296) 4) i))]) [3] i))],ext:=n0 + shN n + 36 + 18 + 27 + 4 + 1 + c_6})∧(((n0 + shN n + 36 + 18 + 27 + 4 + 1) : Nat) ≤ M0))∧(I64 (BV.bv o)))∧(∀ c_7 : Nat,(∃ c_8 : Nat,(True∧((((1 : Nat) = 1)∧(((1 : Nat) ≤ 1)∧(((SV.sl 440 1 0 (n0 + shN n + 36 + 18 + 27 + 4 + 1 + 8) (n0 + shN n + 36 + 18 + 27 + 4 + 1 + 8 + c_7)) = (SV.sl 440 1 0 (n0 + boN n) (n0 + boN n + c_8)))∧((SV.v (.bool (b||shBad (BV.sk o) n||(isMin (BV.p0v o)||isMin (BV.p1v o)||(isMin (BV.p2v o)||isMin (BV.p3v o)))||(isMin (BV.v0v o)||isMin (BV.v1v o))||anyMin (fun i => nV [SV.v (.int .i64 (bop (Nat.beq (0 + i) 0) (BV.w0v o) (bop (Nat.beq (0 + i) 1) (BV.m0v o) (BV.m1v o)))),SV.v (.bool (bop (Nat.beq (0 + i) 0) (BV.w0f o) (bop (Nat.beq (0 + i) 1) (BV.m0f o) (BV.m1f o))))]) 3||notIn (BV.st o) 2147483647||false||notIn (BV.bv o) 1099511627776))) = (SV.v (.bool (b||boBad o n)))))))∧((((n0 + shN n + 36 + 18 + 27 + 4 + 1 + 8) : Nat) = (n0 + boN n))∧((((n0 + boN n + c_8) : Nat) ≤ (n0 + shN n + 36 + 18 + 27 + 4 + 1 + 8 + c_7))∧(∀ i : Nat,(((i : Nat) < (n0 + boN n))→([(SV.v (.int .u8 (apG (n0 + shN n + 36 + 18 + 27 + 4 + 1) (fun i => SE.byteOf [SV.v (.int .u8 (apG (n0 + shN n + 36 + 18 + 27 + 4) (fun i => SE.byteOf [SV.v (.int .u8 (apG (n0 + shN n + 36 + 18 + 27) (fun i => SE.byteOf [SV.v (.int .u8 (apG (n0 + shN n + 36 + 18) (fun i => SE.byteOf [SV.v (.int .u8 (apG (n0 + shN n + 36) (fun i => SE.byteOf [SV.v (.int .u8 (apG (n0 + shN n) (fun i => SE.byteOf [SV.v (.int .u8 (apG n0 (fun i => SE.byteOf [SV.v (.int .u8 (g i))]) (shL (BV.sk o) (BV.sr o) (BV.sw o) (BV.sh o) n (fun i => pX [SV.v (.int .i64 (x (0 + i))),SV.v (.int .i64 (y (0 + i)))]) fun i => pY [SV.v (.int .i64 (x (0 + i))),SV.v (.int .i64 (y (0 + i)))]) i))]) (vecL (BV.p0v o) (BV.p0f o) (BV.p1v o) (BV.p1f o)++(numL (BV.p2v o) (BV.p2f o)++numL (BV.p3v o) (BV.p3f o))) i))]) (vecL (BV.v0v o) (BV.v0f o) (BV.v1v o) (BV.v1f o)) i))]) (numsL (fun i => nV [SV.v (.int .i64 (bop (Nat.beq (0 + i) 0) (BV.w0v o) (bop (Nat.beq (0 + i) 1) (BV.m0v o) (BV.m1v o)))),SV.v (.bool (bop (Nat.beq (0 + i) 0) (BV.w0f o) (bop (Nat.beq (0 + i) 1) (BV.m0f o) (BV.m1f o))))]) (fun i => nF [SV.v (.int .i64 (bop (Nat.beq (0 + i) 0) (BV.w0v o) (bop (Nat.beq (0 + i) 1) (BV.m0v o) (BV.m1v o)))),SV.v (.bool (bop (Nat.beq (0 + i) 0) (BV.w0f o) (bop (Nat.beq (0 + i) 1) (BV.m0f o) (BV.m1f o))))]) 3) i))]) (be (BV.st o % 4294967296) 4) i))]) [3] i))]) (be (BV.bv o % 18446744073709551616) 8) i)))] = [(SV.v (.int .u8 (apG n0 g (boL o n x y) i)))])))))))))))) ((((bytesOk (n0 + shN n + 36 + 18 + 27 + 4) (n0 + shN n + 36 + 18 + 27 + 4 + c_5) {elem:=5,size:=1,rw:=true,lock:=false,lit:=false,flat:=true,n:=n0 + shN n + 36 + 18 + 27 + 4,row:=fun i => [SV.v (.int .u8 (apG (n0 + shN n + 36 + 18 + 27) (fun i => SE.byteOf [SV.v (.int .u8 (apG (n0 + shN n + 36 + 18) (fun i => SE.byteOf [SV.v (.int .u8 (apG (n0 + shN n + 36) (fun i => SE.byteOf [SV.v (.int .u8 (apG (n0 + shN n) (fun i => SE.byteOf [SV.v (.int .u8 (apG n0 (fun i => SE.byteOf [SV.v (.int .u8 (g i))]) (shL (BV.sk o) (BV.sr o) (BV.sw o) (BV.sh o) n (fun i => pX [SV.v (.int .i64 (x (0 + i))),SV.v (.int .i64 (y (0 + i)))]) fun i => pY [SV.v (.int .i64 (x (0 + i))),SV.v (.int .i64 (y (0 + i)))]) i))]) (vecL (BV.p0v o) (BV.p0f o) (BV.p1v o) (BV.p1f o)++(numL (BV.p2v o) (BV.p2f o)++numL (BV.p3v o) (BV.p3f o))) i))]) (vecL (BV.v0v o) (BV.v0f o) (BV.v1v o) (BV.v1f o)) i))]) (numsL (fun i => nV [SV.v (.int .i64 (bop (Nat.beq (0 + i) 0) (BV.w0v o) (bop (Nat.beq (0 + i) 1) (BV.m0v o) (BV.m1v o)))),SV.v (.bool (bop (Nat.beq (0 + i) 0) (BV.w0f o) (bop (Nat.beq (0 + i) 1) (BV.m0f o) (BV.m1f o))))]) (fun i => nF [SV.v (.int .i64 (bop (Nat.beq (0 + i) 0) (BV.w0v o) (bop (Nat.beq (0 + i) 1) (BV.m0v o) (BV.m1v o)))),SV.v (.bool (bop (Nat.beq (0 + i) 0) (BV.w0f o) (bop (Nat.beq (0 + i) 1) (BV.m0f o) (BV.m1f o))))]) 3) i))]) (be (BV.st o % 4294967296) 4) i))],ext:=n0 + shN n + 36 + 18 + 27 + 4 + c_5})∧(((n0 + shN n + 36 + 18 + 27 + 4) : Nat) ≤ M0))∧(I64 1))∧(∀ c_6 : Nat,((((bytesOk (n0 + shN n + 36 + 18 + 27 + 4 + 1) (n0 + shN n + 36 + 18 + 27 + 4 + 1 + c_6) {elem:=5,size:=1,rw:=true,lock:=false,lit:=false,flat:=true,n:=n0 + shN n + 36 + 18 + 27 + 4 + 1,row:=fun i => [SV.v (.int .u8 (apG (n0 + shN n + 36 + 18 + 27 + 4) (fun i => SE.byteOf [SV.v (.int .u8 (apG (n0 + shN n + 36 + 18 + 27) (fun i => SE.byteOf [SV.v (.int .u8 (apG (n0 + shN n + 36 + 18) (fun i => SE.byteOf [SV.v (.int .u8 (apG (n0 + shN n + 36) (fun i => SE.byteOf [SV.v (.int .u8 (apG (n0 + shN n) (fun i => SE.byteOf [SV.v (.int .u8 (apG n0 (fun i => SE.byteOf [SV.v (.int .u8 (g i))]) (shL (BV.sk o) (BV.sr o) (BV.sw o) (BV.sh o) n (fun i => pX [SV.v (.int .i64 (x (0 + i))),SV.v (.int .i64 (y (0 + i)))]) fun i => pY [SV.v (.int .i64 (x (0 + i))),SV.v (.int .i64 (y (0 + i)))]) i))]) (vecL (BV.p0v o) (BV.p0f o) (BV.p1v o) (BV.p1f o)++(numL (BV.p2v o) (BV.p2f o)++numL (BV.p3v o) (BV.p3f o))) i))]) (vecL (BV.v0v o) (BV.v0f o) (BV.v1v o) (BV.v1f o)) i))]) (numsL (fun i => nV [SV.v (.int .i64 (bop (Nat.beq (0 + i) 0) (BV.w0v o) (bop (Nat.beq (0 + i) 1) (BV.m0v o) (BV.m1v o)))),SV.v (.bool (bop (Nat.beq (0 + i) 0) (BV.w0f o) (bop (Nat.beq (0 + i) 1) (BV.m0f o) (BV.m1f o))))]) (fun i => nF [SV.v (.int .i64 (bop (Nat.beq (0 + i) 0) (BV.w0v o) (bop (Nat.beq (0 + i) 1) (BV.m0v o) (BV.m1v o)))),SV.v (.bool (bop (Nat.beq (0 + i) 0) (BV.w0f o) (bop (Nat.beq (0 + i) 1) (BV.m0f o) (BV.m1f o))))]) 3) i))]) (be (BV.st o % 4294967296) 4) i))]) [1] i))],ext:=n0 + shN n + 36 + 18 + 27 + 4 + 1 + c_6})∧(((n0 + shN n + 36 + 18 + 27 + 4 + 1) : Nat) ≤ M0))∧(I64 (BV.bv o)))∧(∀ c_7 : Nat,(∃ c_8 : Nat,(True∧((((1 : Nat) = 1)∧(((1 : Nat) ≤ 1)∧(((SV.sl 440 1 0 (n0 + shN n + 36 + 18 + 27 + 4 + 1 + 8) (n0 + shN n + 36 + 18 + 27 + 4 + 1 + 8 + c_7)) = (SV.sl 440 1 0 (n0 + boN n) (n0 + boN n + c_8)))∧((SV.v (.bool (b||shBad (BV.sk o) n||(isMin (BV.p0v o)||isMin (BV.p1v o)||(isMin (BV.p2v o)||isMin (BV.p3v o)))||(isMin (BV.v0v o)||isMin (BV.v1v o))||anyMin (fun i => nV [SV.v (.int .i64 (bop (Nat.beq (0 + i) 0) (BV.w0v o) (bop (Nat.beq (0 + i) 1) (BV.m0v o) (BV.m1v o)))),SV.v (.bool (bop (Nat.beq (0 + i) 0) (BV.w0f o) (bop (Nat.beq (0 + i) 1) (BV.m0f o) (BV.m1f o))))]) 3||notIn (BV.st o) 2147483647||false||notIn (BV.bv o) 1099511627776))) = (SV.v (.bool (b||boBad o n)))))))∧((((n0 + shN n + 36 + 18 + 27 + 4 + 1 + 8) : Nat) = (n0 + boN n))∧((((n0 + boN n + c_8) : Nat) ≤ (n0 + shN n + 36 + 18 + 27 + 4 + 1 + 8 + c_7))∧(∀ i : Nat,(((i : Nat) < (n0 + boN n))→([(SV.v (.int .u8 (apG (n0 + shN n + 36 + 18 + 27 + 4 + 1) (fun i => SE.byteOf [SV.v (.int .u8 (apG (n0 + shN n + 36 + 18 + 27 + 4) (fun i => SE.byteOf [SV.v (.int .u8 (apG (n0 + shN n + 36 + 18 + 27) (fun i => SE.byteOf [SV.v (.int .u8 (apG (n0 + shN n + 36 + 18) (fun i => SE.byteOf [SV.v (.int .u8 (apG (n0 + shN n + 36) (fun i => SE.byteOf [SV.v (.int .u8 (apG (n0 + shN n) (fun i => SE.byteOf [SV.v (.int .u8 (apG n0 (fun i => SE.byteOf [SV.v (.int .u8 (g i))]) (shL (BV.sk o) (BV.sr o) (BV.sw o) (BV.sh o) n (fun i => pX [SV.v (.int .i64 (x (0 + i))),SV.v (.int .i64 (y (0 + i)))]) fun i => pY [SV.v (.int .i64 (x (0 + i))),SV.v (.int .i64 (y (0 + i)))]) i))]) (vecL (BV.p0v o) (BV.p0f o) (BV.p1v o) (BV.p1f o)++(numL (BV.p2v o) (BV.p2f o)++numL (BV.p3v o) (BV.p3f o))) i))]) (vecL (BV.v0v o) (BV.v0f o) (BV.v1v o) (BV.v1f o)) i))]) (numsL (fun i => nV [SV.v (.int .i64 (bop (Nat.beq (0 + i) 0) (BV.w0v o) (bop (Nat.beq (0 + i) 1) (BV.m0v o) (BV.m1v o)))),SV.v (.bool (bop (Nat.beq (0 + i) 0) (BV.w0f o) (bop (Nat.beq (0 + i) 1) (BV.m0f o) (BV.m1f o))))]) (fun i => nF [SV.v (.int .i64 (bop (Nat.beq (0 + i) 0) (BV.w0v o) (bop (Nat.beq (0 + i) 1) (BV.m0v o) (BV.m1v o)))),SV.v (.bool (bop (Nat.beq (0 + i) 0) (BV.w0f o) (bop (Nat.beq (0 + i) 1) (BV.m0f o) (BV.m1f o))))]) 3) i))]) (be (BV.st o % 4294967296) 4) i))]) [1] i))]) (be (BV.bv o % 18446744073709551616) 8) i)))] = [(SV.v (.int .u8 (apG n0 g (boL o n x y) i)))]))))))))))))) (sel (BV.flt o) ((((bytesOk (n0 + shN n + 36 + 18 + 27 + 4) (n0 + shN n + 36 + 18 + 27 + 4 + c_5) {elem:=5,size:=1,rw:=true,lock:=false,lit:=false,flat:=true,n:=n0 + shN n + 36 + 18 + 27 + 4,row:=fun i => [SV.v (.int .u8 (apG (n0 + shN n + 36 + 18 + 27) (fun i => SE.byteOf [SV.v (.int .u8 (apG (n0 + shN n + 36 + 18) (fun i => SE.byteOf [SV.v (.int .u8 (apG (n0 + shN n + 36) (fun i => SE.byteOf [SV.v (.int .u8 (apG (n0 + shN n) (fun i => SE.byteOf [SV.v (.int .u8 (apG n0 (fun i => SE.byteOf [SV.v (.int .u8 (g i))]) (shL (BV.sk o) (BV.sr o) (BV.sw o) (BV.sh o) n (fun i => pX [SV.v (.int .i64 (x (0 + i))),SV.v (.int .i64 (y (0 + i)))]) fun i => pY [SV.v (.int .i64 (x (0 + i))),SV.v (.int .i64 (y (0 + i)))]) i))]) (vecL (BV.p0v o) (BV.p0f o) (BV.p1v o) (BV.p1f o)++(numL (BV.p2v o) (BV.p2f o)++numL (BV.p3v o) (BV.p3f o))) i))]) (vecL (BV.v0v o) (BV.v0f o) (BV.v1v o) (BV.v1f o)) i))]) (numsL (fun i => nV [SV.v (.int .i64 (bop (Nat.beq (0 + i) 0) (BV.w0v o) (bop (Nat.beq (0 + i) 1) (BV.m0v o) (BV.m1v o)))),SV.v (.bool (bop (Nat.beq (0 + i) 0) (BV.w0f o) (bop (Nat.beq (0 + i) 1) (BV.m0f o) (BV.m1f o))))]) (fun i => nF [SV.v (.int .i64 (bop (Nat.beq (0 + i) 0) (BV.w0v o) (bop (Nat.beq (0 + i) 1) (BV.m0v o) (BV.m1v o)))),SV.v (.bool (bop (Nat.beq (0 + i) 0) (BV.w0f o) (bop (Nat.beq (0 + i) 1) (BV.m0f o) (BV.m1f o))))]) 3) i))]) (be (BV.st o % 4294967296) 4) i))],ext:=n0 + shN n + 36 + 18 + 27 + 4 + c_5})∧(((n0 + shN n + 36 + 18 + 27 + 4) : Nat) ≤ M0))∧(I64 2))∧(∀ c_6 : Nat,((((bytesOk (n0 + shN n + 36 + 18 + 27 + 4 + 1) (n0 + shN n + 36 + 18 + 27 + 4 + 1 + c_6) {elem:=5,size:=1,rw:=true,lock:=false,lit:=false,flat:=true,n:=n0 + shN n + 36 + 18 + 27 + 4 + 1,row:=fun i => [SV.v (.int .u8 (apG (n0 + shN n + 36 + 18 + 27 + 4) (fun i => SE.byteOf [SV.v (.int .u8 (apG (n0 + shN n + 36 + 18 + 27) (fun i => SE.byteOf [SV.v (.int .u8 (apG (n0 + shN n + 36 + 18) (fun i => SE.byteOf [SV.v (.int .u8 (apG (n0 + shN n + 36) (fun i => SE.byteOf [SV.v (.int .u8 (apG (n0 + shN n) (fun i => SE.byteOf [SV.v (.int .u8 (apG n0 (fun i => SE.byteOf [SV.v (.int .u8 (g i))]) (shL (BV.sk o) (BV.sr o) (BV.sw o) (BV.sh o) n (fun i => pX [SV.v (.int .i64 (x (0 + i))),SV.v (.int .i64 (y (0 + i)))]) fun i => pY [SV.v (.int .i64 (x (0 + i))),SV.v (.int .i64 (y (0 + i)))]) i))]) (vecL (BV.p0v o) (BV.p0f o) (BV.p1v o) (BV.p1f o)++(numL (BV.p2v o) (BV.p2f o)++numL (BV.p3v o) (BV.p3f o))) i))]) (vecL (BV.v0v o) (BV.v0f o) (BV.v1v o) (BV.v1f o)) i))]) (numsL (fun i => nV [SV.v (.int .i64 (bop (Nat.beq (0 + i) 0) (BV.w0v o) (bop (Nat.beq (0 + i) 1) (BV.m0v o) (BV.m1v o)))),SV.v (.bool (bop (Nat.beq (0 + i) 0) (BV.w0f o) (bop (Nat.beq (0 + i) 1) (BV.m0f o) (BV.m1f o))))]) (fun i => nF [SV.v (.int .i64 (bop (Nat.beq (0 + i) 0) (BV.w0v o) (bop (Nat.beq (0 + i) 1) (BV.m0v o) (BV.m1v o)))),SV.v (.bool (bop (Nat.beq (0 + i) 0) (BV.w0f o) (bop (Nat.beq (0 + i) 1) (BV.m0f o) (BV.m1f o))))]) 3) i))]) (be (BV.st o % 4294967296) 4) i))]) [2] i))],ext:=n0 + shN n + 36 + 18 + 27 + 4 + 1 + c_6})∧(((n0 + shN n + 36 + 18 + 27 + 4 + 1) : Nat) ≤ M0))∧(I64 (BV.bv o)))∧(∀ c_7 : Nat,(∃ c_8 : Nat,(True∧((((1 : Nat) = 1)∧(((1 : Nat) ≤ 1)∧(((SV.sl 440 1 0 (n0 + shN n + 36 + 18 + 27 + 4 + 1 + 8) (n0 + shN n + 36 + 18 + 27 + 4 + 1 + 8 + c_7)) = (SV.sl 440 1 0 (n0 + boN n) (n0 + boN n + c_8)))∧((SV.v (.bool (b||shBad (BV.sk o) n||(isMin (BV.p0v o)||isMin (BV.p1v o)||(isMin (BV.p2v o)||isMin (BV.p3v o)))||(isMin (BV.v0v o)||isMin (BV.v1v o))||anyMin (fun i => nV [SV.v (.int .i64 (bop (Nat.beq (0 + i) 0) (BV.w0v o) (bop (Nat.beq (0 + i) 1) (BV.m0v o) (BV.m1v o)))),SV.v (.bool (bop (Nat.beq (0 + i) 0) (BV.w0f o) (bop (Nat.beq (0 + i) 1) (BV.m0f o) (BV.m1f o))))]) 3||notIn (BV.st o) 2147483647||false||notIn (BV.bv o) 1099511627776))) = (SV.v (.bool (b||boBad o n)))))))∧((((n0 + shN n + 36 + 18 + 27 + 4 + 1 + 8) : Nat) = (n0 + boN n))∧((((n0 + boN n + c_8) : Nat) ≤ (n0 + shN n + 36 + 18 + 27 + 4 + 1 + 8 + c_7))∧(∀ i : Nat,(((i : Nat) < (n0 + boN n))→([(SV.v (.int .u8 (apG (n0 + shN n + 36 + 18 + 27 + 4 + 1) (fun i => SE.byteOf [SV.v (.int .u8 (apG (n0 + shN n + 36 + 18 + 27 + 4) (fun i => SE.byteOf [SV.v (.int .u8 (apG (n0 + shN n + 36 + 18 + 27) (fun i => SE.byteOf [SV.v (.int .u8 (apG (n0 + shN n + 36 + 18) (fun i => SE.byteOf [SV.v (.int .u8 (apG (n0 + shN n + 36) (fun i => SE.byteOf [SV.v (.int .u8 (apG (n0 + shN n) (fun i => SE.byteOf [SV.v (.int .u8 (apG n0 (fun i => SE.byteOf [SV.v (.int .u8 (g i))]) (shL (BV.sk o) (BV.sr o) (BV.sw o) (BV.sh o) n (fun i => pX [SV.v (.int .i64 (x (0 + i))),SV.v (.int .i64 (y (0 + i)))]) fun i => pY [SV.v (.int .i64 (x (0 + i))),SV.v (.int .i64 (y (0 + i)))]) i))]) (vecL (BV.p0v o) (BV.p0f o) (BV.p1v o) (BV.p1f o)++(numL (BV.p2v o) (BV.p2f o)++numL (BV.p3v o) (BV.p3f o))) i))]) (vecL (BV.v0v o) (BV.v0f o) (BV.v1v o) (BV.v1f o)) i))]) (numsL (fun i => nV [SV.v (.int .i64 (bop (Nat.beq (0 + i) 0) (BV.w0v o) (bop (Nat.beq (0 + i) 1) (BV.m0v o) (BV.m1v o)))),SV.v (.bool (bop (Nat.beq (0 + i) 0) (BV.w0f o) (bop (Nat.beq (0 + i) 1) (BV.m0f o) (BV.m1f o))))]) (fun i => nF [SV.v (.int .i64 (bop (Nat.beq (0 + i) 0) (BV.w0v o) (bop (Nat.beq (0 + i) 1) (BV.m0v o) (BV.m1v o)))),SV.v (.bool (bop (Nat.beq (0 + i) 0) (BV.w0f o) (bop (Nat.beq (0 + i) 1) (BV.m0f o) (BV.m1f o))))]) 3) i))]) (be (BV.st o % 4294967296) 4) i))]) [2] i))]) (be (BV.bv o % 18446744073709551616) 8) i)))] = [(SV.v (.int .u8 (apG n0 g (boL o n x y) i)))])))))))))))) ((((bytesOk (n0 + shN n + 36 + 18 + 27 + 4) (n0 + shN n + 36 + 18 + 27 + 4 + c_5) {elem:=5,size:=1,rw:=true,lock:=false,lit:=false,flat:=true,n:=n0 + shN n + 36 + 18 + 27 + 4,row:=fun i => [SV.v (.int .u8 (apG (n0 + shN n + 36 + 18 + 27) (fun i => SE.byteOf [SV.v (.int .u8 (apG (n0 + shN n + 36 + 18) (fun i => SE.byteOf [SV.v (.int .u8 (apG (n0 + shN n + 36) (fun i => SE.byteOf [SV.v (.int .u8 (apG (n0 + shN n) (fun i => SE.byteOf [SV.v (.int .u8 (apG n0 (fun i => SE.byteOf [SV.v (.int .u8 (g i))]) (shL (BV.sk o) (BV.sr o) (BV.sw o) (BV.sh o) n (fun i => pX [SV.v (.int .i64 (x (0 + i))),SV.v (.int .i64 (y (0 + i)))]) fun i => pY [SV.v (.int .i64 (x (0 + i))),SV.v (.int .i64 (y (0 + i)))]) i))]) (vecL (BV.p0v o) (BV.p0f o) (BV.p1v o) (BV.p1f o)++(numL (BV.p2v o) (BV.p2f o)++numL (BV.p3v o) (BV.p3f o))) i))]) (vecL (BV.v0v o) (BV.v0f o) (BV.v1v o) (BV.v1f o)) i))]) (numsL (fun i => nV [SV.v (.int .i64 (bop (Nat.beq (0 + i) 0) (BV.w0v o) (bop (Nat.beq (0 + i) 1) (BV.m0v o) (BV.m1v o)))),SV.v (.bool (bop (Nat.beq (0 + i) 0) (BV.w0f o) (bop (Nat.beq (0 + i) 1) (BV.m0f o) (BV.m1f o))))]) (fun i => nF [SV.v (.int .i64 (bop (Nat.beq (0 + i) 0) (BV.w0v o) (bop (Nat.beq (0 + i) 1) (BV.m0v o) (BV.m1v o)))),SV.v (.bool (bop (Nat.beq (0 + i) 0) (BV.w0f o) (bop (Nat.beq (0 + i) 1) (BV.m0f o) (BV.m1f o))))]) 3) i))]) (be (BV.st o % 4294967296) 4) i))],ext:=n0 + shN n + 36 + 18 + 27 + 4 + c_5})∧(((n0 + shN n + 36 + 18 + 27 + 4) : Nat) ≤ M0))∧(I64 0))∧(∀ c_6 : Nat,((((bytesOk (n0 + shN n + 36 + 18 + 27 + 4 + 1) (n0 + shN n + 36 + 18 + 27 + 4 + 1 + c_6) {elem:=5,size:=1,rw:=true,lock:=false,lit:=false,flat:=true,n:=n0 + shN n + 36 + 18 + 27 + 4 + 1,row:=fun i => [SV.v (.int .u8 (apG (n0 + shN n + 36 + 18 + 27 + 4) (fun i => SE.byteOf [SV.v (.int .u8 (apG (n0 + shN n + 36 + 18 + 27) (fun i => SE.byteOf [SV.v (.int .u8 (apG (n0 + shN n + 36 + 18) (fun i => SE.byteOf [SV.v (.int .u8 (apG (n0 + shN n + 36) (fun i => SE.byteOf [SV.v (.int .u8 (apG (n0 + shN n) (fun i => SE.byteOf [SV.v (.int .u8 (apG n0 (fun i => SE.byteOf [SV.v (.int .u8 (g i))]) (shL (BV.sk o) (BV.sr o) (BV.sw o) (BV.sh o) n (fun i => pX [SV.v (.int .i64 (x (0 + i))),SV.v (.int .i64 (y (0 + i)))]) fun i => pY [SV.v (.int .i64 (x (0 + i))),SV.v (.int .i64 (y (0 + i)))]) i))]) (vecL (BV.p0v o) (BV.p0f o) (BV.p1v o) (BV.p1f o)++(numL (BV.p2v o) (BV.p2f o)++numL (BV.p3v o) (BV.p3f o))) i))]) (vecL (BV.v0v o) (BV.v0f o) (BV.v1v o) (BV.v1f o)) i))]) (numsL (fun i => nV [SV.v (.int .i64 (bop (Nat.beq (0 + i) 0) (BV.w0v o) (bop (Nat.beq (0 + i) 1) (BV.m0v o) (BV.m1v o)))),SV.v (.bool (bop (Nat.beq (0 + i) 0) (BV.w0f o) (bop (Nat.beq (0 + i) 1) (BV.m0f o) (BV.m1f o))))]) (fun i => nF [SV.v (.int .i64 (bop (Nat.beq (0 + i) 0) (BV.w0v o) (bop (Nat.beq (0 + i) 1) (BV.m0v o) (BV.m1v o)))),SV.v (.bool (bop (Nat.beq (0 + i) 0) (BV.w0f o) (bop (Nat.beq (0 + i) 1) (BV.m0f o) (BV.m1f o))))]) 3) i))]) (be (BV.st o % 4294967296) 4) i))]) [0] i))],ext:=n0 + shN n + 36 + 18 + 27 + 4 + 1 + c_6})∧(((n0 + shN n + 36 + 18 + 27 + 4 + 1) : Nat) ≤ M0))∧(I64 (BV.bv o)))∧(∀ c_7 : Nat,(∃ c_8 : Nat,(True∧((((1 : Nat) = 1)∧(((1 : Nat) ≤ 1)∧(((SV.sl 440 1 0 (n0 + shN n + 36 + 18 + 27 + 4 + 1 + 8) (n0 + shN n + 36 + 18 + 27 + 4 + 1 + 8 + c_7)) = (SV.sl 440 1 0 (n0 + boN n) (n0 + boN n + c_8)))∧((SV.v (.bool (b||shBad (BV.sk o) n||(isMin (BV.p0v o)||isMin (BV.p1v o)||(isMin (BV.p2v o)||isMin (BV.p3v o)))||(isMin (BV.v0v o)||isMin (BV.v1v o))||anyMin (fun i => nV [SV.v (.int .i64 (bop (Nat.beq (0 + i) 0) (BV.w0v o) (bop (Nat.beq (0 + i) 1) (BV.m0v o) (BV.m1v o)))),SV.v (.bool (bop (Nat.beq (0 + i) 0) (BV.w0f o) (bop (Nat.beq (0 + i) 1) (BV.m0f o) (BV.m1f o))))]) 3||notIn (BV.st o) 2147483647||false||notIn (BV.bv o) 1099511627776))) = (SV.v (.bool (b||boBad o n)))))))∧((((n0 + shN n + 36 + 18 + 27 + 4 + 1 + 8) : Nat) = (n0 + boN n))∧((((n0 + boN n + c_8) : Nat) ≤ (n0 + shN n + 36 + 18 + 27 + 4 + 1 + 8 + c_7))∧(∀ i : Nat,(((i : Nat) < (n0 + boN n))→([(SV.v (.int .u8 (apG (n0 + shN n + 36 + 18 + 27 + 4 + 1) (fun i => SE.byteOf [SV.v (.int .u8 (apG (n0 + shN n + 36 + 18 + 27 + 4) (fun i => SE.byteOf [SV.v (.int .u8 (apG (n0 + shN n + 36 + 18 + 27) (fun i => SE.byteOf [SV.v (.int .u8 (apG (n0 + shN n + 36 + 18) (fun i => SE.byteOf [SV.v (.int .u8 (apG (n0 + shN n + 36) (fun i => SE.byteOf [SV.v (.int .u8 (apG (n0 + shN n) (fun i => SE.byteOf [SV.v (.int .u8 (apG n0 (fun i => SE.byteOf [SV.v (.int .u8 (g i))]) (shL (BV.sk o) (BV.sr o) (BV.sw o) (BV.sh o) n (fun i => pX [SV.v (.int .i64 (x (0 + i))),SV.v (.int .i64 (y (0 + i)))]) fun i => pY [SV.v (.int .i64 (x (0 + i))),SV.v (.int .i64 (y (0 + i)))]) i))]) (vecL (BV.p0v o) (BV.p0f o) (BV.p1v o) (BV.p1f o)++(numL (BV.p2v o) (BV.p2f o)++numL (BV.p3v o) (BV.p3f o))) i))]) (vecL (BV.v0v o) (BV.v0f o) (BV.v1v o) (BV.v1f o)) i))]) (numsL (fun i => nV [SV.v (.int .i64 (bop (Nat.beq (0 + i) 0) (BV.w0v o) (bop (Nat.beq (0 + i) 1) (BV.m0v o) (BV.m1v o)))),SV.v (.bool (bop (Nat.beq (0 + i) 0) (BV.w0f o) (bop (Nat.beq (0 + i) 1) (BV.m0f o) (BV.m1f o))))]) (fun i => nF [SV.v (.int .i64 (bop (Nat.beq (0 + i) 0) (BV.w0v o) (bop (Nat.beq (0 + i) 1) (BV.m0v o) (BV.m1v o)))),SV.v (.bool (bop (Nat.beq (0 + i) 0) (BV.w0f o) (bop (Nat.beq (0 + i) 1) (BV.m0f o) (BV.m1f o))))]) 3) i))]) (be (BV.st o % 4294967296) 4) i))]) [0] i))]) (be (BV.bv o % 18446744073709551616) 8) i)))] = [(SV.v (.int .u8 (apG n0 g (boL o n x y) i)))])))))))))))))))))))))))):=by kernel_rfl
def sBody (args : List SV) (bs : List Blk) : Option Eff := match args with
  | [.vp 0 0, .agg l] => match cellsOfB l, bs with
    | some (o, .sl 2 2 0 n _), [B, D, S] => match wrOf [B, D] with
      | some (.used (some b) n0 g c p) => bif okB S then some (apE (.used (some b) n0 g c p) NB2 (bvOk o ∧ spPre n S ∧ n < 100) (boN n) (boL o n (gX S) (gY S)) (boBad o n)) else none
      | _ => none
    | _, _ => none
  | _ => none
def hsL (u v : Nat → Int) : Nat → List Int
  | 0 => []
  | n + 1 => hsL u v n ++ hL (u n) (v n)
def anyH (u v : Nat → Int) : Nat → Bool
  | 0 => false
  | n + 1 => anyH u v n || hBad (u n) (v n)
def rT1 (c : RV) (n : Nat) (x y : Nat → Int) (m : Nat) (u v : Nat → Int) : List Int := hL c.bs c.bg ++ i8 c.ver
def rN1 (n m : Nat) : Nat := 16
def rB1 (c : RV) (n : Nat) (m : Nat) (u v : Nat → Int) : Bool := hBad c.bs c.bg || notIn c.ver 1099511627776
def rT2 (c : RV) (n : Nat) (x y : Nat → Int) (m : Nat) (u v : Nat → Int) : List Int := hL c.bs c.bg
def rN2 (n m : Nat) : Nat := 8
def rB2 (c : RV) (n : Nat) (m : Nat) (u v : Nat → Int) : Bool := hBad c.bs c.bg
def rT3 (c : RV) (n : Nat) (x y : Nat → Int) (m : Nat) (u v : Nat → Int) : List Int := hL c.bs c.bg ++ i8 c.ver
def rN3 (n m : Nat) : Nat := 16
def rB3 (c : RV) (n : Nat) (m : Nat) (u v : Nat → Int) : Bool := hBad c.bs c.bg || notIn c.ver 1099511627776
def rT4 (c : RV) (n : Nat) (x y : Nat → Int) (m : Nat) (u v : Nat → Int) : List Int := hL c.bs c.bg ++ (i8 c.ver ++ c4 c.gr)
def rN4 (n m : Nat) : Nat := 20
def rB4 (c : RV) (n : Nat) (m : Nat) (u v : Nat → Int) : Bool := hBad c.bs c.bg || (notIn c.ver 1099511627776 || notIn c.gr 2147483647)
def rT5 (c : RV) (n : Nat) (x y : Nat → Int) (m : Nat) (u v : Nat → Int) : List Int := c4 c.gr
def rN5 (n m : Nat) : Nat := 4
def rB5 (c : RV) (n : Nat) (m : Nat) (u v : Nat → Int) : Bool := notIn c.gr 2147483647
def rT6 (c : RV) (n : Nat) (x y : Nat → Int) (m : Nat) (u v : Nat → Int) : List Int := c4 c.gr
def rN6 (n m : Nat) : Nat := 4
def rB6 (c : RV) (n : Nat) (m : Nat) (u v : Nat → Int) : Bool := notIn c.gr 2147483647
def rT7 (c : RV) (n : Nat) (x y : Nat → Int) (m : Nat) (u v : Nat → Int) : List Int := hL c.bs c.bg ++ boL c.o n x y
def rN7 (n m : Nat) : Nat := 8 + boN n
def rB7 (c : RV) (n : Nat) (m : Nat) (u v : Nat → Int) : Bool := hBad c.bs c.bg || boBad c.o n
def rT8 (c : RV) (n : Nat) (x y : Nat → Int) (m : Nat) (u v : Nat → Int) : List Int := [(m : Int) % 256] ++ hsL u v m
def rN8 (n m : Nat) : Nat := 1 + 8 * m
def rB8 (c : RV) (n : Nat) (m : Nat) (u v : Nat → Int) : Bool := notIn (m : Int) 64 || anyH u v m
def rT9 (c : RV) (n : Nat) (x y : Nat → Int) (m : Nat) (u v : Nat → Int) : List Int := hL c.bs c.bg ++ (flB c.hit ++ (numL c.htv c.htf ++ numL c.x0v c.x0f ++ numL c.x1v c.x1f))
def rN9 (n m : Nat) : Nat := 36
def rB9 (c : RV) (n : Nat) (m : Nat) (u v : Nat → Int) : Bool := hBad c.bs c.bg || (isMin c.htv || isMin c.x0v || isMin c.x1v)
def rT10 (c : RV) (n : Nat) (x y : Nat → Int) (m : Nat) (u v : Nat → Int) : List Int := c4 c.cnt
def rN10 (n m : Nat) : Nat := 4
def rB10 (c : RV) (n : Nat) (m : Nat) (u v : Nat → Int) : Bool := notIn c.cnt 2147483647
def rNK (k e : Int) (n m : Nat) : Nat := bif e == 0 then (bif decide (k = 1) then rN1 n m else (bif decide (k = 2) then rN2 n m else (bif decide (k = 3) then rN3 n m else (bif decide (k = 4) then rN4 n m else (bif decide (k = 5) then rN5 n m else (bif decide (k = 6) then rN6 n m else (bif decide (k = 7) then rN7 n m else (bif decide (k = 8) then rN8 n m else (bif decide (k = 9) then rN9 n m else (bif decide (k = 10) then rN10 n m else (0))))))))))) else (bif e == 14 then 8 else 0)
def rTK (k e : Int) (c : RV) (n : Nat) (x y : Nat → Int) (m : Nat) (u v : Nat → Int) : List Int := bif e == 0 then (bif decide (k = 1) then rT1 c n x y m u v else (bif decide (k = 2) then rT2 c n x y m u v else (bif decide (k = 3) then rT3 c n x y m u v else (bif decide (k = 4) then rT4 c n x y m u v else (bif decide (k = 5) then rT5 c n x y m u v else (bif decide (k = 6) then rT6 c n x y m u v else (bif decide (k = 7) then rT7 c n x y m u v else (bif decide (k = 8) then rT8 c n x y m u v else (bif decide (k = 9) then rT9 c n x y m u v else (bif decide (k = 10) then rT10 c n x y m u v else ([]))))))))))) else (bif e == 14 then i8 c.ver else [])
def rBK (k e : Int) (c : RV) (n m : Nat) (u v : Nat → Int) : Bool := bif e == 0 then (bif decide (k = 1) then rB1 c n m u v else (bif decide (k = 2) then rB2 c n m u v else (bif decide (k = 3) then rB3 c n m u v else (bif decide (k = 4) then rB4 c n m u v else (bif decide (k = 5) then rB5 c n m u v else (bif decide (k = 6) then rB6 c n m u v else (bif decide (k = 7) then rB7 c n m u v else (bif decide (k = 8) then rB8 c n m u v else (bif decide (k = 9) then rB9 c n m u v else (bif decide (k = 10) then rB10 c n m u v else (false))))))))))) else (bif e == 14 then notIn c.ver 1099511627776 else false)
def rpL (k e : Int) (c : RV) (T : List Int) : List Int := [k % 256] ++ (c4 c.id ++ ([e % 256] ++ T))
def rpB (e : Int) (c : RV) (b : Bool) : Bool := notIn c.id 2147483647 || (notIn e 14 || b)
def ΓPr : Ctrs := addCtr (addCtr ΓG0 118 (hpCtr true sSmall)) 93 (hpCtr true sBody)
noncomputable def ΛRw8 (b : Bool) (L : List Int) (m : Nat) (u v : Nat → Int) : Nat → Option LoopSpec := addLoopN noΛ Try.f78 1 NX (fun z => z.i ≤ m ∧ 7 + 8 * z.i ≤ z.c) (fun z => m - z.i) [(90, fun z => .v (.int .i64 z.i))] [(0, fun z => wB (some (b || anyH u v z.i)) false (.sl 40 1 0 (7 + 8 * z.i) z.c))] [(40, fun z => bG (7 + 8 * z.i) (fun i => (L ++ hsL u v z.i).getD i 0) z.c, inVar 0 0)]
theorem vcRw1 (b : Bool) (c : RV) (e1 n cap xt : Nat) (x y : Nat→Int) (wh : Bool) (e2 m cp xt2 : Nat) (u v : Nat→Int) (wh2 : Bool) : (vcFn Try.prog ΓPr noΛ Try.f78 [.vp 0 0,reS 1 0 c (.sl 1 2 0 n cap) (.sl 2 2 0 m cp)] (heapOf [wB (some b) true nilS,ptB e1 n x y xt wh,ptB e2 m u v xt2 wh2]) 64 (fun y' h' => FinE [wB (some b) true nilS,ptB e1 n x y xt wh,ptB e2 m u v xt2 wh2] (apE (.fresh (some b)) 0 True (6 + rN1 n m) (rpL 1 0 c (rT1 c n x y m u v)) (rpB 0 c (rB1 c n m u v))) y' h')) = ((I64 1)∧(∀ c_1 : Nat,((((bytesOk 1 (1 + c_1) {elem:=5,size:=1,rw:=true,lock:=false,lit:=false,flat:=true,n:=1,row:=fun i => [SV.v (.int .u8 ((fun i => List.getD [1] i 0) i))],ext:=1 + c_1})∧((1 : Nat) ≤ M0))∧(I64 (RV.id c)))∧(∀ c_2 : Nat,((((bytesOk 5 (5 + c_2) {elem:=5,size:=1,rw:=true,lock:=false,lit:=false,flat:=true,n:=5,row:=fun i => [SV.v (.int .u8 (apG 1 (fun i => SE.byteOf [SV.v (.int .u8 ((fun i => List.getD [1] i 0) i))]) (be (RV.id c % 4294967296) 4) i))],ext:=5 + c_2})∧((5 : Nat) ≤ M0))∧(I64 0))∧(∀ c_3 : Nat,((((bytesOk 6 (6 + c_3) {elem:=5,size:=1,rw:=true,lock:=false,lit:=false,flat:=true,n:=6,row:=fun i => [SV.v (.int .u8 (apG 5 (fun i => SE.byteOf [SV.v (.int .u8 (apG 1 (fun i => SE.byteOf [SV.v (.int .u8 ((fun i => List.getD [1] i 0) i))]) (be (RV.id c % 4294967296) 4) i))]) [0] i))],ext:=6 + c_3})∧((6 : Nat) ≤ NB0))∧((I64 (RV.bs c))∧(I64 (RV.bg c))))∧(∀ c_4 : Nat,((((bytesOk 14 (14 + c_4) {elem:=5,size:=1,rw:=true,lock:=false,lit:=false,flat:=true,n:=14,row:=fun i => [SV.v (.int .u8 (apG 6 (fun i => SE.byteOf [SV.v (.int .u8 (apG 5 (fun i => SE.byteOf [SV.v (.int .u8 (apG 1 (fun i => SE.byteOf [SV.v (.int .u8 ((fun i => List.getD [1] i 0) i))]) (be (RV.id c % 4294967296) 4) i))]) [0] i))]) (c4 (RV.bs c)++c4 (RV.bg c)) i))],ext:=14 + c_4})∧((14 : Nat) ≤ M0))∧(I64 (RV.ver c)))∧(∀ c_5 : Nat,(∃ c_6 : Nat,(True∧((((1 : Nat) = 1)∧(((1 : Nat) ≤ 1)∧(((SV.sl 368 1 0 22 (22 + c_5)) = (SV.sl 368 1 0 22 (6 + rN1 n m + c_6)))∧((SV.v (.bool (b||false||notIn (RV.id c) 2147483647||false||(notIn (RV.bs c) 2147483647||notIn (RV.bg c) 2147483647)||notIn (RV.ver c) 1099511627776))) = (SV.v (.bool (b||rpB 0 c (rB1 c n m u v))))))))∧(((22 : Nat) = (6 + rN1 n m))∧((((6 + rN1 n m + c_6) : Nat) ≤ (22 + c_5))∧(∀ i : Nat,(((i : Nat) < (6 + rN1 n m))→([(SV.v (.int .u8 (apG 14 (fun i => SE.byteOf [SV.v (.int .u8 (apG 6 (fun i => SE.byteOf [SV.v (.int .u8 (apG 5 (fun i => SE.byteOf [SV.v (.int .u8 (apG 1 (fun i => SE.byteOf [SV.v (.int .u8 ((fun i => List.getD [1] i 0) i))]) (be (RV.id c % 4294967296) 4) i))]) [0] i))]) (c4 (RV.bs c)++c4 (RV.bg c)) i))]) (be (RV.ver c % 18446744073709551616) 8) i)))] = [(SV.v (.int .u8 (List.getD (rpL 1 0 c (rT1 c n x y m u v)) i 0)))])))))))))))))))))):=by kernel_rfl
theorem vcRw2 (b : Bool) (c : RV) (e1 n cap xt : Nat) (x y : Nat→Int) (wh : Bool) (e2 m cp xt2 : Nat) (u v : Nat→Int) (wh2 : Bool) : (vcFn Try.prog ΓPr noΛ Try.f78 [.vp 0 0,reS 2 0 c (.sl 1 2 0 n cap) (.sl 2 2 0 m cp)] (heapOf [wB (some b) true nilS,ptB e1 n x y xt wh,ptB e2 m u v xt2 wh2]) 64 (fun y' h' => FinE [wB (some b) true nilS,ptB e1 n x y xt wh,ptB e2 m u v xt2 wh2] (apE (.fresh (some b)) 0 True (6 + rN2 n m) (rpL 2 0 c (rT2 c n x y m u v)) (rpB 0 c (rB2 c n m u v))) y' h')) = ((I64 2)∧(∀ c_1 : Nat,((((bytesOk 1 (1 + c_1) {elem:=5,size:=1,rw:=true,lock:=false,lit:=false,flat:=true,n:=1,row:=fun i => [SV.v (.int .u8 ((fun i => List.getD [2] i 0) i))],ext:=1 + c_1})∧((1 : Nat) ≤ M0))∧(I64 (RV.id c)))∧(∀ c_2 : Nat,((((bytesOk 5 (5 + c_2) {elem:=5,size:=1,rw:=true,lock:=false,lit:=false,flat:=true,n:=5,row:=fun i => [SV.v (.int .u8 (apG 1 (fun i => SE.byteOf [SV.v (.int .u8 ((fun i => List.getD [2] i 0) i))]) (be (RV.id c % 4294967296) 4) i))],ext:=5 + c_2})∧((5 : Nat) ≤ M0))∧(I64 0))∧(∀ c_3 : Nat,((((bytesOk 6 (6 + c_3) {elem:=5,size:=1,rw:=true,lock:=false,lit:=false,flat:=true,n:=6,row:=fun i => [SV.v (.int .u8 (apG 5 (fun i => SE.byteOf [SV.v (.int .u8 (apG 1 (fun i => SE.byteOf [SV.v (.int .u8 ((fun i => List.getD [2] i 0) i))]) (be (RV.id c % 4294967296) 4) i))]) [0] i))],ext:=6 + c_3})∧((6 : Nat) ≤ NB0))∧((I64 (RV.bs c))∧(I64 (RV.bg c))))∧(∀ c_4 : Nat,(∃ c_5 : Nat,(True∧((((1 : Nat) = 1)∧(((1 : Nat) ≤ 1)∧(((SV.sl 352 1 0 14 (14 + c_4)) = (SV.sl 352 1 0 14 (6 + rN2 n m + c_5)))∧((SV.v (.bool (b||false||notIn (RV.id c) 2147483647||false||(notIn (RV.bs c) 2147483647||notIn (RV.bg c) 2147483647)))) = (SV.v (.bool (b||rpB 0 c (rB2 c n m u v))))))))∧(((14 : Nat) = (6 + rN2 n m))∧((((6 + rN2 n m + c_5) : Nat) ≤ (14 + c_4))∧(∀ i : Nat,(((i : Nat) < (6 + rN2 n m))→([(SV.v (.int .u8 (apG 6 (fun i => SE.byteOf [SV.v (.int .u8 (apG 5 (fun i => SE.byteOf [SV.v (.int .u8 (apG 1 (fun i => SE.byteOf [SV.v (.int .u8 ((fun i => List.getD [2] i 0) i))]) (be (RV.id c % 4294967296) 4) i))]) [0] i))]) (c4 (RV.bs c)++c4 (RV.bg c)) i)))] = [(SV.v (.int .u8 (List.getD (rpL 2 0 c (rT2 c n x y m u v)) i 0)))])))))))))))))))):=by kernel_rfl
theorem vcRw3 (b : Bool) (c : RV) (e1 n cap xt : Nat) (x y : Nat→Int) (wh : Bool) (e2 m cp xt2 : Nat) (u v : Nat→Int) (wh2 : Bool) : (vcFn Try.prog ΓPr noΛ Try.f78 [.vp 0 0,reS 3 0 c (.sl 1 2 0 n cap) (.sl 2 2 0 m cp)] (heapOf [wB (some b) true nilS,ptB e1 n x y xt wh,ptB e2 m u v xt2 wh2]) 64 (fun y' h' => FinE [wB (some b) true nilS,ptB e1 n x y xt wh,ptB e2 m u v xt2 wh2] (apE (.fresh (some b)) 0 True (6 + rN3 n m) (rpL 3 0 c (rT3 c n x y m u v)) (rpB 0 c (rB3 c n m u v))) y' h')) = ((I64 3)∧(∀ c_1 : Nat,((((bytesOk 1 (1 + c_1) {elem:=5,size:=1,rw:=true,lock:=false,lit:=false,flat:=true,n:=1,row:=fun i => [SV.v (.int .u8 ((fun i => List.getD [3] i 0) i))],ext:=1 + c_1})∧((1 : Nat) ≤ M0))∧(I64 (RV.id c)))∧(∀ c_2 : Nat,((((bytesOk 5 (5 + c_2) {elem:=5,size:=1,rw:=true,lock:=false,lit:=false,flat:=true,n:=5,row:=fun i => [SV.v (.int .u8 (apG 1 (fun i => SE.byteOf [SV.v (.int .u8 ((fun i => List.getD [3] i 0) i))]) (be (RV.id c % 4294967296) 4) i))],ext:=5 + c_2})∧((5 : Nat) ≤ M0))∧(I64 0))∧(∀ c_3 : Nat,((((bytesOk 6 (6 + c_3) {elem:=5,size:=1,rw:=true,lock:=false,lit:=false,flat:=true,n:=6,row:=fun i => [SV.v (.int .u8 (apG 5 (fun i => SE.byteOf [SV.v (.int .u8 (apG 1 (fun i => SE.byteOf [SV.v (.int .u8 ((fun i => List.getD [3] i 0) i))]) (be (RV.id c % 4294967296) 4) i))]) [0] i))],ext:=6 + c_3})∧((6 : Nat) ≤ NB0))∧((I64 (RV.bs c))∧(I64 (RV.bg c))))∧(∀ c_4 : Nat,((((bytesOk 14 (14 + c_4) {elem:=5,size:=1,rw:=true,lock:=false,lit:=false,flat:=true,n:=14,row:=fun i => [SV.v (.int .u8 (apG 6 (fun i => SE.byteOf [SV.v (.int .u8 (apG 5 (fun i => SE.byteOf [SV.v (.int .u8 (apG 1 (fun i => SE.byteOf [SV.v (.int .u8 ((fun i => List.getD [3] i 0) i))]) (be (RV.id c % 4294967296) 4) i))]) [0] i))]) (c4 (RV.bs c)++c4 (RV.bg c)) i))],ext:=14 + c_4})∧((14 : Nat) ≤ M0))∧(I64 (RV.ver c)))∧(∀ c_5 : Nat,(∃ c_6 : Nat,(True∧((((1 : Nat) = 1)∧(((1 : Nat) ≤ 1)∧(((SV.sl 368 1 0 22 (22 + c_5)) = (SV.sl 368 1 0 22 (6 + rN3 n m + c_6)))∧((SV.v (.bool (b||false||notIn (RV.id c) 2147483647||false||(notIn (RV.bs c) 2147483647||notIn (RV.bg c) 2147483647)||notIn (RV.ver c) 1099511627776))) = (SV.v (.bool (b||rpB 0 c (rB3 c n m u v))))))))∧(((22 : Nat) = (6 + rN3 n m))∧((((6 + rN3 n m + c_6) : Nat) ≤ (22 + c_5))∧(∀ i : Nat,(((i : Nat) < (6 + rN3 n m))→([(SV.v (.int .u8 (apG 14 (fun i => SE.byteOf [SV.v (.int .u8 (apG 6 (fun i => SE.byteOf [SV.v (.int .u8 (apG 5 (fun i => SE.byteOf [SV.v (.int .u8 (apG 1 (fun i => SE.byteOf [SV.v (.int .u8 ((fun i => List.getD [3] i 0) i))]) (be (RV.id c % 4294967296) 4) i))]) [0] i))]) (c4 (RV.bs c)++c4 (RV.bg c)) i))]) (be (RV.ver c % 18446744073709551616) 8) i)))] = [(SV.v (.int .u8 (List.getD (rpL 3 0 c (rT3 c n x y m u v)) i 0)))])))))))))))))))))):=by kernel_rfl
theorem vcRw4 (b : Bool) (c : RV) (e1 n cap xt : Nat) (x y : Nat→Int) (wh : Bool) (e2 m cp xt2 : Nat) (u v : Nat→Int) (wh2 : Bool) : (vcFn Try.prog ΓPr noΛ Try.f78 [.vp 0 0,reS 4 0 c (.sl 1 2 0 n cap) (.sl 2 2 0 m cp)] (heapOf [wB (some b) true nilS,ptB e1 n x y xt wh,ptB e2 m u v xt2 wh2]) 64 (fun y' h' => FinE [wB (some b) true nilS,ptB e1 n x y xt wh,ptB e2 m u v xt2 wh2] (apE (.fresh (some b)) 0 True (6 + rN4 n m) (rpL 4 0 c (rT4 c n x y m u v)) (rpB 0 c (rB4 c n m u v))) y' h')) = ((I64 4)∧(∀ c_1 : Nat,((((bytesOk 1 (1 + c_1) {elem:=5,size:=1,rw:=true,lock:=false,lit:=false,flat:=true,n:=1,row:=fun i => [SV.v (.int .u8 ((fun i => List.getD [4] i 0) i))],ext:=1 + c_1})∧((1 : Nat) ≤ M0))∧(I64 (RV.id c)))∧(∀ c_2 : Nat,((((bytesOk 5 (5 + c_2) {elem:=5,size:=1,rw:=true,lock:=false,lit:=false,flat:=true,n:=5,row:=fun i => [SV.v (.int .u8 (apG 1 (fun i => SE.byteOf [SV.v (.int .u8 ((fun i => List.getD [4] i 0) i))]) (be (RV.id c % 4294967296) 4) i))],ext:=5 + c_2})∧((5 : Nat) ≤ M0))∧(I64 0))∧(∀ c_3 : Nat,((((bytesOk 6 (6 + c_3) {elem:=5,size:=1,rw:=true,lock:=false,lit:=false,flat:=true,n:=6,row:=fun i => [SV.v (.int .u8 (apG 5 (fun i => SE.byteOf [SV.v (.int .u8 (apG 1 (fun i => SE.byteOf [SV.v (.int .u8 ((fun i => List.getD [4] i 0) i))]) (be (RV.id c % 4294967296) 4) i))]) [0] i))],ext:=6 + c_3})∧((6 : Nat) ≤ NB0))∧((I64 (RV.bs c))∧(I64 (RV.bg c))))∧(∀ c_4 : Nat,((((bytesOk 14 (14 + c_4) {elem:=5,size:=1,rw:=true,lock:=false,lit:=false,flat:=true,n:=14,row:=fun i => [SV.v (.int .u8 (apG 6 (fun i => SE.byteOf [SV.v (.int .u8 (apG 5 (fun i => SE.byteOf [SV.v (.int .u8 (apG 1 (fun i => SE.byteOf [SV.v (.int .u8 ((fun i => List.getD [4] i 0) i))]) (be (RV.id c % 4294967296) 4) i))]) [0] i))]) (c4 (RV.bs c)++c4 (RV.bg c)) i))],ext:=14 + c_4})∧((14 : Nat) ≤ M0))∧(I64 (RV.ver c)))∧(∀ c_5 : Nat,((((bytesOk 22 (22 + c_5) {elem:=5,size:=1,rw:=true,lock:=false,lit:=false,flat:=true,n:=22,row:=fun i => [SV.v (.int .u8 (apG 14 (fun i => SE.byteOf [SV.v (.int .u8 (apG 6 (fun i => SE.byteOf [SV.v (.int .u8 (apG 5 (fun i => SE.byteOf [SV.v (.int .u8 (apG 1 (fun i => SE.byteOf [SV.v (.int .u8 ((fun i => List.getD [4] i 0) i))]) (be (RV.id c % 4294967296) 4) i))]) [0] i))]) (c4 (RV.bs c)++c4 (RV.bg c)) i))]) (be (RV.ver c % 18446744073709551616) 8) i))],ext:=22 + c_5})∧((22 : Nat) ≤ M0))∧(I64 (RV.gr c)))∧(∀ c_6 : Nat,(∃ c_7 : Nat,(True∧((((1 : Nat) = 1)∧(((1 : Nat) ≤ 1)∧(((SV.sl 432 1 0 26 (26 + c_6)) = (SV.sl 432 1 0 26 (6 + rN4 n m + c_7)))∧((SV.v (.bool (b||false||notIn (RV.id c) 2147483647||false||(notIn (RV.bs c) 2147483647||notIn (RV.bg c) 2147483647)||notIn (RV.ver c) 1099511627776||notIn (RV.gr c) 2147483647))) = (SV.v (.bool (b||rpB 0 c (rB4 c n m u v))))))))∧(((26 : Nat) = (6 + rN4 n m))∧((((6 + rN4 n m + c_7) : Nat) ≤ (26 + c_6))∧(∀ i : Nat,(((i : Nat) < (6 + rN4 n m))→([(SV.v (.int .u8 (apG 22 (fun i => SE.byteOf [SV.v (.int .u8 (apG 14 (fun i => SE.byteOf [SV.v (.int .u8 (apG 6 (fun i => SE.byteOf [SV.v (.int .u8 (apG 5 (fun i => SE.byteOf [SV.v (.int .u8 (apG 1 (fun i => SE.byteOf [SV.v (.int .u8 ((fun i => List.getD [4] i 0) i))]) (be (RV.id c % 4294967296) 4) i))]) [0] i))]) (c4 (RV.bs c)++c4 (RV.bg c)) i))]) (be (RV.ver c % 18446744073709551616) 8) i))]) (be (RV.gr c % 4294967296) 4) i)))] = [(SV.v (.int .u8 (List.getD (rpL 4 0 c (rT4 c n x y m u v)) i 0)))])))))))))))))))))))):=by kernel_rfl
theorem vcRw5 (b : Bool) (c : RV) (e1 n cap xt : Nat) (x y : Nat→Int) (wh : Bool) (e2 m cp xt2 : Nat) (u v : Nat→Int) (wh2 : Bool) : (vcFn Try.prog ΓPr noΛ Try.f78 [.vp 0 0,reS 5 0 c (.sl 1 2 0 n cap) (.sl 2 2 0 m cp)] (heapOf [wB (some b) true nilS,ptB e1 n x y xt wh,ptB e2 m u v xt2 wh2]) 64 (fun y' h' => FinE [wB (some b) true nilS,ptB e1 n x y xt wh,ptB e2 m u v xt2 wh2] (apE (.fresh (some b)) 0 True (6 + rN5 n m) (rpL 5 0 c (rT5 c n x y m u v)) (rpB 0 c (rB5 c n m u v))) y' h')) = ((I64 5)∧(∀ c_1 : Nat,((((bytesOk 1 (1 + c_1) {elem:=5,size:=1,rw:=true,lock:=false,lit:=false,flat:=true,n:=1,row:=fun i => [SV.v (.int .u8 ((fun i => List.getD [5] i 0) i))],ext:=1 + c_1})∧((1 : Nat) ≤ M0))∧(I64 (RV.id c)))∧(∀ c_2 : Nat,((((bytesOk 5 (5 + c_2) {elem:=5,size:=1,rw:=true,lock:=false,lit:=false,flat:=true,n:=5,row:=fun i => [SV.v (.int .u8 (apG 1 (fun i => SE.byteOf [SV.v (.int .u8 ((fun i => List.getD [5] i 0) i))]) (be (RV.id c % 4294967296) 4) i))],ext:=5 + c_2})∧((5 : Nat) ≤ M0))∧(I64 0))∧(∀ c_3 : Nat,((((bytesOk 6 (6 + c_3) {elem:=5,size:=1,rw:=true,lock:=false,lit:=false,flat:=true,n:=6,row:=fun i => [SV.v (.int .u8 (apG 5 (fun i => SE.byteOf [SV.v (.int .u8 (apG 1 (fun i => SE.byteOf [SV.v (.int .u8 ((fun i => List.getD [5] i 0) i))]) (be (RV.id c % 4294967296) 4) i))]) [0] i))],ext:=6 + c_3})∧((6 : Nat) ≤ M0))∧(I64 (RV.gr c)))∧(∀ c_4 : Nat,(∃ c_5 : Nat,(True∧((((1 : Nat) = 1)∧(((1 : Nat) ≤ 1)∧(((SV.sl 400 1 0 10 (10 + c_4)) = (SV.sl 400 1 0 10 (6 + rN5 n m + c_5)))∧((SV.v (.bool (b||false||notIn (RV.id c) 2147483647||false||notIn (RV.gr c) 2147483647))) = (SV.v (.bool (b||rpB 0 c (rB5 c n m u v))))))))∧(((10 : Nat) = (6 + rN5 n m))∧((((6 + rN5 n m + c_5) : Nat) ≤ (10 + c_4))∧(∀ i : Nat,(((i : Nat) < (6 + rN5 n m))→([(SV.v (.int .u8 (apG 6 (fun i => SE.byteOf [SV.v (.int .u8 (apG 5 (fun i => SE.byteOf [SV.v (.int .u8 (apG 1 (fun i => SE.byteOf [SV.v (.int .u8 ((fun i => List.getD [5] i 0) i))]) (be (RV.id c % 4294967296) 4) i))]) [0] i))]) (be (RV.gr c % 4294967296) 4) i)))] = [(SV.v (.int .u8 (List.getD (rpL 5 0 c (rT5 c n x y m u v)) i 0)))])))))))))))))))):=by kernel_rfl
theorem vcRw6 (b : Bool) (c : RV) (e1 n cap xt : Nat) (x y : Nat→Int) (wh : Bool) (e2 m cp xt2 : Nat) (u v : Nat→Int) (wh2 : Bool) : (vcFn Try.prog ΓPr noΛ Try.f78 [.vp 0 0,reS 6 0 c (.sl 1 2 0 n cap) (.sl 2 2 0 m cp)] (heapOf [wB (some b) true nilS,ptB e1 n x y xt wh,ptB e2 m u v xt2 wh2]) 64 (fun y' h' => FinE [wB (some b) true nilS,ptB e1 n x y xt wh,ptB e2 m u v xt2 wh2] (apE (.fresh (some b)) 0 True (6 + rN6 n m) (rpL 6 0 c (rT6 c n x y m u v)) (rpB 0 c (rB6 c n m u v))) y' h')) = ((I64 6)∧(∀ c_1 : Nat,((((bytesOk 1 (1 + c_1) {elem:=5,size:=1,rw:=true,lock:=false,lit:=false,flat:=true,n:=1,row:=fun i => [SV.v (.int .u8 ((fun i => List.getD [6] i 0) i))],ext:=1 + c_1})∧((1 : Nat) ≤ M0))∧(I64 (RV.id c)))∧(∀ c_2 : Nat,((((bytesOk 5 (5 + c_2) {elem:=5,size:=1,rw:=true,lock:=false,lit:=false,flat:=true,n:=5,row:=fun i => [SV.v (.int .u8 (apG 1 (fun i => SE.byteOf [SV.v (.int .u8 ((fun i => List.getD [6] i 0) i))]) (be (RV.id c % 4294967296) 4) i))],ext:=5 + c_2})∧((5 : Nat) ≤ M0))∧(I64 0))∧(∀ c_3 : Nat,((((bytesOk 6 (6 + c_3) {elem:=5,size:=1,rw:=true,lock:=false,lit:=false,flat:=true,n:=6,row:=fun i => [SV.v (.int .u8 (apG 5 (fun i => SE.byteOf [SV.v (.int .u8 (apG 1 (fun i => SE.byteOf [SV.v (.int .u8 ((fun i => List.getD [6] i 0) i))]) (be (RV.id c % 4294967296) 4) i))]) [0] i))],ext:=6 + c_3})∧((6 : Nat) ≤ M0))∧(I64 (RV.gr c)))∧(∀ c_4 : Nat,(∃ c_5 : Nat,(True∧((((1 : Nat) = 1)∧(((1 : Nat) ≤ 1)∧(((SV.sl 400 1 0 10 (10 + c_4)) = (SV.sl 400 1 0 10 (6 + rN6 n m + c_5)))∧((SV.v (.bool (b||false||notIn (RV.id c) 2147483647||false||notIn (RV.gr c) 2147483647))) = (SV.v (.bool (b||rpB 0 c (rB6 c n m u v))))))))∧(((10 : Nat) = (6 + rN6 n m))∧((((6 + rN6 n m + c_5) : Nat) ≤ (10 + c_4))∧(∀ i : Nat,(((i : Nat) < (6 + rN6 n m))→([(SV.v (.int .u8 (apG 6 (fun i => SE.byteOf [SV.v (.int .u8 (apG 5 (fun i => SE.byteOf [SV.v (.int .u8 (apG 1 (fun i => SE.byteOf [SV.v (.int .u8 ((fun i => List.getD [6] i 0) i))]) (be (RV.id c % 4294967296) 4) i))]) [0] i))]) (be (RV.gr c % 4294967296) 4) i)))] = [(SV.v (.int .u8 (List.getD (rpL 6 0 c (rT6 c n x y m u v)) i 0)))])))))))))))))))):=by kernel_rfl
theorem vcRw7 (b : Bool) (c : RV) (e1 n cap xt : Nat) (x y : Nat→Int) (wh : Bool) (e2 m cp xt2 : Nat) (u v : Nat→Int) (wh2 : Bool) : (vcFn Try.prog ΓPr noΛ Try.f78 [.vp 0 0,reS 7 0 c (.sl 1 2 0 n cap) (.sl 2 2 0 m cp)] (heapOf [wB (some b) true nilS,ptB e1 n x y xt wh,ptB e2 m u v xt2 wh2]) 64 (fun y' h' => FinE [wB (some b) true nilS,ptB e1 n x y xt wh,ptB e2 m u v xt2 wh2] (apE (.fresh (some b)) 0 True (6 + rN7 n m) (rpL 7 0 c (rT7 c n x y m u v)) (rpB 0 c (rB7 c n m u v))) y' h')) = ((I64 7)∧(∀ c_1 : Nat,((((bytesOk 1 (1 + c_1) {elem:=5,size:=1,rw:=true,lock:=false,lit:=false,flat:=true,n:=1,row:=fun i => [SV.v (.int .u8 ((fun i => List.getD [7] i 0) i))],ext:=1 + c_1})∧((1 : Nat) ≤ M0))∧(I64 (RV.id c)))∧(∀ c_2 : Nat,((((bytesOk 5 (5 + c_2) {elem:=5,size:=1,rw:=true,lock:=false,lit:=false,flat:=true,n:=5,row:=fun i => [SV.v (.int .u8 (apG 1 (fun i => SE.byteOf [SV.v (.int .u8 ((fun i => List.getD [7] i 0) i))]) (be (RV.id c % 4294967296) 4) i))],ext:=5 + c_2})∧((5 : Nat) ≤ M0))∧(I64 0))∧(∀ c_3 : Nat,((((bytesOk 6 (6 + c_3) {elem:=5,size:=1,rw:=true,lock:=false,lit:=false,flat:=true,n:=6,row:=fun i => [SV.v (.int .u8 (apG 5 (fun i => SE.byteOf [SV.v (.int .u8 (apG 1 (fun i => SE.byteOf [SV.v (.int .u8 ((fun i => List.getD [7] i 0) i))]) (be (RV.id c % 4294967296) 4) i))]) [0] i))],ext:=6 + c_3})∧((6 : Nat) ≤ NB0))∧((I64 (RV.bs c))∧(I64 (RV.bg c))))∧(∀ c_4 : Nat,((((bytesOk 14 (14 + c_4) {elem:=5,size:=1,rw:=true,lock:=false,lit:=false,flat:=true,n:=14,row:=fun i => [SV.v (.int .u8 (apG 6 (fun i => SE.byteOf [SV.v (.int .u8 (apG 5 (fun i => SE.byteOf [SV.v (.int .u8 (apG 1 (fun i => SE.byteOf [SV.v (.int .u8 ((fun i => List.getD [7] i 0) i))]) (be (RV.id c % 4294967296) 4) i))]) [0] i))]) (c4 (RV.bs c)++c4 (RV.bg c)) i))],ext:=14 + c_4})∧((14 : Nat) ≤ NB2))∧((bvOk (RV.o c))∧((spPre n (winBlk (ptB e1 n x y xt wh) 2 0 n))∧((n : Nat) < 100))))∧(∀ c_5 : Nat,(∃ c_6 : Nat,(True∧((((1 : Nat) = 1)∧(((1 : Nat) ≤ 1)∧(((SV.sl 448 1 0 (14 + boN n) (14 + boN n + c_5)) = (SV.sl 448 1 0 (6 + rN7 n m) (6 + rN7 n m + c_6)))∧((SV.v (.bool (b||false||notIn (RV.id c) 2147483647||false||(notIn (RV.bs c) 2147483647||notIn (RV.bg c) 2147483647)||boBad (RV.o c) n))) = (SV.v (.bool (b||rpB 0 c (rB7 c n m u v))))))))∧((((14 + boN n) : Nat) = (6 + rN7 n m))∧((((6 + rN7 n m + c_6) : Nat) ≤ (14 + boN n + c_5))∧(∀ i : Nat,(((i : Nat) < (6 + rN7 n m))→([(SV.v (.int .u8 (apG 14 (fun i => SE.byteOf [SV.v (.int .u8 (apG 6 (fun i => SE.byteOf [SV.v (.int .u8 (apG 5 (fun i => SE.byteOf [SV.v (.int .u8 (apG 1 (fun i => SE.byteOf [SV.v (.int .u8 ((fun i => List.getD [7] i 0) i))]) (be (RV.id c % 4294967296) 4) i))]) [0] i))]) (c4 (RV.bs c)++c4 (RV.bg c)) i))]) (boL (RV.o c) n (gX (winBlk (ptB e1 n x y xt wh) 2 0 n)) (gY (winBlk (ptB e1 n x y xt wh) 2 0 n))) i)))] = [(SV.v (.int .u8 (List.getD (rpL 7 0 c (rT7 c n x y m u v)) i 0)))])))))))))))))))))):=by kernel_rfl
theorem vcRw8 (b : Bool) (c : RV) (e1 n cap xt : Nat) (x y : Nat→Int) (wh : Bool) (e2 m cp xt2 : Nat) (u v : Nat→Int) (wh2 : Bool) : (vcFn Try.prog ΓPr (ΛRw8 (b||(notIn c.id 2147483647||notIn (m : Int) 64)) ([8]++(c4 c.id++([0]++[(m : Int) % 256]))) m u v) Try.f78 [.vp 0 0,reS 8 0 c (.sl 1 2 0 n cap) (.sl 2 2 0 m cp)] (heapOf [wB (some b) true nilS,ptB e1 n x y xt wh,ptB e2 m u v xt2 wh2]) 64 (fun y' h' => FinE [wB (some b) true nilS,ptB e1 n x y xt wh,ptB e2 m u v xt2 wh2] (apE (.fresh (some b)) 0 True (6 + rN8 n m) (rpL 8 0 c (rT8 c n x y m u v)) (rpB 0 c (rB8 c n m u v))) y' h')) = ((I64 8)∧(∀ c_1 : Nat,((((bytesOk 1 (1 + c_1) {elem:=5,size:=1,rw:=true,lock:=false,lit:=false,flat:=true,n:=1,row:=fun i => [SV.v (.int .u8 ((fun i => List.getD [8] i 0) i))],ext:=1 + c_1})∧((1 : Nat) ≤ M0))∧(I64 (RV.id c)))∧(∀ c_2 : Nat,((((bytesOk 5 (5 + c_2) {elem:=5,size:=1,rw:=true,lock:=false,lit:=false,flat:=true,n:=5,row:=fun i => [SV.v (.int .u8 (apG 1 (fun i => SE.byteOf [SV.v (.int .u8 ((fun i => List.getD [8] i 0) i))]) (be (RV.id c % 4294967296) 4) i))],ext:=5 + c_2})∧((5 : Nat) ≤ M0))∧(I64 0))∧(∀ c_3 : Nat,((((bytesOk 6 (6 + c_3) {elem:=5,size:=1,rw:=true,lock:=false,lit:=false,flat:=true,n:=6,row:=fun i => [SV.v (.int .u8 (apG 5 (fun i => SE.byteOf [SV.v (.int .u8 (apG 1 (fun i => SE.byteOf [SV.v (.int .u8 ((fun i => List.getD [8] i 0) i))]) (be (RV.id c % 4294967296) 4) i))]) [0] i))],ext:=6 + c_3})∧((6 : Nat) ≤ M0))∧(I64 (↑m : Int)))∧(∀ c_4 : Nat,((∃ x_1 : NX,(((((NX.i x_1) : Nat) ≤ m)∧(((7 + 8 * NX.i x_1) : Nat) ≤ (NX.c x_1)))∧(((SV.v (.int .i64 0)) = (SV.v (.int .i64 ((↑(NX.i x_1) : Int)))))∧((((1 : Nat) = 1)∧(((1 : Nat) ≤ 1)∧(((SV.sl 440 1 0 7 (7 + c_4)) = (SV.sl 440 1 0 (7 + 8 * NX.i x_1) (NX.c x_1)))∧((SV.v (.bool (b||false||notIn (RV.id c) 2147483647||false||notIn (↑m : Int) 64))) = (SV.v (.bool (b||(notIn (RV.id c) 2147483647||notIn (↑m : Int) 64)||anyH u v (NX.i x_1))))))))∧(((7 : Nat) = (7 + 8 * NX.i x_1))∧((((NX.c x_1) : Nat) ≤ (7 + c_4))∧(∀ i : Nat,(((i : Nat) < (7 + 8 * NX.i x_1))→([(SV.v (.int .u8 (apG 6 (fun i => SE.byteOf [SV.v (.int .u8 (apG 5 (fun i => SE.byteOf [SV.v (.int .u8 (apG 1 (fun i => SE.byteOf [SV.v (.int .u8 ((fun i => List.getD [8] i 0) i))]) (be (RV.id c % 4294967296) 4) i))]) [0] i))]) [(↑m : Int) % 256] i)))] = [(SV.v (.int .u8 (List.getD ([8]++(c4 (RV.id c)++([0]++[(↑m : Int) % 256]))++hsL u v (NX.i x_1)) i 0)))])))))))))∧(∀ x_1 : NX,(((((NX.i x_1) : Nat) ≤ m)∧(((7 + 8 * NX.i x_1) : Nat) ≤ (NX.c x_1)))→(sel (decide ((↑(NX.i x_1) : Int) < (↑m : Int))) ((((0 : Int) ≤ ((↑(NX.i x_1) : Int)))∧((((↑(NX.i x_1) : Int)) : Int) < ((↑m : Int))))∧((((bytesOk (7 + 8 * NX.i x_1) (NX.c x_1) {elem:=5,size:=1,rw:=true,lock:=false,lit:=false,flat:=true,n:=7 + 8 * NX.i x_1,row:=fun i => [SV.v (.int .u8 ((fun i => List.getD ([8]++(c4 (RV.id c)++([0]++[(↑m : Int) % 256]))++hsL u v (NX.i x_1)) i 0) i))],ext:=NX.c x_1})∧(((7 + 8 * NX.i x_1) : Nat) ≤ NB0))∧((I64 (u (0 + Int.toNat (↑(NX.i x_1) : Int))))∧(I64 (v (0 + Int.toNat (↑(NX.i x_1) : Int))))))∧(∀ c_5 : Nat,(∃ x' : NX,((((((NX.i x') : Nat) ≤ m)∧(((7 + 8 * NX.i x') : Nat) ≤ (NX.c x')))∧(((SV.v (.int .i64 (IntKind.wrap IntKind.i64 ((↑(NX.i x_1) : Int) + 1)))) = (SV.v (.int .i64 ((↑(NX.i x') : Int)))))∧((((1 : Nat) = 1)∧(((1 : Nat) ≤ 1)∧(((SV.sl 536 1 0 (7 + 8 * NX.i x_1 + 8) (7 + 8 * NX.i x_1 + 8 + c_5)) = (SV.sl 536 1 0 (7 + 8 * NX.i x') (NX.c x')))∧((SV.v (.bool (b||(notIn (RV.id c) 2147483647||notIn (↑m : Int) 64)||anyH u v (NX.i x_1)||(notIn (u (0 + Int.toNat (↑(NX.i x_1) : Int))) 2147483647||notIn (v (0 + Int.toNat (↑(NX.i x_1) : Int))) 2147483647)))) = (SV.v (.bool (b||(notIn (RV.id c) 2147483647||notIn (↑m : Int) 64)||anyH u v (NX.i x'))))))))∧((((7 + 8 * NX.i x_1 + 8) : Nat) = (7 + 8 * NX.i x'))∧((((NX.c x') : Nat) ≤ (7 + 8 * NX.i x_1 + 8 + c_5))∧(∀ i : Nat,(((i : Nat) < (7 + 8 * NX.i x'))→([(SV.v (.int .u8 (apG (7 + 8 * NX.i x_1) (fun i => SE.byteOf [SV.v (.int .u8 ((fun i => List.getD ([8]++(c4 (RV.id c)++([0]++[(↑m : Int) % 256]))++hsL u v (NX.i x_1)) i 0) i))]) (c4 (u (0 + Int.toNat (↑(NX.i x_1) : Int)))++c4 (v (0 + Int.toNat (↑(NX.i x_1) : Int)))) i)))] = [(SV.v (.int .u8 (List.getD ([8]++(c4 (RV.id c)++([0]++[(↑m : Int) % 256]))++hsL u v (NX.i x')) i 0)))]))))))))∧(((m - NX.i x') : Nat) < (m - NX.i x_1))))))) (∃ c_5 : Nat,(True∧((((1 : Nat) = 1)∧(((1 : Nat) ≤ 1)∧(((SV.sl 40 1 0 (7 + 8 * NX.i x_1) (NX.c x_1)) = (SV.sl 40 1 0 (6 + rN8 n m) (6 + rN8 n m + c_5)))∧((SV.v (.bool (b||(notIn (RV.id c) 2147483647||notIn (↑m : Int) 64)||anyH u v (NX.i x_1)))) = (SV.v (.bool (b||rpB 0 c (rB8 c n m u v))))))))∧((((7 + 8 * NX.i x_1) : Nat) = (6 + rN8 n m))∧((((6 + rN8 n m + c_5) : Nat) ≤ (NX.c x_1))∧(∀ i : Nat,(((i : Nat) < (6 + rN8 n m))→([(SV.v (.int .u8 (List.getD ([8]++(c4 (RV.id c)++([0]++[(↑m : Int) % 256]))++hsL u v (NX.i x_1)) i 0)))] = [(SV.v (.int .u8 (List.getD (rpL 8 0 c (rT8 c n x y m u v)) i 0)))])))))))))))))))))))):=by kernel_rfl
theorem vcRw9 (b : Bool) (c : RV) (e1 n cap xt : Nat) (x y : Nat→Int) (wh : Bool) (e2 m cp xt2 : Nat) (u v : Nat→Int) (wh2 : Bool) : (vcFn Try.prog ΓPr noΛ Try.f78 [.vp 0 0,reS 9 0 c (.sl 1 2 0 n cap) (.sl 2 2 0 m cp)] (heapOf [wB (some b) true nilS,ptB e1 n x y xt wh,ptB e2 m u v xt2 wh2]) 64 (fun y' h' => FinE [wB (some b) true nilS,ptB e1 n x y xt wh,ptB e2 m u v xt2 wh2] (apE (.fresh (some b)) 0 True (6 + rN9 n m) (rpL 9 0 c (rT9 c n x y m u v)) (rpB 0 c (rB9 c n m u v))) y' h')) = ((I64 9)∧(∀ c_1 : Nat,((((bytesOk 1 (1 + c_1) {elem:=5,size:=1,rw:=true,lock:=false,lit:=false,flat:=true,n:=1,row:=fun i => [SV.v (.int .u8 ((fun i => List.getD [9] i 0) i))],ext:=1 + c_1})∧((1 : Nat) ≤ M0))∧(I64 (RV.id c)))∧(∀ c_2 : Nat,((((bytesOk 5 (5 + c_2) {elem:=5,size:=1,rw:=true,lock:=false,lit:=false,flat:=true,n:=5,row:=fun i => [SV.v (.int .u8 (apG 1 (fun i => SE.byteOf [SV.v (.int .u8 ((fun i => List.getD [9] i 0) i))]) (be (RV.id c % 4294967296) 4) i))],ext:=5 + c_2})∧((5 : Nat) ≤ M0))∧(I64 0))∧(∀ c_3 : Nat,((((bytesOk 6 (6 + c_3) {elem:=5,size:=1,rw:=true,lock:=false,lit:=false,flat:=true,n:=6,row:=fun i => [SV.v (.int .u8 (apG 5 (fun i => SE.byteOf [SV.v (.int .u8 (apG 1 (fun i => SE.byteOf [SV.v (.int .u8 ((fun i => List.getD [9] i 0) i))]) (be (RV.id c % 4294967296) 4) i))]) [0] i))],ext:=6 + c_3})∧((6 : Nat) ≤ NB0))∧((I64 (RV.bs c))∧(I64 (RV.bg c))))∧(∀ c_4 : Nat,((((bytesOk 14 (14 + c_4) {elem:=5,size:=1,rw:=true,lock:=false,lit:=false,flat:=true,n:=14,row:=fun i => [SV.v (.int .u8 (apG 6 (fun i => SE.byteOf [SV.v (.int .u8 (apG 5 (fun i => SE.byteOf [SV.v (.int .u8 (apG 1 (fun i => SE.byteOf [SV.v (.int .u8 ((fun i => List.getD [9] i 0) i))]) (be (RV.id c % 4294967296) 4) i))]) [0] i))]) (c4 (RV.bs c)++c4 (RV.bg c)) i))],ext:=14 + c_4})∧((14 : Nat) ≤ M0))∧True)∧(∀ c_5 : Nat,((((bytesOk 15 (15 + c_5) {elem:=5,size:=1,rw:=true,lock:=false,lit:=false,flat:=true,n:=15,row:=fun i => [SV.v (.int .u8 (apG 14 (fun i => SE.byteOf [SV.v (.int .u8 (apG 6 (fun i => SE.byteOf [SV.v (.int .u8 (apG 5 (fun i => SE.byteOf [SV.v (.int .u8 (apG 1 (fun i => SE.byteOf [SV.v (.int .u8 ((fun i => List.getD [9] i 0) i))]) (be (RV.id c % 4294967296) 4) i))]) [0] i))]) (c4 (RV.bs c)++c4 (RV.bg c)) i))]) [bif RV.hit c then 1 else 0] i))],ext:=15 + c_5})∧((15 : Nat) ≤ NB0))∧(((3 : Nat) = 3)∧(((1 : Nat) ≤ 3)∧(((3 : Nat) ≤ 100)∧(∀ i : Nat,(((i : Nat) < 3)→(isNum [SV.v (.int .i64 (bop (Nat.beq (0 + i) 0) (RV.htv c) (bop (Nat.beq (0 + i) 1) (RV.x0v c) (RV.x1v c)))),SV.v (.bool (bop (Nat.beq (0 + i) 0) (RV.htf c) (bop (Nat.beq (0 + i) 1) (RV.x0f c) (RV.x1f c))))])))))))∧(∀ c_6 : Nat,(∃ c_7 : Nat,(True∧((((1 : Nat) = 1)∧(((1 : Nat) ≤ 1)∧(((SV.sl 600 1 0 42 (42 + c_6)) = (SV.sl 600 1 0 42 (6 + rN9 n m + c_7)))∧((SV.v (.bool (b||false||notIn (RV.id c) 2147483647||false||(notIn (RV.bs c) 2147483647||notIn (RV.bg c) 2147483647)||false||anyMin (fun i => nV [SV.v (.int .i64 (bop (Nat.beq (0 + i) 0) (RV.htv c) (bop (Nat.beq (0 + i) 1) (RV.x0v c) (RV.x1v c)))),SV.v (.bool (bop (Nat.beq (0 + i) 0) (RV.htf c) (bop (Nat.beq (0 + i) 1) (RV.x0f c) (RV.x1f c))))]) 3))) = (SV.v (.bool (b||rpB 0 c (rB9 c n m u v))))))))∧(((42 : Nat) = (6 + rN9 n m))∧((((6 + rN9 n m + c_7) : Nat) ≤ (42 + c_6))∧(∀ i : Nat,(((i : Nat) < (6 + rN9 n m))→([(SV.v (.int .u8 (apG 15 (fun i => SE.byteOf [SV.v (.int .u8 (apG 14 (fun i => SE.byteOf [SV.v (.int .u8 (apG 6 (fun i => SE.byteOf [SV.v (.int .u8 (apG 5 (fun i => SE.byteOf [SV.v (.int .u8 (apG 1 (fun i => SE.byteOf [SV.v (.int .u8 ((fun i => List.getD [9] i 0) i))]) (be (RV.id c % 4294967296) 4) i))]) [0] i))]) (c4 (RV.bs c)++c4 (RV.bg c)) i))]) [bif RV.hit c then 1 else 0] i))]) (numsL (fun i => nV [SV.v (.int .i64 (bop (Nat.beq (0 + i) 0) (RV.htv c) (bop (Nat.beq (0 + i) 1) (RV.x0v c) (RV.x1v c)))),SV.v (.bool (bop (Nat.beq (0 + i) 0) (RV.htf c) (bop (Nat.beq (0 + i) 1) (RV.x0f c) (RV.x1f c))))]) (fun i => nF [SV.v (.int .i64 (bop (Nat.beq (0 + i) 0) (RV.htv c) (bop (Nat.beq (0 + i) 1) (RV.x0v c) (RV.x1v c)))),SV.v (.bool (bop (Nat.beq (0 + i) 0) (RV.htf c) (bop (Nat.beq (0 + i) 1) (RV.x0f c) (RV.x1f c))))]) 3) i)))] = [(SV.v (.int .u8 (List.getD (rpL 9 0 c (rT9 c n x y m u v)) i 0)))])))))))))))))))))))):=by kernel_rfl
theorem vcRw10 (b : Bool) (c : RV) (e1 n cap xt : Nat) (x y : Nat→Int) (wh : Bool) (e2 m cp xt2 : Nat) (u v : Nat→Int) (wh2 : Bool) : (vcFn Try.prog ΓPr noΛ Try.f78 [.vp 0 0,reS 10 0 c (.sl 1 2 0 n cap) (.sl 2 2 0 m cp)] (heapOf [wB (some b) true nilS,ptB e1 n x y xt wh,ptB e2 m u v xt2 wh2]) 64 (fun y' h' => FinE [wB (some b) true nilS,ptB e1 n x y xt wh,ptB e2 m u v xt2 wh2] (apE (.fresh (some b)) 0 True (6 + rN10 n m) (rpL 10 0 c (rT10 c n x y m u v)) (rpB 0 c (rB10 c n m u v))) y' h')) = ((I64 10)∧(∀ c_1 : Nat,((((bytesOk 1 (1 + c_1) {elem:=5,size:=1,rw:=true,lock:=false,lit:=false,flat:=true,n:=1,row:=fun i => [SV.v (.int .u8 ((fun i => List.getD [10] i 0) i))],ext:=1 + c_1})∧((1 : Nat) ≤ M0))∧(I64 (RV.id c)))∧(∀ c_2 : Nat,((((bytesOk 5 (5 + c_2) {elem:=5,size:=1,rw:=true,lock:=false,lit:=false,flat:=true,n:=5,row:=fun i => [SV.v (.int .u8 (apG 1 (fun i => SE.byteOf [SV.v (.int .u8 ((fun i => List.getD [10] i 0) i))]) (be (RV.id c % 4294967296) 4) i))],ext:=5 + c_2})∧((5 : Nat) ≤ M0))∧(I64 0))∧(∀ c_3 : Nat,((((bytesOk 6 (6 + c_3) {elem:=5,size:=1,rw:=true,lock:=false,lit:=false,flat:=true,n:=6,row:=fun i => [SV.v (.int .u8 (apG 5 (fun i => SE.byteOf [SV.v (.int .u8 (apG 1 (fun i => SE.byteOf [SV.v (.int .u8 ((fun i => List.getD [10] i 0) i))]) (be (RV.id c % 4294967296) 4) i))]) [0] i))],ext:=6 + c_3})∧((6 : Nat) ≤ M0))∧(I64 (RV.cnt c)))∧(∀ c_4 : Nat,(∃ c_5 : Nat,(True∧((((1 : Nat) = 1)∧(((1 : Nat) ≤ 1)∧(((SV.sl 464 1 0 10 (10 + c_4)) = (SV.sl 464 1 0 10 (6 + rN10 n m + c_5)))∧((SV.v (.bool (b||false||notIn (RV.id c) 2147483647||false||notIn (RV.cnt c) 2147483647))) = (SV.v (.bool (b||rpB 0 c (rB10 c n m u v))))))))∧(((10 : Nat) = (6 + rN10 n m))∧((((6 + rN10 n m + c_5) : Nat) ≤ (10 + c_4))∧(∀ i : Nat,(((i : Nat) < (6 + rN10 n m))→([(SV.v (.int .u8 (apG 6 (fun i => SE.byteOf [SV.v (.int .u8 (apG 5 (fun i => SE.byteOf [SV.v (.int .u8 (apG 1 (fun i => SE.byteOf [SV.v (.int .u8 ((fun i => List.getD [10] i 0) i))]) (be (RV.id c % 4294967296) 4) i))]) [0] i))]) (be (RV.cnt c % 4294967296) 4) i)))] = [(SV.v (.int .u8 (List.getD (rpL 10 0 c (rT10 c n x y m u v)) i 0)))])))))))))))))))):=by kernel_rfl
theorem vcRwP (k : Int) (a : Nat) (b : Bool) (c : RV) (e1 n cap xt : Nat) (x y : Nat→Int) (wh : Bool) (e2 m cp xt2 : Nat) (u v : Nat→Int) (wh2 : Bool) : (vcFn Try.prog ΓPr noΛ Try.f78 [.vp 0 0,reS k (Int.ofNat (a + 1)) c (.sl 1 2 0 n cap) (.sl 2 2 0 m cp)] (heapOf [wB (some b) true nilS,ptB e1 n x y xt wh,ptB e2 m u v xt2 wh2]) 64 (fun y' h' => FinE [wB (some b) true nilS,ptB e1 n x y xt wh,ptB e2 m u v xt2 wh2] (apE (.fresh (some b)) 0 True (6 + (bif Int.ofNat (a + 1) == 14 then 8 else 0)) (rpL k (Int.ofNat (a + 1)) c ((bif Int.ofNat (a + 1) == 14 then i8 c.ver else []))) (rpB (Int.ofNat (a + 1)) c ((bif Int.ofNat (a + 1) == 14 then notIn c.ver 1099511627776 else false)))) y' h')) = ((I64 k)∧(∀ c_1 : Nat,((((bytesOk 1 (1 + c_1) {elem:=5,size:=1,rw:=true,lock:=false,lit:=false,flat:=true,n:=1,row:=fun i => [SV.v (.int .u8 ((fun i => List.getD [k % 256] i 0) i))],ext:=1 + c_1})∧((1 : Nat) ≤ M0))∧(I64 (RV.id c)))∧(∀ c_2 : Nat,((((bytesOk 5 (5 + c_2) {elem:=5,size:=1,rw:=true,lock:=false,lit:=false,flat:=true,n:=5,row:=fun i => [SV.v (.int .u8 (apG 1 (fun i => SE.byteOf [SV.v (.int .u8 ((fun i => List.getD [k % 256] i 0) i))]) (be (RV.id c % 4294967296) 4) i))],ext:=5 + c_2})∧((5 : Nat) ≤ M0))∧(I64 (Int.ofNat (a + 1))))∧(∀ c_3 : Nat,(sel (Int.ofNat (a + 1) == 14) ((((bytesOk 6 (6 + c_3) {elem:=5,size:=1,rw:=true,lock:=false,lit:=false,flat:=true,n:=6,row:=fun i => [SV.v (.int .u8 (apG 5 (fun i => SE.byteOf [SV.v (.int .u8 (apG 1 (fun i => SE.byteOf [SV.v (.int .u8 ((fun i => List.getD [k % 256] i 0) i))]) (be (RV.id c % 4294967296) 4) i))]) [Int.ofNat (a + 1) % 256] i))],ext:=6 + c_3})∧((6 : Nat) ≤ M0))∧(I64 (RV.ver c)))∧(∀ c_4 : Nat,(∃ c_5 : Nat,(True∧((((1 : Nat) = 1)∧(((1 : Nat) ≤ 1)∧(((SV.sl 232 1 0 14 (14 + c_4)) = (SV.sl 232 1 0 (6 + bif Int.ofNat (a + 1) == 14 then 8 else 0) ((6 + bif Int.ofNat (a + 1) == 14 then 8 else 0) + c_5)))∧((SV.v (.bool (b||false||notIn (RV.id c) 2147483647||notIn (Int.ofNat (a + 1)) 14||notIn (RV.ver c) 1099511627776))) = (SV.v (.bool (b||rpB (Int.ofNat (a + 1)) c (bif Int.ofNat (a + 1) == 14 then notIn (RV.ver c) 1099511627776 else false))))))))∧(((14 : Nat) = (6 + bif Int.ofNat (a + 1) == 14 then 8 else 0))∧(((((6 + bif Int.ofNat (a + 1) == 14 then 8 else 0) + c_5) : Nat) ≤ (14 + c_4))∧(∀ i : Nat,(((i : Nat) < (6 + bif Int.ofNat (a + 1) == 14 then 8 else 0))→([(SV.v (.int .u8 (apG 6 (fun i => SE.byteOf [SV.v (.int .u8 (apG 5 (fun i => SE.byteOf [SV.v (.int .u8 (apG 1 (fun i => SE.byteOf [SV.v (.int .u8 ((fun i => List.getD [k % 256] i 0) i))]) (be (RV.id c % 4294967296) 4) i))]) [Int.ofNat (a + 1) % 256] i))]) (be (RV.ver c % 18446744073709551616) 8) i)))] = [(SV.v (.int .u8 (List.getD (rpL k (Int.ofNat (a + 1)) c (bif Int.ofNat (a + 1) == 14 then i8 (RV.ver c) else [])) i 0)))])))))))))) (∃ c_4 : Nat,(True∧((((1 : Nat) = 1)∧(((1 : Nat) ≤ 1)∧(((SV.sl 176 1 0 6 (6 + c_3)) = (SV.sl 176 1 0 (6 + bif Int.ofNat (a + 1) == 14 then 8 else 0) ((6 + bif Int.ofNat (a + 1) == 14 then 8 else 0) + c_4)))∧((SV.v (.bool (b||false||notIn (RV.id c) 2147483647||notIn (Int.ofNat (a + 1)) 14))) = (SV.v (.bool (b||rpB (Int.ofNat (a + 1)) c (bif Int.ofNat (a + 1) == 14 then notIn (RV.ver c) 1099511627776 else false))))))))∧(((6 : Nat) = (6 + bif Int.ofNat (a + 1) == 14 then 8 else 0))∧(((((6 + bif Int.ofNat (a + 1) == 14 then 8 else 0) + c_4) : Nat) ≤ (6 + c_3))∧(∀ i : Nat,(((i : Nat) < (6 + bif Int.ofNat (a + 1) == 14 then 8 else 0))→([(SV.v (.int .u8 (apG 5 (fun i => SE.byteOf [SV.v (.int .u8 (apG 1 (fun i => SE.byteOf [SV.v (.int .u8 ((fun i => List.getD [k % 256] i 0) i))]) (be (RV.id c % 4294967296) 4) i))]) [Int.ofNat (a + 1) % 256] i)))] = [(SV.v (.int .u8 (List.getD (rpL k (Int.ofNat (a + 1)) c (bif Int.ofNat (a + 1) == 14 then i8 (RV.ver c) else [])) i 0)))]))))))))))))))):=by kernel_rfl
theorem vcRwM (k : Int) (a : Nat) (b : Bool) (c : RV) (e1 n cap xt : Nat) (x y : Nat→Int) (wh : Bool) (e2 m cp xt2 : Nat) (u v : Nat→Int) (wh2 : Bool) : (vcFn Try.prog ΓPr noΛ Try.f78 [.vp 0 0,reS k (Int.negSucc a) c (.sl 1 2 0 n cap) (.sl 2 2 0 m cp)] (heapOf [wB (some b) true nilS,ptB e1 n x y xt wh,ptB e2 m u v xt2 wh2]) 64 (fun y' h' => FinE [wB (some b) true nilS,ptB e1 n x y xt wh,ptB e2 m u v xt2 wh2] (apE (.fresh (some b)) 0 True (6 + 0) (rpL k (Int.negSucc a) c ([])) (rpB (Int.negSucc a) c (false))) y' h')) = ((I64 k)∧(∀ c_1 : Nat,((((bytesOk 1 (1 + c_1) {elem:=5,size:=1,rw:=true,lock:=false,lit:=false,flat:=true,n:=1,row:=fun i => [SV.v (.int .u8 ((fun i => List.getD [k % 256] i 0) i))],ext:=1 + c_1})∧((1 : Nat) ≤ M0))∧(I64 (RV.id c)))∧(∀ c_2 : Nat,((((bytesOk 5 (5 + c_2) {elem:=5,size:=1,rw:=true,lock:=false,lit:=false,flat:=true,n:=5,row:=fun i => [SV.v (.int .u8 (apG 1 (fun i => SE.byteOf [SV.v (.int .u8 ((fun i => List.getD [k % 256] i 0) i))]) (be (RV.id c % 4294967296) 4) i))],ext:=5 + c_2})∧((5 : Nat) ≤ M0))∧(I64 (Int.negSucc a)))∧(∀ c_3 : Nat,(∃ c_4 : Nat,(True∧((((1 : Nat) = 1)∧(((1 : Nat) ≤ 1)∧(((SV.sl 176 1 0 6 (6 + c_3)) = (SV.sl 176 1 0 6 (6 + c_4)))∧((SV.v (.bool (b||false||notIn (RV.id c) 2147483647||notIn (Int.negSucc a) 14))) = (SV.v (.bool (b||rpB (Int.negSucc a) c false)))))))∧(((6 : Nat) = 6)∧((((6 + c_4) : Nat) ≤ (6 + c_3))∧(∀ i : Nat,(((i : Nat) < 6)→([(SV.v (.int .u8 (apG 5 (fun i => SE.byteOf [SV.v (.int .u8 (apG 1 (fun i => SE.byteOf [SV.v (.int .u8 ((fun i => List.getD [k % 256] i 0) i))]) (be (RV.id c % 4294967296) 4) i))]) [Int.negSucc a % 256] i)))] = [(SV.v (.int .u8 (List.getD (rpL k (Int.negSucc a) c []) i 0)))])))))))))))))):=by kernel_rfl
end Go.Proofs.Ytjdldadmaaeimaa
end

section
set_option maxRecDepth 100000
set_option linter.unusedSimpArgs false
set_option linter.unusedVariables false
namespace Go.Proofs.Ytjdldadmaaeimaa
open Go.ChangeShapes Go.WideShapes Go.ChangeAt Go.RowKit Go.SE Go.Deep

section
variable {H : Type} {enc : TypeId × Value → H}
theorem reply_open {W : World} {b0 : Nat} {r : Reach} {v : Value} {d : DataW H} {p : List MemPlace} (hv : Value.okWide Try.prog W r b0 64 v) (h : DataW.Trod enc Try.prog W 0 (fun _ => true) true 64 v d p) :
    ∃ (k e : Int) (s : RV) (n c : Nat) (row : Nat → List SV) (l : SE.Loc) (m c2 : Nat) (row2 : Nat → List SV) (l2 : SE.Loc), (I64 k ∧ I64 e) ∧ rvOk s ∧ (∀ δ i j, δ i = some l → δ j = some l2 → absV δ (reS k e s (.sl i 2 0 n c) (.sl j 2 0 m c2)) v ∧ Live δ (Ro.blk ⟨2, n, row⟩) W l ∧ Live δ (Ro.blk ⟨2, m, row2⟩) W l2) ∧ (∀ i, i < n → isPI (row i)) ∧ ∀ i, i < m → isPI (row2 i) := by
  obtain ⟨cs, rfl, hsz⟩ := okWide_struct Try.underlying64 hv
  obtain ⟨fuel, hf⟩ := h
  obtain ⟨a0, a1, a2, a3, a4, a5, a6, a7, a8, a9, a10, n11, c11, row11, l11, v11, a12, f13, a14, f15, a16, f17, a18, f19, a20, f21, a22, f23, a24, f25, a26, f27, a28, f29, a30, f31, f32, a33, n34, c34, row34, l34, v34, f35, a36, f37, a38, f39, a40, f41, a42, h1, w0, w1, w2, w3, w4, w5, w6, w7, w8, w9, w10, w11, w12, w14, w16, w18, w20, w22, w24, w26, w28, w30, w33, w34, w36, w38, w40, w42⟩ := c_Reply hf
  obtain ⟨cs⟩ := cs
  simp only [Value.cells] at h1
  subst h1
  refine ⟨a0, a2, ⟨a1, a3, a4, a5, a6, ⟨a7, a8, a9, a10, a12, f13, a14, f15, a16, f17, a18, f19, a20, f21, a22, f23, a24, f25, a26, f27, a28, f29, a30, f31, f32, a33⟩, f35, a36, f37, a38, f39, a40, f41, a42⟩, n11, c11, row11, l11, n34, c34, row34, l34, ⟨w0, w2⟩, ⟨w1, w3, w4, w5, w6, w36, w38, w40, w42, w7, w8, w9, w10, w12, w14, w16, w18, w20, w22, w24, w26, w28, w30, w33⟩, fun δ i j hd hd2 => ⟨?_, (w11.1 δ i hd).2, (w34.1 δ j hd2).2⟩, w11.2, w34.2⟩
  have hp := (w11.1 δ i hd).1
  have hp2 := (w34.1 δ j hd2).1
  simp only [reS, absV, absL] at hp hp2 ⊢
  exact ⟨_, rfl, rfl, rfl, rfl, rfl, rfl, rfl, rfl, rfl, rfl, rfl, rfl, hp, rfl, rfl, rfl, rfl, rfl, rfl, rfl, rfl, rfl, rfl, rfl, rfl, rfl, rfl, rfl, rfl, rfl, rfl, rfl, rfl, rfl, rfl, hp2, rfl, rfl, rfl, rfl, rfl, rfl, rfl, rfl, trivial⟩
end
end Go.Proofs.Ytjdldadmaaeimaa
end

section
set_option maxRecDepth 100000
set_option linter.unusedSimpArgs false
set_option linter.unusedVariables false
namespace Go.Proofs.Ytjdldadmaaeimaa
open Go.SE Go.RowKit
theorem vcEqualH (n n' c m m' d : Nat) (g h : Nat→Int × Int) (R : SV→Prop) : (vcFn Try.prog noCtrs (ΛEqual Try.f82 13 n g h) Try.f82 [.sl 0 2 0 n c,.sl 1 2 0 m d] (roHeap [⟨2,n',rowsP g⟩,⟨2,m',rowsP h⟩]) 64 (fun y _ => R y)) = (sel ((↑n : Int) != (↑m : Int)) (R (SV.v (.bool false))) ((∃ x : Nat,((((x : Nat) ≤ n)∧(∀ j : Nat,(((j : Nat) < x)→(eqP (g j) (h j) = true))))∧(((SV.v (.int .i64 0)) = (SV.v (.int .i64 ((↑x : Int)))))∧True)))∧(∀ x : Nat,((((x : Nat) ≤ n)∧(∀ j : Nat,(((j : Nat) < x)→(eqP (g j) (h j) = true))))→(sel (decide ((↑x : Int) < (↑n : Int))) ((((0 : Int) ≤ ((↑x : Int)))∧((((↑x : Int)) : Int) < ((↑n : Int))))∧((((0 : Int) ≤ ((↑x : Int)))∧((((↑x : Int)) : Int) < ((↑m : Int))))∧(sel (!(Prod.fst (g (0 + Int.toNat (↑x : Int))) == Prod.fst (h (0 + Int.toNat (↑x : Int)))&&Prod.snd (g (0 + Int.toNat (↑x : Int))) == Prod.snd (h (0 + Int.toNat (↑x : Int))))) (R (SV.v (.bool false))) (∃ x' : Nat,(((((x' : Nat) ≤ n)∧(∀ j : Nat,(((j : Nat) < x')→(eqP (g j) (h j) = true))))∧(((SV.v (.int .i64 (IntKind.wrap IntKind.i64 ((↑x : Int) + 1)))) = (SV.v (.int .i64 ((↑x' : Int)))))∧True))∧(((n - x') : Nat) < (n - x))))))) (R (SV.v (.bool true)))))))):=by kernel_rfl
theorem vcEqualNH (m m' d : Nat) (g : Nat→Int × Int) (R : SV→Prop) : (vcFn Try.prog noCtrs (ΛZ Try.f82 13) Try.f82 [nilS,.sl 0 2 0 m d] (roHeap [⟨2,m',rowsP g⟩]) 64 (fun y _ => R y)) = (sel (0 != (↑m : Int)) (R (SV.v (.bool false))) ((∃ x : Nat,(((x : Nat) = 0)∧(((SV.v (.int .i64 0)) = (SV.v (.int .i64 ((↑x : Int)))))∧True)))∧(∀ x : Nat,(((x : Nat) = 0)→(R (SV.v (.bool true))))))):=by kernel_rfl
def ΓV0 : Ctrs := addCtr noCtrs 72 (roCtr (orRo sSameS sSameN))
def ΓV1 : Ctrs := addCtr noCtrs 76 (roCtr (orRo sSameS sRSameN))
def sbOf (b : BV) : ShB := ⟨b.sk, b.sr, b.sw, b.sh⟩
def bodB (a b : BV) : Bool := (a.p0v == b.p0v && a.p0f == b.p0f && (a.p1v == b.p1v && a.p1f == b.p1f) && (a.p2v == b.p2v && a.p2f == b.p2f && (a.p3v == b.p3v && a.p3f == b.p3f))) && ((a.v0v == b.v0v && a.v0f == b.v0f && (a.v1v == b.v1v && a.v1f == b.v1f)) && ((a.w0v == b.w0v && a.w0f == b.w0f) && ((a.m0v == b.m0v && a.m0f == b.m0f && (a.m1v == b.m1v && a.m1f == b.m1f)) && ((a.st == b.st) && ((a.asl == b.asl) && ((a.flt == b.flt) && ((a.bv == b.bv))))))))
def sameBB (a b : BV) (s : Bool) : Bool := bodB a b && s
theorem vcSameB (a b : BV) (n nc n' m mc m' : Nat) (g h : Nat→Int × Int) (R : SV→Prop) : (vcFn Try.prog ΓV0 noΛ Try.f81 [boS a (.sl 0 2 0 n nc),boS b (.sl 1 2 0 m mc)] (roHeap [⟨2,n',rowsP g⟩,⟨2,m',rowsP h⟩]) 64 (fun y _ => R y)) = (sel (BV.p0v a == BV.p0v b&&BV.p0f a == BV.p0f b&&(BV.p1v a == BV.p1v b&&BV.p1f a == BV.p1f b)&&(BV.p2v a == BV.p2v b&&BV.p2f a == BV.p2f b&&(BV.p3v a == BV.p3v b&&BV.p3f a == BV.p3f b))&&(BV.v0v a == BV.v0v b&&BV.v0f a == BV.v0f b&&(BV.v1v a == BV.v1v b&&BV.v1f a == BV.v1f b)&&(BV.w0v a == BV.w0v b&&BV.w0f a == BV.w0f b&&(BV.m0v a == BV.m0v b&&BV.m0f a == BV.m0f b&&(BV.m1v a == BV.m1v b&&BV.m1f a == BV.m1f b)&&(BV.st a == BV.st b&&(BV.asl a == BV.asl b&&(BV.flt a == BV.flt b&&BV.bv a == BV.bv b))))))) (((rowsPre n n fun y => [SV.v (.int .i64 (Prod.fst (g (0 + y)))),SV.v (.int .i64 (Prod.snd (g (0 + y))))])∧(rowsPre m m fun y => [SV.v (.int .i64 (Prod.fst (h (0 + y)))),SV.v (.int .i64 (Prod.snd (h (0 + y))))]))∧(R (SV.v (.bool (sameS {k:=BV.sk a,r:=BV.sr a,w:=BV.sw a,h:=BV.sh a} n (fun i => gi [SV.v (.int .i64 (Prod.fst (g (0 + i)))),SV.v (.int .i64 (Prod.snd (g (0 + i))))]) {k:=BV.sk b,r:=BV.sr b,w:=BV.sw b,h:=BV.sh b} m fun i => gi [SV.v (.int .i64 (Prod.fst (h (0 + i)))),SV.v (.int .i64 (Prod.snd (h (0 + i))))]))))) (R (SV.v (.bool false)))):=by kernel_rfl
theorem vcSameBN (a b : BV) (m mc m' : Nat) (h : Nat→Int × Int) (R : SV→Prop) : (vcFn Try.prog ΓV0 noΛ Try.f81 [boS a nilS,boS b (.sl 0 2 0 m mc)] (roHeap [⟨2,m',rowsP h⟩]) 64 (fun y _ => R y)) = (sel (BV.p0v a == BV.p0v b&&BV.p0f a == BV.p0f b&&(BV.p1v a == BV.p1v b&&BV.p1f a == BV.p1f b)&&(BV.p2v a == BV.p2v b&&BV.p2f a == BV.p2f b&&(BV.p3v a == BV.p3v b&&BV.p3f a == BV.p3f b))&&(BV.v0v a == BV.v0v b&&BV.v0f a == BV.v0f b&&(BV.v1v a == BV.v1v b&&BV.v1f a == BV.v1f b)&&(BV.w0v a == BV.w0v b&&BV.w0f a == BV.w0f b&&(BV.m0v a == BV.m0v b&&BV.m0f a == BV.m0f b&&(BV.m1v a == BV.m1v b&&BV.m1f a == BV.m1f b)&&(BV.st a == BV.st b&&(BV.asl a == BV.asl b&&(BV.flt a == BV.flt b&&BV.bv a == BV.bv b))))))) ((rowsPre m m fun y => [SV.v (.int .i64 (Prod.fst (h (0 + y)))),SV.v (.int .i64 (Prod.snd (h (0 + y))))])∧(R (SV.v (.bool (eqSh {k:=BV.sk a,r:=BV.sr a,w:=BV.sw a,h:=BV.sh a} {k:=BV.sk b,r:=BV.sr b,w:=BV.sw b,h:=BV.sh b}&&Nat.beq m 0))))) (R (SV.v (.bool false)))):=by kernel_rfl
theorem vcRSameB (a b : BV) (n nc n' m mc m' : Nat) (g h : Nat→Int × Int) (R : SV→Prop) : (vcFn Try.prog ΓV1 noΛ Try.f83 [boS a (.sl 0 2 0 n nc),boS b (.sl 1 2 0 m mc)] (roHeap [⟨2,n',rowsP g⟩,⟨2,m',rowsP h⟩]) 64 (fun y _ => R y)) = (((rowsPre n n fun y => [SV.v (.int .i64 (Prod.fst (g (0 + y)))),SV.v (.int .i64 (Prod.snd (g (0 + y))))])∧(rowsPre m m fun y => [SV.v (.int .i64 (Prod.fst (h (0 + y)))),SV.v (.int .i64 (Prod.snd (h (0 + y))))]))∧(sel (sameS {k:=BV.sk a,r:=BV.sr a,w:=BV.sw a,h:=BV.sh a} n (fun i => gi [SV.v (.int .i64 (Prod.fst (g (0 + i)))),SV.v (.int .i64 (Prod.snd (g (0 + i))))]) {k:=BV.sk b,r:=BV.sr b,w:=BV.sw b,h:=BV.sh b} m fun i => gi [SV.v (.int .i64 (Prod.fst (h (0 + i)))),SV.v (.int .i64 (Prod.snd (h (0 + i))))]) (sel (BV.p0v a == BV.p0v b&&BV.p0f a == BV.p0f b&&(BV.p1v a == BV.p1v b&&BV.p1f a == BV.p1f b)&&(BV.p2v a == BV.p2v b&&BV.p2f a == BV.p2f b&&(BV.p3v a == BV.p3v b&&BV.p3f a == BV.p3f b))) (sel (BV.v0v a == BV.v0v b&&BV.v0f a == BV.v0f b&&(BV.v1v a == BV.v1v b&&BV.v1f a == BV.v1f b)) (sel (BV.w0v a == BV.w0v b&&BV.w0f a == BV.w0f b) (sel (BV.m0v a == BV.m0v b&&BV.m0f a == BV.m0f b&&(BV.m1v a == BV.m1v b&&BV.m1f a == BV.m1f b)) (sel (BV.st a == BV.st b) (sel (BV.asl a == BV.asl b) (sel (BV.flt a == BV.flt b) (R (SV.v (.bool (BV.bv a == BV.bv b)))) (R (SV.v (.bool false)))) (R (SV.v (.bool false)))) (R (SV.v (.bool false)))) (R (SV.v (.bool false)))) (R (SV.v (.bool false)))) (R (SV.v (.bool false)))) (R (SV.v (.bool false)))) (R (SV.v (.bool false))))):=by kernel_rfl
theorem vcRSameBN (a b : BV) (m mc m' : Nat) (h : Nat→Int × Int) (R : SV→Prop) : (vcFn Try.prog ΓV1 noΛ Try.f83 [boS a (.sl 0 2 0 m mc),boS b nilS] (roHeap [⟨2,m',rowsP h⟩]) 64 (fun y _ => R y)) = ((rowsPre m m fun y => [SV.v (.int .i64 (Prod.fst (h (0 + y)))),SV.v (.int .i64 (Prod.snd (h (0 + y))))])∧(sel (eqSh {k:=BV.sk a,r:=BV.sr a,w:=BV.sw a,h:=BV.sh a} {k:=BV.sk b,r:=BV.sr b,w:=BV.sw b,h:=BV.sh b}&&Nat.beq m 0) (sel (BV.p0v a == BV.p0v b&&BV.p0f a == BV.p0f b&&(BV.p1v a == BV.p1v b&&BV.p1f a == BV.p1f b)&&(BV.p2v a == BV.p2v b&&BV.p2f a == BV.p2f b&&(BV.p3v a == BV.p3v b&&BV.p3f a == BV.p3f b))) (sel (BV.v0v a == BV.v0v b&&BV.v0f a == BV.v0f b&&(BV.v1v a == BV.v1v b&&BV.v1f a == BV.v1f b)) (sel (BV.w0v a == BV.w0v b&&BV.w0f a == BV.w0f b) (sel (BV.m0v a == BV.m0v b&&BV.m0f a == BV.m0f b&&(BV.m1v a == BV.m1v b&&BV.m1f a == BV.m1f b)) (sel (BV.st a == BV.st b) (sel (BV.asl a == BV.asl b) (sel (BV.flt a == BV.flt b) (R (SV.v (.bool (BV.bv a == BV.bv b)))) (R (SV.v (.bool false)))) (R (SV.v (.bool false)))) (R (SV.v (.bool false)))) (R (SV.v (.bool false)))) (R (SV.v (.bool false)))) (R (SV.v (.bool false)))) (R (SV.v (.bool false)))) (R (SV.v (.bool false))))):=by kernel_rfl
def sSameB : List SV → List Ro → Option (Option Prop × SV)
  | [.agg x, .agg y], rs => match cellsOfB x, cellsOfB y, rs with
    | some (a, .sl 0 2 0 n _), some (b, .sl 1 2 0 m _), [⟨2, n', row⟩, ⟨2, m', row'⟩] => some (some (rowsPre n n' row ∧ rowsPre m m' row'), bV (sameBB a b (sameS (sbOf a) n (fun i => gi (row i)) (sbOf b) m fun i => gi (row' i))))
    | some (a, .v (.slice none 0 0)), some (b, .sl 0 2 0 m _), [⟨2, m', row⟩] => some (some (rowsPre m m' row), bV (sameBB a b (eqSh (sbOf a) (sbOf b) && Nat.beq m 0)))
    | _, _, _ => none
  | _, _ => none
def sRSameB : List SV → List Ro → Option (Option Prop × SV)
  | [.agg x, .agg y], rs => match cellsOfB x, cellsOfB y, rs with
    | some (a, .sl 0 2 0 n _), some (b, .sl 1 2 0 m _), [⟨2, n', row⟩, ⟨2, m', row'⟩] => some (some (rowsPre n n' row ∧ rowsPre m m' row'), bV (sameBB a b (sameS (sbOf a) n (fun i => gi (row i)) (sbOf b) m fun i => gi (row' i))))
    | some (a, .sl 0 2 0 m _), some (b, .v (.slice none 0 0)), [⟨2, m', row⟩] => some (some (rowsPre m m' row), bV (sameBB a b (eqSh (sbOf a) (sbOf b) && Nat.beq m 0)))
    | _, _, _ => none
  | _, _ => none
def sameRB (k1 k2 e1 e2 : Int) (a b : RV) (s t : Bool) : Bool := (k1 == k2) && ((a.id == b.id) && ((e1 == e2) && ((a.bs == b.bs && a.bg == b.bg) && ((a.ver == b.ver) && ((a.gr == b.gr) && ((s) && ((t) && ((a.hit == b.hit && ((a.htv == b.htv && a.htf == b.htf) && ((a.x0v == b.x0v && a.x0f == b.x0f) && (a.x1v == b.x1v && a.x1f == b.x1f)))) && ((a.cnt == b.cnt))))))))))
def ΓSr0 : Ctrs := addCtr (addCtr noCtrs 81 (roCtr sSameB)) 82 (roCtr (orRo sEqual sEqualN))
def ΓSr1 : Ctrs := addCtr noCtrs 83 (roCtr sRSameB)
theorem vcSame_ww (k1 k2 e1 e2 : Int) (a b : RV) (n nc n' m mc m' p pc p' q qc q' : Nat) (g h u v : Nat→Int × Int) (R : SV→Prop) : (vcFn Try.prog ΓSr0 noΛ Try.f36 [reS k1 e1 a (.sl 0 2 0 n nc) (.sl 1 2 0 m mc),reS k2 e2 b (.sl 2 2 0 p pc) (.sl 3 2 0 q qc)] (roHeap [⟨2,n',rowsP g⟩,⟨2,m',rowsP h⟩,⟨2,p',rowsP u⟩,⟨2,q',rowsP v⟩]) 64 (fun y _ => R y)) = (sel (k1 == k2) (sel (RV.id a == RV.id b) (sel (e1 == e2) (sel (RV.bs a == RV.bs b&&RV.bg a == RV.bg b) (sel (RV.ver a == RV.ver b) (sel (RV.gr a == RV.gr b) (((rowsPre n n fun y => [SV.v (.int .i64 (Prod.fst (g (0 + y)))),SV.v (.int .i64 (Prod.snd (g (0 + y))))])∧(rowsPre p p fun y => [SV.v (.int .i64 (Prod.fst (u (0 + y)))),SV.v (.int .i64 (Prod.snd (u (0 + y))))]))∧(sel (sameBB (RV.o a) (RV.o b) (sameS (sbOf (RV.o a)) n (fun i => gi [SV.v (.int .i64 (Prod.fst (g (0 + i)))),SV.v (.int .i64 (Prod.snd (g (0 + i))))]) (sbOf (RV.o b)) p fun i => gi [SV.v (.int .i64 (Prod.fst (u (0 + i)))),SV.v (.int .i64 (Prod.snd (u (0 + i))))])) (((rowsPre m m fun y => [SV.v (.int .i64 (Prod.fst (h (0 + y)))),SV.v (.int .i64 (Prod.snd (h (0 + y))))])∧(rowsPre q q fun y => [SV.v (.int .i64 (Prod.fst (v (0 + y)))),SV.v (.int .i64 (Prod.snd (v (0 + y))))]))∧(sel (sameP m (fun i => gi [SV.v (.int .i64 (Prod.fst (h (0 + i)))),SV.v (.int .i64 (Prod.snd (h (0 + i))))]) q fun i => gi [SV.v (.int .i64 (Prod.fst (v (0 + i)))),SV.v (.int .i64 (Prod.snd (v (0 + i))))]) (sel (RV.hit a == RV.hit b&&(RV.htv a == RV.htv b&&RV.htf a == RV.htf b&&(RV.x0v a == RV.x0v b&&RV.x0f a == RV.x0f b&&(RV.x1v a == RV.x1v b&&RV.x1f a == RV.x1f b)))) (R (SV.v (.bool (RV.cnt a == RV.cnt b)))) (R (SV.v (.bool false)))) (R (SV.v (.bool false))))) (R (SV.v (.bool false))))) (R (SV.v (.bool false)))) (R (SV.v (.bool false)))) (R (SV.v (.bool false)))) (R (SV.v (.bool false)))) (R (SV.v (.bool false)))) (R (SV.v (.bool false)))):=by kernel_rfl
theorem vcRSame_ww (k1 k2 e1 e2 : Int) (a b : RV) (p pc p' q qc q' n nc n' m mc m' : Nat) (u v g h : Nat→Int × Int) (R : SV→Prop) : (vcFn Try.prog ΓSr1 (ΛEqual Try.f37 5 q v h) Try.f37 [reS k1 e1 a (.sl 0 2 0 p pc) (.sl 1 2 0 q qc),reS k2 e2 b (.sl 2 2 0 n nc) (.sl 3 2 0 m mc)] (roHeap [⟨2,p',rowsP u⟩,⟨2,q',rowsP v⟩,⟨2,n',rowsP g⟩,⟨2,m',rowsP h⟩]) 64 (fun y _ => R y)) = (((rowsPre p p fun y => [SV.v (.int .i64 (Prod.fst (u (0 + y)))),SV.v (.int .i64 (Prod.snd (u (0 + y))))])∧(rowsPre n n fun y => [SV.v (.int .i64 (Prod.fst (g (0 + y)))),SV.v (.int .i64 (Prod.snd (g (0 + y))))]))∧(sel (!sameBB (RV.o a) (RV.o b) (sameS (sbOf (RV.o a)) p (fun i => gi [SV.v (.int .i64 (Prod.fst (u (0 + i)))),SV.v (.int .i64 (Prod.snd (u (0 + i))))]) (sbOf (RV.o b)) n fun i => gi [SV.v (.int .i64 (Prod.fst (g (0 + i)))),SV.v (.int .i64 (Prod.snd (g (0 + i))))])) (R (SV.v (.bool false))) (sel ((↑q : Int) != (↑m : Int)) (R (SV.v (.bool false))) ((∃ x : Nat,((((x : Nat) ≤ q)∧(∀ j : Nat,(((j : Nat) < x)→(eqP (v j) (h j) = true))))∧(((SV.v (.int .i64 0)) = (SV.v (.int .i64 ((↑x : Int)))))∧True)))∧(∀ x : Nat,((((x : Nat) ≤ q)∧(∀ j : Nat,(((j : Nat) < x)→(eqP (v j) (h j) = true))))→(sel (decide ((↑x : Int) < (↑q : Int))) ((((0 : Int) ≤ ((↑x : Int)))∧((((↑x : Int)) : Int) < ((↑q : Int))))∧((((0 : Int) ≤ ((↑x : Int)))∧((((↑x : Int)) : Int) < ((↑m : Int))))∧(sel (!(Prod.fst (v (0 + Int.toNat (↑x : Int))) == Prod.fst (h (0 + Int.toNat (↑x : Int)))&&Prod.snd (v (0 + Int.toNat (↑x : Int))) == Prod.snd (h (0 + Int.toNat (↑x : Int))))) (R (SV.v (.bool false))) (∃ x' : Nat,(((((x' : Nat) ≤ q)∧(∀ j : Nat,(((j : Nat) < x')→(eqP (v j) (h j) = true))))∧(((SV.v (.int .i64 (IntKind.wrap IntKind.i64 ((↑x : Int) + 1)))) = (SV.v (.int .i64 ((↑x' : Int)))))∧True))∧(((q - x') : Nat) < (q - x))))))) (sel (k1 == k2) (sel (RV.id a == RV.id b) (sel (e1 == e2) (sel (RV.bs a == RV.bs b&&RV.bg a == RV.bg b) (sel (RV.ver a == RV.ver b) (sel (RV.gr a == RV.gr b) (sel (RV.hit a == RV.hit b&&(RV.htv a == RV.htv b&&RV.htf a == RV.htf b&&(RV.x0v a == RV.x0v b&&RV.x0f a == RV.x0f b&&(RV.x1v a == RV.x1v b&&RV.x1f a == RV.x1f b)))) (R (SV.v (.bool (RV.cnt a == RV.cnt b)))) (R (SV.v (.bool false)))) (R (SV.v (.bool false)))) (R (SV.v (.bool false)))) (R (SV.v (.bool false)))) (R (SV.v (.bool false)))) (R (SV.v (.bool false)))) (R (SV.v (.bool false))))))))))):=by kernel_rfl
theorem vcSame_nn (k1 k2 e1 e2 : Int) (a b : RV) (p pc p' q qc q' : Nat) (u v : Nat→Int × Int) (R : SV→Prop) : (vcFn Try.prog ΓSr0 noΛ Try.f36 [reS k1 e1 a (nilS) (nilS),reS k2 e2 b (.sl 0 2 0 p pc) (.sl 1 2 0 q qc)] (roHeap [⟨2,p',rowsP u⟩,⟨2,q',rowsP v⟩]) 64 (fun y _ => R y)) = (sel (k1 == k2) (sel (RV.id a == RV.id b) (sel (e1 == e2) (sel (RV.bs a == RV.bs b&&RV.bg a == RV.bg b) (sel (RV.ver a == RV.ver b) (sel (RV.gr a == RV.gr b) ((rowsPre p p fun y => [SV.v (.int .i64 (Prod.fst (u (0 + y)))),SV.v (.int .i64 (Prod.snd (u (0 + y))))])∧(sel (sameBB (RV.o a) (RV.o b) (eqSh (sbOf (RV.o a)) (sbOf (RV.o b))&&Nat.beq p 0)) ((rowsPre q q fun y => [SV.v (.int .i64 (Prod.fst (v (0 + y)))),SV.v (.int .i64 (Prod.snd (v (0 + y))))])∧(sel (Nat.beq q 0) (sel (RV.hit a == RV.hit b&&(RV.htv a == RV.htv b&&RV.htf a == RV.htf b&&(RV.x0v a == RV.x0v b&&RV.x0f a == RV.x0f b&&(RV.x1v a == RV.x1v b&&RV.x1f a == RV.x1f b)))) (R (SV.v (.bool (RV.cnt a == RV.cnt b)))) (R (SV.v (.bool false)))) (R (SV.v (.bool false))))) (R (SV.v (.bool false))))) (R (SV.v (.bool false)))) (R (SV.v (.bool false)))) (R (SV.v (.bool false)))) (R (SV.v (.bool false)))) (R (SV.v (.bool false)))) (R (SV.v (.bool false)))):=by kernel_rfl
theorem vcRSame_nn (k1 k2 e1 e2 : Int) (a b : RV) (p pc p' q qc q' : Nat) (u v : Nat→Int × Int) (R : SV→Prop) : (vcFn Try.prog ΓSr1 (ΛZ Try.f37 5) Try.f37 [reS k1 e1 a (.sl 0 2 0 p pc) (.sl 1 2 0 q qc),reS k2 e2 b (nilS) (nilS)] (roHeap [⟨2,p',rowsP u⟩,⟨2,q',rowsP v⟩]) 64 (fun y _ => R y)) = ((rowsPre p p fun y => [SV.v (.int .i64 (Prod.fst (u (0 + y)))),SV.v (.int .i64 (Prod.snd (u (0 + y))))])∧(sel (!sameBB (RV.o a) (RV.o b) (eqSh (sbOf (RV.o a)) (sbOf (RV.o b))&&Nat.beq p 0)) (R (SV.v (.bool false))) (sel ((↑q : Int) != 0) (R (SV.v (.bool false))) ((∃ x : Nat,(((x : Nat) = 0)∧(((SV.v (.int .i64 0)) = (SV.v (.int .i64 ((↑x : Int)))))∧True)))∧(∀ x : Nat,(((x : Nat) = 0)→(sel (decide ((↑x : Int) < (↑q : Int))) ((((0 : Int) ≤ ((↑x : Int)))∧((((↑x : Int)) : Int) < ((↑q : Int))))∧False) (sel (k1 == k2) (sel (RV.id a == RV.id b) (sel (e1 == e2) (sel (RV.bs a == RV.bs b&&RV.bg a == RV.bg b) (sel (RV.ver a == RV.ver b) (sel (RV.gr a == RV.gr b) (sel (RV.hit a == RV.hit b&&(RV.htv a == RV.htv b&&RV.htf a == RV.htf b&&(RV.x0v a == RV.x0v b&&RV.x0f a == RV.x0f b&&(RV.x1v a == RV.x1v b&&RV.x1f a == RV.x1f b)))) (R (SV.v (.bool (RV.cnt a == RV.cnt b)))) (R (SV.v (.bool false)))) (R (SV.v (.bool false)))) (R (SV.v (.bool false)))) (R (SV.v (.bool false)))) (R (SV.v (.bool false)))) (R (SV.v (.bool false)))) (R (SV.v (.bool false))))))))))):=by kernel_rfl
theorem vcSame_wn (k1 k2 e1 e2 : Int) (a b : RV) (n nc n' p pc p' q qc q' : Nat) (g u v : Nat→Int × Int) (R : SV→Prop) : (vcFn Try.prog ΓSr0 noΛ Try.f36 [reS k1 e1 a (.sl 0 2 0 n nc) (nilS),reS k2 e2 b (.sl 1 2 0 p pc) (.sl 2 2 0 q qc)] (roHeap [⟨2,n',rowsP g⟩,⟨2,p',rowsP u⟩,⟨2,q',rowsP v⟩]) 64 (fun y _ => R y)) = (sel (k1 == k2) (sel (RV.id a == RV.id b) (sel (e1 == e2) (sel (RV.bs a == RV.bs b&&RV.bg a == RV.bg b) (sel (RV.ver a == RV.ver b) (sel (RV.gr a == RV.gr b) (((rowsPre n n fun y => [SV.v (.int .i64 (Prod.fst (g (0 + y)))),SV.v (.int .i64 (Prod.snd (g (0 + y))))])∧(rowsPre p p fun y => [SV.v (.int .i64 (Prod.fst (u (0 + y)))),SV.v (.int .i64 (Prod.snd (u (0 + y))))]))∧(sel (sameBB (RV.o a) (RV.o b) (sameS (sbOf (RV.o a)) n (fun i => gi [SV.v (.int .i64 (Prod.fst (g (0 + i)))),SV.v (.int .i64 (Prod.snd (g (0 + i))))]) (sbOf (RV.o b)) p fun i => gi [SV.v (.int .i64 (Prod.fst (u (0 + i)))),SV.v (.int .i64 (Prod.snd (u (0 + i))))])) ((rowsPre q q fun y => [SV.v (.int .i64 (Prod.fst (v (0 + y)))),SV.v (.int .i64 (Prod.snd (v (0 + y))))])∧(sel (Nat.beq q 0) (sel (RV.hit a == RV.hit b&&(RV.htv a == RV.htv b&&RV.htf a == RV.htf b&&(RV.x0v a == RV.x0v b&&RV.x0f a == RV.x0f b&&(RV.x1v a == RV.x1v b&&RV.x1f a == RV.x1f b)))) (R (SV.v (.bool (RV.cnt a == RV.cnt b)))) (R (SV.v (.bool false)))) (R (SV.v (.bool false))))) (R (SV.v (.bool false))))) (R (SV.v (.bool false)))) (R (SV.v (.bool false)))) (R (SV.v (.bool false)))) (R (SV.v (.bool false)))) (R (SV.v (.bool false)))) (R (SV.v (.bool false)))):=by kernel_rfl
theorem vcRSame_wn (k1 k2 e1 e2 : Int) (a b : RV) (p pc p' q qc q' n nc n' : Nat) (u v g : Nat→Int × Int) (R : SV→Prop) : (vcFn Try.prog ΓSr1 (ΛZ Try.f37 5) Try.f37 [reS k1 e1 a (.sl 0 2 0 p pc) (.sl 1 2 0 q qc),reS k2 e2 b (.sl 2 2 0 n nc) (nilS)] (roHeap [⟨2,p',rowsP u⟩,⟨2,q',rowsP v⟩,⟨2,n',rowsP g⟩]) 64 (fun y _ => R y)) = (((rowsPre p p fun y => [SV.v (.int .i64 (Prod.fst (u (0 + y)))),SV.v (.int .i64 (Prod.snd (u (0 + y))))])∧(rowsPre n n fun y => [SV.v (.int .i64 (Prod.fst (g (0 + y)))),SV.v (.int .i64 (Prod.snd (g (0 + y))))]))∧(sel (!sameBB (RV.o a) (RV.o b) (sameS (sbOf (RV.o a)) p (fun i => gi [SV.v (.int .i64 (Prod.fst (u (0 + i)))),SV.v (.int .i64 (Prod.snd (u (0 + i))))]) (sbOf (RV.o b)) n fun i => gi [SV.v (.int .i64 (Prod.fst (g (0 + i)))),SV.v (.int .i64 (Prod.snd (g (0 + i))))])) (R (SV.v (.bool false))) (sel ((↑q : Int) != 0) (R (SV.v (.bool false))) ((∃ x : Nat,(((x : Nat) = 0)∧(((SV.v (.int .i64 0)) = (SV.v (.int .i64 ((↑x : Int)))))∧True)))∧(∀ x : Nat,(((x : Nat) = 0)→(sel (decide ((↑x : Int) < (↑q : Int))) ((((0 : Int) ≤ ((↑x : Int)))∧((((↑x : Int)) : Int) < ((↑q : Int))))∧False) (sel (k1 == k2) (sel (RV.id a == RV.id b) (sel (e1 == e2) (sel (RV.bs a == RV.bs b&&RV.bg a == RV.bg b) (sel (RV.ver a == RV.ver b) (sel (RV.gr a == RV.gr b) (sel (RV.hit a == RV.hit b&&(RV.htv a == RV.htv b&&RV.htf a == RV.htf b&&(RV.x0v a == RV.x0v b&&RV.x0f a == RV.x0f b&&(RV.x1v a == RV.x1v b&&RV.x1f a == RV.x1f b)))) (R (SV.v (.bool (RV.cnt a == RV.cnt b)))) (R (SV.v (.bool false)))) (R (SV.v (.bool false)))) (R (SV.v (.bool false)))) (R (SV.v (.bool false)))) (R (SV.v (.bool false)))) (R (SV.v (.bool false)))) (R (SV.v (.bool false))))))))))):=by kernel_rfl
theorem vcSame_nw (k1 k2 e1 e2 : Int) (a b : RV) (m mc m' p pc p' q qc q' : Nat) (h u v : Nat→Int × Int) (R : SV→Prop) : (vcFn Try.prog ΓSr0 noΛ Try.f36 [reS k1 e1 a (nilS) (.sl 0 2 0 m mc),reS k2 e2 b (.sl 1 2 0 p pc) (.sl 2 2 0 q qc)] (roHeap [⟨2,m',rowsP h⟩,⟨2,p',rowsP u⟩,⟨2,q',rowsP v⟩]) 64 (fun y _ => R y)) = (sel (k1 == k2) (sel (RV.id a == RV.id b) (sel (e1 == e2) (sel (RV.bs a == RV.bs b&&RV.bg a == RV.bg b) (sel (RV.ver a == RV.ver b) (sel (RV.gr a == RV.gr b) ((rowsPre p p fun y => [SV.v (.int .i64 (Prod.fst (u (0 + y)))),SV.v (.int .i64 (Prod.snd (u (0 + y))))])∧(sel (sameBB (RV.o a) (RV.o b) (eqSh (sbOf (RV.o a)) (sbOf (RV.o b))&&Nat.beq p 0)) (((rowsPre m m fun y => [SV.v (.int .i64 (Prod.fst (h (0 + y)))),SV.v (.int .i64 (Prod.snd (h (0 + y))))])∧(rowsPre q q fun y => [SV.v (.int .i64 (Prod.fst (v (0 + y)))),SV.v (.int .i64 (Prod.snd (v (0 + y))))]))∧(sel (sameP m (fun i => gi [SV.v (.int .i64 (Prod.fst (h (0 + i)))),SV.v (.int .i64 (Prod.snd (h (0 + i))))]) q fun i => gi [SV.v (.int .i64 (Prod.fst (v (0 + i)))),SV.v (.int .i64 (Prod.snd (v (0 + i))))]) (sel (RV.hit a == RV.hit b&&(RV.htv a == RV.htv b&&RV.htf a == RV.htf b&&(RV.x0v a == RV.x0v b&&RV.x0f a == RV.x0f b&&(RV.x1v a == RV.x1v b&&RV.x1f a == RV.x1f b)))) (R (SV.v (.bool (RV.cnt a == RV.cnt b)))) (R (SV.v (.bool false)))) (R (SV.v (.bool false))))) (R (SV.v (.bool false))))) (R (SV.v (.bool false)))) (R (SV.v (.bool false)))) (R (SV.v (.bool false)))) (R (SV.v (.bool false)))) (R (SV.v (.bool false)))) (R (SV.v (.bool false)))):=by kernel_rfl
theorem vcRSame_nw (k1 k2 e1 e2 : Int) (a b : RV) (p pc p' q qc q' m mc m' : Nat) (u v h : Nat→Int × Int) (R : SV→Prop) : (vcFn Try.prog ΓSr1 (ΛEqual Try.f37 5 q v h) Try.f37 [reS k1 e1 a (.sl 0 2 0 p pc) (.sl 1 2 0 q qc),reS k2 e2 b (nilS) (.sl 2 2 0 m mc)] (roHeap [⟨2,p',rowsP u⟩,⟨2,q',rowsP v⟩,⟨2,m',rowsP h⟩]) 64 (fun y _ => R y)) = ((rowsPre p p fun y => [SV.v (.int .i64 (Prod.fst (u (0 + y)))),SV.v (.int .i64 (Prod.snd (u (0 + y))))])∧(sel (!sameBB (RV.o a) (RV.o b) (eqSh (sbOf (RV.o a)) (sbOf (RV.o b))&&Nat.beq p 0)) (R (SV.v (.bool false))) (sel ((↑q : Int) != (↑m : Int)) (R (SV.v (.bool false))) ((∃ x : Nat,((((x : Nat) ≤ q)∧(∀ j : Nat,(((j : Nat) < x)→(eqP (v j) (h j) = true))))∧(((SV.v (.int .i64 0)) = (SV.v (.int .i64 ((↑x : Int)))))∧True)))∧(∀ x : Nat,((((x : Nat) ≤ q)∧(∀ j : Nat,(((j : Nat) < x)→(eqP (v j) (h j) = true))))→(sel (decide ((↑x : Int) < (↑q : Int))) ((((0 : Int) ≤ ((↑x : Int)))∧((((↑x : Int)) : Int) < ((↑q : Int))))∧((((0 : Int) ≤ ((↑x : Int)))∧((((↑x : Int)) : Int) < ((↑m : Int))))∧(sel (!(Prod.fst (v (0 + Int.toNat (↑x : Int))) == Prod.fst (h (0 + Int.toNat (↑x : Int)))&&Prod.snd (v (0 + Int.toNat (↑x : Int))) == Prod.snd (h (0 + Int.toNat (↑x : Int))))) (R (SV.v (.bool false))) (∃ x' : Nat,(((((x' : Nat) ≤ q)∧(∀ j : Nat,(((j : Nat) < x')→(eqP (v j) (h j) = true))))∧(((SV.v (.int .i64 (IntKind.wrap IntKind.i64 ((↑x : Int) + 1)))) = (SV.v (.int .i64 ((↑x' : Int)))))∧True))∧(((q - x') : Nat) < (q - x))))))) (sel (k1 == k2) (sel (RV.id a == RV.id b) (sel (e1 == e2) (sel (RV.bs a == RV.bs b&&RV.bg a == RV.bg b) (sel (RV.ver a == RV.ver b) (sel (RV.gr a == RV.gr b) (sel (RV.hit a == RV.hit b&&(RV.htv a == RV.htv b&&RV.htf a == RV.htf b&&(RV.x0v a == RV.x0v b&&RV.x0f a == RV.x0f b&&(RV.x1v a == RV.x1v b&&RV.x1f a == RV.x1f b)))) (R (SV.v (.bool (RV.cnt a == RV.cnt b)))) (R (SV.v (.bool false)))) (R (SV.v (.bool false)))) (R (SV.v (.bool false)))) (R (SV.v (.bool false)))) (R (SV.v (.bool false)))) (R (SV.v (.bool false)))) (R (SV.v (.bool false))))))))))):=by kernel_rfl
end Go.Proofs.Ytjdldadmaaeimaa
end

section
set_option maxRecDepth 100000
set_option linter.unusedSimpArgs false
set_option linter.unusedVariables false
namespace Go.Proofs.Ytjdldadmaaeimaa
open Go.SE Go.RowKit
theorem EqualH_spec : RoSpec Try.prog 82 sEqual := ro_spec hm noCtrs_ok Try.func82 (Λ := fun args bs => match args, bs with | [.sl 0 2 0 n _, .sl 1 2 0 m _], [⟨2, _, row⟩, ⟨2, _, row'⟩] => ΛEqual Try.f82 13 n (fun i => gi (row i)) (fun i => gi (row' i)) | _, _ => noΛ) fun args bs p x h hp => by
  unfold sEqual at h
  split at h <;> try (cases h; done)
  rename_i n c m d n' row m' row'
  cases h
  obtain ⟨⟨h0, rfl, hn⟩, k0, rfl, hm'⟩ := hp _ rfl
  have h0 := okAll_rows.1 h0
  have k0 := okAll_rows.1 k0
  refine ⟨rfl, [⟨2, n', rowsP fun i => gi (row i)⟩, ⟨2, m', rowsP fun i => gi (row' i)⟩], ⟨⟨rfl, rfl, fun i hi => (isPI_row (h0 i hi)).1⟩, ⟨rfl, rfl, fun i hi => (isPI_row (k0 i hi)).1⟩, trivial⟩, ?_⟩
  refine Eq.mpr (vcEqualH n' n' c m' m' d (fun i => gi (row i)) (fun i => gi (row' i)) _) ?_
  exact equal_tail hn hm'
theorem EqualNH_spec : RoSpec Try.prog 82 sEqualN := ro_spec hm noCtrs_ok Try.func82 (Λ := fun _ _ => ΛZ Try.f82 13) fun args bs p x h hp => by
  unfold sEqualN at h
  split at h <;> try (cases h; done)
  rename_i m d m' row
  cases h
  obtain ⟨h0, rfl, hn⟩ := hp _ rfl
  have h0 := okAll_rows.1 h0
  refine ⟨rfl, [⟨2, m', rowsP fun i => gi (row i)⟩], ⟨⟨rfl, rfl, fun i hi => (isPI_row (h0 i hi)).1⟩, trivial⟩, ?_⟩
  refine Eq.mpr (vcEqualNH m' m' d (fun i => gi (row i)) _) (sel_of (fun e => bool_mk ?_) fun e => ⟨⟨0, rfl, rfl, trivial⟩, fun _ _ => bool_mk ?_⟩)
  · refine (Go.SE.beq_false fun e0 => ?_).symm
    rw [e0] at e; cases e
  · have : m' = 0 := by
      have : ((0 : Int) != (m' : Int)) = false := e
      simp at this; omega
    rw [this]; rfl
theorem ΓV0_ok : ∀ f g, ΓV0 f = some g → g.ok Try.prog f := addCtr_ok noCtrs_ok (ro_ok Try.func72 (by kernel_rfl) (by kernel_rfl) (ro_or SameS_spec SameN_spec))
theorem ΓV1_ok : ∀ f g, ΓV1 f = some g → g.ok Try.prog f := addCtr_ok noCtrs_ok (ro_ok Try.func76 (by kernel_rfl) (by kernel_rfl) (ro_or RSameS_spec RSameN_spec))
theorem sameB_ww (a b : BV) (n c m d : Nat) (g h : Nat → Int × Int) (hn : n < 1099511627776) (hg : ∀ i, i < n → I64 (g i).1 ∧ I64 (g i).2) (hm : m < 1099511627776) (hh : ∀ i, i < m → I64 (h i).1 ∧ I64 (h i).2) : vcFn Try.prog ΓV0 noΛ Try.f81 [boS a (.sl 0 2 0 n c), boS b (.sl 1 2 0 m d)] (roHeap [⟨2, n, rowsP g⟩, ⟨2, m, rowsP h⟩]) 64 (fun y _ => y = bV (sameBB a b (sameS (sbOf a) n g (sbOf b) m h))) := by
  refine Eq.mpr (vcSameB a b n c n m d m g h _) ?_
  rw [gi_rows0 g, gi_rows0 h]
  unfold sameBB bodB
  refine sel_of (fun e => ⟨⟨pre_rows hn hg, pre_rows hm hh⟩, ?_⟩) fun e => by rw [e]; rfl
  rw [e, Bool.true_and]
  rfl
theorem sameB_nw (a b : BV) (m d : Nat) (h : Nat → Int × Int) (hm : m < 1099511627776) (hh : ∀ i, i < m → I64 (h i).1 ∧ I64 (h i).2) : vcFn Try.prog ΓV0 noΛ Try.f81 [boS a nilS, boS b (.sl 0 2 0 m d)] (roHeap [⟨2, m, rowsP h⟩]) 64 (fun y _ => y = bV (sameBB a b (eqSh (sbOf a) (sbOf b) && Nat.beq m 0))) := by
  refine Eq.mpr (vcSameBN a b m d m h _) ?_
  unfold sameBB bodB
  refine sel_of (fun e => ⟨pre_rows hm hh, ?_⟩) fun e => by rw [e]; rfl
  rw [e, Bool.true_and]
  rfl
theorem rsameB_ww (a b : BV) (n c m d : Nat) (g h : Nat → Int × Int) (hn : n < 1099511627776) (hg : ∀ i, i < n → I64 (g i).1 ∧ I64 (g i).2) (hm : m < 1099511627776) (hh : ∀ i, i < m → I64 (h i).1 ∧ I64 (h i).2) : vcFn Try.prog ΓV1 noΛ Try.f83 [boS a (.sl 0 2 0 n c), boS b (.sl 1 2 0 m d)] (roHeap [⟨2, n, rowsP g⟩, ⟨2, m, rowsP h⟩]) 64 (fun y _ => y = bV (sameBB a b (sameS (sbOf a) n g (sbOf b) m h))) := by
  refine Eq.mpr (vcRSameB a b n c n m d m g h _) ?_
  rw [gi_rows0 g, gi_rows0 h]
  refine ⟨⟨pre_rows hn hg, pre_rows hm hh⟩, ?_⟩
  unfold sameBB sbOf
  generalize sameS { k := BV.sk a, r := BV.sr a, w := BV.sw a, h := BV.sh a } n g { k := BV.sk b, r := BV.sr b, w := BV.sw b, h := BV.sh b } m h = s
  cases s with
  | false => exact sel_of (fun e => by cases e) fun _ => by rw [Bool.and_false]; rfl
  | true =>
  refine sel_of (fun _ => ?_) fun e => by cases e
  unfold bodB
  rw [Bool.and_true]
  refine sel_of (fun e => ?_) fun e => by rw [e]; rfl
  rw [e, Bool.true_and]
  refine sel_of (fun e => ?_) fun e => by rw [e]; rfl
  rw [e, Bool.true_and]
  refine sel_of (fun e => ?_) fun e => by rw [e]; rfl
  rw [e, Bool.true_and]
  refine sel_of (fun e => ?_) fun e => by rw [e]; rfl
  rw [e, Bool.true_and]
  refine sel_of (fun e => ?_) fun e => by rw [e]; rfl
  rw [e, Bool.true_and]
  refine sel_of (fun e => ?_) fun e => by rw [e]; rfl
  rw [e, Bool.true_and]
  refine sel_of (fun e => ?_) fun e => by rw [e]; rfl
  rw [e, Bool.true_and]
  rfl
theorem rsameB_wn (a b : BV) (m d : Nat) (h : Nat → Int × Int) (hm : m < 1099511627776) (hh : ∀ i, i < m → I64 (h i).1 ∧ I64 (h i).2) : vcFn Try.prog ΓV1 noΛ Try.f83 [boS a (.sl 0 2 0 m d), boS b nilS] (roHeap [⟨2, m, rowsP h⟩]) 64 (fun y _ => y = bV (sameBB a b (eqSh (sbOf a) (sbOf b) && Nat.beq m 0))) := by
  refine Eq.mpr (vcRSameBN a b m d m h _) ?_
  refine ⟨pre_rows hm hh, ?_⟩
  unfold sameBB sbOf
  generalize (eqSh { k := BV.sk a, r := BV.sr a, w := BV.sw a, h := BV.sh a } { k := BV.sk b, r := BV.sr b, w := BV.sw b, h := BV.sh b } && Nat.beq m 0) = s
  cases s with
  | false => exact sel_of (fun e => by cases e) fun _ => by rw [Bool.and_false]; rfl
  | true =>
  refine sel_of (fun _ => ?_) fun e => by cases e
  unfold bodB
  rw [Bool.and_true]
  refine sel_of (fun e => ?_) fun e => by rw [e]; rfl
  rw [e, Bool.true_and]
  refine sel_of (fun e => ?_) fun e => by rw [e]; rfl
  rw [e, Bool.true_and]
  refine sel_of (fun e => ?_) fun e => by rw [e]; rfl
  rw [e, Bool.true_and]
  refine sel_of (fun e => ?_) fun e => by rw [e]; rfl
  rw [e, Bool.true_and]
  refine sel_of (fun e => ?_) fun e => by rw [e]; rfl
  rw [e, Bool.true_and]
  refine sel_of (fun e => ?_) fun e => by rw [e]; rfl
  rw [e, Bool.true_and]
  refine sel_of (fun e => ?_) fun e => by rw [e]; rfl
  rw [e, Bool.true_and]
  rfl
theorem SameB_spec : RoSpec Try.prog 81 sSameB := ro_spec hm ΓV0_ok Try.func81 (Λ := fun _ _ => noΛ) fun args bs p x hs hp => by
  unfold sSameB at hs
  split at hs
  · rename_i x y rs
    split at hs
    · rename_i a n c b m d n' row m' row' hx hy
      cases hs
      obtain ⟨⟨h0, rfl, hn⟩, k0, rfl, hm'⟩ := hp _ rfl
      have h0 := okAll_rows.1 h0
      have k0 := okAll_rows.1 k0
      refine ⟨rfl, [⟨2, n', rowsP fun i => gi (row i)⟩, ⟨2, m', rowsP fun i => gi (row' i)⟩], ⟨⟨rfl, rfl, fun i hi => (isPI_row (h0 i hi)).1⟩, ⟨rfl, rfl, fun i hi => (isPI_row (k0 i hi)).1⟩, trivial⟩, ?_⟩
      rw [bods_eq hx, bods_eq hy]
      exact sameB_ww a b n' c m' d _ _ hn (fun i hi => (isPI_row (h0 i hi)).2) hm' fun i hi => (isPI_row (k0 i hi)).2
    · rename_i a b m d m' row hx hy
      cases hs
      obtain ⟨h0, rfl, hn⟩ := hp _ rfl
      have h0 := okAll_rows.1 h0
      refine ⟨rfl, [⟨2, m', rowsP fun i => gi (row i)⟩], ⟨⟨rfl, rfl, fun i hi => (isPI_row (h0 i hi)).1⟩, trivial⟩, ?_⟩
      rw [bods_eq hx, bods_eq hy]
      exact sameB_nw a b m' d _ hn fun i hi => (isPI_row (h0 i hi)).2
    · cases hs
  · cases hs
theorem RSameB_spec : RoSpec Try.prog 83 sRSameB := ro_spec hm ΓV1_ok Try.func83 (Λ := fun _ _ => noΛ) fun args bs p x hs hp => by
  unfold sRSameB at hs
  split at hs
  · rename_i x y rs
    split at hs
    · rename_i a n c b m d n' row m' row' hx hy
      cases hs
      obtain ⟨⟨h0, rfl, hn⟩, k0, rfl, hm'⟩ := hp _ rfl
      have h0 := okAll_rows.1 h0
      have k0 := okAll_rows.1 k0
      refine ⟨rfl, [⟨2, n', rowsP fun i => gi (row i)⟩, ⟨2, m', rowsP fun i => gi (row' i)⟩], ⟨⟨rfl, rfl, fun i hi => (isPI_row (h0 i hi)).1⟩, ⟨rfl, rfl, fun i hi => (isPI_row (k0 i hi)).1⟩, trivial⟩, ?_⟩
      rw [bods_eq hx, bods_eq hy]
      exact rsameB_ww a b n' c m' d _ _ hn (fun i hi => (isPI_row (h0 i hi)).2) hm' fun i hi => (isPI_row (k0 i hi)).2
    · rename_i a m d b m' row hx hy
      cases hs
      obtain ⟨h0, rfl, hn⟩ := hp _ rfl
      have h0 := okAll_rows.1 h0
      refine ⟨rfl, [⟨2, m', rowsP fun i => gi (row i)⟩], ⟨⟨rfl, rfl, fun i hi => (isPI_row (h0 i hi)).1⟩, trivial⟩, ?_⟩
      rw [bods_eq hx, bods_eq hy]
      exact rsameB_wn a b m' d _ hn fun i hi => (isPI_row (h0 i hi)).2
    · cases hs
  · cases hs
end Go.Proofs.Ytjdldadmaaeimaa
end
