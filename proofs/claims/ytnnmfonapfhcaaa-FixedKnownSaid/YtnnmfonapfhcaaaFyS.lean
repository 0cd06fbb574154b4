/-
  Contracts: prefixes, figures, bits of a fraction, numbers read.
-/
import Derived.Test.YtnnmfonapfhcaaaFyR
set_option maxRecDepth 100000
set_option linter.unusedSimpArgs false
set_option linter.unusedVariables false
namespace Go.Proofs.Ytnnmfonapfhcaaa
open Go.SE Go.RowKit

/-- x, but nobody can look into it by reckoning. -/
noncomputable def hid {α : Type} (x : α) : α := Classical.choose (⟨x, rfl⟩ : ∃ y, y = x)
theorem hid_eq {α : Type} (x : α) : hid x = x := Classical.choose_spec (⟨x, rfl⟩ : ∃ y, y = x)
noncomputable def preB (s p : ByteArray) : Bool := @decide (p.size ≤ s.size ∧ s.extract 0 p.size = p) (Classical.propDecidable _)
noncomputable def sHasPre : List SV → Option (Option Prop × SV)
  | [.v (.string s), .v (.string p)] => some (none, .v (.bool (preB s p)))
  | _ => none
noncomputable def cutS (s p : ByteArray) : ByteArray := hid (bif preB s p then s.extract p.size s.size else s)
noncomputable def sCutPre : List SV → Option (Option Prop × SV)
  | [.v (.string s), .v (.string p)] => some (none, .tup [.v (.string (cutS s p)), .v (.bool (preB s p))])
  | _ => none
def figN (s : ByteArray) : Nat := digN (byt s)
noncomputable def figA (s : ByteArray) : ByteArray := hid (s.extract 0 (figN s))
noncomputable def figZ (s : ByteArray) : ByteArray := hid (s.extract (figN s) s.size)
noncomputable def sFigures : List SV → Option (Option Prop × SV)
  | [.v (.string s)] => some (some (s.size < 1099511627776), .tup [.v (.string (figA s)), .v (.string (figZ s))])
  | _ => none
noncomputable def sBits32 : List SV → Option (Option Prop × SV)
  | [.v (.string s)] => some (some (s.size < 1099511627776 ∧ ∀ x ∈ byt s, isDig x = true), .v (.int .u64 (hid (bits32N (byt s)))))
  | _ => none
noncomputable def ΛFig (s : ByteArray) : Nat → Option LoopSpec := addLoop noΛ Try.f99 0 Nat (fun k => k ≤ figN s) (fun k => figN s - k) [(4, fun k => .v (.int .i64 k))] []
def digB (L : Nat) (f : Nat → Nat) : Blk := { elem := 0, size := 1, rw := true, lock := false, lit := false, flat := true, n := L, row := fun i => [.v (.int .u8 (48 + (f i : Int)))] }
def intS : SV → Int
  | .v (.int _ n) => n
  | _ => -1
def dblTo (g : Nat → Nat) (L m j : Nat) : Nat := if L - m ≤ j then dbl g L j else g j
noncomputable def ΛBits (L : Nat) (g : Nat → Nat) : Nat → Option LoopSpec :=
  addLoopR (addLoop noΛ Try.f100 0 Nat (fun t => t ≤ 32) (fun t => 32 - t) [(10, fun t => .v (.int .i64 t)), (4, fun t => .v (.int .u64 (outs g L t)))] [(80, fun t => digB L (dgs g L t))])
    Try.f100 2 (Nat × Nat) (fun x => x.1 < 32 ∧ x.2 ≤ L) (fun s x => intS (s.tmps.getD 10 .unk) = (x.1 : Int)) (fun x => L - x.2) [(5, fun x => .v (.int .u8 (cry (dgs g L x.1) L x.2))), (6, fun x => .v (.int .i64 ((L : Int) - 1 - x.2)))] [(80, fun x => digB L (dblTo (dgs g L x.1) L x.2))]
theorem vcHasPre (s p : ByteArray) (R : SV → Prop) : (vcPure Try.prog noCtrs noΛ Try.f119 [.v (.string s), .v (.string p)] R) =

(sel (decide ((↑(ByteArray.size s) : Int) ≥ (↑(ByteArray.size p) : Int))) ((((0 : Int) ≤ 0) ∧ (((0 : Int) ≤ (Option.getD (some (↑(ByteArray.size p) : Int)) (↑(ByteArray.size s) : Int))) ∧ (((Option.getD (some (↑(ByteArray.size p) : Int)) (↑(ByteArray.size s) : Int)) : Int) ≤ ((↑(ByteArray.size s) : Int))))) ∧ (R (SV.v (Value.bool (ByteArray.extract s 0 (Int.toNat (Option.getD (some (↑(ByteArray.size p) : Int)) (↑(ByteArray.size s) : Int))) == p))))) (R (SV.v (Value.bool false)))) := by kernel_rfl
noncomputable def ΓQ0 : Ctrs := addCtr noCtrs 119 (pureCtr sHasPre)
theorem vcCutPre0 (s p : ByteArray) (R : SV → Prop) : (vcPure Try.prog ΓQ0 noΛ Try.f115 [.v (.string s), .v (.string p)] R) =

(sel (!preB s p) (R (SV.tup [(SV.v (Value.string s)), (SV.v (Value.bool false))])) ((((0 : Int) ≤ (Option.getD (some (↑(ByteArray.size p) : Int)) 0)) ∧ ((((Option.getD (some (↑(ByteArray.size p) : Int)) 0) : Int) ≤ (Option.getD none (↑(ByteArray.size s) : Int))) ∧ (((Option.getD none (↑(ByteArray.size s) : Int)) : Int) ≤ ((↑(ByteArray.size s) : Int))))) ∧ (R (SV.tup [(SV.v (Value.string (ByteArray.extract s (Int.toNat (Option.getD (some (↑(ByteArray.size p) : Int)) 0)) (Int.toNat (Option.getD none (↑(ByteArray.size s) : Int)))))), (SV.v (Value.bool true))])))) := by kernel_rfl
noncomputable def ΓQ1 : Ctrs := addCtr noCtrs 115 (pureCtr sCutPre)
theorem vcCutPre (s p : ByteArray) (R : SV → Prop) : (vcPure Try.prog ΓQ1 noΛ Try.f98 [.v (.string s), .v (.string p)] R) =
(R (SV.tup [(SV.v (Value.string (cutS s p))), (SV.v (Value.bool (preB s p)))])) := by kernel_rfl
theorem vcFigures (s : ByteArray) (R : SV → Prop) : (vcPure Try.prog noCtrs (ΛFig s) Try.f99 [.v (.string s)] R) =
((∃ x : Nat, ((Nat.le x (figN s)) ∧ (((SV.v (Value.int IntKind.i64 0)) = (SV.v (Value.int IntKind.i64 ((↑x : Int))))) ∧ True))) ∧ (∀ x : Nat, ((Nat.le x (figN s)) → 
(sel (decide ((↑x : Int) < (↑(ByteArray.size s) : Int))) ((((0 : Int) ≤ ((↑x : Int))) ∧ ((((↑x : Int)) : Int) < ((↑(ByteArray.size s) : Int)))) ∧ 
(sel (decide ((↑(UInt8.toNat (List.getD (Array.toList (ByteArray.data s)) (Int.toNat (↑x : Int)) 0)) : Int) ≥ 48)) ((((0 : Int) ≤ ((↑x : Int))) ∧ ((((↑x : Int)) : Int) < ((↑(ByteArray.size s) : Int)))) ∧ 
(sel (decide ((↑(UInt8.toNat (List.getD (Array.toList (ByteArray.data s)) (Int.toNat (↑x : Int)) 0)) : Int) ≤ 57)) (∃ x' : Nat, (((Nat.le x' (figN s)) ∧ (((SV.v (Value.int IntKind.i64 (IntKind.wrap IntKind.i64 ((↑x : Int) + 1)))) = (SV.v (Value.int IntKind.i64 ((↑x' : Int))))) ∧ True)) ∧ (((figN s - x') : Nat) < (figN s - x)))) ((((0 : Int) ≤ 0) ∧ (((0 : Int) ≤ (Option.getD (some (↑x : Int)) (↑(ByteArray.size s) : Int))) ∧ (((Option.getD (some (↑x : Int)) (↑(ByteArray.size s) : Int)) : Int) ≤ ((↑(ByteArray.size s) : Int))))) ∧ ((((0 : Int) ≤ (Option.getD (some (↑x : Int)) 0)) ∧ ((((Option.getD (some (↑x : Int)) 0) : Int) ≤ (Option.getD none (↑(ByteArray.size s) : Int))) ∧ (((Option.getD none (↑(ByteArray.size s) : Int)) : Int) ≤ ((↑(ByteArray.size s) : Int))))) ∧ (R (SV.tup [(SV.v (Value.string (ByteArray.extract s 0 (Int.toNat (Option.getD (some (↑x : Int)) (↑(ByteArray.size s) : Int)))))), (SV.v (Value.string (ByteArray.extract s (Int.toNat (Option.getD (some (↑x : Int)) 0)) (Int.toNat (Option.getD none (↑(ByteArray.size s) : Int))))))])))))) ((((0 : Int) ≤ 0) ∧ (((0 : Int) ≤ (Option.getD (some (↑x : Int)) (↑(ByteArray.size s) : Int))) ∧ (((Option.getD (some (↑x : Int)) (↑(ByteArray.size s) : Int)) : Int) ≤ ((↑(ByteArray.size s) : Int))))) ∧ ((((0 : Int) ≤ (Option.getD (some (↑x : Int)) 0)) ∧ ((((Option.getD (some (↑x : Int)) 0) : Int) ≤ (Option.getD none (↑(ByteArray.size s) : Int))) ∧ (((Option.getD none (↑(ByteArray.size s) : Int)) : Int) ≤ ((↑(ByteArray.size s) : Int))))) ∧ (R (SV.tup [(SV.v (Value.string (ByteArray.extract s 0 (Int.toNat (Option.getD (some (↑x : Int)) (↑(ByteArray.size s) : Int)))))), (SV.v (Value.string (ByteArray.extract s (Int.toNat (Option.getD (some (↑x : Int)) 0)) (Int.toNat (Option.getD none (↑(ByteArray.size s) : Int))))))])))))) ((((0 : Int) ≤ 0) ∧ (((0 : Int) ≤ (Option.getD (some (↑x : Int)) (↑(ByteArray.size s) : Int))) ∧ (((Option.getD (some (↑x : Int)) (↑(ByteArray.size s) : Int)) : Int) ≤ ((↑(ByteArray.size s) : Int))))) ∧ ((((0 : Int) ≤ (Option.getD (some (↑x : Int)) 0)) ∧ ((((Option.getD (some (↑x : Int)) 0) : Int) ≤ (Option.getD none (↑(ByteArray.size s) : Int))) ∧ (((Option.getD none (↑(ByteArray.size s) : Int)) : Int) ≤ ((↑(ByteArray.size s) : Int))))) ∧ (R (SV.tup [(SV.v (Value.string (ByteArray.extract s 0 (Int.toNat (Option.getD (some (↑x : Int)) (↑(ByteArray.size s) : Int)))))), (SV.v (Value.string (ByteArray.extract s (Int.toNat (Option.getD (some (↑x : Int)) 0)) (Int.toNat (Option.getD none (↑(ByteArray.size s) : Int))))))])))))))) := by kernel_rfl
theorem vcBits32 (s : ByteArray) (L : Nat) (g : Nat → Nat) (R : SV → Prop) : (vcPure Try.prog noCtrs (ΛBits L g) Try.f100 [.v (.string s)] R) =
(True ∧ (∀ c : Nat, ((∃ x : Nat, ((Nat.le x 32) ∧ ((((SV.v (Value.int IntKind.i64 0)) = (SV.v (Value.int IntKind.i64 ((↑x : Int))))) ∧ ((SV.v (Value.int IntKind.u64 0)) = (SV.v (Value.int IntKind.u64 ((↑(outs g L x) : Int)))))) ∧ ((((ByteArray.size s) : Nat) = L) ∧ (((L : Nat) ≤ (ByteArray.size s + c)) ∧ (∀ i : Nat, (((i : Nat) < L) → ([(SV.v (Value.int IntKind.u8 ((↑(UInt8.toNat (List.getD (Array.toList (ByteArray.data s)) i 0)) : Int))))] = [(SV.v (Value.int IntKind.u8 (48 + (↑(dgs g L x i) : Int))))])))))))) ∧ (∀ x : Nat, ((Nat.le x 32) → 
(sel (decide ((↑x : Int) < 32)) ((∃ x_1 : (Nat × Nat), ((((((Prod.fst x_1) : Nat) < 32) ∧ (((Prod.snd x_1) : Nat) ≤ L)) ∧ (((intS (SV.v (Value.int IntKind.i64 (↑x : Int)))) : Int) = ((↑(Prod.fst x_1) : Int)))) ∧ ((((SV.v (Value.int IntKind.u8 0)) = (SV.v (Value.int IntKind.u8 ((↑(cry (dgs g L (Prod.fst x_1)) L (Prod.snd x_1)) : Int))))) ∧ ((SV.v (Value.int IntKind.i64 (IntKind.wrap IntKind.i64 ((↑(ByteArray.size s) : Int) - 1)))) = (SV.v (Value.int IntKind.i64 ((↑L : Int) - 1 - (↑(Prod.snd x_1) : Int)))))) ∧ (((L : Nat) = L) ∧ (((L : Nat) ≤ L) ∧ (∀ i : Nat, (((i : Nat) < L) → ([(SV.v (Value.int IntKind.u8 (48 + (↑(dgs g L x i) : Int))))] = [(SV.v (Value.int IntKind.u8 (48 + (↑(dblTo (dgs g L (Prod.fst x_1)) L (Prod.snd x_1) i) : Int))))])))))))) ∧ (∀ x_1 : (Nat × Nat), ((((((Prod.fst x_1) : Nat) < 32) ∧ (((Prod.snd x_1) : Nat) ≤ L)) ∧ (((intS (SV.v (Value.int IntKind.i64 (↑x : Int)))) : Int) = ((↑(Prod.fst x_1) : Int)))) → 
(sel (decide ((↑L : Int) - 1 - (↑(Prod.snd x_1) : Int) ≥ 0)) ((((0 : Int) ≤ ((↑L : Int) - 1 - (↑(Prod.snd x_1) : Int))) ∧ ((((↑L : Int) - 1 - (↑(Prod.snd x_1) : Int)) : Int) < ((↑(ByteArray.size s) : Int)))) ∧ ((((0 : Int) ≤ ((↑L : Int) - 1 - (↑(Prod.snd x_1) : Int))) ∧ ((((↑L : Int) - 1 - (↑(Prod.snd x_1) : Int)) : Int) < ((↑(ByteArray.size s) : Int)))) ∧ (∃ x' : (Nat × Nat), (((((((Prod.fst x') : Nat) < 32) ∧ (((Prod.snd x') : Nat) ≤ L)) ∧ (((intS (SV.v (Value.int IntKind.i64 (↑x : Int)))) : Int) = ((↑(Prod.fst x') : Int)))) ∧ ((((SV.v (Value.int IntKind.u8 (IntKind.wrap IntKind.u8 (Int.tdiv (IntKind.wrap IntKind.u8 (IntKind.wrap IntKind.u8 (2 * IntKind.wrap IntKind.u8 (48 + (↑(dblTo (dgs g L (Prod.fst x_1)) L (Prod.snd x_1) (0 + Int.toNat ((↑L : Int) - 1 - (↑(Prod.snd x_1) : Int)))) : Int) - 48)) + (↑(cry (dgs g L (Prod.fst x_1)) L (Prod.snd x_1)) : Int))) 10)))) = (SV.v (Value.int IntKind.u8 ((↑(cry (dgs g L (Prod.fst x')) L (Prod.snd x')) : Int))))) ∧ ((SV.v (Value.int IntKind.i64 (IntKind.wrap IntKind.i64 ((↑L : Int) - 1 - (↑(Prod.snd x_1) : Int) - 1)))) = (SV.v (Value.int IntKind.i64 ((↑L : Int) - 1 - (↑(Prod.snd x') : Int)))))) ∧ (((L : Nat) = L) ∧ (((L : Nat) ≤ L) ∧ (∀ i : Nat, (((i : Nat) < L) → ([(SV.v (Value.int IntKind.u8 (bop (Nat.beq i (0 + Int.toNat ((↑L : Int) - 1 - (↑(Prod.snd x_1) : Int)))) (IntKind.wrap IntKind.u8 (48 + Int.tmod (IntKind.wrap IntKind.u8 (IntKind.wrap IntKind.u8 (2 * IntKind.wrap IntKind.u8 (48 + (↑(dblTo (dgs g L (Prod.fst x_1)) L (Prod.snd x_1) (0 + Int.toNat ((↑L : Int) - 1 - (↑(Prod.snd x_1) : Int)))) : Int) - 48)) + (↑(cry (dgs g L (Prod.fst x_1)) L (Prod.snd x_1)) : Int))) 10)) (48 + (↑(dblTo (dgs g L (Prod.fst x_1)) L (Prod.snd x_1) i) : Int)))))] = [(SV.v (Value.int IntKind.u8 (48 + (↑(dblTo (dgs g L (Prod.fst x')) L (Prod.snd x') i) : Int))))]))))))) ∧ (((L - Prod.snd x') : Nat) < (L - Prod.snd x_1)))))) (∃ x' : Nat, (((Nat.le x' 32) ∧ ((((SV.v (Value.int IntKind.i64 (IntKind.wrap IntKind.i64 ((↑x : Int) + 1)))) = (SV.v (Value.int IntKind.i64 ((↑x' : Int))))) ∧ ((SV.v (Value.int IntKind.u64 (bits BinOp.or IntKind.u64 (IntKind.wrap IntKind.u64 ((↑(outs g L x) : Int) * 2)) (IntKind.wrap IntKind.u64 (↑(cry (dgs g L (Prod.fst x_1)) L (Prod.snd x_1)) : Int))))) = (SV.v (Value.int IntKind.u64 ((↑(outs g L x') : Int)))))) ∧ (((L : Nat) = L) ∧ (((L : Nat) ≤ L) ∧ (∀ i : Nat, (((i : Nat) < L) → ([(SV.v (Value.int IntKind.u8 (48 + (↑(dblTo (dgs g L (Prod.fst x_1)) L (Prod.snd x_1) i) : Int))))] = [(SV.v (Value.int IntKind.u8 (48 + (↑(dgs g L x' i) : Int))))]))))))) ∧ (((32 - x') : Nat) < (32 - x)))))))) (R (SV.v (Value.int IntKind.u64 ((↑(outs g L x) : Int))))))))))) := by kernel_rfl
theorem preB_iff {s p : ByteArray} : preB s p = true ↔ (p.size ≤ s.size ∧ s.extract 0 p.size = p) := @decide_eq_true_iff _ (Classical.propDecidable _)
theorem HasPre_spec : PureSpec Try.prog 119 sHasPre := vc_spec hm noCtrs_ok Try.func119 (Λ := fun _ => noΛ) fun args p x h hp => by
  unfold sHasPre at h
  split at h <;> try (cases h; done)
  rename_i s p
  cases h
  refine ⟨rfl, rfl, ?_⟩
  refine Eq.mpr (vcHasPre s p _) ?_
  simp only [Option.getD_some, Int.toNat_natCast]
  refine sel_of (fun h => ?_) fun h => ?_
  · have h := of_decide_eq_true h
    refine ⟨⟨by omega, by omega, by omega⟩, bool_mk (Bool.eq_iff_iff.2 ?_)⟩
    rw [ba_beq, preB_iff]
    exact ⟨fun e => ⟨by omega, e⟩, fun e => e.2⟩
  · have h := of_decide_eq_false h
    refine bool_mk ?_
    cases hb : preB s p with
    | false => rfl
    | true => have := (preB_iff.1 hb).1; omega
theorem ΓQ0_ok : ∀ f g, ΓQ0 f = some g → g.ok Try.prog f := addCtr_ok noCtrs_ok (pure_ok Try.func119 (by kernel_rfl) (by kernel_rfl) HasPre_spec)
theorem CutPre0_spec : PureSpec Try.prog 115 sCutPre := vc_spec hm ΓQ0_ok Try.func115 (Λ := fun _ => noΛ) fun args p x h hp => by
  unfold sCutPre at h
  split at h <;> try (cases h; done)
  rename_i s p
  cases h
  refine ⟨rfl, rfl, ?_⟩
  refine Eq.mpr (vcCutPre0 s p _) ?_
  simp only [Option.getD_some, Option.getD_none, Int.toNat_natCast]
  refine sel_of (fun h => ?_) fun h => ?_
  · have h : preB s p = false := by simpa using h
    unfold cutS; rw [hid_eq, h]; rfl
  · have h : preB s p = true := by simpa using h
    have := (preB_iff.1 h).1
    refine ⟨⟨by omega, by omega, by omega⟩, ?_⟩
    unfold cutS; rw [hid_eq, h]; rfl
theorem ΓQ1_ok : ∀ f g, ΓQ1 f = some g → g.ok Try.prog f := addCtr_ok noCtrs_ok (pure_ok Try.func115 (by kernel_rfl) (by kernel_rfl) CutPre0_spec)
theorem CutPre_spec : PureSpec Try.prog 98 sCutPre := vc_spec hm ΓQ1_ok Try.func98 (Λ := fun _ => noΛ) fun args p x h hp => by
  unfold sCutPre at h
  split at h <;> try (cases h; done)
  rename_i s p
  cases h
  refine ⟨rfl, rfl, ?_⟩
  exact Eq.mpr (vcCutPre s p _) rfl
theorem sel_dig {b1 b2 b3 : Bool} {p1 p2 L T : Prop} (h1 : b1 = true → p1 ∧ p2) (hL : b1 = true → b2 = true → b3 = true → L) (hT : (b1 = true → b2 = true → b3 = true → False) → T) : sel b1 (p1 ∧ sel b2 (p2 ∧ sel b3 L T) T) T :=
  sel_of (fun g1 => ⟨(h1 g1).1, sel_of (fun g2 => ⟨(h1 g1).2, sel_of (fun g3 => hL g1 g2 g3) fun g3 => hT fun _ _ k => by rw [k] at g3; cases g3⟩) fun g2 => hT fun _ k _ => by rw [k] at g2; cases g2⟩) fun g1 => hT fun k _ _ => by rw [k] at g1; cases g1
theorem figN_le (s : ByteArray) : figN s ≤ s.size := by unfold figN; rw [← byt_len]; exact digN_le _
theorem Figures_spec : PureSpec Try.prog 99 sFigures := vc_spec hm noCtrs_ok Try.func99 (Λ := fun args => match args with | [.v (.string s)] => ΛFig s | _ => noΛ) fun args p x h hp => by
  unfold sFigures at h
  split at h <;> try (cases h; done)
  rename_i s
  cases h
  have h0 : s.size < 1099511627776 := hp _ rfl
  refine ⟨rfl, rfl, ?_⟩
  refine Eq.mpr (vcFigures s _) ?_
  simp only [Option.getD_some, Option.getD_none, Int.toNat_natCast, byt_get]
  have hle := figN_le s
  refine ⟨⟨0, Nat.zero_le _, rfl, trivial⟩, fun x hx => ?_⟩
  have hx : x ≤ figN s := hx
  obtain ⟨k1, k2⟩ := digN_get (byt s) x hx
  rw [byt_len] at k1 k2
  refine sel_dig (fun g => ?_) (fun g1 g2 g3 => ?_) fun g => ?_
  · have g := of_decide_eq_true g
    exact ⟨⟨by omega, by omega⟩, by omega, by omega⟩
  · have g1 := of_decide_eq_true g1
    have hd := k1 (by omega) (by unfold isDig; rw [show decide (48 ≤ (byt s).getD x 0) = true from g2, g3]; rfl)
    have hd : x + 1 ≤ figN s := hd
    exact ⟨x + 1, ⟨hd, int_mk (by rw [wrap_i64 ⟨by omega, by omega⟩]; rfl), trivial⟩, by omega⟩
  · have e : x = figN s := k2 fun hl => by
      cases hd : isDig ((byt s).getD x 0) with
      | false => rfl
      | true =>
        unfold isDig at hd
        rw [Bool.and_eq_true] at hd
        exact (g (decide_eq_true (by omega)) hd.1 hd.2).elim
    rw [e]
    refine ⟨⟨by omega, by omega, by omega⟩, ⟨by omega, by omega, by omega⟩, ?_⟩
    unfold figA figZ
    rw [hid_eq, hid_eq]
theorem dig_eq {x : Int} (h : isDig x = true) : x = 48 + (((x - 48).toNat : Nat) : Int) ∧ (x - 48).toNat ≤ 9 := by
  unfold isDig at h
  simp only [Bool.and_eq_true, decide_eq_true_eq] at h
  omega
theorem or_one {a b : Nat} (ha : a < 4611686018427387904) (hb : b ≤ 1) : bits .or .u64 (IntKind.u64.wrap ((a : Int) * 2)) (IntKind.u64.wrap (b : Int)) = ((2 * a + b : Nat) : Int) := by
  rw [wrap_u64, wrap_u64, Int.emod_eq_of_lt (by omega) (by omega), Int.emod_eq_of_lt (by omega) (by omega), u64_or _ _ (by omega) (by omega) (by omega) (by omega)]
  have h := nat_join 1 ((a : Int) * 2).toNat (b : Int).toNat (by omega) (by omega)
  rw [h]; omega
theorem Bits32_spec : PureSpec Try.prog 100 sBits32 := vc_spec hm noCtrs_ok Try.func100 (Λ := fun args => match args with | [.v (.string s)] => ΛBits s.size (dgt (byt s)) | _ => noΛ) fun args p x h hp => by
  unfold sBits32 at h
  split at h <;> try (cases h; done)
  rename_i s
  cases h
  obtain ⟨h0, hd⟩ := hp _ rfl
  refine ⟨rfl, rfl, ?_⟩
  refine Eq.mpr (vcBits32 s s.size (dgt (byt s)) _) ?_
  simp only [Nat.zero_add, byt_get]
  have hg : ∀ i, i < s.size → (byt s).getD i 0 = 48 + (dgt (byt s) i : Int) ∧ dgt (byt s) i ≤ 9 := fun i hi => dig_eq (hd _ (getD_mem (by rw [byt_len]; exact hi)))
  have hout : hid ((bits32N (byt s) : Nat) : Int) = ((outs (dgt (byt s)) s.size 32 : Nat) : Int) := by rw [hid_eq]; unfold bits32N; rw [byt_len]
  rw [hout]
  generalize dgt (byt s) = g at *
  generalize hL : s.size = L at *
  have h9 : ∀ t i, i < L → dgs g L t i ≤ 9 := dgs_le fun i hi => (hg i hi).2
  have hbig : ∀ x, x ≤ 31 → outs g L x < 4611686018427387904 := fun x hx => by
    have h1 := outs_lt (g := g) (L := L) (fun i hi => (hg i hi).2) x
    have h2 : 2 ^ x ≤ 2 ^ 31 := Nat.pow_le_pow_right (by decide) hx
    have h3 : (2 : Nat) ^ 31 = 2147483648 := by decide
    omega
  refine ⟨trivial, fun c => ⟨⟨0, Nat.zero_le _, ⟨rfl, rfl⟩, trivial, by omega, fun i hi => by rw [(hg i hi).1]; rfl⟩, fun x hx => sel_of (fun hlt => ?_) fun hge => ?_⟩⟩
  · have hlt := of_decide_eq_true hlt
    refine ⟨⟨(x, 0), ⟨⟨by omega, Nat.zero_le _⟩, rfl⟩, ⟨rfl, int_mk (by rw [wrap_i64 ⟨by omega, by omega⟩]; simp)⟩, trivial, Nat.le_refl _, fun i hi => ?_⟩, ?_⟩
    · unfold dblTo; rw [if_neg (by simp; omega)]
    · rintro ⟨t, m⟩ ⟨⟨ht, hm⟩, hat⟩
      have hat : (x : Int) = (t : Int) := hat
      obtain rfl : x = t := by omega
      simp only at ht hm ⊢
      have hc := cry_le (h9 x) m hm
      refine sel_of (fun hlt' => ?_) fun hge' => ?_
      · have hlt' := of_decide_eq_true hlt'
        have hm' : m < L := by omega
        have e1 : Int.toNat ((L : Int) - 1 - (m : Int)) = L - 1 - m := by omega
        have e2 : dblTo (dgs g L x) L m (L - 1 - m) = dgs g L x (L - 1 - m) := by unfold dblTo; rw [if_neg (by omega)]
        rw [e1, e2]
        have h9' := h9 x (L - 1 - m) (by omega)
        generalize hd' : dgs g L x (L - 1 - m) = d at *
        generalize hc' : cry (dgs g L x) L m = cc at *
        have e3 : IntKind.u8.wrap (IntKind.u8.wrap (2 * IntKind.u8.wrap (48 + (d : Int) - 48)) + (cc : Int)) = ((2 * d + cc : Nat) : Int) := by rw [wrap_u8, wrap_u8, wrap_u8]; omega
        have e4 : IntKind.u8.wrap (Int.tdiv ((2 * d + cc : Nat) : Int) 10) = (((2 * d + cc) / 10 : Nat) : Int) := by rw [tdiv10, wrap_u8]; omega
        have e5 : IntKind.u8.wrap (48 + Int.tmod ((2 * d + cc : Nat) : Int) 10) = 48 + (((2 * d + cc) % 10 : Nat) : Int) := by rw [tmod10, wrap_u8]; omega
        rw [e3, e4, e5]
        have e6 : cry (dgs g L x) L (m + 1) = (2 * d + cc) / 10 := by rw [← hd', ← hc']; rfl
        have e7 : dbl (dgs g L x) L (L - 1 - m) = (2 * d + cc) % 10 := by unfold dbl; rw [show L - 1 - (L - 1 - m) = m by omega, hd', hc']
        refine ⟨⟨by omega, by omega⟩, ⟨by omega, by omega⟩, (x, m + 1), ⟨⟨⟨by omega, by omega⟩, rfl⟩, ⟨int_mk (by rw [e6]), int_mk (by rw [wrap_i64 ⟨by omega, by omega⟩]; simp; omega)⟩, trivial, Nat.le_refl _, fun i hi => ?_⟩, by simp only; omega⟩
        have b1 : ∀ (a b : Int), bop true a b = a := fun _ _ => rfl
        have b2 : ∀ (a b : Int), bop false a b = b := fun _ _ => rfl
        by_cases he : i = L - 1 - m
        · subst he
          rw [Nat.beq_refl, b1]
          unfold dblTo
          rw [if_pos (by simp only; omega), e7]
        · rw [Go.SE.beq_false he, b2]
          unfold dblTo
          by_cases hi' : L - m ≤ i
          · rw [if_pos hi', if_pos (by simp only; omega)]
          · rw [if_neg hi', if_neg (by simp only; omega)]
      · have hge' := of_decide_eq_false hge'
        obtain rfl : m = L := by omega
        refine ⟨x + 1, ⟨by show x + 1 ≤ 32; omega, ⟨int_mk (by rw [wrap_i64 ⟨by omega, by omega⟩]; rfl), int_mk ?_⟩, trivial, Nat.le_refl _, fun i hi => ?_⟩, by omega⟩
        · rw [or_one (hbig x (by omega)) hc]; rfl
        · unfold dblTo
          rw [if_pos (by omega)]; rfl
  · have hge := of_decide_eq_false hge
    have hx : x ≤ 32 := hx
    obtain rfl : x = 32 := by omega
    rfl
end Go.Proofs.Ytnnmfonapfhcaaa
