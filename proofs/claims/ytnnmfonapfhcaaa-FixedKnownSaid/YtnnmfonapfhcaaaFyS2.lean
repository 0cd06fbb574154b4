/-
  Contract: numbers read.
-/
import Derived.Test.YtnnmfonapfhcaaaFyS
set_option maxRecDepth 100000
set_option linter.unusedSimpArgs false
set_option linter.unusedVariables false
namespace Go.Proofs.Ytnnmfonapfhcaaa
open Go.SE Go.RowKit

noncomputable def textS (v : Int) (f : Bool) : ByteArray := hid (strOfNums (textB (sndV v) (sndF v f)))
noncomputable def sTextH : List SV → Option (Option Prop × SV)
  | [.agg [.v (.int .i64 v), .v (.bool f)]] => some (some (I64 v), .v (.string (textS v f)))
  | _ => none
noncomputable def ΓQ : Ctrs := addCtr (addCtr (addCtr (addCtr ΓU 62 (pureCtr sTextH)) 98 (pureCtr sCutPre)) 99 (pureCtr sFigures)) 100 (pureCtr sBits32)
noncomputable def sParse : List SV → Option (Option Prop × SV)
  | [.v (.string s)] => some (some (s.size < 1099511627776), .tup [numS (parV (byt s)) (parF (byt s)), .v (.int .i64 (parE (byt s)))])
  | _ => none
noncomputable def ΛParse (W : ByteArray) : Nat → Option LoopSpec := addLoop noΛ Try.f60 0 Nat (fun k => k ≤ W.size) (fun k => W.size - k) [(39, fun k => .v (.int .i64 k)), (7, fun k => .v (.int .u64 (valF (dgt (byt W)) k)))] []
theorem vcParse (s W : ByteArray) (R : SV → Prop) : (vcPure Try.prog ΓQ (ΛParse W) Try.f60 [.v (.string s)] R) =
((((ByteArray.size (cutS s { data := #[45] })) : Nat) < 1099511627776) ∧ 
(sel (decide ((↑(ByteArray.size (figA (cutS s { data := #[45] }))) : Int) < 1)) (R (SV.tup [(SV.agg [(SV.v (Value.int IntKind.i64 0)), (SV.v (Value.bool false))]), (SV.v (Value.int IntKind.i64 4))])) 
(sel (decide ((↑(ByteArray.size (figA (cutS s { data := #[45] }))) : Int) > 10)) (R (SV.tup [(SV.agg [(SV.v (Value.int IntKind.i64 0)), (SV.v (Value.bool false))]), (SV.v (Value.int IntKind.i64 4))])) 
(sel (decide ((↑(ByteArray.size s) : Int) > 50)) (R (SV.tup [(SV.agg [(SV.v (Value.int IntKind.i64 0)), (SV.v (Value.bool false))]), (SV.v (Value.int IntKind.i64 4))])) ((∃ x : Nat, ((Nat.le x (ByteArray.size W)) ∧ ((((SV.v (Value.int IntKind.i64 0)) = (SV.v (Value.int IntKind.i64 ((↑x : Int))))) ∧ ((SV.v (Value.int IntKind.u64 0)) = (SV.v (Value.int IntKind.u64 ((↑(valF (dgt (byt W)) x) : Int)))))) ∧ True))) ∧ (∀ x : Nat, ((Nat.le x (ByteArray.size W)) → 
(sel (decide ((↑x : Int) < (↑(ByteArray.size (figA (cutS s { data := #[45] }))) : Int))) ((((0 : Int) ≤ ((↑x : Int))) ∧ ((((↑x : Int)) : Int) < ((↑(ByteArray.size (figA (cutS s { data := #[45] }))) : Int)))) ∧ (∃ x' : Nat, (((Nat.le x' (ByteArray.size W)) ∧ ((((SV.v (Value.int IntKind.i64 (IntKind.wrap IntKind.i64 ((↑x : Int) + 1)))) = (SV.v (Value.int IntKind.i64 ((↑x' : Int))))) ∧ ((SV.v (Value.int IntKind.u64 (IntKind.wrap IntKind.u64 (IntKind.wrap IntKind.u64 (10 * (↑(valF (dgt (byt W)) x) : Int)) + IntKind.wrap IntKind.u64 (IntKind.wrap IntKind.u8 ((↑(UInt8.toNat (List.getD (Array.toList (ByteArray.data (figA (cutS s { data := #[45] })))) (Int.toNat (↑x : Int)) 0)) : Int) - 48)))))) = (SV.v (Value.int IntKind.u64 ((↑(valF (dgt (byt W)) x') : Int)))))) ∧ True)) ∧ (((ByteArray.size W - x') : Nat) < (ByteArray.size W - x))))) 
(sel (decide ((↑(valF (dgt (byt W)) x) : Int) ≥ 2147483648)) (R (SV.tup [(SV.agg [(SV.v (Value.int IntKind.i64 0)), (SV.v (Value.bool false))]), (SV.v (Value.int IntKind.i64 4))])) 
(sel (preB (figZ (cutS s { data := #[45] })) { data := #[46] }) ((((ByteArray.size (cutS (figZ (cutS s { data := #[45] })) { data := #[46] })) : Nat) < 1099511627776) ∧ (((((ByteArray.size (figA (cutS (figZ (cutS s { data := #[45] })) { data := #[46] }))) : Nat) < 1099511627776) ∧ (∀ x_1 : Int, ((x_1 ∈ byt (figA (cutS (figZ (cutS s { data := #[45] })) { data := #[46] }))) → (isDig x_1 = true)))) ∧ 
(sel (preB s { data := #[45] }) ((I64 (IntKind.wrap IntKind.i64 (0 - bits BinOp.or IntKind.i64 (IntKind.wrap IntKind.i64 (IntKind.wrap IntKind.u64 ((↑(valF (dgt (byt W)) x) : Int) * 4294967296))) (IntKind.wrap IntKind.i64 (hid (↑(bits32N (byt (figA (cutS (figZ (cutS s { data := #[45] })) { data := #[46] })))) : Int)))))) ∧ 
(sel (!(textS (IntKind.wrap IntKind.i64 (0 - bits BinOp.or IntKind.i64 (IntKind.wrap IntKind.i64 (IntKind.wrap IntKind.u64 ((↑(valF (dgt (byt W)) x) : Int) * 4294967296))) (IntKind.wrap IntKind.i64 (hid (↑(bits32N (byt (figA (cutS (figZ (cutS s { data := #[45] })) { data := #[46] })))) : Int))))) !figZ (cutS (figZ (cutS s { data := #[45] })) { data := #[46] }) == { data := #[] }) == s) (R (SV.tup [(SV.agg [(SV.v (Value.int IntKind.i64 0)), (SV.v (Value.bool false))]), (SV.v (Value.int IntKind.i64 4))])) (R (SV.tup [(SV.agg [(SV.v (Value.int IntKind.i64 (IntKind.wrap IntKind.i64 (0 - bits BinOp.or IntKind.i64 (IntKind.wrap IntKind.i64 (IntKind.wrap IntKind.u64 ((↑(valF (dgt (byt W)) x) : Int) * 4294967296))) (IntKind.wrap IntKind.i64 (hid (↑(bits32N (byt (figA (cutS (figZ (cutS s { data := #[45] })) { data := #[46] })))) : Int))))))), (SV.v (Value.bool (!figZ (cutS (figZ (cutS s { data := #[45] })) { data := #[46] }) == { data := #[] })))]), (SV.v (Value.int IntKind.i64 0))])))) ((I64 (bits BinOp.or IntKind.i64 (IntKind.wrap IntKind.i64 (IntKind.wrap IntKind.u64 ((↑(valF (dgt (byt W)) x) : Int) * 4294967296))) (IntKind.wrap IntKind.i64 (hid (↑(bits32N (byt (figA (cutS (figZ (cutS s { data := #[45] })) { data := #[46] })))) : Int))))) ∧ 
(sel (!(textS (bits BinOp.or IntKind.i64 (IntKind.wrap IntKind.i64 (IntKind.wrap IntKind.u64 ((↑(valF (dgt (byt W)) x) : Int) * 4294967296))) (IntKind.wrap IntKind.i64 (hid (↑(bits32N (byt (figA (cutS (figZ (cutS s { data := #[45] })) { data := #[46] })))) : Int)))) !figZ (cutS (figZ (cutS s { data := #[45] })) { data := #[46] }) == { data := #[] }) == s) (R (SV.tup [(SV.agg [(SV.v (Value.int IntKind.i64 0)), (SV.v (Value.bool false))]), (SV.v (Value.int IntKind.i64 4))])) (R (SV.tup [(SV.agg [(SV.v (Value.int IntKind.i64 (bits BinOp.or IntKind.i64 (IntKind.wrap IntKind.i64 (IntKind.wrap IntKind.u64 ((↑(valF (dgt (byt W)) x) : Int) * 4294967296))) (IntKind.wrap IntKind.i64 (hid (↑(bits32N (byt (figA (cutS (figZ (cutS s { data := #[45] })) { data := #[46] })))) : Int)))))), (SV.v (Value.bool (!figZ (cutS (figZ (cutS s { data := #[45] })) { data := #[46] }) == { data := #[] })))]), (SV.v (Value.int IntKind.i64 0))]))))))) 
(sel (preB s { data := #[45] }) ((I64 (IntKind.wrap IntKind.i64 (0 - IntKind.wrap IntKind.i64 (IntKind.wrap IntKind.u64 ((↑(valF (dgt (byt W)) x) : Int) * 4294967296))))) ∧ 
(sel (!(textS (IntKind.wrap IntKind.i64 (0 - IntKind.wrap IntKind.i64 (IntKind.wrap IntKind.u64 ((↑(valF (dgt (byt W)) x) : Int) * 4294967296)))) !figZ (cutS s { data := #[45] }) == { data := #[] }) == s) (R (SV.tup [(SV.agg [(SV.v (Value.int IntKind.i64 0)), (SV.v (Value.bool false))]), (SV.v (Value.int IntKind.i64 4))])) (R (SV.tup [(SV.agg [(SV.v (Value.int IntKind.i64 (IntKind.wrap IntKind.i64 (0 - IntKind.wrap IntKind.i64 (IntKind.wrap IntKind.u64 ((↑(valF (dgt (byt W)) x) : Int) * 4294967296)))))), (SV.v (Value.bool (!figZ (cutS s { data := #[45] }) == { data := #[] })))]), (SV.v (Value.int IntKind.i64 0))])))) ((I64 (IntKind.wrap IntKind.i64 (IntKind.wrap IntKind.u64 ((↑(valF (dgt (byt W)) x) : Int) * 4294967296)))) ∧ 
(sel (!(textS (IntKind.wrap IntKind.i64 (IntKind.wrap IntKind.u64 ((↑(valF (dgt (byt W)) x) : Int) * 4294967296))) !figZ (cutS s { data := #[45] }) == { data := #[] }) == s) (R (SV.tup [(SV.agg [(SV.v (Value.int IntKind.i64 0)), (SV.v (Value.bool false))]), (SV.v (Value.int IntKind.i64 4))])) (R (SV.tup [(SV.agg [(SV.v (Value.int IntKind.i64 (IntKind.wrap IntKind.i64 (IntKind.wrap IntKind.u64 ((↑(valF (dgt (byt W)) x) : Int) * 4294967296))))), (SV.v (Value.bool (!figZ (cutS s { data := #[45] }) == { data := #[] })))]), (SV.v (Value.int IntKind.i64 0))]))))))))))))))) := by kernel_rfl
theorem sTextH_eq : sTextH = sText := by
  funext args
  unfold sTextH textS
  simp only [hid_eq]
  rfl
theorem TextH_spec : PureSpec Try.prog 62 sTextH := by rw [sTextH_eq]; exact Text_spec
theorem ΓQ_ok : ∀ f g, ΓQ f = some g → g.ok Try.prog f := addCtr_ok (addCtr_ok (addCtr_ok (addCtr_ok ΓU_ok (pure_ok Try.func62 (by kernel_rfl) (by kernel_rfl) TextH_spec)) (pure_ok Try.func98 (by kernel_rfl) (by kernel_rfl) CutPre_spec)) (pure_ok Try.func99 (by kernel_rfl) (by kernel_rfl) Figures_spec)) (pure_ok Try.func100 (by kernel_rfl) (by kernel_rfl) Bits32_spec)
/-! ### what the pieces are -/
theorem byt_one (x : UInt8) : byt ⟨#[x]⟩ = [(x.toNat : Int)] := rfl
theorem pre_one {s : ByteArray} (x : UInt8) : preB s ⟨#[x]⟩ = true ↔ ∃ t, byt s = (x.toNat : Int) :: t := by
  rw [preB_iff]
  have hsz : (⟨#[x]⟩ : ByteArray).size = 1 := rfl
  rw [hsz]
  constructor
  · rintro ⟨h1, h2⟩
    have h3 : byt (s.extract 0 1) = [(x.toNat : Int)] := by rw [h2]; rfl
    rw [byt_extract] at h3
    cases hb : byt s with
    | nil => rw [hb] at h3; simp at h3
    | cons y t => rw [hb] at h3; simp at h3; exact ⟨t, by rw [h3]⟩
  · rintro ⟨t, ht⟩
    have h1 : s.size = (byt s).length := (byt_len s).symm
    rw [ht] at h1
    refine ⟨by rw [h1]; simp, byt_inj ?_⟩
    rw [byt_extract, ht]; rfl
theorem cut_one {s : ByteArray} (x : UInt8) : byt (cutS s ⟨#[x]⟩) = bif preB s ⟨#[x]⟩ then (byt s).drop 1 else byt s := by
  unfold cutS
  rw [hid_eq]
  cases hb : preB s ⟨#[x]⟩ with
  | false => rfl
  | true =>
    rw [cond_true, cond_true, byt_extract, ← byt_len s, List.take_length]; rfl
theorem pre_neg (s : ByteArray) : preB s ⟨#[45]⟩ = negT (byt s) := by
  refine Bool.eq_iff_iff.2 ?_
  rw [pre_one]
  unfold negT
  cases hb : byt s with
  | nil => simp
  | cons y t =>
    have : ((45 : UInt8).toNat : Int) = 45 := rfl
    rw [this]
    simp
theorem pre_dot (s : ByteArray) : preB s ⟨#[46]⟩ = dotT (byt s) := by
  refine Bool.eq_iff_iff.2 ?_
  rw [pre_one]
  unfold dotT
  cases hb : byt s with
  | nil => simp
  | cons y t =>
    have : ((46 : UInt8).toNat : Int) = 46 := rfl
    rw [this]
    simp
theorem cut_neg (s : ByteArray) : byt (cutS s ⟨#[45]⟩) = tailT (byt s) := by rw [cut_one, pre_neg]; rfl
theorem fig_a (s : ByteArray) : byt (figA s) = (byt s).take (digN (byt s)) := by unfold figA figN; rw [hid_eq, byt_extract]; rfl
theorem fig_z (s : ByteArray) : byt (figZ s) = (byt s).drop (digN (byt s)) := by unfold figZ figN; rw [hid_eq, byt_extract, ← byt_len, List.take_length]
theorem whole_is (s : ByteArray) : byt (figA (cutS s ⟨#[45]⟩)) = wholeT (byt s) := by rw [fig_a, cut_neg]; rfl
theorem after_is (s : ByteArray) : byt (figZ (cutS s ⟨#[45]⟩)) = afterT (byt s) := by rw [fig_z, cut_neg]; rfl
theorem dot_is (s : ByteArray) : preB (figZ (cutS s ⟨#[45]⟩)) ⟨#[46]⟩ = dotT (afterT (byt s)) := by rw [pre_dot, after_is]
theorem part_is {s : ByteArray} (h : dotT (afterT (byt s)) = true) : byt (figA (cutS (figZ (cutS s ⟨#[45]⟩)) ⟨#[46]⟩)) = partT (byt s) := by
  rw [fig_a, cut_one, dot_is, h, after_is]; unfold partT; rw [h]; rfl
theorem last_is {s : ByteArray} (h : dotT (afterT (byt s)) = true) : byt (figZ (cutS (figZ (cutS s ⟨#[45]⟩)) ⟨#[46]⟩)) = lastT (byt s) := by
  rw [fig_z, cut_one, dot_is, h, after_is]; unfold lastT; rw [h]; rfl
theorem nonempty_is (s : ByteArray) : (!(s == ⟨#[]⟩)) = !(byt s).isEmpty := by
  congr 1
  refine Bool.eq_iff_iff.2 ?_
  rw [ba_beq, List.isEmpty_iff]
  constructor
  · rintro rfl; rfl
  · intro h; exact byt_inj h
theorem dig_take {l : List Int} : ∀ x ∈ l.take (digN l), isDig x = true := fun x hx => by
  obtain ⟨i, hi⟩ := List.getElem?_of_mem hx
  have hlt := (List.getElem?_eq_some_iff.1 hi).1
  rw [List.length_take] at hlt
  have h := digN_dig l i (by omega)
  rw [List.getElem?_take_of_lt (by omega)] at hi
  simp only [List.getD, hi, Option.getD_some] at h
  exact h
theorem whole_dig (s : List Int) : ∀ x ∈ wholeT s, isDig x = true := dig_take
theorem part_dig (s : List Int) : ∀ x ∈ partT s, isDig x = true := by
  unfold partT
  cases dotT (afterT s) with
  | true => exact dig_take
  | false => intro x hx; simp at hx
theorem bits32_lt {l : List Int} (h : ∀ x ∈ l, isDig x = true) : bits32N l < 4294967296 := outs_lt (t := 32) fun i hi => dgt_le (h _ (getD_mem hi))
theorem cut_len (s : ByteArray) (x : UInt8) : (cutS s ⟨#[x]⟩).size ≤ s.size := by
  rw [← byt_len, ← byt_len, cut_one]
  cases preB s ⟨#[x]⟩ <;> simp
theorem figA_len (s : ByteArray) : (figA s).size ≤ s.size := by rw [← byt_len, ← byt_len, fig_a, List.length_take]; omega
theorem figZ_len (s : ByteArray) : (figZ s).size ≤ s.size := by rw [← byt_len, ← byt_len, fig_z, List.length_drop]; omega
theorem i64_or_nat (a b : Nat) (ha : a < 9223372036854775808) (hb : b < 9223372036854775808) : bits .or .i64 (a : Int) (b : Int) = ((a ||| b : Nat) : Int) := by
  have hx : a ||| b < 2 ^ 63 := Nat.or_lt_two_pow (by omega) (by omega)
  show IntKind.i64.wrap ((BitVec.ofInt 64 (a : Int) ||| BitVec.ofInt 64 (b : Int)).toNat : Int) = _
  rw [BitVec.toNat_or, ofInt_u64 a (by omega), ofInt_u64 b (by omega), wrap_i64 ⟨by omega, by omega⟩]
theorem shl_i64 {a : Nat} (ha : a < 2147483648) : IntKind.i64.wrap (IntKind.u64.wrap ((a : Int) * 4294967296)) = ((a * 4294967296 : Nat) : Int) := by
  rw [wrap_u64, Int.emod_eq_of_lt (by omega) (by omega), wrap_i64 ⟨by omega, by omega⟩]; omega
theorem or_i64 {a b : Nat} (ha : a < 2147483648) (hb : b < 4294967296) : bits .or .i64 (IntKind.i64.wrap (IntKind.u64.wrap ((a : Int) * 4294967296))) (IntKind.i64.wrap (b : Int)) = ((a * 4294967296 + b : Nat) : Int) := by
  rw [shl_i64 ha, wrap_i64 ⟨by omega, by omega⟩, i64_or_nat _ _ (by omega) (by omega)]
  have h := nat_join 32 (a * 4294967296) b (by omega) (by omega)
  rw [h]
theorem text_bounds {s : List Int} {v : Int} {f : Bool} (h : IsText s v f) : s.length ≤ 45 ∧ 1 ≤ (wholeT s).length ∧ (wholeT s).length ≤ 10 ∧ valN (wholeT s) < 2147483648 := by
  obtain ⟨h0, h1, rfl⟩ := h
  obtain ⟨_, e, _⟩ := text_parts (f := f) h0 h1
  have hb : iabs v ≤ 9223372036854775807 ∧ 0 ≤ iabs v := by unfold iabs; split <;> omega
  have hl := decF_len 20 (Int.toNat (iabs v / 4294967296)) 10 (by omega) (by decide) (by decide)
  have hd := (dec_dig (n := Int.toNat (iabs v / 4294967296)) (by omega)).1
  rw [e, hd]
  exact ⟨text_len h0 h1, hl.1, hl.2, by omega⟩
def noneS : SV := .tup [numS 0 false, .v (.int .i64 4)]
noncomputable def parS (s : ByteArray) : SV := .tup [numS (parV (byt s)) (parF (byt s)), .v (.int .i64 (parE (byt s)))]
theorem none_of {s : ByteArray} (h : ∀ v f, ¬ IsText (byt s) v f) : noneS = parS s := by
  obtain ⟨a, b, c⟩ := par_no h
  unfold parS; rw [a, b, c]; rfl
theorem parse_leaf {s : ByteArray} {V : Int} {F : Bool} (h0 : -9223372036854775807 ≤ V) (h1 : V ≤ 9223372036854775807) (hV : V = candV (byt s)) (hF : F = candF (byt s)) :
    I64 V ∧ sel (!(textS V F == s)) (noneS = parS s) (SV.tup [numS V F, .v (.int .i64 0)] = parS s) := by
  have e : textS V F = strOfNums (textB V F) := by unfold textS; rw [hid_eq, sndV_self h0, sndF_self h0]
  rw [e]
  obtain ⟨yes, no⟩ := par_end (s := s) (f := F) h0 h1 (fun v' f' hv => ⟨hv.cand.1.trans hV.symm, hv.cand.2.trans hF.symm⟩)
  refine ⟨⟨by omega, by omega⟩, sel_of (fun h => ?_) fun h => ?_⟩
  · obtain ⟨a, b, c⟩ := no (by simpa using h)
    unfold parS; rw [a, b, c]; rfl
  · obtain ⟨a, b, c⟩ := yes (by simpa using h)
    unfold parS; rw [a, b, c]
theorem Parse_spec : PureSpec Try.prog 60 sParse := vc_spec hm ΓQ_ok Try.func60 (Λ := fun args => match args with | [.v (.string s)] => ΛParse (figA (cutS s ⟨#[45]⟩)) | _ => noΛ) fun args p x h hp => by
  unfold sParse at h
  split at h <;> try (cases h; done)
  rename_i s
  cases h
  have h0 : s.size < 1099511627776 := hp _ rfl
  refine ⟨rfl, rfl, ?_⟩
  refine Eq.mpr (vcParse s (figA (cutS s ⟨#[45]⟩)) _) ?_
  have l1 := cut_len s 45
  have l2 := figZ_len (cutS s ⟨#[45]⟩)
  have l3 := cut_len (figZ (cutS s ⟨#[45]⟩)) 46
  have l4 := figA_len (cutS (figZ (cutS s ⟨#[45]⟩)) ⟨#[46]⟩)
  have hWl : (figA (cutS s ⟨#[45]⟩)).size = (wholeT (byt s)).length := by rw [← byt_len, whole_is]
  have hsl := byt_len s
  refine ⟨by omega, sel_of (fun g => none_of fun v f ht => ?_) fun g1 => sel_of (fun g => none_of fun v f ht => ?_) fun g2 => sel_of (fun g => none_of fun v f ht => ?_) fun g3 => ⟨⟨0, Nat.zero_le _, ⟨rfl, rfl⟩, trivial⟩, fun x hx => sel_of (fun hlt => ?_) fun hge => ?_⟩⟩
  · have := of_decide_eq_true g
    have := text_bounds ht
    omega
  · have := of_decide_eq_true g
    have := text_bounds ht
    omega
  · have := of_decide_eq_true g
    have := text_bounds ht
    omega
  · have hlt := of_decide_eq_true hlt
    have g2 := of_decide_eq_false g2
    have hd := dig_eq (whole_dig (byt s) ((byt (figA (cutS s ⟨#[45]⟩))).getD x 0) (by rw [← whole_is]; exact getD_mem (by rw [byt_len]; omega)))
    have hv : valF (dgt (byt (figA (cutS s ⟨#[45]⟩)))) x < 10 ^ x := valF_lt fun i hi => dgt_le (whole_dig (byt s) _ (by rw [← whole_is]; exact getD_mem (by rw [byt_len]; omega)))
    have hv2 : (10 : Nat) ^ x ≤ 10 ^ 10 := Nat.pow_le_pow_right (by decide) (by omega)
    have hv3 : (10 : Nat) ^ 10 = 10000000000 := by decide
    simp only [byt_get, Int.toNat_natCast]
    refine ⟨⟨by omega, by omega⟩, x + 1, ⟨by show x + 1 ≤ _; omega, ⟨int_mk (by rw [wrap_i64 ⟨by omega, by omega⟩]; rfl), int_mk ?_⟩, trivial⟩, by omega⟩
    show _ = ((10 * valF (dgt (byt (figA (cutS s ⟨#[45]⟩)))) x + dgt (byt (figA (cutS s ⟨#[45]⟩))) x : Nat) : Int)
    obtain ⟨d1, d2⟩ := hd
    have d3 : dgt (byt (figA (cutS s ⟨#[45]⟩))) x = ((byt (figA (cutS s ⟨#[45]⟩))).getD x 0 - 48).toNat := rfl
    rw [d3]
    generalize (byt (figA (cutS s ⟨#[45]⟩))).getD x 0 = y at *
    generalize valF (dgt (byt (figA (cutS s ⟨#[45]⟩)))) x = v at *
    rw [wrap_u8, wrap_u64, wrap_u64, wrap_u64]
    omega
  · have hge := of_decide_eq_false hge
    have hx : x ≤ _ := hx
    obtain rfl : x = (figA (cutS s ⟨#[45]⟩)).size := by omega
    have hval : valF (dgt (byt (figA (cutS s ⟨#[45]⟩)))) (figA (cutS s ⟨#[45]⟩)).size = valN (wholeT (byt s)) := by rw [whole_is, hWl]; rfl
    rw [hval]
    refine sel_of (fun g => none_of fun v f ht => ?_) fun g4 => ?_
    · have := of_decide_eq_true g
      have := text_bounds ht
      omega
    · have g4 := of_decide_eq_false g4
      have hn : valN (wholeT (byt s)) < 2147483648 := by omega
      rw [dot_is, pre_neg]
      refine sel_of (fun hdot => ?_) fun hdot => ?_
      · have hb := bits32_lt (part_dig (byt s))
        rw [part_is hdot, hid_eq, or_i64 hn hb, nonempty_is, last_is hdot]
        have hF : (!(lastT (byt s)).isEmpty) = candF (byt s) := rfl
        rw [hF]
        refine ⟨by omega, ⟨by omega, part_dig _⟩, sel_of (fun hneg => ?_) fun hneg => ?_⟩
        · have e : candV (byt s) = -((valN (wholeT (byt s)) * 4294967296 + bits32N (partT (byt s)) : Nat) : Int) := by unfold candV sizeT'; rw [hneg, cond_true]
          rw [wrap_i64 ⟨by omega, by omega⟩]
          exact parse_leaf (by omega) (by omega) (by rw [e]; omega) rfl
        · have e : candV (byt s) = ((valN (wholeT (byt s)) * 4294967296 + bits32N (partT (byt s)) : Nat) : Int) := by unfold candV sizeT'; rw [hneg, cond_false]
          exact parse_leaf (by omega) (by omega) e.symm rfl
      · have hp0 : partT (byt s) = [] := by unfold partT; rw [hdot]; rfl
        have hb0 : bits32N [] = 0 := by rfl
        have hl0 : lastT (byt s) = afterT (byt s) := by unfold lastT; rw [hdot]; rfl
        rw [shl_i64 hn, nonempty_is, after_is]
        have hF : (!(afterT (byt s)).isEmpty) = candF (byt s) := by unfold candF; rw [hl0]
        rw [hF]
        refine sel_of (fun hneg => ?_) fun hneg => ?_
        · have e : candV (byt s) = -((valN (wholeT (byt s)) * 4294967296 : Nat) : Int) := by unfold candV sizeT'; rw [hneg, hp0, hb0, Nat.add_zero, cond_true]
          rw [wrap_i64 ⟨by omega, by omega⟩]
          exact parse_leaf (by omega) (by omega) (by rw [e]; omega) rfl
        · have e : candV (byt s) = ((valN (wholeT (byt s)) * 4294967296 : Nat) : Int) := by unfold candV sizeT'; rw [hneg, hp0, hb0, Nat.add_zero, cond_false]
          exact parse_leaf (by omega) (by omega) e.symm rfl
end Go.Proofs.Ytnnmfonapfhcaaa
