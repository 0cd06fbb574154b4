/-
  Contracts: Frame; the reference's bytes and Frame.
-/
import Derived.Test.YtjdldadmaaeimaaWiS
set_option maxRecDepth 100000
set_option linter.unusedSimpArgs false
set_option linter.unusedVariables false
namespace Go.Proofs.Ytjdldadmaaeimaa
open Go.SE Go.RowKit

def frameS (s : ByteArray) : SV := bif Nat.beq s.size 0 then .tup [strS emp, .v (.int .i64 7)] else bif Nat.blt 2048 s.size then .tup [strS emp, .v (.int .i64 6)] else .tup [strS (strOfNums (be (s.size : Int) 4) ++ s), .v (.int .i64 0)]
def sFrame : List SV → Option (Option Prop × SV)
  | [.v (.string s)] => some (some (s.size < 4294967296), frameS s)
  | _ => none
/-- A reference's writer. -/
def rB (s : ByteArray) (b : Bool) : Blk := { elem := 109, size := 2, rw := true, lock := false, lit := true, flat := true, n := 1, row := fun _ => [.v (.string s), .v (.bool b)], ext := 1, whole := true }
def rOk (b : Blk) : Bool := Nat.beq b.elem 109 && Nat.beq b.size 2 && b.rw && !b.dead && Nat.beq b.n 1 && Nat.beq b.ext 1 && b.whole && b.flat
def sRApp (m : Nat) (f : List SV → Option (Prop × List Int × Bool)) (args : List SV) (bs : List Blk) : Option Eff := match args, bs with
  | .vp 0 0 :: rest, [B] => match f rest, B.row 0 with
    | some (q, L, b), [.v (.string s), .v (.bool b0)] => bif rOk B then some (.det (some (q ∧ s.size ≤ m)) (.tup []) [(0, rB (s ++ strOfNums L) (b0 || b))]) else none
    | _, _ => none
  | _, _ => none
def fRBytes : List SV → Option (Prop × List Int × Bool)
  | [.v (.int .u64 n), .v (.int .i64 k)] => some (U64 n ∧ 0 ≤ k ∧ k ≤ 8, be n k.toNat, false)
  | _ => none
noncomputable def ΛRBytes (s : ByteArray) (b : Bool) (n : Int) (k : Nat) : Nat → Option LoopSpec := addLoop noΛ Try.f60 0 Nat (fun i => i ≤ k) (fun i => k - i) [(6, fun i => .v (.int .i64 ((k : Int) - 1 - i)))] [(0, fun i => rB (s ++ strOfNums (beT n k i)) b)]
def ΓD0 : Ctrs := addCtr (addCtr ΓC1 59 (hpCtr true sWord)) 60 (hpCtr true (sRApp M0 fRBytes))
theorem vcFrame (s : ByteArray) (R : SV → Prop) : (vcPure Try.prog ΓD0 noΛ Try.f21 [.v (.string s)] R) =

(sel ((↑(ByteArray.size s) : Int) == 0) (R (SV.tup [(SV.v (Value.string ({ data := #[] }))), (SV.v (Value.int IntKind.i64 7))])) 
(sel (decide ((↑(ByteArray.size s) : Int) > 2048)) (R (SV.tup [(SV.v (Value.string ({ data := #[] }))), (SV.v (Value.int IntKind.i64 6))])) ((I64 (↑(ByteArray.size s) : Int)) ∧ (∀ c : Nat, ((((((4 + ByteArray.size s) * 1) : Nat) ≤ 140737488355328) ∧ ((((0 + (4 + c)) : Nat) ≤ (4 + c)) ∧ (∀ y : Nat, (((y : Nat) < (ByteArray.size s)) → True)))) ∧ (∀ c_1 : Nat, ((∀ y : Nat, (((y : Nat) < (4 + ByteArray.size s)) → True)) ∧ (R (SV.tup [(SV.v (Value.string (strOf (4 + ByteArray.size s) fun y => [SV.v (Value.int IntKind.u8 (bop (Nat.blt (0 + y) 4) ((fun i => List.getD (be ((↑(ByteArray.size s) : Int) % 4294967296) 4) i 0) (0 + (0 + y))) (↑(UInt8.toNat (List.getD (Array.toList (ByteArray.data s)) (0 + y - 4) 0)) : Int)))]))), (SV.v (Value.int IntKind.i64 0))]))))))))) := by kernel_rfl
theorem vcRBytes (s : ByteArray) (b : Bool) (n : Int) (k : Nat) : (vcFn Try.prog noCtrs (ΛRBytes s b n k) Try.f60 [.vp 0 0, .v (.int .u64 n), .v (.int .i64 (k : Int))] (heapOf [rB s b]) 64 (fun y h' => FinE [rB s b] (.det none (.tup []) [(0, rB (s ++ strOfNums (be n k)) (b || false))]) y h')) =
((∃ x : Nat, ((Nat.le x k) ∧ (((SV.v (Value.int IntKind.i64 (IntKind.wrap IntKind.i64 ((↑k : Int) - 1)))) = (SV.v (Value.int IntKind.i64 ((↑k : Int) - 1 - (↑x : Int))))) ∧ (((1 : Nat) = 1) ∧ (((1 : Nat) ≤ 1) ∧ (∀ i : Nat, (((i : Nat) < 1) → ([(SV.v (Value.string s)), (SV.v (Value.bool b))] = [(SV.v (Value.string (s ++ strOfNums (beT n k x)))), (SV.v (Value.bool b))])))))))) ∧ (∀ x : Nat, ((Nat.le x k) → 
(sel (decide ((↑k : Int) - 1 - (↑x : Int) ≥ 0)) (((0 : Int) ≤ (IntKind.wrap IntKind.u64 (IntKind.wrap IntKind.i64 (8 * ((↑k : Int) - 1 - (↑x : Int)))))) ∧ ((∀ y : Nat, (((y : Nat) < 1) → True)) ∧ (((((↑(ByteArray.size (s ++ strOfNums (beT n k x)) + 1) : Int)) : Int) ≤ 9223372036854775807) ∧ (∃ x' : Nat, (((Nat.le x' k) ∧ (((SV.v (Value.int IntKind.i64 (IntKind.wrap IntKind.i64 ((↑k : Int) - 1 - (↑x : Int) - 1)))) = (SV.v (Value.int IntKind.i64 ((↑k : Int) - 1 - (↑x' : Int))))) ∧ (((1 : Nat) = 1) ∧ (((1 : Nat) ≤ 1) ∧ (∀ i : Nat, (((i : Nat) < 1) → ([(SV.v (Value.string (s ++ strOfNums (beT n k x) ++ strOf 1 fun y => [SV.v (Value.int IntKind.u8 (IntKind.wrap IntKind.u8 (n / 2 ^ min (Int.toNat (IntKind.wrap IntKind.u64 (IntKind.wrap IntKind.i64 (8 * ((↑k : Int) - 1 - (↑x : Int)))))) 64)))]))), (SV.v (Value.bool b))] = [(SV.v (Value.string (s ++ strOfNums (beT n k x')))), (SV.v (Value.bool b))]))))))) ∧ (((k - x') : Nat) < (k - x))))))) (True ∧ (((1 : Nat) = 1) ∧ (((1 : Nat) ≤ 1) ∧ (∀ i : Nat, (((i : Nat) < 1) → ([(SV.v (Value.string (s ++ strOfNums (beT n k x)))), (SV.v (Value.bool b))] = [(SV.v (Value.string (s ++ strOfNums (be n k)))), (SV.v (Value.bool (b || false)))])))))))))) := by kernel_rfl
theorem vcRFrame (s : ByteArray) (R : SV → Prop) : (vcPure Try.prog ΓD0 noΛ Try.f22 [.v (.string s)] R) =

(sel (s == { data := #[] }) (R (SV.tup [(SV.v (Value.string ({ data := #[] }))), (SV.v (Value.int IntKind.i64 7))])) 
(sel (decide ((↑(ByteArray.size s) : Int) > 2048)) (R (SV.tup [(SV.v (Value.string ({ data := #[] }))), (SV.v (Value.int IntKind.i64 6))])) ((((U64 (IntKind.wrap IntKind.u64 (↑(ByteArray.size s) : Int))) ∧ (((0 : Int) ≤ 4) ∧ ((4 : Int) ≤ 8))) ∧ ((0 : Nat) ≤ M0)) ∧ (((((↑(ByteArray.size ({ data := #[] } ++ strOfNums (be (IntKind.wrap IntKind.u64 (↑(ByteArray.size s) : Int)) 4)) + ByteArray.size s) : Int)) : Int) ≤ 9223372036854775807) ∧ (R (SV.tup [(SV.v (Value.string ({ data := #[] } ++ strOfNums (be (IntKind.wrap IntKind.u64 (↑(ByteArray.size s) : Int)) 4) ++ s))), (SV.v (Value.int IntKind.i64 0))])))))) := by kernel_rfl
theorem Frame_str (s : ByteArray) : (strOf (4 + s.size) fun y => [SV.v (.int .u8 (bop (Nat.blt (0 + y) 4) ((be ((s.size : Int) % 4294967296) 4).getD (0 + (0 + y)) 0) ((s.data.toList.getD (0 + y - 4) 0).toNat : Int)))]) = strOfNums (be ((s.size : Int) % 4294967296) 4) ++ s := by
  have hl : (be ((s.size : Int) % 4294967296) 4).length = 4 := be_len _ _
  generalize be ((s.size : Int) % 4294967296) 4 = L at hl ⊢
  have hs : strOfNums L ++ s = strOfNums (L ++ byt s) := by rw [← str_append, str_byt]
  rw [hs, strOf_lst]
  congr 1
  have := lstG_ap 4 (fun i => L.getD i 0) (byt s)
  rw [byt_len] at this
  have h4 : lstG 4 (fun i => L.getD i 0) = L := by
    have := lstG_list L
    rw [hl] at this
    exact this
  rw [h4] at this
  rw [← this]
  refine lstG_congr fun i _ => ?_
  simp only [Nat.zero_add]
  unfold apG
  rw [byt_get]
theorem rOk_same {B : Blk} {s : ByteArray} {b : Bool} (h1 : rOk B = true) (h2 : B.row 0 = [.v (.string s), .v (.bool b)]) : BlkSame B (rB s b) := by
  simp only [rOk, Bool.and_eq_true, Bool.not_eq_true'] at h1
  obtain ⟨⟨⟨⟨⟨⟨⟨a1, a2⟩, a3⟩, a4⟩, a5⟩, a6⟩, a7⟩, a8⟩ := h1
  have hn := Nat.eq_of_beq_eq_true a5
  exact ⟨Nat.eq_of_beq_eq_true a2, a3, a8, hn, Nat.eq_of_beq_eq_true a6, a4, Nat.eq_of_beq_eq_true a1, a7, fun i hi => by
    have : i = 0 := by omega
    subst this
    exact h2⟩
theorem rapp_spec {Γ : Ctrs} (hΓ : ∀ f g, Γ f = some g → g.ok Try.prog f) {f : FuncId} {fn : Func} (hf : Try.prog.funcs[f]? = some fn) {m : Nat} {F : List SV → Option (Prop × List Int × Bool)} {Λ : List SV → ByteArray → Bool → Nat → Option LoopSpec}
    (h : ∀ rest q L b s b0, F rest = some (q, L, b) → q → s.size ≤ m → vcFn Try.prog Γ (Λ rest s b0) fn (.vp 0 0 :: rest) (heapOf [rB s b0]) 64 (fun y h' => FinE [rB s b0] (.det none (.tup []) [(0, rB (s ++ strOfNums L) (b0 || b))]) y h')) :
    HpSpec Try.prog f (sRApp m F) := hp_spec hm hΓ hf (Λ := fun args bs => match args, bs with
      | _ :: rest, [B] => match B.row 0 with
        | [.v (.string s), .v (.bool b0)] => Λ rest s b0
        | _ => noΛ
      | _, _ => noΛ) fun args bs e hs hp => by
  unfold sRApp at hs
  split at hs <;> try (cases hs; done)
  rename_i rest B
  split at hs <;> try (cases hs; done)
  rename_i q L b s b0 hF hB
  obtain ⟨ha, he⟩ := bif_some hs
  subst he
  obtain ⟨hq, hm⟩ := hp _ rfl
  refine ⟨[rB s b0], ⟨rOk_same ha hB, trivial⟩, ?_⟩
  simp only [hB]
  exact h rest q L b s b0 hF hq hm
theorem RBytes_spec : HpSpec Try.prog 60 (sRApp M0 fRBytes) := rapp_spec noCtrs_ok Try.func60 (Λ := fun rest s b0 => match rest with | [.v (.int _ n), .v (.int _ k)] => ΛRBytes s b0 n k.toNat | _ => noΛ) fun rest q L b s b0 h hq hm => by
  unfold fRBytes at h
  split at h <;> try (cases h; done)
  rename_i n k
  cases h
  obtain ⟨hn, hk0, hk⟩ := hq
  have hm : s.size ≤ 1099511627776 := hm
  obtain ⟨k, rfl⟩ : ∃ m : Nat, k = (m : Int) := ⟨k.toNat, by omega⟩
  rw [Int.toNat_natCast]
  refine Eq.mpr (vcRBytes s b0 n k) ⟨⟨0, Nat.zero_le _, int_mk (by rw [wrap_i64 ⟨by omega, by omega⟩]; omega), rfl, Nat.le_refl _, fun i _ => ?_⟩, fun x hx => sel_of (fun hlt => ?_) fun hge => ?_⟩
  · rw [show beT n k 0 = [] by simp [beT], str_nil, app_emp]
  · have hx : x ≤ k := hx
    have hlt := of_decide_eq_true hlt
    have hlt : x < k := by omega
    have e3 : IntKind.i64.wrap (8 * ((k : Int) - 1 - x)) = 8 * ((k : Int) - 1 - x) := wrap_i64 ⟨by omega, by omega⟩
    have e4 : IntKind.i64.wrap ((k : Int) - 1 - x - 1) = (k : Int) - 1 - x - 1 := wrap_i64 ⟨by omega, by omega⟩
    rw [e3, e4, wrap_u64, wrap_u8]
    refine ⟨by omega, fun _ _ => trivial, ?_, x + 1, ⟨hlt, int_mk (by omega), rfl, Nat.le_refl _, fun i _ => ?_⟩, by omega⟩
    · rw [size_app, size_str, beT_len]; omega
    · rw [strOf_one, str_app2, beT_succ]
      unfold byteAt
      rw [show min (Int.toNat (8 * ((k : Int) - 1 - x) % 18446744073709551616)) 64 = 8 * (k - 1 - x) by omega]
  · have hx : x ≤ k := hx
    have hge := of_decide_eq_false hge
    have hx : x = k := by omega
    subst hx
    exact ⟨trivial, rfl, Nat.le_refl _, fun i _ => by rw [Bool.or_false]; rfl⟩
theorem ΓD0_ok : ∀ f g, ΓD0 f = some g → g.ok Try.prog f := addCtr_ok (addCtr_ok ΓC1_ok (hp_ok Try.func59 (by kernel_rfl) (by kernel_rfl) Word_spec)) (hp_ok Try.func60 (by kernel_rfl) (by kernel_rfl) RBytes_spec)
theorem frameS_nil {s : ByteArray} (h : s.size = 0) : frameS s = .tup [strS emp, .v (.int .i64 7)] := by
  unfold frameS
  rw [h]; rfl
theorem frameS_long {s : ByteArray} (h : 2048 < s.size) : frameS s = .tup [strS emp, .v (.int .i64 6)] := by
  unfold frameS
  rw [Go.SE.beq_false (by omega : s.size ≠ 0), cond_false, blt_true h, cond_true]
theorem frameS_ok {s : ByteArray} (h : s.size ≠ 0) (h2 : ¬ 2048 < s.size) : frameS s = .tup [strS (strOfNums (be (s.size : Int) 4) ++ s), .v (.int .i64 0)] := by
  unfold frameS
  rw [Go.SE.beq_false h, cond_false, blt_false h2, cond_false]
theorem frameS_plain (s : ByteArray) : plain (frameS s) = true := by
  unfold frameS
  cases Nat.beq s.size 0 with
  | true => rfl
  | false =>
    cases Nat.blt 2048 s.size <;> rfl
theorem Frame_spec : PureSpec Try.prog 21 sFrame := vc_spec hm ΓD0_ok Try.func21 (Λ := fun _ => noΛ) fun args p x h hp => by
  unfold sFrame at h
  split at h <;> try (cases h; done)
  rename_i s
  cases h
  have hs : s.size < 4294967296 := hp _ rfl
  refine ⟨rfl, frameS_plain s, Eq.mpr (vcFrame s _) (sel_of (fun h => ?_) fun h => sel_of (fun h2 => ?_) fun h2 => ?_)⟩
  · have h : s.size = 0 := by simpa using h
    rw [frameS_nil h]; rfl
  · have h2 := of_decide_eq_true h2
    rw [frameS_long (by omega)]; rfl
  · have h : s.size ≠ 0 := by simpa using h
    have h2 := of_decide_eq_false h2
    have e : (s.size : Int) % 4294967296 = s.size := by omega
    refine ⟨⟨by omega, by omega⟩, fun c => ⟨⟨by omega, by omega, fun _ _ => trivial⟩, fun c' => ⟨fun _ _ => trivial, ?_⟩⟩⟩
    rw [frameS_ok h (by omega)]
    have := Frame_str s
    simp only [e] at this ⊢
    exact congrArg (fun z => SV.tup [SV.v (.string z), SV.v (.int .i64 0)]) this
theorem RFrame_spec : PureSpec Try.prog 22 sFrame := vc_spec hm ΓD0_ok Try.func22 (Λ := fun _ => noΛ) fun args p x h hp => by
  unfold sFrame at h
  split at h <;> try (cases h; done)
  rename_i s
  cases h
  have hs : s.size < 4294967296 := hp _ rfl
  refine ⟨rfl, frameS_plain s, Eq.mpr (vcRFrame s _) (sel_of (fun h => ?_) fun h => sel_of (fun h2 => ?_) fun h2 => ?_)⟩
  · have h : s = emp := (ba_beq _ _).1 h
    rw [frameS_nil (by rw [h]; rfl)]; rfl
  · have h2 := of_decide_eq_true h2
    rw [frameS_long (by omega)]; rfl
  · have h : s.size ≠ 0 := fun e => ba_bne h (size_zero e)
    have h2 := of_decide_eq_false h2
    have e : IntKind.u64.wrap (s.size : Int) = s.size := by rw [wrap_u64]; omega
    rw [e]
    refine ⟨⟨⟨⟨by omega, by omega⟩, by omega, by omega⟩, Nat.zero_le _⟩, ?_, ?_⟩
    · show ((((emp ++ strOfNums (be (s.size : Int) 4)).size + s.size : Nat)) : Int) ≤ 9223372036854775807
      rw [emp_app, size_str, be_len]; omega
    · rw [frameS_ok h (by omega)]
      show SV.tup [SV.v (.string (emp ++ strOfNums (be (s.size : Int) 4) ++ s)), _] = _
      rw [emp_app]; rfl
end Go.Proofs.Ytjdldadmaaeimaa
