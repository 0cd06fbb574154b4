/-
  Contracts: the reader of bytes, where it does not stop.
-/
import Derived.Test.YtjdldadmaaeimaaWiG
set_option maxRecDepth 100000
set_option linter.unusedSimpArgs false
set_option linter.unusedVariables false
namespace Go.Proofs.Ytjdldadmaaeimaa
open Go.SE Go.RowKit

/-- A reader: its string, and where it is. -/
def rdB (s : ByteArray) (k : Int) : Blk := { elem := 141, size := 2, rw := true, lock := false, lit := true, flat := true, n := 1, row := fun _ => [.v (.string s), .v (.int .i64 k)], ext := 1, whole := true }
def rdOk (b : Blk) : Bool := Nat.beq b.elem 141 && Nat.beq b.size 2 && b.rw && !b.dead && Nat.beq b.n 1 && Nat.beq b.ext 1 && b.whole && b.flat
def sRdG (f : List SV → ByteArray → Int → Option (Prop × SV × Int)) (args : List SV) (bs : List Blk) : Option Eff := match args, bs with
  | .vp 0 0 :: rest, [B] => match B.row 0 with
    | [.v (.string s), .v (.int .i64 k)] => match f rest s k with
      | some (q, x, k') => bif rdOk B then some (.det (some q) x [(0, rdB s k')]) else none
      | none => none
    | _ => none
  | _, _ => none
/-- The i bytes from k on, as a number. -/
def rdT (s : ByteArray) (k : Int) : Nat → Int
  | 0 => 0
  | i + 1 => rdT s k i * 256 + ((s.data.toList.getD (k.toNat + i) 0).toNat : Int)
def rdQ (s : ByteArray) (k : Int) (n : Int) : Prop := (0 ≤ k ∧ 0 ≤ n) ∧ (n ≤ 8 ∧ k + n ≤ (s.size : Int)) ∧ s.size ≤ 1099511627776
def fTake : List SV → ByteArray → Int → Option (Prop × SV × Int)
  | [.v (.int .i64 n)], s, k => some (rdQ s k n, .v (.int .u64 (rdT s k n.toNat)), k + n)
  | _, _, _ => none
def fUpto : List SV → ByteArray → Int → Option (Prop × SV × Int)
  | [.v (.int .u64 m), .v (.int .i64 n)], s, k => some (rdQ s k n ∧ rdT s k n.toNat ≤ m ∧ m ≤ 1099511627776, .v (.int .i64 (rdT s k n.toNat)), k + n)
  | _, _, _ => none
def fRdCount : List SV → ByteArray → Int → Option (Prop × SV × Int)
  | [], s, k => some (rdQ s k 4 ∧ rdT s k 4 ≤ 2147483647, .v (.int .i64 (rdT s k 4)), k + 4)
  | _, _, _ => none
def fEnd : List SV → ByteArray → Int → Option (Prop × SV × Int)
  | [], s, k => some (k = (s.size : Int), .tup [], k)
  | _, _, _ => none
/-- A kind that is 10. -/
def fKind10 : List SV → ByteArray → Int → Option (Prop × SV × Int)
  | [.v (.int .i64 low)], s, k => some (rdQ s k 1 ∧ rdT s k 1 = 10 ∧ low ≤ 10, iV 10, k + 1)
  | _, _, _ => none
def sRNeed : List SV → Option (Option Prop × SV)
  | [.v (.bool b), .v (.int .i64 _)] => some (some (b = true), .tup [])
  | _ => none
noncomputable def ΛTake (s : ByteArray) (k : Int) (n : Nat) : Nat → Option LoopSpec := addLoop noΛ Try.f87 0 Nat (fun i => i ≤ n) (fun i => n - i) [(20, fun i => .v (.int .i64 i)), (5, fun i => .v (.int .u64 (rdT s k i)))] [(0, fun i => rdB s (k + (i : Int)))]
def ΓR0 : Ctrs := addCtr noCtrs 132 (pureCtr sRNeed)
def ΓR1 : Ctrs := addCtr ΓR0 87 (hpCtr true (sRdG fTake))
def ΓR2 : Ctrs := addCtr ΓR1 133 (hpCtr true (sRdG fUpto))
theorem vcRNeed (b : Bool) (e : Int) (R : SV → Prop) : (vcPure Try.prog noCtrs noΛ Try.f132 [.v (.bool b), .v (.int .i64 e)] R) =

(sel (!b) False (R (SV.tup []))) := by kernel_rfl
theorem vcRdTake (s : ByteArray) (k : Int) (n : Nat) : (vcFn Try.prog ΓR0 (ΛTake s k n) Try.f87 [.vp 0 0, .v (.int .i64 (n : Int))] (heapOf [rdB s k]) 64 (fun y h' => FinE [rdB s k] (.det none (.v (.int .u64 (rdT s k n))) [(0, rdB s (k + (n : Int)))]) y h')) =
((decide (IntKind.wrap IntKind.i64 ((↑(ByteArray.size s) : Int) - k) ≥ (↑n : Int)) = true) ∧ ((∃ x : Nat, ((Nat.le x n) ∧ ((((SV.v (Value.int IntKind.i64 0)) = (SV.v (Value.int IntKind.i64 ((↑x : Int))))) ∧ ((SV.v (Value.int IntKind.u64 0)) = (SV.v (Value.int IntKind.u64 (rdT s k x))))) ∧ (((1 : Nat) = 1) ∧ (((1 : Nat) ≤ 1) ∧ (∀ i : Nat, (((i : Nat) < 1) → ([(SV.v (Value.string s)), (SV.v (Value.int IntKind.i64 k))] = [(SV.v (Value.string s)), (SV.v (Value.int IntKind.i64 (k + (↑x : Int))))])))))))) ∧ (∀ x : Nat, ((Nat.le x n) → 
(sel (decide ((↑x : Int) < (↑n : Int))) ((((0 : Int) ≤ (k + (↑x : Int))) ∧ (((k + (↑x : Int)) : Int) < ((↑(ByteArray.size s) : Int)))) ∧ (∃ x' : Nat, (((Nat.le x' n) ∧ ((((SV.v (Value.int IntKind.i64 (IntKind.wrap IntKind.i64 ((↑x : Int) + 1)))) = (SV.v (Value.int IntKind.i64 ((↑x' : Int))))) ∧ ((SV.v (Value.int IntKind.u64 (bits BinOp.or IntKind.u64 (IntKind.wrap IntKind.u64 (rdT s k x * 256)) (IntKind.wrap IntKind.u64 (↑(UInt8.toNat (List.getD (Array.toList (ByteArray.data s)) (Int.toNat (k + (↑x : Int))) 0)) : Int))))) = (SV.v (Value.int IntKind.u64 (rdT s k x'))))) ∧ (((1 : Nat) = 1) ∧ (((1 : Nat) ≤ 1) ∧ (∀ i : Nat, (((i : Nat) < 1) → ([(SV.v (Value.string s)), (SV.v (Value.int IntKind.i64 (IntKind.wrap IntKind.i64 (k + (↑x : Int) + 1))))] = [(SV.v (Value.string s)), (SV.v (Value.int IntKind.i64 (k + (↑x' : Int))))]))))))) ∧ (((n - x') : Nat) < (n - x))))) (((SV.v (Value.int IntKind.u64 (rdT s k x))) = (SV.v (Value.int IntKind.u64 (rdT s k n)))) ∧ (((1 : Nat) = 1) ∧ (((1 : Nat) ≤ 1) ∧ (∀ i : Nat, (((i : Nat) < 1) → ([(SV.v (Value.string s)), (SV.v (Value.int IntKind.i64 (k + (↑x : Int))))] = [(SV.v (Value.string s)), (SV.v (Value.int IntKind.i64 (k + (↑n : Int))))]))))))))))) := by kernel_rfl
theorem vcRdUpto (s : ByteArray) (k m n : Int) : (vcFn Try.prog ΓR1 noΛ Try.f133 [.vp 0 0, .v (.int .u64 m), .v (.int .i64 n)] (heapOf [rdB s k]) 64 (fun y h' => FinE [rdB s k] (.det none (.v (.int .i64 (rdT s k n.toNat))) [(0, rdB s (k + n))]) y h')) =
((rdQ s k n) ∧ ((decide (rdT s k (Int.toNat n) ≤ m) = true) ∧ (((SV.v (Value.int IntKind.i64 (IntKind.wrap IntKind.i64 (rdT s k (Int.toNat n))))) = (SV.v (Value.int IntKind.i64 (rdT s k (Int.toNat n))))) ∧ (((1 : Nat) = 1) ∧ (((1 : Nat) ≤ 1) ∧ (∀ i : Nat, (((i : Nat) < 1) → ([(SV.v (Value.string s)), (SV.v (Value.int IntKind.i64 (k + n)))] = [(SV.v (Value.string s)), (SV.v (Value.int IntKind.i64 (k + n)))])))))))) := by kernel_rfl
theorem vcRdCount (s : ByteArray) (k : Int) : (vcFn Try.prog ΓR2 noΛ Try.f121 [.vp 0 0] (heapOf [rdB s k]) 64 (fun y h' => FinE [rdB s k] (.det none (.v (.int .i64 (rdT s k 4))) [(0, rdB s (k + 4))]) y h')) =
(((rdQ s k 4) ∧ ((((rdT s k 4) : Int) ≤ 2147483647) ∧ ((2147483647 : Int) ≤ 1099511627776))) ∧ (((SV.v (Value.int IntKind.i64 (rdT s k 4))) = (SV.v (Value.int IntKind.i64 (rdT s k 4)))) ∧ (((1 : Nat) = 1) ∧ (((1 : Nat) ≤ 1) ∧ (∀ i : Nat, (((i : Nat) < 1) → ([(SV.v (Value.string s)), (SV.v (Value.int IntKind.i64 (k + 4)))] = [(SV.v (Value.string s)), (SV.v (Value.int IntKind.i64 (k + 4)))]))))))) := by kernel_rfl
theorem vcRdEnd (s : ByteArray) (k : Int) : (vcFn Try.prog ΓR0 noΛ Try.f131 [.vp 0 0] (heapOf [rdB s k]) 64 (fun y h' => FinE [rdB s k] (.det none (.tup []) [(0, rdB s k)]) y h')) =
(((k == (↑(ByteArray.size s) : Int)) = true) ∧ (True ∧ (((1 : Nat) = 1) ∧ (((1 : Nat) ≤ 1) ∧ (∀ i : Nat, (((i : Nat) < 1) → ([(SV.v (Value.string s)), (SV.v (Value.int IntKind.i64 k))] = [(SV.v (Value.string s)), (SV.v (Value.int IntKind.i64 k))]))))))) := by kernel_rfl
theorem vcKind10 (s : ByteArray) (k low : Int) : (vcFn Try.prog ΓR1 noΛ Try.f120 [.vp 0 0, .v (.int .i64 low)] (heapOf [rdB s k]) 64 (fun y h' => FinE [rdB s k] (.det none (iV 10) [(0, rdB s (k + 1))]) y h')) =
((rdQ s k 1) ∧ 
(sel (decide (IntKind.wrap IntKind.i64 (rdT s k 1) ≥ low)) ((decide (IntKind.wrap IntKind.i64 (rdT s k 1) ≤ 10) = true) ∧ (((SV.v (Value.int IntKind.i64 (IntKind.wrap IntKind.i64 (rdT s k 1)))) = (SV.v (Value.int IntKind.i64 10))) ∧ (((1 : Nat) = 1) ∧ (((1 : Nat) ≤ 1) ∧ (∀ i : Nat, (((i : Nat) < 1) → ([(SV.v (Value.string s)), (SV.v (Value.int IntKind.i64 (k + 1)))] = [(SV.v (Value.string s)), (SV.v (Value.int IntKind.i64 (k + 1)))]))))))) ((false = true) ∧ (((SV.v (Value.int IntKind.i64 (IntKind.wrap IntKind.i64 (rdT s k 1)))) = (SV.v (Value.int IntKind.i64 10))) ∧ (((1 : Nat) = 1) ∧ (((1 : Nat) ≤ 1) ∧ (∀ i : Nat, (((i : Nat) < 1) → ([(SV.v (Value.string s)), (SV.v (Value.int IntKind.i64 (k + 1)))] = [(SV.v (Value.string s)), (SV.v (Value.int IntKind.i64 (k + 1)))]))))))))) := by kernel_rfl
theorem rdOk_same {B : Blk} {s : ByteArray} {k : Int} (h1 : rdOk B = true) (h2 : B.row 0 = [.v (.string s), .v (.int .i64 k)]) : BlkSame B (rdB s k) := by
  simp only [rdOk, Bool.and_eq_true, Bool.not_eq_true'] at h1
  obtain ⟨⟨⟨⟨⟨⟨⟨a1, a2⟩, a3⟩, a4⟩, a5⟩, a6⟩, a7⟩, a8⟩ := h1
  have hn := Nat.eq_of_beq_eq_true a5
  exact ⟨Nat.eq_of_beq_eq_true a2, a3, a8, hn, Nat.eq_of_beq_eq_true a6, a4, Nat.eq_of_beq_eq_true a1, a7, fun i hi => by
    have : i = 0 := by omega
    subst this
    exact h2⟩
theorem rd_spec {Γ : Ctrs} (hΓ : ∀ f g, Γ f = some g → g.ok Try.prog f) {f : FuncId} {fn : Func} (hf : Try.prog.funcs[f]? = some fn) {F : List SV → ByteArray → Int → Option (Prop × SV × Int)} {Λ : List SV → ByteArray → Int → Nat → Option LoopSpec}
    (h : ∀ rest s k q x k', F rest s k = some (q, x, k') → q → vcFn Try.prog Γ (Λ rest s k) fn (.vp 0 0 :: rest) (heapOf [rdB s k]) 64 (fun y h' => FinE [rdB s k] (.det none x [(0, rdB s k')]) y h')) :
    HpSpec Try.prog f (sRdG F) := hp_spec hm hΓ hf (Λ := fun args bs => match args, bs with
      | _ :: rest, [B] => match B.row 0 with
        | [.v (.string s), .v (.int _ k)] => Λ rest s k
        | _ => noΛ
      | _, _ => noΛ) fun args bs e hs hp => by
  unfold sRdG at hs
  split at hs <;> try (cases hs; done)
  rename_i rest B
  split at hs <;> try (cases hs; done)
  rename_i s k hB
  split at hs <;> try (cases hs; done)
  rename_i q x k' hF
  obtain ⟨ha, he⟩ := bif_some hs
  subst he
  refine ⟨[rdB s k], ⟨rdOk_same ha hB, trivial⟩, ?_⟩
  simp only [hB]
  exact h rest s k q x k' hF (hp _ rfl)
theorem RNeed_spec : PureSpec Try.prog 132 sRNeed := vc_spec hm noCtrs_ok Try.func132 (Λ := fun _ => noΛ) fun args p x h hp => by
  unfold sRNeed at h
  split at h <;> try (cases h; done)
  rename_i b e
  cases h
  have hb := hp _ rfl
  subst hb
  refine ⟨rfl, rfl, ?_⟩
  rw [vcRNeed]
  rfl
theorem ΓR0_ok : ∀ f g, ΓR0 f = some g → g.ok Try.prog f := addCtr_ok noCtrs_ok (pure_ok Try.func132 (by kernel_rfl) (by kernel_rfl) RNeed_spec)
theorem rdT_rng (s : ByteArray) (k : Int) : ∀ n : Nat, 0 ≤ rdT s k n ∧ rdT s k n < 256 ^ n
  | 0 => ⟨Int.le_refl _, by show (0 : Int) < 1; omega⟩
  | n + 1 => by
    obtain ⟨h1, h2⟩ := rdT_rng s k n
    have hb := (s.data.toList.getD (k.toNat + n) 0).toNat_lt
    simp only [rdT]
    rw [Int.pow_succ]
    omega
theorem or_byte {a b : Int} (ha : 0 ≤ a) (ha' : a < 72057594037927936) (hb : 0 ≤ b) (hb' : b < 256) : bits .or .u64 (a * 256) b = a * 256 + b := by
  rw [u64_or (a * 256) b (by omega) (by omega) hb (by omega)]
  have h := nat_join 8 (a * 256).toNat b.toNat (by omega) (by omega)
  rw [h]; omega
theorem pow_le8 {x : Int} {n : Nat} (h : x < 256 ^ n) (hn : n ≤ 7) : x < 72057594037927936 := by
  have : (256 : Int) ^ n ≤ 256 ^ 7 := by exact_mod_cast Nat.pow_le_pow_right (by decide) hn
  omega
theorem Take_spec : HpSpec Try.prog 87 (sRdG fTake) := rd_spec ΓR0_ok Try.func87 (Λ := fun rest s k => match rest with | [.v (.int _ n)] => ΛTake s k n.toNat | _ => noΛ) fun rest s k q x k' h hq => by
  unfold fTake at h
  split at h <;> try (cases h; done)
  rename_i n
  cases h
  obtain ⟨⟨hk, hn0⟩, ⟨hn8, hsz⟩, hM⟩ := hq
  obtain ⟨n, rfl⟩ : ∃ m : Nat, n = (m : Int) := ⟨n.toNat, by omega⟩
  rw [Int.toNat_natCast]
  refine Eq.mpr (vcRdTake s k n) ⟨decide_eq_true ?_, ⟨0, Nat.zero_le _, ⟨rfl, rfl⟩, rfl, Nat.le_refl _, fun i hi => by rw [show k + ((0 : Nat) : Int) = k by omega]⟩, fun x hx => sel_of (fun hlt => ?_) fun hge => ?_⟩
  · rw [wrap_i64 ⟨by omega, by omega⟩]; omega
  · have hx : x ≤ n := hx
    have hlt := of_decide_eq_true hlt
    have hlt : x < n := by omega
    obtain ⟨r1, r2⟩ := rdT_rng s k x
    have r3 := pow_le8 r2 (by omega)
    have hb := (s.data.toList.getD (k + (x : Int)).toNat 0).toNat_lt
    have e1 : IntKind.i64.wrap ((x : Int) + 1) = ((x + 1 : Nat) : Int) := wrap_i64 ⟨by omega, by omega⟩
    have e2 : IntKind.i64.wrap (k + (x : Int) + 1) = k + ((x + 1 : Nat) : Int) := by rw [wrap_i64 ⟨by omega, by omega⟩]; omega
    have e3 : IntKind.u64.wrap (rdT s k x * 256) = rdT s k x * 256 := by rw [wrap_u64]; omega
    have e4 : IntKind.u64.wrap ((s.data.toList.getD (k + (x : Int)).toNat 0).toNat : Int) = ((s.data.toList.getD (k + (x : Int)).toNat 0).toNat : Int) := by rw [wrap_u64]; omega
    rw [e1, e2, e3, e4, or_byte r1 r3 (by omega) (by omega)]
    refine ⟨⟨by omega, by omega⟩, x + 1, ⟨hlt, ⟨rfl, ?_⟩, rfl, Nat.le_refl _, fun _ _ => rfl⟩, by omega⟩
    show _ = SV.v (.int .u64 (rdT s k x * 256 + ((s.data.toList.getD (k.toNat + x) 0).toNat : Int)))
    rw [show (k + (x : Int)).toNat = k.toNat + x by omega]
  · have hx : x ≤ n := hx
    have hge := of_decide_eq_false hge
    have hx : x = n := by omega
    subst hx
    exact ⟨rfl, rfl, Nat.le_refl _, fun _ _ => rfl⟩
theorem ΓR1_ok : ∀ f g, ΓR1 f = some g → g.ok Try.prog f := addCtr_ok ΓR0_ok (hp_ok Try.func87 (by kernel_rfl) (by kernel_rfl) Take_spec)
theorem RdUpto_spec : HpSpec Try.prog 133 (sRdG fUpto) := rd_spec ΓR1_ok Try.func133 (Λ := fun _ _ _ => noΛ) fun rest s k q x k' h hq => by
  unfold fUpto at h
  split at h <;> try (cases h; done)
  rename_i m n
  cases h
  obtain ⟨hq, h1, h2⟩ := hq
  rw [vcRdUpto]
  refine ⟨hq, decide_eq_true h1, ?_, rfl, Nat.le_refl _, fun _ _ => rfl⟩
  have := (rdT_rng s k n.toNat).1
  rw [wrap_i64 ⟨by omega, by omega⟩]
theorem ΓR2_ok : ∀ f g, ΓR2 f = some g → g.ok Try.prog f := addCtr_ok ΓR1_ok (hp_ok Try.func133 (by kernel_rfl) (by kernel_rfl) RdUpto_spec)
theorem RdCount_spec : HpSpec Try.prog 121 (sRdG fRdCount) := rd_spec ΓR2_ok Try.func121 (Λ := fun _ _ _ => noΛ) fun rest s k q x k' h hq => by
  unfold fRdCount at h
  split at h <;> try (cases h; done)
  cases h
  rw [vcRdCount]
  exact ⟨⟨hq.1, hq.2, by omega⟩, rfl, rfl, Nat.le_refl _, fun _ _ => rfl⟩
theorem RdEnd_spec : HpSpec Try.prog 131 (sRdG fEnd) := rd_spec ΓR0_ok Try.func131 (Λ := fun _ _ _ => noΛ) fun rest s k q x k' h hq => by
  unfold fEnd at h
  split at h <;> try (cases h; done)
  cases h
  rw [vcRdEnd]
  exact ⟨by rw [hq]; exact beq_self_eq_true _, trivial, rfl, Nat.le_refl _, fun _ _ => rfl⟩
theorem Kind10_spec : HpSpec Try.prog 120 (sRdG fKind10) := rd_spec ΓR1_ok Try.func120 (Λ := fun _ _ _ => noΛ) fun rest s k q x k' h hq => by
  unfold fKind10 at h
  split at h <;> try (cases h; done)
  cases h
  obtain ⟨hq, h1, h2⟩ := hq
  rw [vcKind10, h1]
  exact ⟨hq, sel_of (fun _ => ⟨rfl, rfl, rfl, Nat.le_refl _, fun _ _ => rfl⟩) fun h => by
    have h := of_decide_eq_false h
    rw [wrap_i64 ⟨by omega, by omega⟩] at h
    omega⟩
end Go.Proofs.Ytjdldadmaaeimaa
