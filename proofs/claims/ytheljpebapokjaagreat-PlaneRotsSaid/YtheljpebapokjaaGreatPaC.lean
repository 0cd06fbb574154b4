/-
  Contracts: sums of vectors, flagged vectors.
-/
import Derived.Test.YtheljpebapokjaaGreatPaB
import Derived.Test.YtheljpebapokjaaGreatFyQ
set_option maxRecDepth 100000
set_option linter.unusedSimpArgs false
namespace Go.Proofs.YtheljpebapokjaaGreat
open Go.SE Go.RowKit

def rX (r : List SV) : NB := match r with | [.v (.int _ a), .v (.bool f), _, _] => ⟨a, f⟩ | _ => ⟨0, false⟩
def rY (r : List SV) : NB := match r with | [_, _, .v (.int _ a), .v (.bool f)] => ⟨a, f⟩ | _ => ⟨0, false⟩
def rV (r : List SV) : VB := ⟨rX r, rY r⟩
def isVI : List SV → Prop
  | [.v (.int .i64 a), .v (.bool _), .v (.int .i64 b), .v (.bool _)] => I64 a ∧ I64 b
  | _ => False
def nR (a : NB) : List SV := [.v (.int .i64 a.v), .v (.bool a.f)]
def vR (a : VB) : List SV := [.v (.int .i64 a.x.v), .v (.bool a.x.f), .v (.int .i64 a.y.v), .v (.bool a.y.f)]
def sumL (l : List (List SV)) : NB := ⟨fitE (sumG l), fitG (sumG l) (anyG l)⟩
def addL (n : Nat) (g : Nat → VB) : VB := ⟨sumL (rowsOf n fun i => nR (g i).x), sumL (rowsOf n fun i => nR (g i).y)⟩
def badV (a : VB) : Bool := sndF a.x.v a.x.f || sndF a.y.v a.y.f
def anyV (n : Nat) (g : Nat → VB) : Bool := match n with
  | 0 => false
  | k + 1 => anyV k g || badV (g k)
def sAddL : List SV → List Ro → Option (Option Prop × SV)
  | [.sl 0 4 0 n _], [⟨4, n', row⟩] => some (some (okAll isVI (rowsOf n' row) ∧ n' = n ∧ n < 1099511627776), vS (addL n fun i => rV (row i)))
  | _, _ => none
def sFaultL : List SV → List Ro → Option (Option Prop × SV)
  | [.sl 0 4 0 n _], [⟨4, n', row⟩] => some (some (okAll isVI (rowsOf n' row) ∧ n' = n ∧ n < 1099511627776), .v (.bool (anyV n fun i => rV (row i))))
  | _, _ => none
def sFault1 : List SV → Option (Option Prop × SV)
  | [.agg [.v (.int .i64 a), .v (.bool f), .v (.int .i64 b), .v (.bool g)]] => some (some (I64 a ∧ I64 b), .v (.bool (badV ⟨⟨a, f⟩, ⟨b, g⟩⟩)))
  | _ => none
def sFlag1 : List SV → Option (Option Prop × SV)
  | [.agg [.v (.int .i64 a), .v (.bool f)]] => some (some (I64 a), .v (.bool (sndF a f)))
  | _ => none
/-- The first flagged one, from k on of n; -1. -/
def idxV (g : Nat → VB) : Nat → Nat → Int
  | 0, _ => -1
  | m + 1, k => bif badV (g k) then (k : Int) else idxV g m (k + 1)
def sIdx : List SV → List Ro → Option (Option Prop × SV)
  | [.sl 0 4 0 n _, .fn f []], [⟨4, n', row⟩] => bif Nat.beq f 50 then some (some (okAll isVI (rowsOf n' row) ∧ n' = n ∧ n < 1099511627776), .v (.int .i64 (idxV (fun i => rV (row i)) n 0))) else none
  | _, _ => none
def sContains : List SV → List Ro → Option (Option Prop × SV)
  | [.sl 0 4 0 n _, .fn f []], [⟨4, n', row⟩] => bif Nat.beq f 50 then some (some (okAll isVI (rowsOf n' row) ∧ n' = n ∧ n < 1099511627776), .v (.bool (anyV n fun i => rV (row i)))) else none
  | _, _ => none
def rowsV (g : Nat → VB) : Nat → List SV := fun i => vR (g i)
def blkN (n : Nat) (c : Nat) (g : Nat → NB) : Blk := { elem := 23, size := 2, rw := true, lock := false, lit := false, flat := true, n, row := fun i => nR (g i), ext := c }
structure KCD where
  k : Nat
  c : Nat
  d : Nat
noncomputable def ΛIdx (n : Nat) (g : Nat → VB) : Nat → Option LoopSpec := addLoop noΛ Tryz.f83 0 Nat (fun k => k ≤ n ∧ idxV g (n - k) k = idxV g n 0) (fun k => n - k) [(8, fun k => .v (.int .i64 k))] []
theorem vcFault1 (a : VB) (R : SV → Prop) : (vcPure Tryz.prog ΓV2 noΛ Tryz.f50 [vS a] R) =
((I64 (NB.v (VB.x a))) ∧ 
(sel (NB.f (negN (VB.x a))) (R (SV.v (Value.bool true))) ((I64 (NB.v (VB.y a))) ∧ (R (SV.v (Value.bool (NB.f (negN (VB.y a))))))))) := by kernel_rfl
theorem vcFlag1 (a : NB) (R : SV → Prop) : (vcPure Tryz.prog ΓV2 noΛ Tryz.f24 [nS a] R) =
((((isNI [SV.v (Value.int IntKind.i64 (NB.v a)), SV.v (Value.bool (NB.f a))]) ∧ True) ∧ (((1 : Nat) = 1) ∧ ((1 : Nat) < 1099511627776))) ∧ (R (SV.v (Value.bool (fitG (sumG [[SV.v (Value.int IntKind.i64 (NB.v a)), SV.v (Value.bool (NB.f a))]]) (anyG [[SV.v (Value.int IntKind.i64 (NB.v a)), SV.v (Value.bool (NB.f a))]])))))) := by kernel_rfl
def ΓV3 : Ctrs := addCtr (addCtr ΓV2 50 (pureCtr sFault1)) 24 (pureCtr sFlag1)
theorem vcIdx (n n' c : Nat) (g : Nat → VB) (R : SV → Prop) : (vcFn Tryz.prog ΓV3 (ΛIdx n g) Tryz.f83 [.sl 0 4 0 n c, .fn 50 []] (roHeap [⟨4, n', rowsV g⟩]) 64 (fun y _ => R y)) =
((∃ x : Nat, ((((x : Nat) ≤ n) ∧ (((idxV g (n - x) x) : Int) = (idxV g n 0))) ∧ (((SV.v (Value.int IntKind.i64 0)) = (SV.v (Value.int IntKind.i64 ((↑x : Int))))) ∧ True))) ∧ (∀ x : Nat, ((((x : Nat) ≤ n) ∧ (((idxV g (n - x) x) : Int) = (idxV g n 0))) → 
(sel (decide ((↑x : Int) < (↑n : Int))) ((((0 : Int) ≤ ((↑x : Int))) ∧ ((((↑x : Int)) : Int) < ((↑n : Int)))) ∧ (((I64 (NB.v (VB.x (g (0 + Int.toNat (↑x : Int)))))) ∧ (I64 (NB.v (VB.y (g (0 + Int.toNat (↑x : Int))))))) ∧ 
(sel (badV (g (0 + Int.toNat (↑x : Int)))) (R (SV.v (Value.int IntKind.i64 ((↑x : Int))))) (∃ x' : Nat, (((((x' : Nat) ≤ n) ∧ (((idxV g (n - x') x') : Int) = (idxV g n 0))) ∧ (((SV.v (Value.int IntKind.i64 (IntKind.wrap IntKind.i64 ((↑x : Int) + 1)))) = (SV.v (Value.int IntKind.i64 ((↑x' : Int))))) ∧ True)) ∧ (((n - x') : Nat) < (n - x))))))) (R (SV.v (Value.int IntKind.i64 (-1)))))))) := by kernel_rfl
def ΓV4 : Ctrs := addCtr ΓV3 83 (roCtr sIdx)
theorem vcContains (n n' c : Nat) (g : Nat → VB) (R : SV → Prop) : (vcFn Tryz.prog ΓV4 noΛ Tryz.f49 [.sl 0 4 0 n c, .fn 50 []] (roHeap [⟨4, n', rowsV g⟩]) 64 (fun y _ => R y)) =
(((okAll isVI (rowsOf n fun y => [SV.v (Value.int IntKind.i64 (NB.v (VB.x (g (0 + y))))), SV.v (Value.bool (NB.f (VB.x (g (0 + y))))), SV.v (Value.int IntKind.i64 (NB.v (VB.y (g (0 + y))))), SV.v (Value.bool (NB.f (VB.y (g (0 + y)))))])) ∧ (((n : Nat) = n) ∧ ((n : Nat) < 1099511627776))) ∧ (R (SV.v (Value.bool (decide (idxV (fun i => rV [SV.v (Value.int IntKind.i64 (NB.v (VB.x (g (0 + i))))), SV.v (Value.bool (NB.f (VB.x (g (0 + i))))), SV.v (Value.int IntKind.i64 (NB.v (VB.y (g (0 + i))))), SV.v (Value.bool (NB.f (VB.y (g (0 + i)))))]) n 0 ≥ 0)))))) := by kernel_rfl
def ΓV5 : Ctrs := addCtr ΓV4 49 (roCtr sContains)
theorem vcFault (n n' c : Nat) (g : Nat → VB) (R : SV → Prop) : (vcFn Tryz.prog ΓV5 noΛ Tryz.f21 [.sl 0 4 0 n c] (roHeap [⟨4, n', rowsV g⟩]) 64 (fun y _ => R y)) =
(((okAll isVI (rowsOf n fun y => [SV.v (Value.int IntKind.i64 (NB.v (VB.x (g (0 + y))))), SV.v (Value.bool (NB.f (VB.x (g (0 + y))))), SV.v (Value.int IntKind.i64 (NB.v (VB.y (g (0 + y))))), SV.v (Value.bool (NB.f (VB.y (g (0 + y)))))])) ∧ (((n : Nat) = n) ∧ ((n : Nat) < 1099511627776))) ∧ (R (SV.v (Value.bool (anyV n fun i => rV [SV.v (Value.int IntKind.i64 (NB.v (VB.x (g (0 + i))))), SV.v (Value.bool (NB.f (VB.x (g (0 + i))))), SV.v (Value.int IntKind.i64 (NB.v (VB.y (g (0 + i))))), SV.v (Value.bool (NB.f (VB.y (g (0 + i)))))]))))) := by kernel_rfl
theorem isV_row {r : List SV} (h : isVI r) : r = vR (rV r) ∧ I64 (rV r).x.v ∧ I64 (rV r).y.v := by
  unfold isVI at h
  split at h
  · exact ⟨rfl, h.1, h.2⟩
  · exact h.elim
theorem okAll_V {n : Nat} {g : Nat → VB} (h : ∀ i, i < n → I64 (g i).x.v ∧ I64 (g i).y.v) : okAll isVI (rowsOf n fun i => vR (g i)) := okAll_rows.2 fun i hi => h i hi
theorem okAll_NI {n : Nat} {g : Nat → NB} (h : ∀ i, i < n → I64 (g i).v) : okAll isNI (rowsOf n fun i => nR (g i)) := okAll_rows.2 fun i hi => h i hi
theorem vRow_eq {n : Nat} {row : Nat → List SV} (h : ∀ i, i < n → isVI (row i)) : ∀ i, i < n → row i = vR (rV (row i)) := fun i hi => (isV_row (h i hi)).1
theorem Fault1_spec : PureSpec Tryz.prog 50 sFault1 := vc_spec hm ΓV2_ok Tryz.func50 (Λ := fun _ => noΛ) fun args p x h hp => by
  unfold sFault1 at h
  split at h <;> try (cases h; done)
  rename_i a f b g
  cases h
  obtain ⟨h0, k0⟩ := hp _ rfl
  refine ⟨rfl, rfl, ?_⟩
  refine Eq.mpr (vcFault1 ⟨⟨a, f⟩, ⟨b, g⟩⟩ _) ?_
  refine ⟨h0, sel_of (fun e => bool_mk ?_) fun e => ⟨k0, bool_mk ?_⟩⟩
  · show true = (sndF a f || sndF b g)
    rw [show sndF a f = true from e]; rfl
  · show sndF b g = (sndF a f || sndF b g)
    rw [show sndF a f = false from e]; rfl
theorem Flag1_spec : PureSpec Tryz.prog 24 sFlag1 := vc_spec hm ΓV2_ok Tryz.func24 (Λ := fun _ => noΛ) fun args p x h hp => by
  unfold sFlag1 at h
  split at h <;> try (cases h; done)
  rename_i a f
  cases h
  have h0 : I64 a := hp _ rfl
  refine ⟨rfl, rfl, ?_⟩
  refine Eq.mpr (vcFlag1 ⟨a, f⟩ _) ?_
  refine ⟨⟨⟨h0, trivial⟩, by decide⟩, bool_mk ?_⟩
  show fitG (sndV a + 0) (sndF a f || false) = _
  rw [Int.add_zero, fitG_self (sndV_sd h0), Bool.or_false]
theorem ΓV3_ok : ∀ f g, ΓV3 f = some g → g.ok Tryz.prog f := addCtr_ok (addCtr_ok ΓV2_ok (pure_ok Tryz.func50 (by kernel_rfl) (by kernel_rfl) Fault1_spec)) (pure_ok Tryz.func24 (by kernel_rfl) (by kernel_rfl) Flag1_spec)
theorem setRow (g : Nat → NB) (x i : Nat) : [SV.v (.int .i64 (bop (Nat.beq i (0 + Int.toNat (x : Int))) (g (0 + Int.toNat (x : Int))).v (if i < x then g i else ⟨0, false⟩ : NB).v)), SV.v (.bool (bop (Nat.beq i (0 + Int.toNat (x : Int))) (g (0 + Int.toNat (x : Int))).f (if i < x then g i else ⟨0, false⟩ : NB).f))] = nR (if i < x + 1 then g i else ⟨0, false⟩) := by
  rw [Int.toNat_natCast, Nat.zero_add]
  by_cases h : i = x
  · subst h
    rw [Nat.beq_refl, if_pos (Nat.lt_succ_self i)]; rfl
  · rw [Go.SE.beq_false h]
    by_cases h' : i < x
    · rw [if_pos h', if_pos (by omega)]; rfl
    · rw [if_neg h', if_neg (by omega)]; rfl
theorem succ_i64 {x n : Nat} (h : x < n) (h1 : n < 1099511627776) : IntKind.i64.wrap ((x : Int) + 1) = ((x + 1 : Nat) : Int) := by rw [wrap_i64 ⟨by omega, by omega⟩]; omega
theorem appRow (g : Nat → NB) (k i : Nat) (h : i < k + 1) : [SV.v (.int .i64 (bop (Nat.blt i k) (g (0 + i)).v (g (0 + Int.toNat (k : Int))).v)), SV.v (.bool (bop (Nat.blt i k) (g (0 + i)).f (g (0 + Int.toNat (k : Int))).f))] = nR (g i) := by
  rw [Int.toNat_natCast, Nat.zero_add, Nat.zero_add]
  by_cases h' : i < k
  · rw [show Nat.blt i k = true from Nat.ble_eq_true_of_le h']; rfl
  · obtain rfl : i = k := by omega
    rw [show Nat.blt i i = false from by cases hb : Nat.blt i i with | false => rfl | true => exact absurd (Nat.le_of_ble_eq_true hb) h']; rfl
theorem nR_0 (n : Nat) (g : Nat → NB) : (rowsOf n fun y => [SV.v (.int .i64 ((fun i => g i) (0 + y)).v), SV.v (.bool ((fun i => g i) (0 + y)).f)]) = rowsOf n fun i => nR (g i) := rowsOf_congr fun i _ => by rw [Nat.zero_add]; rfl
theorem blt_rows (c : Nat → NB) (k i : Nat) : mrgL (Nat.blt i k) (nR (c i)) (nR (c k)) = nR (if i < k then c i else c k) := by
  by_cases h : i < k
  · rw [show Nat.blt i k = true from Nat.ble_eq_true_of_le h, if_pos h]; rfl
  · rw [show Nat.blt i k = false from by cases hb : Nat.blt i k with | false => rfl | true => exact absurd (Nat.le_of_ble_eq_true hb) h, if_neg h]; rfl
theorem Idx_spec : RoSpec Tryz.prog 83 sIdx := ro_spec hm ΓV3_ok Tryz.func83 (Λ := fun args bs => match args, bs with | [.sl 0 4 0 n _, _], [⟨4, _, row⟩] => ΛIdx n (fun i => rV (row i)) | _, _ => noΛ) fun args bs p x h hp => by
  unfold sIdx at h
  split at h <;> try (cases h; done)
  rename_i n c f n' row
  cases hf : Nat.beq f 50 with
  | false => rw [hf] at h; cases h
  | true =>
    rw [hf] at h
    obtain rfl := Nat.eq_of_beq_eq_true hf
    cases h
    obtain ⟨h0, rfl, hn⟩ := hp _ rfl
    have h0 := okAll_rows.1 h0
    refine ⟨rfl, [⟨4, n', rowsV fun i => rV (row i)⟩], ⟨⟨rfl, rfl, fun i hi => vRow_eq h0 i hi⟩, trivial⟩, ?_⟩
    have hg : ∀ i, i < n' → I64 ((fun i => rV (row i)) i).x.v ∧ I64 ((fun i => rV (row i)) i).y.v := fun i hi => (isV_row (h0 i hi)).2
    show vcFn _ _ (ΛIdx n' fun i => rV (row i)) _ _ (roHeap [⟨4, n', rowsV fun i => rV (row i)⟩]) _ (fun y _ => y = .v (.int .i64 (idxV (fun i => rV (row i)) n' 0)))
    generalize (fun i => rV (row i)) = g at *
    refine Eq.mpr (vcIdx n' n' c g _) ?_
    refine ⟨⟨0, ⟨Nat.zero_le _, rfl⟩, rfl, trivial⟩, fun x ⟨hx, hi⟩ => sel_of (fun e => ?_) fun e => ?_⟩
    · have e := of_decide_eq_true e
      have hx : x < n' := by omega
      rw [show n' - x = (n' - (x + 1)) + 1 by omega] at hi
      rw [Int.toNat_natCast, Nat.zero_add]
      refine ⟨⟨by omega, by omega⟩, hg x hx, sel_of (fun b => ?_) fun b => ?_⟩
      · have hi : (bif badV (g x) then (x : Int) else idxV g (n' - (x + 1)) (x + 1)) = _ := hi
        rw [b] at hi; exact int_mk hi
      · have hi : (bif badV (g x) then (x : Int) else idxV g (n' - (x + 1)) (x + 1)) = _ := hi
        rw [b] at hi
        exact ⟨x + 1, ⟨⟨hx, hi⟩, int_mk (succ_i64 hx hn), trivial⟩, by omega⟩
    · have e := of_decide_eq_false e
      obtain rfl : x = n' := by omega
      rw [Nat.sub_self] at hi
      exact int_mk hi
theorem anyV_iff (g : Nat → VB) : ∀ n, anyV n g = true ↔ ∃ j, j < n ∧ badV (g j) = true
  | 0 => by simp [anyV]
  | n + 1 => by
    simp only [anyV, Bool.or_eq_true, anyV_iff g n]
    constructor
    · rintro (⟨j, h1, h2⟩ | h)
      · exact ⟨j, by omega, h2⟩
      · exact ⟨n, by omega, h⟩
    · rintro ⟨j, h1, h2⟩
      by_cases h : j < n
      · exact .inl ⟨j, h, h2⟩
      · obtain rfl : j = n := by omega
        exact .inr h2
theorem idxV_iff (g : Nat → VB) : ∀ m k, idxV g m k ≥ 0 ↔ ∃ j, k ≤ j ∧ j < k + m ∧ badV (g j) = true
  | 0, k => by
    show (-1 : Int) ≥ 0 ↔ _
    constructor
    · intro h; omega
    · rintro ⟨j, h1, h2, _⟩; omega
  | m + 1, k => by
    show (bif badV (g k) then (k : Int) else idxV g m (k + 1)) ≥ 0 ↔ _
    cases hb : badV (g k) with
    | true => exact ⟨fun _ => ⟨k, Nat.le_refl _, by omega, hb⟩, fun _ => by show (k : Int) ≥ 0; omega⟩
    | false =>
      rw [cond_false, idxV_iff g m (k + 1)]
      constructor
      · rintro ⟨j, h1, h2, h3⟩; exact ⟨j, by omega, by omega, h3⟩
      · rintro ⟨j, h1, h2, h3⟩
        have : j ≠ k := fun e => by rw [e, hb] at h3; cases h3
        exact ⟨j, by omega, by omega, h3⟩
theorem idx_any (n : Nat) (g : Nat → VB) : decide (idxV g n 0 ≥ 0) = anyV n g := by
  cases h : anyV n g with
  | true =>
    obtain ⟨j, h1, h2⟩ := (anyV_iff g n).1 h
    exact decide_eq_true ((idxV_iff g n 0).2 ⟨j, Nat.zero_le _, by omega, h2⟩)
  | false =>
    refine decide_eq_false fun hx => ?_
    obtain ⟨j, _, h1, h2⟩ := (idxV_iff g n 0).1 hx
    rw [(anyV_iff g n).2 ⟨j, by omega, h2⟩] at h; cases h
theorem ΓV4_ok : ∀ f g, ΓV4 f = some g → g.ok Tryz.prog f := addCtr_ok ΓV3_ok (ro_ok Tryz.func83 (by kernel_rfl) (by kernel_rfl) Idx_spec)
theorem vR_0 (n : Nat) (g : Nat → VB) : (rowsOf n fun y => [SV.v (.int .i64 (g (0 + y)).x.v), SV.v (.bool (g (0 + y)).x.f), SV.v (.int .i64 (g (0 + y)).y.v), SV.v (.bool (g (0 + y)).y.f)]) = rowsOf n fun i => vR (g i) := rowsOf_congr fun i _ => by rw [Nat.zero_add]; rfl
theorem rV_0 (g : Nat → VB) : (fun i => rV [SV.v (.int .i64 (g (0 + i)).x.v), SV.v (.bool (g (0 + i)).x.f), SV.v (.int .i64 (g (0 + i)).y.v), SV.v (.bool (g (0 + i)).y.f)]) = g := funext fun i => by rw [Nat.zero_add]; rfl
theorem Contains_spec : RoSpec Tryz.prog 49 sContains := ro_spec hm ΓV4_ok Tryz.func49 (Λ := fun _ _ => noΛ) fun args bs p x h hp => by
  unfold sContains at h
  split at h <;> try (cases h; done)
  rename_i n c f n' row
  cases hf : Nat.beq f 50 with
  | false => rw [hf] at h; cases h
  | true =>
    rw [hf] at h
    obtain rfl := Nat.eq_of_beq_eq_true hf
    cases h
    obtain ⟨h0, rfl, hn⟩ := hp _ rfl
    have h0 := okAll_rows.1 h0
    refine ⟨rfl, [⟨4, n', rowsV fun i => rV (row i)⟩], ⟨⟨rfl, rfl, fun i hi => vRow_eq h0 i hi⟩, trivial⟩, ?_⟩
    have hg : ∀ i, i < n' → I64 ((fun i => rV (row i)) i).x.v ∧ I64 ((fun i => rV (row i)) i).y.v := fun i hi => (isV_row (h0 i hi)).2
    show vcFn _ _ noΛ _ _ (roHeap [⟨4, n', rowsV fun i => rV (row i)⟩]) _ (fun y _ => y = .v (.bool (anyV n' fun i => rV (row i))))
    generalize (fun i => rV (row i)) = g at *
    refine Eq.mpr (vcContains n' n' c g _) ?_
    rw [vR_0, rV_0, idx_any]
    exact ⟨⟨okAll_V hg, rfl, hn⟩, rfl⟩
theorem ΓV5_ok : ∀ f g, ΓV5 f = some g → g.ok Tryz.prog f := addCtr_ok ΓV4_ok (ro_ok Tryz.func49 (by kernel_rfl) (by kernel_rfl) Contains_spec)
theorem Fault_spec : RoSpec Tryz.prog 21 sFaultL := ro_spec hm ΓV5_ok Tryz.func21 (Λ := fun _ _ => noΛ) fun args bs p x h hp => by
  unfold sFaultL at h
  split at h <;> try (cases h; done)
  rename_i n c n' row
  cases h
  obtain ⟨h0, rfl, hn⟩ := hp _ rfl
  have h0 := okAll_rows.1 h0
  refine ⟨rfl, [⟨4, n', rowsV fun i => rV (row i)⟩], ⟨⟨rfl, rfl, fun i hi => vRow_eq h0 i hi⟩, trivial⟩, ?_⟩
  have hg : ∀ i, i < n' → I64 ((fun i => rV (row i)) i).x.v ∧ I64 ((fun i => rV (row i)) i).y.v := fun i hi => (isV_row (h0 i hi)).2
  show vcFn _ _ noΛ _ _ (roHeap [⟨4, n', rowsV fun i => rV (row i)⟩]) _ (fun y _ => y = .v (.bool (anyV n' fun i => rV (row i))))
  generalize (fun i => rV (row i)) = g at *
  refine Eq.mpr (vcFault n' n' c g _) ?_
  rw [vR_0, rV_0]
  exact ⟨⟨okAll_V hg, rfl, hn⟩, rfl⟩
end Go.Proofs.YtheljpebapokjaaGreat
