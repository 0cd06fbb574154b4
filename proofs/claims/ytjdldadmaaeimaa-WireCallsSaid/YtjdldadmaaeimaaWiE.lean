/-
  Contracts: the reference's writer, its parts.
-/
import Derived.Test.YtjdldadmaaeimaaWiD
set_option maxRecDepth 100000
set_option linter.unusedSimpArgs false
set_option linter.unusedVariables false
namespace Go.Proofs.Ytjdldadmaaeimaa
open Go.SE Go.RowKit

def iV (n : Int) : SV := .v (.int .i64 n)
def bV (b : Bool) : SV := .v (.bool b)
def flB (b : Bool) : List Int := [bif b then 1 else 0]
def i8 (n : Int) : List Int := be (n % 18446744073709551616) 8
def c4 (n : Int) : List Int := be (n % 4294967296) 4
def isMin (n : Int) : Bool := n == -9223372036854775808
def fRSmall : List SV → Option (Prop × List Int × Bool)
  | [.v (.int .i64 n), .v (.int .i64 most), .v (.int .i64 k)] => some (I64 n ∧ 0 ≤ k ∧ k ≤ 8, be (n % 18446744073709551616) k.toNat, notIn n most)
  | _ => none
def fRCount : List SV → Option (Prop × List Int × Bool)
  | [.v (.int .i64 n)] => some (I64 n, c4 n, notIn n 2147483647)
  | _ => none
def fRInteger : List SV → Option (Prop × List Int × Bool)
  | [.v (.int .i64 n)] => some (I64 n, i8 n, false)
  | _ => none
def fRVersion : List SV → Option (Prop × List Int × Bool)
  | [.v (.int .i64 n)] => some (I64 n, i8 n, notIn n 1099511627776)
  | _ => none
def fRFlag : List SV → Option (Prop × List Int × Bool)
  | [.v (.bool b)] => some (True, flB b, false)
  | _ => none
def numL (v : Int) (f : Bool) : List Int := i8 v ++ flB f
def fRNum : List SV → Option (Prop × List Int × Bool)
  | [.agg [.v (.int .i64 v), .v (.bool f)]] => some (I64 v, numL v f, isMin v)
  | _ => none
def vecL (xv : Int) (xf : Bool) (yv : Int) (yf : Bool) : List Int := numL xv xf ++ numL yv yf
def fRVec : List SV → Option (Prop × List Int × Bool)
  | [.agg [.v (.int .i64 xv), .v (.bool xf), .v (.int .i64 yv), .v (.bool yf)]] => some (I64 xv ∧ I64 yv, vecL xv xf yv yf, isMin xv || isMin yv)
  | _ => none
def fRPose : List SV → Option (Prop × List Int × Bool)
  | [.agg [.v (.int .i64 xv), .v (.bool xf), .v (.int .i64 yv), .v (.bool yf), .v (.int .i64 cv), .v (.bool cf), .v (.int .i64 sv), .v (.bool sf)]] => some (I64 xv ∧ I64 yv ∧ I64 cv ∧ I64 sv, vecL xv xf yv yf ++ (numL cv cf ++ numL sv sf), isMin xv || isMin yv || (isMin cv || isMin sv))
  | _ => none
def fRSpot : List SV → Option (Prop × List Int × Bool)
  | [.agg [.v (.int .i64 x), .v (.int .i64 y)]] => some (I64 x ∧ I64 y, i8 x ++ i8 y, false)
  | _ => none
def fRHandle : List SV → Option (Prop × List Int × Bool)
  | [.agg [.v (.int .i64 x), .v (.int .i64 y)]] => some (I64 x ∧ I64 y, c4 x ++ c4 y, notIn x 2147483647 || notIn y 2147483647)
  | _ => none
def MR (k : Nat) : Nat := 1099511627776 - k
def ΓE0 : Ctrs := addCtr noCtrs 60 (hpCtr true (sRApp M0 fRBytes))
def ΓE1 : Ctrs := addCtr (addCtr (addCtr ΓE0 107 (hpCtr true (sRApp M0 fRSmall))) 113 (hpCtr true (sRApp M0 fRInteger))) 114 (hpCtr true (sRApp M0 fRFlag))
def ΓE2 : Ctrs := addCtr (addCtr (addCtr ΓE1 112 (hpCtr true (sRApp 1000000000 fRNum))) 108 (hpCtr true (sRApp M0 fRCount))) 116 (hpCtr true (sRApp M0 fRVersion))
def ΓE3 : Ctrs := addCtr ΓE2 111 (hpCtr true (sRApp 900000000 fRVec))
theorem vcRSmall (s : ByteArray) (b : Bool) (n most k : Int) : (vcFn Try.prog ΓE0 noΛ Try.f107 [.vp 0 0, .v (.int .i64 n), .v (.int .i64 most), .v (.int .i64 k)] (heapOf [rB s b]) 64 (fun y h' => FinE [rB s b] (.det none (.tup []) [(0, rB (s ++ strOfNums (be (n % 18446744073709551616) k.toNat)) (b || notIn n most))]) y h')) =

(sel (decide (n < 0)) ((((U64 (IntKind.wrap IntKind.u64 n)) ∧ (((0 : Int) ≤ k) ∧ ((k : Int) ≤ 8))) ∧ (((ByteArray.size s) : Nat) ≤ M0)) ∧ (True ∧ (((1 : Nat) = 1) ∧ (((1 : Nat) ≤ 1) ∧ (∀ i : Nat, (((i : Nat) < 1) → ([(SV.v (Value.string (s ++ strOfNums (be (IntKind.wrap IntKind.u64 n) (Int.toNat k))))), (SV.v (Value.bool true))] = [(SV.v (Value.string (s ++ strOfNums (be (n % 18446744073709551616) (Int.toNat k))))), (SV.v (Value.bool (b || notIn n most)))]))))))) 
(sel (decide (n > most)) ((((U64 (IntKind.wrap IntKind.u64 n)) ∧ (((0 : Int) ≤ k) ∧ ((k : Int) ≤ 8))) ∧ (((ByteArray.size s) : Nat) ≤ M0)) ∧ (True ∧ (((1 : Nat) = 1) ∧ (((1 : Nat) ≤ 1) ∧ (∀ i : Nat, (((i : Nat) < 1) → ([(SV.v (Value.string (s ++ strOfNums (be (IntKind.wrap IntKind.u64 n) (Int.toNat k))))), (SV.v (Value.bool true))] = [(SV.v (Value.string (s ++ strOfNums (be (n % 18446744073709551616) (Int.toNat k))))), (SV.v (Value.bool (b || notIn n most)))]))))))) ((((U64 (IntKind.wrap IntKind.u64 n)) ∧ (((0 : Int) ≤ k) ∧ ((k : Int) ≤ 8))) ∧ (((ByteArray.size s) : Nat) ≤ M0)) ∧ (True ∧ (((1 : Nat) = 1) ∧ (((1 : Nat) ≤ 1) ∧ (∀ i : Nat, (((i : Nat) < 1) → ([(SV.v (Value.string (s ++ strOfNums (be (IntKind.wrap IntKind.u64 n) (Int.toNat k))))), (SV.v (Value.bool (b || false)))] = [(SV.v (Value.string (s ++ strOfNums (be (n % 18446744073709551616) (Int.toNat k))))), (SV.v (Value.bool (b || notIn n most)))]))))))))) := by kernel_rfl
theorem vcRCount (s : ByteArray) (b : Bool) (n : Int) : (vcFn Try.prog ΓE1 noΛ Try.f108 [.vp 0 0, .v (.int .i64 n)] (heapOf [rB s b]) 64 (fun y h' => FinE [rB s b] (.det none (.tup []) [(0, rB (s ++ strOfNums (c4 n)) (b || notIn n 2147483647))]) y h')) =
((((I64 n) ∧ (((0 : Int) ≤ 4) ∧ ((4 : Int) ≤ 8))) ∧ (((ByteArray.size s) : Nat) ≤ M0)) ∧ (True ∧ (((1 : Nat) = 1) ∧ (((1 : Nat) ≤ 1) ∧ (∀ i : Nat, (((i : Nat) < 1) → ([(SV.v (Value.string (s ++ strOfNums (be (n % 18446744073709551616) 4)))), (SV.v (Value.bool (b || notIn n 2147483647)))] = [(SV.v (Value.string (s ++ strOfNums (c4 n)))), (SV.v (Value.bool (b || notIn n 2147483647)))]))))))) := by kernel_rfl
theorem vcRInteger (s : ByteArray) (b : Bool) (n : Int) : (vcFn Try.prog ΓE0 noΛ Try.f113 [.vp 0 0, .v (.int .i64 n)] (heapOf [rB s b]) 64 (fun y h' => FinE [rB s b] (.det none (.tup []) [(0, rB (s ++ strOfNums (i8 n)) (b || false))]) y h')) =
((((U64 (IntKind.wrap IntKind.u64 n)) ∧ (((0 : Int) ≤ 8) ∧ ((8 : Int) ≤ 8))) ∧ (((ByteArray.size s) : Nat) ≤ M0)) ∧ (True ∧ (((1 : Nat) = 1) ∧ (((1 : Nat) ≤ 1) ∧ (∀ i : Nat, (((i : Nat) < 1) → ([(SV.v (Value.string (s ++ strOfNums (be (IntKind.wrap IntKind.u64 n) 8)))), (SV.v (Value.bool (b || false)))] = [(SV.v (Value.string (s ++ strOfNums (i8 n)))), (SV.v (Value.bool (b || false)))]))))))) := by kernel_rfl
theorem vcRFlag (s : ByteArray) (b f : Bool) : (vcFn Try.prog ΓE0 noΛ Try.f114 [.vp 0 0, .v (.bool f)] (heapOf [rB s b]) 64 (fun y h' => FinE [rB s b] (.det none (.tup []) [(0, rB (s ++ strOfNums (flB f)) (b || false))]) y h')) =

(sel f ((((U64 1) ∧ (((0 : Int) ≤ 1) ∧ ((1 : Int) ≤ 8))) ∧ (((ByteArray.size s) : Nat) ≤ M0)) ∧ (True ∧ (((1 : Nat) = 1) ∧ (((1 : Nat) ≤ 1) ∧ (∀ i : Nat, (((i : Nat) < 1) → ([(SV.v (Value.string (s ++ strOfNums (be 1 1)))), (SV.v (Value.bool (b || false)))] = [(SV.v (Value.string (s ++ strOfNums (flB f)))), (SV.v (Value.bool (b || false)))]))))))) ((((U64 0) ∧ (((0 : Int) ≤ 1) ∧ ((1 : Int) ≤ 8))) ∧ (((ByteArray.size s) : Nat) ≤ M0)) ∧ (True ∧ (((1 : Nat) = 1) ∧ (((1 : Nat) ≤ 1) ∧ (∀ i : Nat, (((i : Nat) < 1) → ([(SV.v (Value.string (s ++ strOfNums (be 0 1)))), (SV.v (Value.bool (b || false)))] = [(SV.v (Value.string (s ++ strOfNums (flB f)))), (SV.v (Value.bool (b || false)))])))))))) := by kernel_rfl
theorem vcRVersion (s : ByteArray) (b : Bool) (n : Int) : (vcFn Try.prog ΓE1 noΛ Try.f116 [.vp 0 0, .v (.int .i64 n)] (heapOf [rB s b]) 64 (fun y h' => FinE [rB s b] (.det none (.tup []) [(0, rB (s ++ strOfNums (i8 n)) (b || notIn n 1099511627776))]) y h')) =

(sel (decide (n < 0)) (((I64 n) ∧ (((ByteArray.size s) : Nat) ≤ M0)) ∧ (True ∧ (((1 : Nat) = 1) ∧ (((1 : Nat) ≤ 1) ∧ (∀ i : Nat, (((i : Nat) < 1) → ([(SV.v (Value.string (s ++ strOfNums (i8 n)))), (SV.v (Value.bool true))] = [(SV.v (Value.string (s ++ strOfNums (i8 n)))), (SV.v (Value.bool (b || notIn n 1099511627776)))]))))))) 
(sel (decide (n > 1099511627776)) (((I64 n) ∧ (((ByteArray.size s) : Nat) ≤ M0)) ∧ (True ∧ (((1 : Nat) = 1) ∧ (((1 : Nat) ≤ 1) ∧ (∀ i : Nat, (((i : Nat) < 1) → ([(SV.v (Value.string (s ++ strOfNums (i8 n)))), (SV.v (Value.bool true))] = [(SV.v (Value.string (s ++ strOfNums (i8 n)))), (SV.v (Value.bool (b || notIn n 1099511627776)))]))))))) (((I64 n) ∧ (((ByteArray.size s) : Nat) ≤ M0)) ∧ (True ∧ (((1 : Nat) = 1) ∧ (((1 : Nat) ≤ 1) ∧ (∀ i : Nat, (((i : Nat) < 1) → ([(SV.v (Value.string (s ++ strOfNums (i8 n)))), (SV.v (Value.bool (b || false)))] = [(SV.v (Value.string (s ++ strOfNums (i8 n)))), (SV.v (Value.bool (b || notIn n 1099511627776)))]))))))))) := by kernel_rfl
theorem vcRNum (s : ByteArray) (b : Bool) (v : Int) (f : Bool) : (vcFn Try.prog ΓE1 noΛ Try.f112 [.vp 0 0, .agg [.v (.int .i64 v), .v (.bool f)]] (heapOf [rB s b]) 64 (fun y h' => FinE [rB s b] (.det none (.tup []) [(0, rB (s ++ strOfNums (numL v f)) (b || isMin v))]) y h')) =

(sel (v == -9223372036854775808) (((I64 v) ∧ (((ByteArray.size s) : Nat) ≤ M0)) ∧ ((True ∧ (((ByteArray.size (s ++ strOfNums (i8 v))) : Nat) ≤ M0)) ∧ (True ∧ (((1 : Nat) = 1) ∧ (((1 : Nat) ≤ 1) ∧ (∀ i : Nat, (((i : Nat) < 1) → ([(SV.v (Value.string (s ++ strOfNums (i8 v) ++ strOfNums (flB f)))), (SV.v (Value.bool true))] = [(SV.v (Value.string (s ++ strOfNums (numL v f)))), (SV.v (Value.bool (b || isMin v)))])))))))) (((I64 v) ∧ (((ByteArray.size s) : Nat) ≤ M0)) ∧ ((True ∧ (((ByteArray.size (s ++ strOfNums (i8 v))) : Nat) ≤ M0)) ∧ (True ∧ (((1 : Nat) = 1) ∧ (((1 : Nat) ≤ 1) ∧ (∀ i : Nat, (((i : Nat) < 1) → ([(SV.v (Value.string (s ++ strOfNums (i8 v) ++ strOfNums (flB f)))), (SV.v (Value.bool (b || false || false)))] = [(SV.v (Value.string (s ++ strOfNums (numL v f)))), (SV.v (Value.bool (b || isMin v)))]))))))))) := by kernel_rfl
theorem vcRVec (s : ByteArray) (b : Bool) (xv : Int) (xf : Bool) (yv : Int) (yf : Bool) : (vcFn Try.prog ΓE2 noΛ Try.f111 [.vp 0 0, .agg [.v (.int .i64 xv), .v (.bool xf), .v (.int .i64 yv), .v (.bool yf)]] (heapOf [rB s b]) 64 (fun y h' => FinE [rB s b] (.det none (.tup []) [(0, rB (s ++ strOfNums (vecL xv xf yv yf)) (b || (isMin xv || isMin yv)))]) y h')) =
(((I64 xv) ∧ (((ByteArray.size s) : Nat) ≤ 1000000000)) ∧ (((I64 yv) ∧ (((ByteArray.size (s ++ strOfNums (numL xv xf))) : Nat) ≤ 1000000000)) ∧ (True ∧ (((1 : Nat) = 1) ∧ (((1 : Nat) ≤ 1) ∧ (∀ i : Nat, (((i : Nat) < 1) → ([(SV.v (Value.string (s ++ strOfNums (numL xv xf) ++ strOfNums (numL yv yf)))), (SV.v (Value.bool (b || isMin xv || isMin yv)))] = [(SV.v (Value.string (s ++ strOfNums (vecL xv xf yv yf)))), (SV.v (Value.bool (b || (isMin xv || isMin yv))))])))))))) := by kernel_rfl
theorem vcRPose (s : ByteArray) (b : Bool) (xv : Int) (xf : Bool) (yv : Int) (yf : Bool) (cv : Int) (cf : Bool) (sv : Int) (sf : Bool) : (vcFn Try.prog ΓE3 noΛ Try.f110 [.vp 0 0, .agg [.v (.int .i64 xv), .v (.bool xf), .v (.int .i64 yv), .v (.bool yf), .v (.int .i64 cv), .v (.bool cf), .v (.int .i64 sv), .v (.bool sf)]] (heapOf [rB s b]) 64 (fun y h' => FinE [rB s b] (.det none (.tup []) [(0, rB (s ++ strOfNums (vecL xv xf yv yf ++ (numL cv cf ++ numL sv sf))) (b || (isMin xv || isMin yv || (isMin cv || isMin sv))))]) y h')) =
((((I64 xv) ∧ (I64 yv)) ∧ (((ByteArray.size s) : Nat) ≤ 900000000)) ∧ (((I64 cv) ∧ (((ByteArray.size (s ++ strOfNums (vecL xv xf yv yf))) : Nat) ≤ 1000000000)) ∧ (((I64 sv) ∧ (((ByteArray.size (s ++ strOfNums (vecL xv xf yv yf) ++ strOfNums (numL cv cf))) : Nat) ≤ 1000000000)) ∧ (True ∧ (((1 : Nat) = 1) ∧ (((1 : Nat) ≤ 1) ∧ (∀ i : Nat, (((i : Nat) < 1) → ([(SV.v (Value.string (s ++ strOfNums (vecL xv xf yv yf) ++ strOfNums (numL cv cf) ++ strOfNums (numL sv sf)))), (SV.v (Value.bool (b || (isMin xv || isMin yv) || isMin cv || isMin sv)))] = [(SV.v (Value.string (s ++ strOfNums (vecL xv xf yv yf ++ (numL cv cf ++ numL sv sf))))), (SV.v (Value.bool (b || (isMin xv || isMin yv || (isMin cv || isMin sv)))))]))))))))) := by kernel_rfl
theorem vcRSpot (s : ByteArray) (b : Bool) (x y : Int) : (vcFn Try.prog ΓE1 noΛ Try.f117 [.vp 0 0, .agg [.v (.int .i64 x), .v (.int .i64 y)]] (heapOf [rB s b]) 64 (fun y' h' => FinE [rB s b] (.det none (.tup []) [(0, rB (s ++ strOfNums (i8 x ++ i8 y)) (b || false))]) y' h')) =
(((I64 x) ∧ (((ByteArray.size s) : Nat) ≤ M0)) ∧ (((I64 y) ∧ (((ByteArray.size (s ++ strOfNums (i8 x))) : Nat) ≤ M0)) ∧ (True ∧ (((1 : Nat) = 1) ∧ (((1 : Nat) ≤ 1) ∧ (∀ i : Nat, (((i : Nat) < 1) → ([(SV.v (Value.string (s ++ strOfNums (i8 x) ++ strOfNums (i8 y)))), (SV.v (Value.bool (b || false || false)))] = [(SV.v (Value.string (s ++ strOfNums (i8 x ++ i8 y)))), (SV.v (Value.bool (b || false)))])))))))) := by kernel_rfl
theorem vcRHandle (s : ByteArray) (b : Bool) (x y : Int) : (vcFn Try.prog ΓE2 noΛ Try.f115 [.vp 0 0, .agg [.v (.int .i64 x), .v (.int .i64 y)]] (heapOf [rB s b]) 64 (fun y' h' => FinE [rB s b] (.det none (.tup []) [(0, rB (s ++ strOfNums (c4 x ++ c4 y)) (b || (notIn x 2147483647 || notIn y 2147483647)))]) y' h')) =
(((I64 x) ∧ (((ByteArray.size s) : Nat) ≤ M0)) ∧ (((I64 y) ∧ (((ByteArray.size (s ++ strOfNums (c4 x))) : Nat) ≤ M0)) ∧ (True ∧ (((1 : Nat) = 1) ∧ (((1 : Nat) ≤ 1) ∧ (∀ i : Nat, (((i : Nat) < 1) → ([(SV.v (Value.string (s ++ strOfNums (c4 x) ++ strOfNums (c4 y)))), (SV.v (Value.bool (b || notIn x 2147483647 || notIn y 2147483647)))] = [(SV.v (Value.string (s ++ strOfNums (c4 x ++ c4 y)))), (SV.v (Value.bool (b || (notIn x 2147483647 || notIn y 2147483647))))])))))))) := by kernel_rfl
theorem ΓE0_ok : ∀ f g, ΓE0 f = some g → g.ok Try.prog f := addCtr_ok noCtrs_ok (hp_ok Try.func60 (by kernel_rfl) (by kernel_rfl) RBytes_spec)
theorem tailR {s s' : ByteArray} {b b' : Bool} (hs : s = s') (hb : b = b') : True ∧ (1 = 1 ∧ 1 ≤ 1 ∧ ∀ i : Nat, i < 1 → [SV.v (.string s), SV.v (.bool b)] = [SV.v (.string s'), SV.v (.bool b')]) := by
  subst hs; subst hb
  exact ⟨trivial, rfl, Nat.le_refl _, fun _ _ => rfl⟩
theorem u64_mod {n : Int} : U64 (n % 18446744073709551616) := ⟨by omega, by omega⟩
theorem notIn_neg {n most : Int} (h : decide (n < 0) = true) (b : Bool) : true = (b || notIn n most) := by
  have h := of_decide_eq_true h
  unfold notIn
  rw [show decide (0 ≤ n) = false by simp; omega]; simp
theorem notIn_big {n most : Int} (h : decide (n > most) = true) (b : Bool) : true = (b || notIn n most) := by
  have h := of_decide_eq_true h
  unfold notIn
  rw [show decide (n ≤ most) = false by simp; omega]; simp
theorem notIn_ok {n most : Int} (h0 : decide (n < 0) = false) (h : decide (n > most) = false) (b : Bool) : (b || false) = (b || notIn n most) := by
  have h0 := of_decide_eq_false h0
  have h := of_decide_eq_false h
  unfold notIn
  rw [show decide (n ≤ most) = true by simp; omega, show decide (0 ≤ n) = true by simp; omega]; rfl
/-- The lowest four bytes. -/
theorem be_four (n : Int) : be (n % 18446744073709551616) 4 = c4 n := by
  unfold c4 be beT
  refine List.map_congr_left fun j hj => ?_
  have hj := List.mem_range.1 hj
  have : j = 0 ∨ j = 1 ∨ j = 2 ∨ j = 3 := by omega
  unfold byteAt
  rcases this with rfl | rfl | rfl | rfl <;> simp <;> omega
theorem be_one (n : Int) : be (n % 18446744073709551616) 1 = [n % 256] := by
  simp [be, beT, byteAt]
theorem i8_len (n : Int) : (i8 n).length = 8 := be_len _ _
theorem c4_len (n : Int) : (c4 n).length = 4 := be_len _ _
theorem flB_len (b : Bool) : (flB b).length = 1 := rfl
theorem numL_len (v : Int) (f : Bool) : (numL v f).length = 9 := by simp [numL, i8_len, flB_len]
theorem vecL_len (xv : Int) (xf : Bool) (yv : Int) (yf : Bool) : (vecL xv xf yv yf).length = 18 := by simp [vecL, numL_len]
theorem RSmall_spec : HpSpec Try.prog 107 (sRApp M0 fRSmall) := rapp_spec ΓE0_ok Try.func107 (Λ := fun _ _ _ => noΛ) fun rest q L b s b0 h hq hm => by
  unfold fRSmall at h
  split at h <;> try (cases h; done)
  rename_i n most k
  cases h
  refine Eq.mpr (vcRSmall s b0 n most k) ?_
  obtain ⟨h1, h2, h3⟩ := hq
  rw [wrap_u64]
  refine sel_of (fun h => ?_) fun h => sel_of (fun h' => ?_) fun h' => ?_
  · exact ⟨⟨⟨u64_mod, h2, h3⟩, hm⟩, tailR rfl (notIn_neg h b0)⟩
  · exact ⟨⟨⟨u64_mod, h2, h3⟩, hm⟩, tailR rfl (notIn_big h' b0)⟩
  · exact ⟨⟨⟨u64_mod, h2, h3⟩, hm⟩, tailR rfl (notIn_ok h h' b0)⟩
theorem RInteger_spec : HpSpec Try.prog 113 (sRApp M0 fRInteger) := rapp_spec ΓE0_ok Try.func113 (Λ := fun _ _ _ => noΛ) fun rest q L b s b0 h hq hm => by
  unfold fRInteger at h
  split at h <;> try (cases h; done)
  rename_i n
  cases h
  refine Eq.mpr (vcRInteger s b0 n) ?_
  rw [wrap_u64]
  exact ⟨⟨⟨u64_mod, by omega, by omega⟩, hm⟩, tailR rfl rfl⟩
theorem RFlag_spec : HpSpec Try.prog 114 (sRApp M0 fRFlag) := rapp_spec ΓE0_ok Try.func114 (Λ := fun _ _ _ => noΛ) fun rest q L b s b0 h hq hm => by
  unfold fRFlag at h
  split at h <;> try (cases h; done)
  rename_i f
  cases h
  refine Eq.mpr (vcRFlag s b0 f) ?_
  refine sel_of (fun h => ?_) fun h => ?_
  · rw [h]; exact ⟨⟨⟨⟨by omega, by omega⟩, by omega, by omega⟩, hm⟩, tailR rfl rfl⟩
  · rw [h]; exact ⟨⟨⟨⟨by omega, by omega⟩, by omega, by omega⟩, hm⟩, tailR rfl rfl⟩
theorem ΓE1_ok : ∀ f g, ΓE1 f = some g → g.ok Try.prog f := addCtr_ok (addCtr_ok (addCtr_ok ΓE0_ok (hp_ok Try.func107 (by kernel_rfl) (by kernel_rfl) RSmall_spec)) (hp_ok Try.func113 (by kernel_rfl) (by kernel_rfl) RInteger_spec)) (hp_ok Try.func114 (by kernel_rfl) (by kernel_rfl) RFlag_spec)
theorem RCount_spec : HpSpec Try.prog 108 (sRApp M0 fRCount) := rapp_spec ΓE1_ok Try.func108 (Λ := fun _ _ _ => noΛ) fun rest q L b s b0 h hq hm => by
  unfold fRCount at h
  split at h <;> try (cases h; done)
  rename_i n
  cases h
  refine Eq.mpr (vcRCount s b0 n) ?_
  exact ⟨⟨⟨hq, by omega, by omega⟩, hm⟩, tailR (by rw [be_four]) rfl⟩
theorem RVersion_spec : HpSpec Try.prog 116 (sRApp M0 fRVersion) := rapp_spec ΓE1_ok Try.func116 (Λ := fun _ _ _ => noΛ) fun rest q L b s b0 h hq hm => by
  unfold fRVersion at h
  split at h <;> try (cases h; done)
  rename_i n
  cases h
  refine Eq.mpr (vcRVersion s b0 n) ?_
  refine sel_of (fun h => ?_) fun h => sel_of (fun h' => ?_) fun h' => ?_
  · exact ⟨⟨hq, hm⟩, tailR rfl (notIn_neg h b0)⟩
  · exact ⟨⟨hq, hm⟩, tailR rfl (notIn_big h' b0)⟩
  · exact ⟨⟨hq, hm⟩, tailR rfl (notIn_ok h h' b0)⟩
theorem M0_of {n m : Nat} (h : n ≤ m) (hm : m ≤ 1099511627776) : n ≤ M0 := Nat.le_trans h hm
theorem size_st (s : ByteArray) (L : List Int) : (s ++ strOfNums L).size = s.size + L.length := by rw [size_app, size_str]
theorem RNum_spec : HpSpec Try.prog 112 (sRApp 1000000000 fRNum) := rapp_spec ΓE1_ok Try.func112 (Λ := fun _ _ _ => noΛ) fun rest q L b s b0 h hq hm => by
  unfold fRNum at h
  split at h <;> try (cases h; done)
  rename_i v f
  cases h
  refine Eq.mpr (vcRNum s b0 v f) ?_
  have hs : (s ++ strOfNums (i8 v)).size ≤ M0 := by rw [size_st, i8_len]; show s.size + 8 ≤ 1099511627776; omega
  refine sel_of (fun h => ?_) fun h => ?_
  · exact ⟨⟨hq, M0_of hm (by omega)⟩, ⟨trivial, hs⟩, tailR (str_app2 _ _ _) (by rw [show isMin v = true from h, Bool.or_true])⟩
  · exact ⟨⟨hq, M0_of hm (by omega)⟩, ⟨trivial, hs⟩, tailR (str_app2 _ _ _) (by rw [show isMin v = false from h]; simp)⟩
theorem ΓE2_ok : ∀ f g, ΓE2 f = some g → g.ok Try.prog f := addCtr_ok (addCtr_ok (addCtr_ok ΓE1_ok (hp_ok Try.func112 (by kernel_rfl) (by kernel_rfl) RNum_spec)) (hp_ok Try.func108 (by kernel_rfl) (by kernel_rfl) RCount_spec)) (hp_ok Try.func116 (by kernel_rfl) (by kernel_rfl) RVersion_spec)
theorem RVec_spec : HpSpec Try.prog 111 (sRApp 900000000 fRVec) := rapp_spec ΓE2_ok Try.func111 (Λ := fun _ _ _ => noΛ) fun rest q L b s b0 h hq hm => by
  unfold fRVec at h
  split at h <;> try (cases h; done)
  rename_i xv xf yv yf
  cases h
  refine Eq.mpr (vcRVec s b0 xv xf yv yf) ?_
  exact ⟨⟨hq.1, by omega⟩, ⟨hq.2, by rw [size_st, numL_len]; omega⟩, tailR (str_app2 _ _ _) (Bool.or_assoc _ _ _)⟩
theorem ΓE3_ok : ∀ f g, ΓE3 f = some g → g.ok Try.prog f := addCtr_ok ΓE2_ok (hp_ok Try.func111 (by kernel_rfl) (by kernel_rfl) RVec_spec)
theorem RPose_spec : HpSpec Try.prog 110 (sRApp 800000000 fRPose) := rapp_spec ΓE3_ok Try.func110 (Λ := fun _ _ _ => noΛ) fun rest q L b s b0 h hq hm => by
  unfold fRPose at h
  split at h <;> try (cases h; done)
  rename_i xv xf yv yf cv cf sv sf
  cases h
  refine Eq.mpr (vcRPose s b0 xv xf yv yf cv cf sv sf) ?_
  obtain ⟨h1, h2, h3, h4⟩ := hq
  exact ⟨⟨⟨h1, h2⟩, by omega⟩, ⟨h3, by rw [size_st, vecL_len]; omega⟩, ⟨h4, by rw [size_st, size_st, vecL_len, numL_len]; omega⟩, tailR (by rw [str_app2, str_app2]) (by simp only [Bool.or_assoc])⟩
theorem RSpot_spec : HpSpec Try.prog 117 (sRApp 1000000000 fRSpot) := rapp_spec ΓE1_ok Try.func117 (Λ := fun _ _ _ => noΛ) fun rest q L b s b0 h hq hm => by
  unfold fRSpot at h
  split at h <;> try (cases h; done)
  rename_i x y
  cases h
  refine Eq.mpr (vcRSpot s b0 x y) ?_
  have hs : (s ++ strOfNums (i8 x)).size ≤ M0 := by rw [size_st, i8_len]; show s.size + 8 ≤ 1099511627776; omega
  exact ⟨⟨hq.1, M0_of hm (by omega)⟩, ⟨hq.2, hs⟩, tailR (str_app2 _ _ _) (by simp)⟩
theorem RHandle_spec : HpSpec Try.prog 115 (sRApp 1000000000 fRHandle) := rapp_spec ΓE2_ok Try.func115 (Λ := fun _ _ _ => noΛ) fun rest q L b s b0 h hq hm => by
  unfold fRHandle at h
  split at h <;> try (cases h; done)
  rename_i x y
  cases h
  refine Eq.mpr (vcRHandle s b0 x y) ?_
  have hs : (s ++ strOfNums (c4 x)).size ≤ M0 := by rw [size_st, c4_len]; show s.size + 4 ≤ 1099511627776; omega
  exact ⟨⟨hq.1, M0_of hm (by omega)⟩, ⟨hq.2, hs⟩, tailR (str_app2 _ _ _) (Bool.or_assoc _ _ _)⟩
end Go.Proofs.Ytjdldadmaaeimaa
