/-
  Contracts: the length of a word in bits; the quotient of two words by one.
-/
import Derived.Test.YtheljpebapokjaaFxB
set_option maxRecDepth 100000
namespace Go.Proofs.Ytheljpebapokjaa
open Go.SE Go.RowKit

/-- The length in bits. -/
def lenI (x : Int) : Int := if x = 0 then 0 else ((Nat.log2 x.toNat : Nat) : Int) + 1
def sLen64 : List SV → Option (Option Prop × SV)
  | [.v (.int .u64 x)] => some (some (U64 x), .v (.int .i64 (lenI x)))
  | _ => none
def sLead : List SV → Option (Option Prop × SV)
  | [.v (.int .u64 x)] => some (some (U64 x), .v (.int .i64 (64 - lenI x)))
  | _ => none
def sDiv64 : List SV → Option (Option Prop × SV)
  | [.v (.int .u64 hi), .v (.int .u64 lo), .v (.int .u64 y)] => some (some (U64 hi ∧ U64 lo ∧ U64 y ∧ hi < y), .tup [.v (.int .u64 (MM lo hi / y)), .v (.int .u64 (MM lo hi % y))])
  | _ => none
def ΓX0 : Ctrs := addCtr noCtrs 164 (pureCtr sLen64)
def ΓX1 : Ctrs := addCtr noCtrs 159 (pureCtr sLead)
structure QR where
  q : Int
  r : Int
/-- A digit's estimate. -/
structure invQ (a b u l : Int) (x : QR) : Prop where
  q0 : 0 ≤ x.q
  q1 : x.q ≤ 4294967297
  r0 : 0 ≤ x.r
  r1 : x.r < 4294967296
  sum : x.q * a + x.r = u
  le : (u * 4294967296 + l) / (a * 4294967296 + b) ≤ x.q
noncomputable def ΛDiv (a b u l u' l' : Int) : Nat → Option LoopSpec := addLoop (addLoop noΛ Try.f133 0 QR (invQ a b u l) (fun x => x.q.toNat) [(15, fun x => .v (.int .u64 x.q)), (16, fun x => .v (.int .u64 x.r))] [])
  Try.f133 2 QR (invQ a b u' l') (fun x => x.q.toNat) [(18, fun x => .v (.int .u64 x.q)), (16, fun x => .v (.int .u64 x.r))] []
def tab8 : List UInt8 := (Array.toList (ByteArray.data { data := List.toArray (List.append (List.append [0, 1, 2, 2, 3, 3, 3, 3, 4, 4, 4, 4, 4, 4, 4, 4, 5, 5, 5, 5, 5, 5, 5, 5, 5, 5, 5, 5, 5, 5, 5, 5, 6, 6, 6, 6, 6, 6, 6, 6, 6, 6, 6, 6, 6, 6, 6, 6, 6, 6, 6, 6, 6, 6, 6, 6, 6, 6, 6, 6, 6, 6, 6, 6] [7, 7, 7, 7, 7, 7, 7, 7, 7, 7, 7, 7, 7, 7, 7, 7, 7, 7, 7, 7, 7, 7, 7, 7, 7, 7, 7, 7, 7, 7, 7, 7, 7, 7, 7, 7, 7, 7, 7, 7, 7, 7, 7, 7, 7, 7, 7, 7, 7, 7, 7, 7, 7, 7, 7, 7, 7, 7, 7, 7, 7, 7, 7, 7]) (List.append [8, 8, 8, 8, 8, 8, 8, 8, 8, 8, 8, 8, 8, 8, 8, 8, 8, 8, 8, 8, 8, 8, 8, 8, 8, 8, 8, 8, 8, 8, 8, 8, 8, 8, 8, 8, 8, 8, 8, 8, 8, 8, 8, 8, 8, 8, 8, 8, 8, 8, 8, 8, 8, 8, 8, 8, 8, 8, 8, 8, 8, 8, 8, 8] [8, 8, 8, 8, 8, 8, 8, 8, 8, 8, 8, 8, 8, 8, 8, 8, 8, 8, 8, 8, 8, 8, 8, 8, 8, 8, 8, 8, 8, 8, 8, 8, 8, 8, 8, 8, 8, 8, 8, 8, 8, 8, 8, 8, 8, 8, 8, 8, 8, 8, 8, 8, 8, 8, 8, 8, 8, 8, 8, 8, 8, 8, 8, 8])) }))
theorem vcLen64 (x : Int) (R : SV → Prop) : (vcPure Try.prog noCtrs noΛ Try.f164 [.v (.int .u64 x)] R) =

(sel (decide (x ≥ 4294967296)) 
(sel (decide (x / 4294967296 ≥ 65536)) 
(sel (decide (x / 4294967296 / 65536 ≥ 256)) ((((0 : Int) ≤ (IntKind.wrap IntKind.u8 (x / 4294967296 / 65536 / 256))) ∧ (((IntKind.wrap IntKind.u8 (x / 4294967296 / 65536 / 256)) : Int) < 256)) ∧ (R (SV.v (Value.int IntKind.i64 (IntKind.wrap IntKind.i64 (56 + IntKind.wrap IntKind.i64 (↑(UInt8.toNat (List.getD tab8 (Int.toNat (IntKind.wrap IntKind.u8 (x / 4294967296 / 65536 / 256))) 0)) : Int))))))) ((((0 : Int) ≤ (IntKind.wrap IntKind.u8 (x / 4294967296 / 65536))) ∧ (((IntKind.wrap IntKind.u8 (x / 4294967296 / 65536)) : Int) < 256)) ∧ (R (SV.v (Value.int IntKind.i64 (IntKind.wrap IntKind.i64 (48 + IntKind.wrap IntKind.i64 (↑(UInt8.toNat (List.getD tab8 (Int.toNat (IntKind.wrap IntKind.u8 (x / 4294967296 / 65536))) 0)) : Int)))))))) 
(sel (decide (x / 4294967296 ≥ 256)) ((((0 : Int) ≤ (IntKind.wrap IntKind.u8 (x / 4294967296 / 256))) ∧ (((IntKind.wrap IntKind.u8 (x / 4294967296 / 256)) : Int) < 256)) ∧ (R (SV.v (Value.int IntKind.i64 (IntKind.wrap IntKind.i64 (40 + IntKind.wrap IntKind.i64 (↑(UInt8.toNat (List.getD tab8 (Int.toNat (IntKind.wrap IntKind.u8 (x / 4294967296 / 256))) 0)) : Int))))))) ((((0 : Int) ≤ (IntKind.wrap IntKind.u8 (x / 4294967296))) ∧ (((IntKind.wrap IntKind.u8 (x / 4294967296)) : Int) < 256)) ∧ (R (SV.v (Value.int IntKind.i64 (IntKind.wrap IntKind.i64 (32 + IntKind.wrap IntKind.i64 (↑(UInt8.toNat (List.getD tab8 (Int.toNat (IntKind.wrap IntKind.u8 (x / 4294967296))) 0)) : Int))))))))) 
(sel (decide (x ≥ 65536)) 
(sel (decide (x / 65536 ≥ 256)) ((((0 : Int) ≤ (IntKind.wrap IntKind.u8 (x / 65536 / 256))) ∧ (((IntKind.wrap IntKind.u8 (x / 65536 / 256)) : Int) < 256)) ∧ (R (SV.v (Value.int IntKind.i64 (IntKind.wrap IntKind.i64 (24 + IntKind.wrap IntKind.i64 (↑(UInt8.toNat (List.getD tab8 (Int.toNat (IntKind.wrap IntKind.u8 (x / 65536 / 256))) 0)) : Int))))))) ((((0 : Int) ≤ (IntKind.wrap IntKind.u8 (x / 65536))) ∧ (((IntKind.wrap IntKind.u8 (x / 65536)) : Int) < 256)) ∧ (R (SV.v (Value.int IntKind.i64 (IntKind.wrap IntKind.i64 (16 + IntKind.wrap IntKind.i64 (↑(UInt8.toNat (List.getD tab8 (Int.toNat (IntKind.wrap IntKind.u8 (x / 65536))) 0)) : Int)))))))) 
(sel (decide (x ≥ 256)) ((((0 : Int) ≤ (IntKind.wrap IntKind.u8 (x / 256))) ∧ (((IntKind.wrap IntKind.u8 (x / 256)) : Int) < 256)) ∧ (R (SV.v (Value.int IntKind.i64 (IntKind.wrap IntKind.i64 (8 + IntKind.wrap IntKind.i64 (↑(UInt8.toNat (List.getD tab8 (Int.toNat (IntKind.wrap IntKind.u8 (x / 256))) 0)) : Int))))))) ((((0 : Int) ≤ (IntKind.wrap IntKind.u8 x)) ∧ (((IntKind.wrap IntKind.u8 x) : Int) < 256)) ∧ (R (SV.v (Value.int IntKind.i64 (IntKind.wrap IntKind.i64 (0 + IntKind.wrap IntKind.i64 (↑(UInt8.toNat (List.getD tab8 (Int.toNat (IntKind.wrap IntKind.u8 x)) 0)) : Int)))))))))) := by kernel_rfl
theorem vcLead (x : Int) (R : SV → Prop) : (vcPure Try.prog ΓX0 noΛ Try.f159 [.v (.int .u64 x)] R) =
((U64 x) ∧ (R (SV.v (Value.int IntKind.i64 (IntKind.wrap IntKind.i64 (64 - lenI x)))))) := by kernel_rfl
theorem vcDiv64 (hi lo y a b u l u' l' : Int) (R : SV → Prop) : (vcPure Try.prog ΓX1 (ΛDiv a b u l u' l') Try.f133 [.v (.int .u64 hi), .v (.int .u64 lo), .v (.int .u64 y)] R) =

(sel (y == 0) False 
(sel (decide (y ≤ hi)) False 
(sel (hi == 0) (((y : Int) ≠ 0) ∧ (((y : Int) ≠ 0) ∧ (R (SV.tup [(SV.v (Value.int IntKind.u64 (IntKind.wrap IntKind.u64 (Int.tdiv lo y)))), (SV.v (Value.int IntKind.u64 (Int.tmod lo y)))])))) ((U64 y) ∧ (((0 : Int) ≤ (IntKind.wrap IntKind.u64 (64 - lenI y))) ∧ (((0 : Int) ≤ (IntKind.wrap IntKind.u64 (64 - lenI y))) ∧ (((0 : Int) ≤ (IntKind.wrap IntKind.u64 (64 - IntKind.wrap IntKind.u64 (64 - lenI y)))) ∧ (((0 : Int) ≤ (IntKind.wrap IntKind.u64 (64 - lenI y))) ∧ ((((IntKind.wrap IntKind.u64 (y * 2 ^ min (Int.toNat (IntKind.wrap IntKind.u64 (64 - lenI y))) 64) / 4294967296) : Int) ≠ 0) ∧ ((∃ x : QR, ((invQ a b u l x) ∧ ((((SV.v (Value.int IntKind.u64 (IntKind.wrap IntKind.u64 (Int.tdiv (bits BinOp.or IntKind.u64 (IntKind.wrap IntKind.u64 (hi * 2 ^ min (Int.toNat (IntKind.wrap IntKind.u64 (64 - lenI y))) 64)) (lo / 2 ^ min (Int.toNat (IntKind.wrap IntKind.u64 (64 - IntKind.wrap IntKind.u64 (64 - lenI y)))) 64)) (IntKind.wrap IntKind.u64 (y * 2 ^ min (Int.toNat (IntKind.wrap IntKind.u64 (64 - lenI y))) 64) / 4294967296))))) = (SV.v (Value.int IntKind.u64 (QR.q x)))) ∧ ((SV.v (Value.int IntKind.u64 (IntKind.wrap IntKind.u64 (bits BinOp.or IntKind.u64 (IntKind.wrap IntKind.u64 (hi * 2 ^ min (Int.toNat (IntKind.wrap IntKind.u64 (64 - lenI y))) 64)) (lo / 2 ^ min (Int.toNat (IntKind.wrap IntKind.u64 (64 - IntKind.wrap IntKind.u64 (64 - lenI y)))) 64) - IntKind.wrap IntKind.u64 (IntKind.wrap IntKind.u64 (Int.tdiv (bits BinOp.or IntKind.u64 (IntKind.wrap IntKind.u64 (hi * 2 ^ min (Int.toNat (IntKind.wrap IntKind.u64 (64 - lenI y))) 64)) (lo / 2 ^ min (Int.toNat (IntKind.wrap IntKind.u64 (64 - IntKind.wrap IntKind.u64 (64 - lenI y)))) 64)) (IntKind.wrap IntKind.u64 (y * 2 ^ min (Int.toNat (IntKind.wrap IntKind.u64 (64 - lenI y))) 64) / 4294967296)) * (IntKind.wrap IntKind.u64 (y * 2 ^ min (Int.toNat (IntKind.wrap IntKind.u64 (64 - lenI y))) 64) / 4294967296)))))) = (SV.v (Value.int IntKind.u64 (QR.r x))))) ∧ True))) ∧ (∀ x : QR, ((invQ a b u l x) → 
(sel (decide (QR.q x ≥ 4294967296)) 
(sel (decide (IntKind.wrap IntKind.u64 (QR.r x + IntKind.wrap IntKind.u64 (y * 2 ^ min (Int.toNat (IntKind.wrap IntKind.u64 (64 - lenI y))) 64) / 4294967296) ≥ 4294967296)) ((((IntKind.wrap IntKind.u64 (y * 2 ^ min (Int.toNat (IntKind.wrap IntKind.u64 (64 - lenI y))) 64) / 4294967296) : Int) ≠ 0) ∧ ((∃ x_1 : QR, ((invQ a b u' l' x_1) ∧ ((((SV.v (Value.int IntKind.u64 (IntKind.wrap IntKind.u64 (Int.tdiv (IntKind.wrap IntKind.u64 (IntKind.wrap IntKind.u64 (IntKind.wrap IntKind.u64 (bits BinOp.or IntKind.u64 (IntKind.wrap IntKind.u64 (hi * 2 ^ min (Int.toNat (IntKind.wrap IntKind.u64 (64 - lenI y))) 64)) (lo / 2 ^ min (Int.toNat (IntKind.wrap IntKind.u64 (64 - IntKind.wrap IntKind.u64 (64 - lenI y)))) 64) * 4294967296) + IntKind.wrap IntKind.u64 (lo * 2 ^ min (Int.toNat (IntKind.wrap IntKind.u64 (64 - lenI y))) 64) / 4294967296) - IntKind.wrap IntKind.u64 (IntKind.wrap IntKind.u64 (QR.q x - 1) * IntKind.wrap IntKind.u64 (y * 2 ^ min (Int.toNat (IntKind.wrap IntKind.u64 (64 - lenI y))) 64)))) (IntKind.wrap IntKind.u64 (y * 2 ^ min (Int.toNat (IntKind.wrap IntKind.u64 (64 - lenI y))) 64) / 4294967296))))) = (SV.v (Value.int IntKind.u64 (QR.q x_1)))) ∧ ((SV.v (Value.int IntKind.u64 (IntKind.wrap IntKind.u64 (IntKind.wrap IntKind.u64 (IntKind.wrap IntKind.u64 (IntKind.wrap IntKind.u64 (bits BinOp.or IntKind.u64 (IntKind.wrap IntKind.u64 (hi * 2 ^ min (Int.toNat (IntKind.wrap IntKind.u64 (64 - lenI y))) 64)) (lo / 2 ^ min (Int.toNat (IntKind.wrap IntKind.u64 (64 - IntKind.wrap IntKind.u64 (64 - lenI y)))) 64) * 4294967296) + IntKind.wrap IntKind.u64 (lo * 2 ^ min (Int.toNat (IntKind.wrap IntKind.u64 (64 - lenI y))) 64) / 4294967296) - IntKind.wrap IntKind.u64 (IntKind.wrap IntKind.u64 (QR.q x - 1) * IntKind.wrap IntKind.u64 (y * 2 ^ min (Int.toNat (IntKind.wrap IntKind.u64 (64 - lenI y))) 64))) - IntKind.wrap IntKind.u64 (IntKind.wrap IntKind.u64 (Int.tdiv (IntKind.wrap IntKind.u64 (IntKind.wrap IntKind.u64 (IntKind.wrap IntKind.u64 (bits BinOp.or IntKind.u64 (IntKind.wrap IntKind.u64 (hi * 2 ^ min (Int.toNat (IntKind.wrap IntKind.u64 (64 - lenI y))) 64)) (lo / 2 ^ min (Int.toNat (IntKind.wrap IntKind.u64 (64 - IntKind.wrap IntKind.u64 (64 - lenI y)))) 64) * 4294967296) + IntKind.wrap IntKind.u64 (lo * 2 ^ min (Int.toNat (IntKind.wrap IntKind.u64 (64 - lenI y))) 64) / 4294967296) - IntKind.wrap IntKind.u64 (IntKind.wrap IntKind.u64 (QR.q x - 1) * IntKind.wrap IntKind.u64 (y * 2 ^ min (Int.toNat (IntKind.wrap IntKind.u64 (64 - lenI y))) 64)))) (IntKind.wrap IntKind.u64 (y * 2 ^ min (Int.toNat (IntKind.wrap IntKind.u64 (64 - lenI y))) 64) / 4294967296)) * (IntKind.wrap IntKind.u64 (y * 2 ^ min (Int.toNat (IntKind.wrap IntKind.u64 (64 - lenI y))) 64) / 4294967296)))))) = (SV.v (Value.int IntKind.u64 (QR.r x_1))))) ∧ True))) ∧ (∀ x_1 : QR, ((invQ a b u' l' x_1) → 
(sel (decide (QR.q x_1 ≥ 4294967296)) 
(sel (decide (IntKind.wrap IntKind.u64 (QR.r x_1 + IntKind.wrap IntKind.u64 (y * 2 ^ min (Int.toNat (IntKind.wrap IntKind.u64 (64 - lenI y))) 64) / 4294967296) ≥ 4294967296)) (((0 : Int) ≤ (IntKind.wrap IntKind.u64 (64 - lenI y))) ∧ (R (SV.tup [(SV.v (Value.int IntKind.u64 (IntKind.wrap IntKind.u64 (IntKind.wrap IntKind.u64 (IntKind.wrap IntKind.u64 (QR.q x - 1) * 4294967296) + IntKind.wrap IntKind.u64 (QR.q x_1 - 1))))), (SV.v (Value.int IntKind.u64 (IntKind.wrap IntKind.u64 (IntKind.wrap IntKind.u64 (IntKind.wrap IntKind.u64 (IntKind.wrap IntKind.u64 (IntKind.wrap IntKind.u64 (IntKind.wrap IntKind.u64 (bits BinOp.or IntKind.u64 (IntKind.wrap IntKind.u64 (hi * 2 ^ min (Int.toNat (IntKind.wrap IntKind.u64 (64 - lenI y))) 64)) (lo / 2 ^ min (Int.toNat (IntKind.wrap IntKind.u64 (64 - IntKind.wrap IntKind.u64 (64 - lenI y)))) 64) * 4294967296) + IntKind.wrap IntKind.u64 (lo * 2 ^ min (Int.toNat (IntKind.wrap IntKind.u64 (64 - lenI y))) 64) / 4294967296) - IntKind.wrap IntKind.u64 (IntKind.wrap IntKind.u64 (QR.q x - 1) * IntKind.wrap IntKind.u64 (y * 2 ^ min (Int.toNat (IntKind.wrap IntKind.u64 (64 - lenI y))) 64))) * 4294967296) + bits BinOp.and IntKind.u64 (IntKind.wrap IntKind.u64 (lo * 2 ^ min (Int.toNat (IntKind.wrap IntKind.u64 (64 - lenI y))) 64)) 4294967295) - IntKind.wrap IntKind.u64 (IntKind.wrap IntKind.u64 (QR.q x_1 - 1) * IntKind.wrap IntKind.u64 (y * 2 ^ min (Int.toNat (IntKind.wrap IntKind.u64 (64 - lenI y))) 64))) / 2 ^ min (Int.toNat (IntKind.wrap IntKind.u64 (64 - lenI y))) 64)))]))) (∃ x' : QR, (((invQ a b u' l' x') ∧ ((((SV.v (Value.int IntKind.u64 (IntKind.wrap IntKind.u64 (QR.q x_1 - 1)))) = (SV.v (Value.int IntKind.u64 (QR.q x')))) ∧ ((SV.v (Value.int IntKind.u64 (IntKind.wrap IntKind.u64 (QR.r x_1 + IntKind.wrap IntKind.u64 (y * 2 ^ min (Int.toNat (IntKind.wrap IntKind.u64 (64 - lenI y))) 64) / 4294967296)))) = (SV.v (Value.int IntKind.u64 (QR.r x'))))) ∧ True)) ∧ (((Int.toNat (QR.q x')) : Nat) < (Int.toNat (QR.q x_1)))))) 
(sel (decide (IntKind.wrap IntKind.u64 (QR.q x_1 * bits BinOp.and IntKind.u64 (IntKind.wrap IntKind.u64 (y * 2 ^ min (Int.toNat (IntKind.wrap IntKind.u64 (64 - lenI y))) 64)) 4294967295) > IntKind.wrap IntKind.u64 (IntKind.wrap IntKind.u64 (4294967296 * QR.r x_1) + bits BinOp.and IntKind.u64 (IntKind.wrap IntKind.u64 (lo * 2 ^ min (Int.toNat (IntKind.wrap IntKind.u64 (64 - lenI y))) 64)) 4294967295))) 
(sel (decide (IntKind.wrap IntKind.u64 (QR.r x_1 + IntKind.wrap IntKind.u64 (y * 2 ^ min (Int.toNat (IntKind.wrap IntKind.u64 (64 - lenI y))) 64) / 4294967296) ≥ 4294967296)) (((0 : Int) ≤ (IntKind.wrap IntKind.u64 (64 - lenI y))) ∧ (R (SV.tup [(SV.v (Value.int IntKind.u64 (IntKind.wrap IntKind.u64 (IntKind.wrap IntKind.u64 (IntKind.wrap IntKind.u64 (QR.q x - 1) * 4294967296) + IntKind.wrap IntKind.u64 (QR.q x_1 - 1))))), (SV.v (Value.int IntKind.u64 (IntKind.wrap IntKind.u64 (IntKind.wrap IntKind.u64 (IntKind.wrap IntKind.u64 (IntKind.wrap IntKind.u64 (IntKind.wrap IntKind.u64 (IntKind.wrap IntKind.u64 (bits BinOp.or IntKind.u64 (IntKind.wrap IntKind.u64 (hi * 2 ^ min (Int.toNat (IntKind.wrap IntKind.u64 (64 - lenI y))) 64)) (lo / 2 ^ min (Int.toNat (IntKind.wrap IntKind.u64 (64 - IntKind.wrap IntKind.u64 (64 - lenI y)))) 64) * 4294967296) + IntKind.wrap IntKind.u64 (lo * 2 ^ min (Int.toNat (IntKind.wrap IntKind.u64 (64 - lenI y))) 64) / 4294967296) - IntKind.wrap IntKind.u64 (IntKind.wrap IntKind.u64 (QR.q x - 1) * IntKind.wrap IntKind.u64 (y * 2 ^ min (Int.toNat (IntKind.wrap IntKind.u64 (64 - lenI y))) 64))) * 4294967296) + bits BinOp.and IntKind.u64 (IntKind.wrap IntKind.u64 (lo * 2 ^ min (Int.toNat (IntKind.wrap IntKind.u64 (64 - lenI y))) 64)) 4294967295) - IntKind.wrap IntKind.u64 (IntKind.wrap IntKind.u64 (QR.q x_1 - 1) * IntKind.wrap IntKind.u64 (y * 2 ^ min (Int.toNat (IntKind.wrap IntKind.u64 (64 - lenI y))) 64))) / 2 ^ min (Int.toNat (IntKind.wrap IntKind.u64 (64 - lenI y))) 64)))]))) (∃ x' : QR, (((invQ a b u' l' x') ∧ ((((SV.v (Value.int IntKind.u64 (IntKind.wrap IntKind.u64 (QR.q x_1 - 1)))) = (SV.v (Value.int IntKind.u64 (QR.q x')))) ∧ ((SV.v (Value.int IntKind.u64 (IntKind.wrap IntKind.u64 (QR.r x_1 + IntKind.wrap IntKind.u64 (y * 2 ^ min (Int.toNat (IntKind.wrap IntKind.u64 (64 - lenI y))) 64) / 4294967296)))) = (SV.v (Value.int IntKind.u64 (QR.r x'))))) ∧ True)) ∧ (((Int.toNat (QR.q x')) : Nat) < (Int.toNat (QR.q x_1)))))) (((0 : Int) ≤ (IntKind.wrap IntKind.u64 (64 - lenI y))) ∧ (R (SV.tup [(SV.v (Value.int IntKind.u64 (IntKind.wrap IntKind.u64 (IntKind.wrap IntKind.u64 (IntKind.wrap IntKind.u64 (QR.q x - 1) * 4294967296) + QR.q x_1)))), (SV.v (Value.int IntKind.u64 (IntKind.wrap IntKind.u64 (IntKind.wrap IntKind.u64 (IntKind.wrap IntKind.u64 (IntKind.wrap IntKind.u64 (IntKind.wrap IntKind.u64 (IntKind.wrap IntKind.u64 (bits BinOp.or IntKind.u64 (IntKind.wrap IntKind.u64 (hi * 2 ^ min (Int.toNat (IntKind.wrap IntKind.u64 (64 - lenI y))) 64)) (lo / 2 ^ min (Int.toNat (IntKind.wrap IntKind.u64 (64 - IntKind.wrap IntKind.u64 (64 - lenI y)))) 64) * 4294967296) + IntKind.wrap IntKind.u64 (lo * 2 ^ min (Int.toNat (IntKind.wrap IntKind.u64 (64 - lenI y))) 64) / 4294967296) - IntKind.wrap IntKind.u64 (IntKind.wrap IntKind.u64 (QR.q x - 1) * IntKind.wrap IntKind.u64 (y * 2 ^ min (Int.toNat (IntKind.wrap IntKind.u64 (64 - lenI y))) 64))) * 4294967296) + bits BinOp.and IntKind.u64 (IntKind.wrap IntKind.u64 (lo * 2 ^ min (Int.toNat (IntKind.wrap IntKind.u64 (64 - lenI y))) 64)) 4294967295) - IntKind.wrap IntKind.u64 (QR.q x_1 * IntKind.wrap IntKind.u64 (y * 2 ^ min (Int.toNat (IntKind.wrap IntKind.u64 (64 - lenI y))) 64))) / 2 ^ min (Int.toNat (IntKind.wrap IntKind.u64 (64 - lenI y))) 64)))]))))))))) (∃ x' : QR, (((invQ a b u l x') ∧ ((((SV.v (Value.int IntKind.u64 (IntKind.wrap IntKind.u64 (QR.q x - 1)))) = (SV.v (Value.int IntKind.u64 (QR.q x')))) ∧ ((SV.v (Value.int IntKind.u64 (IntKind.wrap IntKind.u64 (QR.r x + IntKind.wrap IntKind.u64 (y * 2 ^ min (Int.toNat (IntKind.wrap IntKind.u64 (64 - lenI y))) 64) / 4294967296)))) = (SV.v (Value.int IntKind.u64 (QR.r x'))))) ∧ True)) ∧ (((Int.toNat (QR.q x')) : Nat) < (Int.toNat (QR.q x)))))) 
(sel (decide (IntKind.wrap IntKind.u64 (QR.q x * bits BinOp.and IntKind.u64 (IntKind.wrap IntKind.u64 (y * 2 ^ min (Int.toNat (IntKind.wrap IntKind.u64 (64 - lenI y))) 64)) 4294967295) > IntKind.wrap IntKind.u64 (IntKind.wrap IntKind.u64 (4294967296 * QR.r x) + IntKind.wrap IntKind.u64 (lo * 2 ^ min (Int.toNat (IntKind.wrap IntKind.u64 (64 - lenI y))) 64) / 4294967296))) 
(sel (decide (IntKind.wrap IntKind.u64 (QR.r x + IntKind.wrap IntKind.u64 (y * 2 ^ min (Int.toNat (IntKind.wrap IntKind.u64 (64 - lenI y))) 64) / 4294967296) ≥ 4294967296)) ((((IntKind.wrap IntKind.u64 (y * 2 ^ min (Int.toNat (IntKind.wrap IntKind.u64 (64 - lenI y))) 64) / 4294967296) : Int) ≠ 0) ∧ ((∃ x_1 : QR, ((invQ a b u' l' x_1) ∧ ((((SV.v (Value.int IntKind.u64 (IntKind.wrap IntKind.u64 (Int.tdiv (IntKind.wrap IntKind.u64 (IntKind.wrap IntKind.u64 (IntKind.wrap IntKind.u64 (bits BinOp.or IntKind.u64 (IntKind.wrap IntKind.u64 (hi * 2 ^ min (Int.toNat (IntKind.wrap IntKind.u64 (64 - lenI y))) 64)) (lo / 2 ^ min (Int.toNat (IntKind.wrap IntKind.u64 (64 - IntKind.wrap IntKind.u64 (64 - lenI y)))) 64) * 4294967296) + IntKind.wrap IntKind.u64 (lo * 2 ^ min (Int.toNat (IntKind.wrap IntKind.u64 (64 - lenI y))) 64) / 4294967296) - IntKind.wrap IntKind.u64 (IntKind.wrap IntKind.u64 (QR.q x - 1) * IntKind.wrap IntKind.u64 (y * 2 ^ min (Int.toNat (IntKind.wrap IntKind.u64 (64 - lenI y))) 64)))) (IntKind.wrap IntKind.u64 (y * 2 ^ min (Int.toNat (IntKind.wrap IntKind.u64 (64 - lenI y))) 64) / 4294967296))))) = (SV.v (Value.int IntKind.u64 (QR.q x_1)))) ∧ ((SV.v (Value.int IntKind.u64 (IntKind.wrap IntKind.u64 (IntKind.wrap IntKind.u64 (IntKind.wrap IntKind.u64 (IntKind.wrap IntKind.u64 (bits BinOp.or IntKind.u64 (IntKind.wrap IntKind.u64 (hi * 2 ^ min (Int.toNat (IntKind.wrap IntKind.u64 (64 - lenI y))) 64)) (lo / 2 ^ min (Int.toNat (IntKind.wrap IntKind.u64 (64 - IntKind.wrap IntKind.u64 (64 - lenI y)))) 64) * 4294967296) + IntKind.wrap IntKind.u64 (lo * 2 ^ min (Int.toNat (IntKind.wrap IntKind.u64 (64 - lenI y))) 64) / 4294967296) - IntKind.wrap IntKind.u64 (IntKind.wrap IntKind.u64 (QR.q x - 1) * IntKind.wrap IntKind.u64 (y * 2 ^ min (Int.toNat (IntKind.wrap IntKind.u64 (64 - lenI y))) 64))) - IntKind.wrap IntKind.u64 (IntKind.wrap IntKind.u64 (Int.tdiv (IntKind.wrap IntKind.u64 (IntKind.wrap IntKind.u64 (IntKind.wrap IntKind.u64 (bits BinOp.or IntKind.u64 (IntKind.wrap IntKind.u64 (hi * 2 ^ min (Int.toNat (IntKind.wrap IntKind.u64 (64 - lenI y))) 64)) (lo / 2 ^ min (Int.toNat (IntKind.wrap IntKind.u64 (64 - IntKind.wrap IntKind.u64 (64 - lenI y)))) 64) * 4294967296) + IntKind.wrap IntKind.u64 (lo * 2 ^ min (Int.toNat (IntKind.wrap IntKind.u64 (64 - lenI y))) 64) / 4294967296) - IntKind.wrap IntKind.u64 (IntKind.wrap IntKind.u64 (QR.q x - 1) * IntKind.wrap IntKind.u64 (y * 2 ^ min (Int.toNat (IntKind.wrap IntKind.u64 (64 - lenI y))) 64)))) (IntKind.wrap IntKind.u64 (y * 2 ^ min (Int.toNat (IntKind.wrap IntKind.u64 (64 - lenI y))) 64) / 4294967296)) * (IntKind.wrap IntKind.u64 (y * 2 ^ min (Int.toNat (IntKind.wrap IntKind.u64 (64 - lenI y))) 64) / 4294967296)))))) = (SV.v (Value.int IntKind.u64 (QR.r x_1))))) ∧ True))) ∧ (∀ x_1 : QR, ((invQ a b u' l' x_1) → 
(sel (decide (QR.q x_1 ≥ 4294967296)) 
(sel (decide (IntKind.wrap IntKind.u64 (QR.r x_1 + IntKind.wrap IntKind.u64 (y * 2 ^ min (Int.toNat (IntKind.wrap IntKind.u64 (64 - lenI y))) 64) / 4294967296) ≥ 4294967296)) (((0 : Int) ≤ (IntKind.wrap IntKind.u64 (64 - lenI y))) ∧ (R (SV.tup [(SV.v (Value.int IntKind.u64 (IntKind.wrap IntKind.u64 (IntKind.wrap IntKind.u64 (IntKind.wrap IntKind.u64 (QR.q x - 1) * 4294967296) + IntKind.wrap IntKind.u64 (QR.q x_1 - 1))))), (SV.v (Value.int IntKind.u64 (IntKind.wrap IntKind.u64 (IntKind.wrap IntKind.u64 (IntKind.wrap IntKind.u64 (IntKind.wrap IntKind.u64 (IntKind.wrap IntKind.u64 (IntKind.wrap IntKind.u64 (bits BinOp.or IntKind.u64 (IntKind.wrap IntKind.u64 (hi * 2 ^ min (Int.toNat (IntKind.wrap IntKind.u64 (64 - lenI y))) 64)) (lo / 2 ^ min (Int.toNat (IntKind.wrap IntKind.u64 (64 - IntKind.wrap IntKind.u64 (64 - lenI y)))) 64) * 4294967296) + IntKind.wrap IntKind.u64 (lo * 2 ^ min (Int.toNat (IntKind.wrap IntKind.u64 (64 - lenI y))) 64) / 4294967296) - IntKind.wrap IntKind.u64 (IntKind.wrap IntKind.u64 (QR.q x - 1) * IntKind.wrap IntKind.u64 (y * 2 ^ min (Int.toNat (IntKind.wrap IntKind.u64 (64 - lenI y))) 64))) * 4294967296) + bits BinOp.and IntKind.u64 (IntKind.wrap IntKind.u64 (lo * 2 ^ min (Int.toNat (IntKind.wrap IntKind.u64 (64 - lenI y))) 64)) 4294967295) - IntKind.wrap IntKind.u64 (IntKind.wrap IntKind.u64 (QR.q x_1 - 1) * IntKind.wrap IntKind.u64 (y * 2 ^ min (Int.toNat (IntKind.wrap IntKind.u64 (64 - lenI y))) 64))) / 2 ^ min (Int.toNat (IntKind.wrap IntKind.u64 (64 - lenI y))) 64)))]))) (∃ x' : QR, (((invQ a b u' l' x') ∧ ((((SV.v (Value.int IntKind.u64 (IntKind.wrap IntKind.u64 (QR.q x_1 - 1)))) = (SV.v (Value.int IntKind.u64 (QR.q x')))) ∧ ((SV.v (Value.int IntKind.u64 (IntKind.wrap IntKind.u64 (QR.r x_1 + IntKind.wrap IntKind.u64 (y * 2 ^ min (Int.toNat (IntKind.wrap IntKind.u64 (64 - lenI y))) 64) / 4294967296)))) = (SV.v (Value.int IntKind.u64 (QR.r x'))))) ∧ True)) ∧ (((Int.toNat (QR.q x')) : Nat) < (Int.toNat (QR.q x_1)))))) 
(sel (decide (IntKind.wrap IntKind.u64 (QR.q x_1 * bits BinOp.and IntKind.u64 (IntKind.wrap IntKind.u64 (y * 2 ^ min (Int.toNat (IntKind.wrap IntKind.u64 (64 - lenI y))) 64)) 4294967295) > IntKind.wrap IntKind.u64 (IntKind.wrap IntKind.u64 (4294967296 * QR.r x_1) + bits BinOp.and IntKind.u64 (IntKind.wrap IntKind.u64 (lo * 2 ^ min (Int.toNat (IntKind.wrap IntKind.u64 (64 - lenI y))) 64)) 4294967295))) 
(sel (decide (IntKind.wrap IntKind.u64 (QR.r x_1 + IntKind.wrap IntKind.u64 (y * 2 ^ min (Int.toNat (IntKind.wrap IntKind.u64 (64 - lenI y))) 64) / 4294967296) ≥ 4294967296)) (((0 : Int) ≤ (IntKind.wrap IntKind.u64 (64 - lenI y))) ∧ (R (SV.tup [(SV.v (Value.int IntKind.u64 (IntKind.wrap IntKind.u64 (IntKind.wrap IntKind.u64 (IntKind.wrap IntKind.u64 (QR.q x - 1) * 4294967296) + IntKind.wrap IntKind.u64 (QR.q x_1 - 1))))), (SV.v (Value.int IntKind.u64 (IntKind.wrap IntKind.u64 (IntKind.wrap IntKind.u64 (IntKind.wrap IntKind.u64 (IntKind.wrap IntKind.u64 (IntKind.wrap IntKind.u64 (IntKind.wrap IntKind.u64 (bits BinOp.or IntKind.u64 (IntKind.wrap IntKind.u64 (hi * 2 ^ min (Int.toNat (IntKind.wrap IntKind.u64 (64 - lenI y))) 64)) (lo / 2 ^ min (Int.toNat (IntKind.wrap IntKind.u64 (64 - IntKind.wrap IntKind.u64 (64 - lenI y)))) 64) * 4294967296) + IntKind.wrap IntKind.u64 (lo * 2 ^ min (Int.toNat (IntKind.wrap IntKind.u64 (64 - lenI y))) 64) / 4294967296) - IntKind.wrap IntKind.u64 (IntKind.wrap IntKind.u64 (QR.q x - 1) * IntKind.wrap IntKind.u64 (y * 2 ^ min (Int.toNat (IntKind.wrap IntKind.u64 (64 - lenI y))) 64))) * 4294967296) + bits BinOp.and IntKind.u64 (IntKind.wrap IntKind.u64 (lo * 2 ^ min (Int.toNat (IntKind.wrap IntKind.u64 (64 - lenI y))) 64)) 4294967295) - IntKind.wrap IntKind.u64 (IntKind.wrap IntKind.u64 (QR.q x_1 - 1) * IntKind.wrap IntKind.u64 (y * 2 ^ min (Int.toNat (IntKind.wrap IntKind.u64 (64 - lenI y))) 64))) / 2 ^ min (Int.toNat (IntKind.wrap IntKind.u64 (64 - lenI y))) 64)))]))) (∃ x' : QR, (((invQ a b u' l' x') ∧ ((((SV.v (Value.int IntKind.u64 (IntKind.wrap IntKind.u64 (QR.q x_1 - 1)))) = (SV.v (Value.int IntKind.u64 (QR.q x')))) ∧ ((SV.v (Value.int IntKind.u64 (IntKind.wrap IntKind.u64 (QR.r x_1 + IntKind.wrap IntKind.u64 (y * 2 ^ min (Int.toNat (IntKind.wrap IntKind.u64 (64 - lenI y))) 64) / 4294967296)))) = (SV.v (Value.int IntKind.u64 (QR.r x'))))) ∧ True)) ∧ (((Int.toNat (QR.q x')) : Nat) < (Int.toNat (QR.q x_1)))))) (((0 : Int) ≤ (IntKind.wrap IntKind.u64 (64 - lenI y))) ∧ (R (SV.tup [(SV.v (Value.int IntKind.u64 (IntKind.wrap IntKind.u64 (IntKind.wrap IntKind.u64 (IntKind.wrap IntKind.u64 (QR.q x - 1) * 4294967296) + QR.q x_1)))), (SV.v (Value.int IntKind.u64 (IntKind.wrap IntKind.u64 (IntKind.wrap IntKind.u64 (IntKind.wrap IntKind.u64 (IntKind.wrap IntKind.u64 (IntKind.wrap IntKind.u64 (IntKind.wrap IntKind.u64 (bits BinOp.or IntKind.u64 (IntKind.wrap IntKind.u64 (hi * 2 ^ min (Int.toNat (IntKind.wrap IntKind.u64 (64 - lenI y))) 64)) (lo / 2 ^ min (Int.toNat (IntKind.wrap IntKind.u64 (64 - IntKind.wrap IntKind.u64 (64 - lenI y)))) 64) * 4294967296) + IntKind.wrap IntKind.u64 (lo * 2 ^ min (Int.toNat (IntKind.wrap IntKind.u64 (64 - lenI y))) 64) / 4294967296) - IntKind.wrap IntKind.u64 (IntKind.wrap IntKind.u64 (QR.q x - 1) * IntKind.wrap IntKind.u64 (y * 2 ^ min (Int.toNat (IntKind.wrap IntKind.u64 (64 - lenI y))) 64))) * 4294967296) + bits BinOp.and IntKind.u64 (IntKind.wrap IntKind.u64 (lo * 2 ^ min (Int.toNat (IntKind.wrap IntKind.u64 (64 - lenI y))) 64)) 4294967295) - IntKind.wrap IntKind.u64 (QR.q x_1 * IntKind.wrap IntKind.u64 (y * 2 ^ min (Int.toNat (IntKind.wrap IntKind.u64 (64 - lenI y))) 64))) / 2 ^ min (Int.toNat (IntKind.wrap IntKind.u64 (64 - lenI y))) 64)))]))))))))) (∃ x' : QR, (((invQ a b u l x') ∧ ((((SV.v (Value.int IntKind.u64 (IntKind.wrap IntKind.u64 (QR.q x - 1)))) = (SV.v (Value.int IntKind.u64 (QR.q x')))) ∧ ((SV.v (Value.int IntKind.u64 (IntKind.wrap IntKind.u64 (QR.r x + IntKind.wrap IntKind.u64 (y * 2 ^ min (Int.toNat (IntKind.wrap IntKind.u64 (64 - lenI y))) 64) / 4294967296)))) = (SV.v (Value.int IntKind.u64 (QR.r x'))))) ∧ True)) ∧ (((Int.toNat (QR.q x')) : Nat) < (Int.toNat (QR.q x)))))) ((((IntKind.wrap IntKind.u64 (y * 2 ^ min (Int.toNat (IntKind.wrap IntKind.u64 (64 - lenI y))) 64) / 4294967296) : Int) ≠ 0) ∧ ((∃ x_1 : QR, ((invQ a b u' l' x_1) ∧ ((((SV.v (Value.int IntKind.u64 (IntKind.wrap IntKind.u64 (Int.tdiv (IntKind.wrap IntKind.u64 (IntKind.wrap IntKind.u64 (IntKind.wrap IntKind.u64 (bits BinOp.or IntKind.u64 (IntKind.wrap IntKind.u64 (hi * 2 ^ min (Int.toNat (IntKind.wrap IntKind.u64 (64 - lenI y))) 64)) (lo / 2 ^ min (Int.toNat (IntKind.wrap IntKind.u64 (64 - IntKind.wrap IntKind.u64 (64 - lenI y)))) 64) * 4294967296) + IntKind.wrap IntKind.u64 (lo * 2 ^ min (Int.toNat (IntKind.wrap IntKind.u64 (64 - lenI y))) 64) / 4294967296) - IntKind.wrap IntKind.u64 (QR.q x * IntKind.wrap IntKind.u64 (y * 2 ^ min (Int.toNat (IntKind.wrap IntKind.u64 (64 - lenI y))) 64)))) (IntKind.wrap IntKind.u64 (y * 2 ^ min (Int.toNat (IntKind.wrap IntKind.u64 (64 - lenI y))) 64) / 4294967296))))) = (SV.v (Value.int IntKind.u64 (QR.q x_1)))) ∧ ((SV.v (Value.int IntKind.u64 (IntKind.wrap IntKind.u64 (IntKind.wrap IntKind.u64 (IntKind.wrap IntKind.u64 (IntKind.wrap IntKind.u64 (bits BinOp.or IntKind.u64 (IntKind.wrap IntKind.u64 (hi * 2 ^ min (Int.toNat (IntKind.wrap IntKind.u64 (64 - lenI y))) 64)) (lo / 2 ^ min (Int.toNat (IntKind.wrap IntKind.u64 (64 - IntKind.wrap IntKind.u64 (64 - lenI y)))) 64) * 4294967296) + IntKind.wrap IntKind.u64 (lo * 2 ^ min (Int.toNat (IntKind.wrap IntKind.u64 (64 - lenI y))) 64) / 4294967296) - IntKind.wrap IntKind.u64 (QR.q x * IntKind.wrap IntKind.u64 (y * 2 ^ min (Int.toNat (IntKind.wrap IntKind.u64 (64 - lenI y))) 64))) - IntKind.wrap IntKind.u64 (IntKind.wrap IntKind.u64 (Int.tdiv (IntKind.wrap IntKind.u64 (IntKind.wrap IntKind.u64 (IntKind.wrap IntKind.u64 (bits BinOp.or IntKind.u64 (IntKind.wrap IntKind.u64 (hi * 2 ^ min (Int.toNat (IntKind.wrap IntKind.u64 (64 - lenI y))) 64)) (lo / 2 ^ min (Int.toNat (IntKind.wrap IntKind.u64 (64 - IntKind.wrap IntKind.u64 (64 - lenI y)))) 64) * 4294967296) + IntKind.wrap IntKind.u64 (lo * 2 ^ min (Int.toNat (IntKind.wrap IntKind.u64 (64 - lenI y))) 64) / 4294967296) - IntKind.wrap IntKind.u64 (QR.q x * IntKind.wrap IntKind.u64 (y * 2 ^ min (Int.toNat (IntKind.wrap IntKind.u64 (64 - lenI y))) 64)))) (IntKind.wrap IntKind.u64 (y * 2 ^ min (Int.toNat (IntKind.wrap IntKind.u64 (64 - lenI y))) 64) / 4294967296)) * (IntKind.wrap IntKind.u64 (y * 2 ^ min (Int.toNat (IntKind.wrap IntKind.u64 (64 - lenI y))) 64) / 4294967296)))))) = (SV.v (Value.int IntKind.u64 (QR.r x_1))))) ∧ True))) ∧ (∀ x_1 : QR, ((invQ a b u' l' x_1) → 
(sel (decide (QR.q x_1 ≥ 4294967296)) 
(sel (decide (IntKind.wrap IntKind.u64 (QR.r x_1 + IntKind.wrap IntKind.u64 (y * 2 ^ min (Int.toNat (IntKind.wrap IntKind.u64 (64 - lenI y))) 64) / 4294967296) ≥ 4294967296)) (((0 : Int) ≤ (IntKind.wrap IntKind.u64 (64 - lenI y))) ∧ (R (SV.tup [(SV.v (Value.int IntKind.u64 (IntKind.wrap IntKind.u64 (IntKind.wrap IntKind.u64 (QR.q x * 4294967296) + IntKind.wrap IntKind.u64 (QR.q x_1 - 1))))), (SV.v (Value.int IntKind.u64 (IntKind.wrap IntKind.u64 (IntKind.wrap IntKind.u64 (IntKind.wrap IntKind.u64 (IntKind.wrap IntKind.u64 (IntKind.wrap IntKind.u64 (IntKind.wrap IntKind.u64 (bits BinOp.or IntKind.u64 (IntKind.wrap IntKind.u64 (hi * 2 ^ min (Int.toNat (IntKind.wrap IntKind.u64 (64 - lenI y))) 64)) (lo / 2 ^ min (Int.toNat (IntKind.wrap IntKind.u64 (64 - IntKind.wrap IntKind.u64 (64 - lenI y)))) 64) * 4294967296) + IntKind.wrap IntKind.u64 (lo * 2 ^ min (Int.toNat (IntKind.wrap IntKind.u64 (64 - lenI y))) 64) / 4294967296) - IntKind.wrap IntKind.u64 (QR.q x * IntKind.wrap IntKind.u64 (y * 2 ^ min (Int.toNat (IntKind.wrap IntKind.u64 (64 - lenI y))) 64))) * 4294967296) + bits BinOp.and IntKind.u64 (IntKind.wrap IntKind.u64 (lo * 2 ^ min (Int.toNat (IntKind.wrap IntKind.u64 (64 - lenI y))) 64)) 4294967295) - IntKind.wrap IntKind.u64 (IntKind.wrap IntKind.u64 (QR.q x_1 - 1) * IntKind.wrap IntKind.u64 (y * 2 ^ min (Int.toNat (IntKind.wrap IntKind.u64 (64 - lenI y))) 64))) / 2 ^ min (Int.toNat (IntKind.wrap IntKind.u64 (64 - lenI y))) 64)))]))) (∃ x' : QR, (((invQ a b u' l' x') ∧ ((((SV.v (Value.int IntKind.u64 (IntKind.wrap IntKind.u64 (QR.q x_1 - 1)))) = (SV.v (Value.int IntKind.u64 (QR.q x')))) ∧ ((SV.v (Value.int IntKind.u64 (IntKind.wrap IntKind.u64 (QR.r x_1 + IntKind.wrap IntKind.u64 (y * 2 ^ min (Int.toNat (IntKind.wrap IntKind.u64 (64 - lenI y))) 64) / 4294967296)))) = (SV.v (Value.int IntKind.u64 (QR.r x'))))) ∧ True)) ∧ (((Int.toNat (QR.q x')) : Nat) < (Int.toNat (QR.q x_1)))))) 
(sel (decide (IntKind.wrap IntKind.u64 (QR.q x_1 * bits BinOp.and IntKind.u64 (IntKind.wrap IntKind.u64 (y * 2 ^ min (Int.toNat (IntKind.wrap IntKind.u64 (64 - lenI y))) 64)) 4294967295) > IntKind.wrap IntKind.u64 (IntKind.wrap IntKind.u64 (4294967296 * QR.r x_1) + bits BinOp.and IntKind.u64 (IntKind.wrap IntKind.u64 (lo * 2 ^ min (Int.toNat (IntKind.wrap IntKind.u64 (64 - lenI y))) 64)) 4294967295))) 
(sel (decide (IntKind.wrap IntKind.u64 (QR.r x_1 + IntKind.wrap IntKind.u64 (y * 2 ^ min (Int.toNat (IntKind.wrap IntKind.u64 (64 - lenI y))) 64) / 4294967296) ≥ 4294967296)) (((0 : Int) ≤ (IntKind.wrap IntKind.u64 (64 - lenI y))) ∧ (R (SV.tup [(SV.v (Value.int IntKind.u64 (IntKind.wrap IntKind.u64 (IntKind.wrap IntKind.u64 (QR.q x * 4294967296) + IntKind.wrap IntKind.u64 (QR.q x_1 - 1))))), (SV.v (Value.int IntKind.u64 (IntKind.wrap IntKind.u64 (IntKind.wrap IntKind.u64 (IntKind.wrap IntKind.u64 (IntKind.wrap IntKind.u64 (IntKind.wrap IntKind.u64 (IntKind.wrap IntKind.u64 (bits BinOp.or IntKind.u64 (IntKind.wrap IntKind.u64 (hi * 2 ^ min (Int.toNat (IntKind.wrap IntKind.u64 (64 - lenI y))) 64)) (lo / 2 ^ min (Int.toNat (IntKind.wrap IntKind.u64 (64 - IntKind.wrap IntKind.u64 (64 - lenI y)))) 64) * 4294967296) + IntKind.wrap IntKind.u64 (lo * 2 ^ min (Int.toNat (IntKind.wrap IntKind.u64 (64 - lenI y))) 64) / 4294967296) - IntKind.wrap IntKind.u64 (QR.q x * IntKind.wrap IntKind.u64 (y * 2 ^ min (Int.toNat (IntKind.wrap IntKind.u64 (64 - lenI y))) 64))) * 4294967296) + bits BinOp.and IntKind.u64 (IntKind.wrap IntKind.u64 (lo * 2 ^ min (Int.toNat (IntKind.wrap IntKind.u64 (64 - lenI y))) 64)) 4294967295) - IntKind.wrap IntKind.u64 (IntKind.wrap IntKind.u64 (QR.q x_1 - 1) * IntKind.wrap IntKind.u64 (y * 2 ^ min (Int.toNat (IntKind.wrap IntKind.u64 (64 - lenI y))) 64))) / 2 ^ min (Int.toNat (IntKind.wrap IntKind.u64 (64 - lenI y))) 64)))]))) (∃ x' : QR, (((invQ a b u' l' x') ∧ ((((SV.v (Value.int IntKind.u64 (IntKind.wrap IntKind.u64 (QR.q x_1 - 1)))) = (SV.v (Value.int IntKind.u64 (QR.q x')))) ∧ ((SV.v (Value.int IntKind.u64 (IntKind.wrap IntKind.u64 (QR.r x_1 + IntKind.wrap IntKind.u64 (y * 2 ^ min (Int.toNat (IntKind.wrap IntKind.u64 (64 - lenI y))) 64) / 4294967296)))) = (SV.v (Value.int IntKind.u64 (QR.r x'))))) ∧ True)) ∧ (((Int.toNat (QR.q x')) : Nat) < (Int.toNat (QR.q x_1)))))) (((0 : Int) ≤ (IntKind.wrap IntKind.u64 (64 - lenI y))) ∧ (R (SV.tup [(SV.v (Value.int IntKind.u64 (IntKind.wrap IntKind.u64 (IntKind.wrap IntKind.u64 (QR.q x * 4294967296) + QR.q x_1)))), (SV.v (Value.int IntKind.u64 (IntKind.wrap IntKind.u64 (IntKind.wrap IntKind.u64 (IntKind.wrap IntKind.u64 (IntKind.wrap IntKind.u64 (IntKind.wrap IntKind.u64 (IntKind.wrap IntKind.u64 (bits BinOp.or IntKind.u64 (IntKind.wrap IntKind.u64 (hi * 2 ^ min (Int.toNat (IntKind.wrap IntKind.u64 (64 - lenI y))) 64)) (lo / 2 ^ min (Int.toNat (IntKind.wrap IntKind.u64 (64 - IntKind.wrap IntKind.u64 (64 - lenI y)))) 64) * 4294967296) + IntKind.wrap IntKind.u64 (lo * 2 ^ min (Int.toNat (IntKind.wrap IntKind.u64 (64 - lenI y))) 64) / 4294967296) - IntKind.wrap IntKind.u64 (QR.q x * IntKind.wrap IntKind.u64 (y * 2 ^ min (Int.toNat (IntKind.wrap IntKind.u64 (64 - lenI y))) 64))) * 4294967296) + bits BinOp.and IntKind.u64 (IntKind.wrap IntKind.u64 (lo * 2 ^ min (Int.toNat (IntKind.wrap IntKind.u64 (64 - lenI y))) 64)) 4294967295) - IntKind.wrap IntKind.u64 (QR.q x_1 * IntKind.wrap IntKind.u64 (y * 2 ^ min (Int.toNat (IntKind.wrap IntKind.u64 (64 - lenI y))) 64))) / 2 ^ min (Int.toNat (IntKind.wrap IntKind.u64 (64 - lenI y))) 64)))]))))))))))))))))))))))) := by kernel_rfl
theorem lenI_of {x : Int} {n : Nat} (h0 : 2 ^ n ≤ x) (h1 : x < 2 ^ (n + 1)) : lenI x = n + 1 := by
  have hx : 0 < x := Int.lt_of_lt_of_le (by exact_mod_cast Nat.two_pow_pos n) h0
  unfold lenI
  rw [if_neg (by omega)]
  have e : Nat.log2 x.toNat = n := by
    rw [Nat.log2_eq_iff (by omega)]
    constructor
    · have : ((2 ^ n : Nat) : Int) ≤ x := by exact_mod_cast h0
      omega
    · have : x < ((2 ^ (n + 1) : Nat) : Int) := by exact_mod_cast h1
      omega
  rw [e]
theorem lenI_ge {x : Int} (h : 0 < x) : ∃ n : Nat, lenI x = n + 1 ∧ 2 ^ n ≤ x ∧ x < 2 ^ (n + 1) := by
  refine ⟨Nat.log2 x.toNat, ?_, ?_, ?_⟩
  · unfold lenI; rw [if_neg (by omega)]
  · have h1 := Nat.log2_self_le (n := x.toNat) (by omega)
    have : ((2 ^ Nat.log2 x.toNat : Nat) : Int) ≤ (x.toNat : Int) := by exact_mod_cast h1
    rw [Int.toNat_of_nonneg (by omega)] at this
    exact_mod_cast this
  · have h1 := Nat.lt_log2_self (n := x.toNat)
    have : (x.toNat : Int) < ((2 ^ (Nat.log2 x.toNat + 1) : Nat) : Int) := by exact_mod_cast h1
    rw [Int.toNat_of_nonneg (by omega)] at this
    exact_mod_cast this
theorem lenI_shift {x : Int} (k : Nat) (h : 2 ^ k ≤ x) : lenI x = k + lenI (x / 2 ^ k) := by
  have hk : (0 : Int) < 2 ^ k := by exact_mod_cast Nat.two_pow_pos k
  have h1 : 0 < x / 2 ^ k := Int.lt_of_lt_of_le (by decide : (0 : Int) < 1) (Int.le_ediv_of_mul_le hk (by omega))
  obtain ⟨n, e, l1, l2⟩ := lenI_ge h1
  rw [e, lenI_of (n := n + k)]
  · omega
  · rw [Int.pow_add]
    have := Int.mul_le_of_le_ediv hk l1
    exact this
  · have := Int.lt_mul_of_ediv_lt hk l2
    rw [show n + k + 1 = (n + 1) + k by omega, Int.pow_add]
    exact this
theorem tab8_len : ∀ k : Fin 256, ((UInt8.toNat (tab8.getD k.val 0) : Nat) : Int) = lenI (k.val : Int) := by decide +kernel
theorem tab8_at {x : Int} (h0 : 0 ≤ x) (h1 : x < 256) : ((UInt8.toNat (tab8.getD x.toNat 0) : Nat) : Int) = lenI x := by
  have := tab8_len ⟨x.toNat, by omega⟩
  simp only [Int.toNat_of_nonneg h0] at this
  exact this
theorem lenI_8 {x : Int} (h0 : 0 ≤ x) (h1 : x < 256) : 0 ≤ lenI x ∧ lenI x ≤ 8 := by
  by_cases hx : x = 0
  · subst hx; exact ⟨by decide, by decide⟩
  · obtain ⟨n, e, l1, _⟩ := lenI_ge (x := x) (by omega)
    refine ⟨by omega, ?_⟩
    rcases Nat.lt_or_ge n 8 with h | h
    · omega
    · exfalso
      have : (2 : Int) ^ 8 ≤ 2 ^ n := by exact_mod_cast Nat.pow_le_pow_right (by decide) h
      omega
theorem Len64_spec : PureSpec Try.prog 164 sLen64 := vc_spec hm noCtrs_ok Try.func164 (Λ := fun _ => noΛ) fun args p x h hp => by
  unfold sLen64 at h
  split at h <;> try (cases h; done)
  rename_i x
  cases h
  obtain ⟨h1, h2⟩ := hp _ rfl
  refine ⟨rfl, rfl, ?_⟩
  refine Eq.mpr (vcLen64 x _) ?_
  have key : ∀ (k : Int) (z : Int), 0 ≤ k → k ≤ 56 → 0 ≤ z → z < 256 → lenI x = k + lenI z → ((0 : Int) ≤ IntKind.u8.wrap z ∧ IntKind.u8.wrap z < 256) ∧ SV.v (Value.int .i64 (IntKind.i64.wrap (k + IntKind.i64.wrap ((UInt8.toNat (List.getD tab8 (Int.toNat (IntKind.u8.wrap z)) 0) : Nat) : Int)))) = SV.v (Value.int .i64 (lenI x)) := by
    intro k z k0 k1 z0 z1 e
    have ez : IntKind.u8.wrap z = z := by rw [wrap_u8]; omega
    have hl := lenI_8 z0 z1
    rw [ez, tab8_at z0 z1, wrap_i64 (n := lenI z) ⟨by omega, by omega⟩, wrap_i64 ⟨by omega, by omega⟩, e]
    exact ⟨⟨z0, z1⟩, rfl⟩
  have s8 : ∀ z : Int, 256 ≤ z → lenI z = 8 + lenI (z / 256) := fun z h => lenI_shift 8 h
  have s16 : ∀ z : Int, 65536 ≤ z → lenI z = 16 + lenI (z / 65536) := fun z h => lenI_shift 16 h
  have s32 : ∀ z : Int, 4294967296 ≤ z → lenI z = 32 + lenI (z / 4294967296) := fun z h => lenI_shift 32 h
  refine sel_of (fun g => ?_) fun g => ?_
  · have g := of_decide_eq_true g
    have e := s32 x g
    refine sel_of (fun g1 => ?_) fun g1 => ?_
    · have g1 := of_decide_eq_true g1
      have e1 := s16 _ g1
      refine sel_of (fun g2 => ?_) fun g2 => ?_
      · have e2 := s8 _ (of_decide_eq_true g2)
        exact key _ _ (by omega) (by omega) (by omega) (by omega) (by omega)
      · have g2 := of_decide_eq_false g2
        exact key _ _ (by omega) (by omega) (by omega) (by omega) (by omega)
    · have g1 := of_decide_eq_false g1
      refine sel_of (fun g2 => ?_) fun g2 => ?_
      · have e2 := s8 _ (of_decide_eq_true g2)
        exact key _ _ (by omega) (by omega) (by omega) (by omega) (by omega)
      · have g2 := of_decide_eq_false g2
        exact key _ _ (by omega) (by omega) (by omega) (by omega) (by omega)
  · have g := of_decide_eq_false g
    refine sel_of (fun g1 => ?_) fun g1 => ?_
    · have g1 := of_decide_eq_true g1
      have e1 := s16 _ g1
      refine sel_of (fun g2 => ?_) fun g2 => ?_
      · have e2 := s8 _ (of_decide_eq_true g2)
        exact key _ _ (by omega) (by omega) (by omega) (by omega) (by omega)
      · have g2 := of_decide_eq_false g2
        exact key _ _ (by omega) (by omega) (by omega) (by omega) (by omega)
    · have g1 := of_decide_eq_false g1
      refine sel_of (fun g2 => ?_) fun g2 => ?_
      · have e2 := s8 _ (of_decide_eq_true g2)
        exact key _ _ (by omega) (by omega) (by omega) (by omega) (by omega)
      · have g2 := of_decide_eq_false g2
        exact key _ _ (by omega) (by omega) (by omega) (by omega) (by omega)
theorem lenI_64 {x : Int} (h : U64 x) : 0 ≤ lenI x ∧ lenI x ≤ 64 := by
  obtain ⟨h0, h1⟩ := h
  by_cases hx : x = 0
  · subst hx; exact ⟨by decide, by decide⟩
  · obtain ⟨n, e, l1, _⟩ := lenI_ge (x := x) (by omega)
    refine ⟨by omega, ?_⟩
    rcases Nat.lt_or_ge n 64 with h | h
    · omega
    · exfalso
      have : (2 : Int) ^ 64 ≤ 2 ^ n := by exact_mod_cast Nat.pow_le_pow_right (by decide) h
      omega
theorem ΓX0_ok : ∀ f g, ΓX0 f = some g → g.ok Try.prog f := addCtr_ok noCtrs_ok (pure_ok Try.func164 (by kernel_rfl) (by kernel_rfl) Len64_spec)
theorem Lead_spec : PureSpec Try.prog 159 sLead := vc_spec hm ΓX0_ok Try.func159 (Λ := fun _ => noΛ) fun args p x h hp => by
  unfold sLead at h
  split at h <;> try (cases h; done)
  rename_i x
  cases h
  have hx := hp _ rfl
  refine ⟨rfl, rfl, ?_⟩
  refine Eq.mpr (vcLead x _) ?_
  have := lenI_64 hx
  refine ⟨hx, int_mk ?_⟩
  rw [wrap_i64 ⟨by omega, by omega⟩]
theorem ΓX1_ok : ∀ f g, ΓX1 f = some g → g.ok Try.prog f := addCtr_ok noCtrs_ok (pure_ok Try.func159 (by kernel_rfl) (by kernel_rfl) Lead_spec)

/-! ### one digit of the quotient -/
section
variable {a b u l : Int}
structure dig (a b u l : Int) : Prop where
  a0 : 2147483648 ≤ a
  a1 : a < 4294967296
  b0 : 0 ≤ b
  b1 : b < 4294967296
  l0 : 0 ≤ l
  l1 : l < 4294967296
  u0 : 0 ≤ u
  u1 : u < a * 4294967296 + b
def digQ (a b u l : Int) : Int := (u * 4294967296 + l) / (a * 4294967296 + b)
theorem dig_lt (h : dig a b u l) : 0 ≤ digQ a b u l ∧ digQ a b u l < 4294967296 := by
  obtain ⟨a0, a1, b0, b1, l0, l1, u0, u1⟩ := h
  exact ⟨Int.ediv_nonneg (by omega) (by omega), Int.ediv_lt_of_lt_mul (by omega) (by omega)⟩
theorem dig_start (h : dig a b u l) : invQ a b u l ⟨u / a, u - u / a * a⟩ := by
  obtain ⟨a0, a1, b0, b1, l0, l1, u0, u1⟩ := h
  have e : u - u / a * a = u % a := by rw [Int.emod_def, Int.mul_comm]
  have r0 : 0 ≤ u % a := Int.emod_nonneg _ (by omega)
  have r1 : u % a < a := Int.emod_lt_of_pos _ (by omega)
  refine ⟨Int.ediv_nonneg u0 (by omega), ?_, ?_, ?_, ?_, ?_⟩
  · have : u / a < 4294967298 := Int.ediv_lt_of_lt_mul (by omega) (by omega)
    show u / a ≤ 4294967297
    omega
  · show 0 ≤ u - u / a * a
    omega
  · show u - u / a * a < 4294967296
    omega
  · show u / a * a + (u - u / a * a) = u
    omega
  · show _ ≤ u / a
    have hlt : (u * 4294967296 + l) / (a * 4294967296 + b) < u / a + 1 := by
      refine Int.ediv_lt_of_lt_mul (by omega) ?_
      generalize hq : u / a = q at *
      have q0 : 0 ≤ q := by rw [← hq]; exact Int.ediv_nonneg u0 (by omega)
      have e1 : (q + 1) * (a * 4294967296 + b) = (q * a) * 4294967296 + a * 4294967296 + (q + 1) * b := by
        rw [Int.mul_add, ← Int.mul_assoc, Int.add_mul q 1 a, Int.add_mul (q * a)]; omega
      have e2 : 0 ≤ (q + 1) * b := Int.mul_nonneg (by omega) b0
      rw [e1]
      omega
    omega
theorem dig_big {x : QR} (h : dig a b u l) (hi : invQ a b u l x) (hq : 4294967296 ≤ x.q ∨ 4294967296 * x.r + l < x.q * b) : digQ a b u l ≤ x.q - 1 := by
  have hd := dig_lt h
  obtain ⟨a0, a1, b0, b1, l0, l1, u0, u1⟩ := h
  rcases hq with hq | hq
  · omega
  · have : digQ a b u l < x.q := by
      refine Int.ediv_lt_of_lt_mul (by omega) ?_
      have hs := hi.sum
      have e1 : x.q * (a * 4294967296 + b) = (x.q * a) * 4294967296 + x.q * b := by rw [Int.mul_add, ← Int.mul_assoc]
      rw [e1]
      omega
    omega
theorem dig_end {x : QR} (h : dig a b u l) (hi : invQ a b u l x) (hq : x.q * b ≤ 4294967296 * x.r + l) : x.q = digQ a b u l := by
  obtain ⟨a0, a1, b0, b1, l0, l1, u0, u1⟩ := h
  have : x.q ≤ digQ a b u l := by
    refine Int.le_ediv_of_mul_le (by omega) ?_
    have hs := hi.sum
    have e1 : x.q * (a * 4294967296 + b) = (x.q * a) * 4294967296 + x.q * b := by rw [Int.mul_add, ← Int.mul_assoc]
    rw [e1]
    omega
  have := hi.le
  exact Int.le_antisymm (by assumption) (by assumption)
theorem dig_out {x : QR} (h : dig a b u l) (hi : invQ a b u l x) (hq : 4294967296 ≤ x.q ∨ 4294967296 * x.r + l < x.q * b) (hr : 4294967296 ≤ x.r + a) : x.q - 1 = digQ a b u l := by
  have h1 := dig_big h hi hq
  have hd := dig_lt h
  obtain ⟨a0, a1, b0, b1, l0, l1, u0, u1⟩ := h
  have : x.q - 1 ≤ digQ a b u l := by
    refine Int.le_ediv_of_mul_le (by omega) ?_
    have hs := hi.sum
    have hq1 := hi.q1
    have e1 : (x.q - 1) * (a * 4294967296 + b) = (x.q * a) * 4294967296 - a * 4294967296 + (x.q - 1) * b := by rw [Int.mul_add, ← Int.mul_assoc, Int.sub_mul x.q 1 a, Int.sub_mul (x.q * a)]; omega
    have e2 : (x.q - 1) * b ≤ 4294967296 * b := Int.mul_le_mul_of_nonneg_right (by omega) b0
    rw [e1]
    omega
  omega
theorem dig_next {x : QR} (h : dig a b u l) (hi : invQ a b u l x) (hq : 4294967296 ≤ x.q ∨ 4294967296 * x.r + l < x.q * b) (hr : x.r + a < 4294967296) : invQ a b u l ⟨x.q - 1, x.r + a⟩ := by
  have h1 := dig_big h hi hq
  have hd := dig_lt h
  obtain ⟨a0, a1, b0, b1, l0, l1, u0, u1⟩ := h
  obtain ⟨i1, i2, i3, i4, i5, i6⟩ := hi
  refine ⟨?_, ?_, ?_, ?_, ?_, h1⟩
  · show 0 ≤ x.q - 1
    omega
  · show x.q - 1 ≤ _
    omega
  · show 0 ≤ x.r + a
    omega
  · exact hr
  · show (x.q - 1) * a + (x.r + a) = u
    rw [Int.sub_mul]; omega
theorem dig_init (h : dig a b u l) : IntKind.u64.wrap (Int.tdiv u a) = u / a ∧ IntKind.u64.wrap (u - IntKind.u64.wrap (IntKind.u64.wrap (Int.tdiv u a) * a)) = u - u / a * a := by
  have hs := dig_start h
  have q0 : 0 ≤ u / a := hs.q0
  have q1 : u / a ≤ 4294967297 := hs.q1
  have r0 : 0 ≤ u - u / a * a := hs.r0
  obtain ⟨a0, a1, b0, b1, l0, l1, u0, u1⟩ := h
  have p0 : 0 ≤ u / a * a := Int.mul_nonneg q0 (by omega)
  rw [Int.tdiv_eq_ediv_of_nonneg u0, u64_in (n := u / a) ⟨q0, by omega⟩]
  refine ⟨rfl, ?_⟩
  rw [u64_in (n := u / a * a) ⟨p0, by omega⟩, u64_in ⟨r0, by omega⟩]
theorem dig_loop {x : QR} (h : dig a b u l) (hx : invQ a b u l x) {A1 A2 A3 : Prop} (h1 : IntKind.u64.wrap (x.q - 1) = digQ a b u l → A1) (h2 : IntKind.u64.wrap (x.q - 1) = digQ a b u l → A2) (h3 : x.q = digQ a b u l → A3) :
    sel (decide (x.q ≥ 4294967296)) (sel (decide (IntKind.u64.wrap (x.r + a) ≥ 4294967296)) A1
      (∃ x' : QR, (invQ a b u l x' ∧ (SV.v (Value.int .u64 (IntKind.u64.wrap (x.q - 1))) = SV.v (Value.int .u64 x'.q) ∧ SV.v (Value.int .u64 (IntKind.u64.wrap (x.r + a))) = SV.v (Value.int .u64 x'.r)) ∧ True) ∧ Int.toNat x'.q < Int.toNat x.q))
    (sel (decide (IntKind.u64.wrap (x.q * b) > IntKind.u64.wrap (IntKind.u64.wrap (4294967296 * x.r) + l))) (sel (decide (IntKind.u64.wrap (x.r + a) ≥ 4294967296)) A2
      (∃ x' : QR, (invQ a b u l x' ∧ (SV.v (Value.int .u64 (IntKind.u64.wrap (x.q - 1))) = SV.v (Value.int .u64 x'.q) ∧ SV.v (Value.int .u64 (IntKind.u64.wrap (x.r + a))) = SV.v (Value.int .u64 x'.r)) ∧ True) ∧ Int.toNat x'.q < Int.toNat x.q)) A3) := by
  have hd := dig_lt h
  have hbig := dig_big h hx
  have hout := dig_out h hx
  have hnext := dig_next h hx
  have hend := dig_end h hx
  obtain ⟨a0, a1, b0, b1, l0, l1, u0, u1⟩ := h
  have x0 := hx.q0
  have x1 := hx.q1
  have x2 := hx.r0
  have x3 := hx.r1
  have er : IntKind.u64.wrap (x.r + a) = x.r + a := u64_in ⟨by omega, by omega⟩
  have eq : digQ a b u l ≤ x.q - 1 → IntKind.u64.wrap (x.q - 1) = x.q - 1 := fun hh => u64_in ⟨by omega, by omega⟩
  rw [er]
  refine sel_of (fun g => ?_) fun g => ?_
  · have g := of_decide_eq_true g
    have e := eq (hbig (Or.inl g))
    refine sel_of (fun g1 => ?_) fun g1 => ?_
    · exact h1 (e.trans (hout (Or.inl g) (of_decide_eq_true g1)))
    · have := hbig (Or.inl g)
      have g1 := of_decide_eq_false g1
      exact ⟨_, ⟨hnext (Or.inl g) (by omega), ⟨by rw [e], rfl⟩, trivial⟩, by show Int.toNat (x.q - 1) < _; omega⟩
  · have g := of_decide_eq_false g
    have p0 : 0 ≤ x.q * b := Int.mul_nonneg x0 b0
    have p1 : x.q * b ≤ 4294967295 * b := Int.mul_le_mul_of_nonneg_right (by omega) b0
    have e1 : IntKind.u64.wrap (x.q * b) = x.q * b := u64_in ⟨p0, by omega⟩
    have e2 : IntKind.u64.wrap (4294967296 * x.r) = 4294967296 * x.r := u64_in ⟨by omega, by omega⟩
    have e3 : IntKind.u64.wrap (4294967296 * x.r + l) = 4294967296 * x.r + l := u64_in ⟨by omega, by omega⟩
    rw [e1, e2, e3]
    refine sel_of (fun g0 => ?_) fun g0 => ?_
    · have g0 : 4294967296 ≤ x.q ∨ 4294967296 * x.r + l < x.q * b := Or.inr (of_decide_eq_true g0)
      have e := eq (hbig g0)
      refine sel_of (fun g1 => ?_) fun g1 => ?_
      · exact h2 (e.trans (hout g0 (of_decide_eq_true g1)))
      · have := hbig g0
        have g1 := of_decide_eq_false g1
        exact ⟨_, ⟨hnext g0 (by omega), ⟨by rw [e], rfl⟩, trivial⟩, by show Int.toNat (x.q - 1) < _; omega⟩
    · have g0 := of_decide_eq_false g0
      exact h3 (hend (by omega))
end
theorem div_final {m y q r t : Int} (ht : 0 < t) (hy : 0 < y) (he : m * t = q * (y * t) + r) (h0 : 0 ≤ r) (h1 : r < y * t) : m / y = q ∧ r / t = m % y := by
  have e1 : r = (m - q * y) * t := by rw [Int.sub_mul, Int.mul_assoc]; omega
  have e2 : 0 ≤ m - q * y := by
    rcases Int.lt_or_le (m - q * y) 0 with h | h
    · have := Int.mul_neg_of_neg_of_pos h ht
      omega
    · exact h
  have e3 : m - q * y < y := by
    rw [e1] at h1
    exact Int.lt_of_mul_lt_mul_right h1 (Int.le_of_lt ht)
  have e4 : r / t = m - q * y := by rw [e1]; exact Int.mul_ediv_cancel _ (by omega)
  have e5 : m / y = q := by
    have : m = q * y + (m - q * y) := by omega
    rw [this, Int.add_comm, Int.add_mul_ediv_right _ _ (by omega), Int.ediv_eq_zero_of_lt e2 e3]; omega
  refine ⟨e5, ?_⟩
  rw [e4, Int.emod_def, e5, Int.mul_comm y q]
theorem shl_or {c d : Int} {s : Nat} (hc : 0 ≤ c) (hd : 0 ≤ d) (hd1 : d < 2 ^ s) (hc1 : c * 2 ^ s < 18446744073709551616) (hd2 : d < 18446744073709551616) : bits .or .u64 (c * 2 ^ s) d = c * 2 ^ s + d := by
  have t0 : (0 : Int) < 2 ^ s := by exact_mod_cast Nat.two_pow_pos s
  have h0 : 0 ≤ c * 2 ^ s := Int.mul_nonneg hc (by omega)
  rw [u64_or (c * 2 ^ s) d h0 hc1 hd hd2]
  obtain ⟨n, rfl⟩ := Int.eq_ofNat_of_zero_le hc
  obtain ⟨m, rfl⟩ := Int.eq_ofNat_of_zero_le hd
  have e : ((n : Int) * 2 ^ s) = ((2 ^ s * n : Nat) : Int) := by rw [Int.natCast_mul, Int.natCast_pow, Int.mul_comm]; rfl
  rw [e, Int.toNat_natCast, Int.toNat_natCast]
  have hm : m < 2 ^ s := by exact_mod_cast hd1
  rw [← Nat.two_pow_add_eq_or_of_lt hm]
  rfl
theorem Div64_spec : PureSpec Try.prog 133 sDiv64 := vc_spec hm ΓX1_ok Try.func133 (Λ := fun args => match args with
    | [.v (.int .u64 hi), .v (.int .u64 lo), .v (.int .u64 y)] =>
      let t : Int := 2 ^ (64 - lenI y).toNat
      let w := MM lo hi * t
      let u := w / 18446744073709551616
      let l := w % 18446744073709551616
      ΛDiv (y * t / 4294967296) (y * t % 4294967296) u (l / 4294967296) ((u * 4294967296 + l / 4294967296) % (y * t)) (l % 4294967296)
    | _ => noΛ) fun args p x h hp => by
  unfold sDiv64 at h
  split at h <;> try (cases h; done)
  rename_i hi lo y
  cases h
  obtain ⟨h1, h2, h3, h4⟩ := hp _ rfl
  refine ⟨rfl, rfl, ?_⟩
  refine Eq.mpr (vcDiv64 hi lo y _ _ _ _ _ _ _) ?_
  have y0 : 0 < y := by obtain ⟨_, _⟩ := h1; omega
  refine sel_of (fun g => ?_) fun g => ?_
  · exfalso; simp at g; omega
  refine sel_of (fun g' => ?_) fun _ => ?_
  · exfalso; simp at g'; omega
  refine sel_of (fun g => ?_) fun g => ?_
  · have g : hi = 0 := by simpa using g
    subst g
    refine ⟨by omega, by omega, ?_⟩
    have q0 : 0 ≤ lo / y := Int.ediv_nonneg h2.1 h3.1
    have q1 : lo / y ≤ lo := Int.ediv_le_self _ h2.1
    have e : MM lo 0 = lo := by unfold MM; omega
    rw [e, Int.tdiv_eq_ediv_of_nonneg h2.1, Int.tmod_eq_emod_of_nonneg h2.1, u64_in ⟨q0, by have := h2.2; omega⟩]
  · clear g
    obtain ⟨n, el, l1, l2⟩ := lenI_ge y0
    have n64 : n ≤ 63 := by have := lenI_64 h3; omega
    obtain ⟨s, hs⟩ : ∃ s : Nat, n + s = 63 := ⟨63 - n, by omega⟩
    have es : (64 - lenI y) = (s : Int) := by omega
    have ew : IntKind.u64.wrap (s : Int) = s := u64_in ⟨by omega, by omega⟩
    have ew2 : IntKind.u64.wrap (64 - s : Int) = 64 - s := u64_in ⟨by omega, by omega⟩
    have et : min (Int.toNat (s : Int)) 64 = s := by simp; omega
    have et2 : min (Int.toNat (64 - s : Int)) 64 = 64 - s := by omega
    have et3 : Int.toNat (s : Int) = s := by simp
    rw [es]
    have et : min s 64 = s := by omega
    simp only [ew, ew2, et, et2, et3]
    have t0 : (0 : Int) < 2 ^ s := by exact_mod_cast Nat.two_pow_pos s
    have T0 : (0 : Int) < 2 ^ (64 - s) := by exact_mod_cast Nat.two_pow_pos (64 - s)
    have tT : (2 : Int) ^ (64 - s) * 2 ^ s = 18446744073709551616 := by rw [← Int.pow_add, show 64 - s + s = 64 by omega]; rfl
    have nt : (2 : Int) ^ n * 2 ^ s = 9223372036854775808 := by rw [← Int.pow_add, hs]; rfl
    have v0 : 9223372036854775808 ≤ y * 2 ^ s := by rw [← nt]; exact Int.mul_le_mul_of_nonneg_right l1 (by omega)
    have v1 : y * 2 ^ s < 18446744073709551616 := by
      have : y * 2 ^ s < 2 ^ (n + 1) * 2 ^ s := Int.mul_lt_mul_of_pos_right l2 t0
      have e : (2 : Int) ^ (n + 1) * 2 ^ s = 2 * (2 ^ n * 2 ^ s) := by rw [Int.pow_succ, Int.mul_comm (2 ^ n) 2, Int.mul_assoc]
      rw [e, nt] at this
      omega
    have hv : hi * 2 ^ s < y * 2 ^ s := Int.mul_lt_mul_of_pos_right h4 t0
    have h0 : 0 ≤ hi * 2 ^ s := Int.mul_nonneg h1.1 (by omega)
    have d0 : 0 ≤ lo / 2 ^ (64 - s) := Int.ediv_nonneg h2.1 (by omega)
    have d1 : lo / 2 ^ (64 - s) < 2 ^ s := Int.ediv_lt_of_lt_mul T0 (by rw [Int.mul_comm, tT]; exact h2.2)
    have eu : bits .or .u64 (IntKind.u64.wrap (hi * 2 ^ s)) (lo / 2 ^ (64 - s)) = MM lo hi * 2 ^ s / 18446744073709551616 := by
      rw [u64_in ⟨h0, by omega⟩, shl_or h1.1 d0 d1 (by omega) (by have : lo / 2 ^ (64 - s) ≤ lo := Int.ediv_le_self _ h2.1; have := h2.2; omega)]
      have e1 : MM lo hi * 2 ^ s = lo * 2 ^ s + (hi * 2 ^ s) * 18446744073709551616 := by
        unfold MM
        rw [Int.add_mul, Int.mul_assoc, Int.mul_comm 18446744073709551616, ← Int.mul_assoc]; omega
      rw [e1, Int.add_mul_ediv_right _ _ (by decide)]
      have e2 : lo * 2 ^ s / 18446744073709551616 = lo / 2 ^ (64 - s) := by rw [← tT, Int.mul_ediv_mul_of_pos_left _ _ t0]
      omega
    have elo : IntKind.u64.wrap (lo * 2 ^ s) = MM lo hi * 2 ^ s % 18446744073709551616 := by
      have e1 : MM lo hi * 2 ^ s = lo * 2 ^ s + (hi * 2 ^ s) * 18446744073709551616 := by
        unfold MM
        rw [Int.add_mul, Int.mul_assoc, Int.mul_comm 18446744073709551616, ← Int.mul_assoc]; omega
      rw [e1, Int.add_mul_emod_self_right, wrap_u64]
    have ev : IntKind.u64.wrap (y * 2 ^ s) = y * 2 ^ s := u64_in ⟨by omega, v1⟩
    rw [eu, elo, ev]
    have w0 : 0 ≤ MM lo hi * 2 ^ s := Int.mul_nonneg (MM_nonneg h2 h1) (by omega)
    have wv : MM lo hi * 2 ^ s < y * 2 ^ s * 18446744073709551616 := by
      have e : y * 2 ^ s * 18446744073709551616 = (y * 18446744073709551616) * 2 ^ s := by rw [Int.mul_right_comm]
      rw [e]
      refine Int.mul_lt_mul_of_pos_right ?_ t0
      unfold MM; have := h2.2; omega
    have hfin : ∀ q r, MM lo hi * 2 ^ s = q * (y * 2 ^ s) + r → 0 ≤ r → r < y * 2 ^ s → MM lo hi / y = q ∧ r / 2 ^ s = MM lo hi % y := fun q r e r0 r1 => div_final t0 y0 e r0 r1
    generalize y * 2 ^ s = v at *
    generalize MM lo hi * 2 ^ s = w at *
    have ul : U64 (w % 18446744073709551616) := mod_u64 w
    rw [and_mask32 ⟨by omega, v1⟩, and_mask32 ul]
    have hw : w = w / 18446744073709551616 * 18446744073709551616 + w % 18446744073709551616 := by omega
    generalize hu : w / 18446744073709551616 = u at *
    generalize hl : w % 18446744073709551616 = l at *
    have uv : u < v := by omega
    have u0 : 0 ≤ u := by omega
    have hd1 : dig (v / 4294967296) (v % 4294967296) u (l / 4294967296) := ⟨by omega, by omega, by omega, by omega, by omega, by obtain ⟨_, _⟩ := ul; omega, by omega, by omega⟩
    have hva : v / 4294967296 * 4294967296 + v % 4294967296 = v := by omega
    have hst1 := dig_start hd1
    have hdl1 := dig_lt hd1
    have hQ1 : digQ (v / 4294967296) (v % 4294967296) u (l / 4294967296) = (u * 4294967296 + l / 4294967296) / v := by unfold digQ; rw [hva]
    have hm0 : 0 ≤ (u * 4294967296 + l / 4294967296) % v := Int.emod_nonneg _ (by omega)
    have hm1 : (u * 4294967296 + l / 4294967296) % v < v := Int.emod_lt_of_pos _ (by omega)
    have hm2 : (u * 4294967296 + l / 4294967296) % v = (u * 4294967296 + l / 4294967296) - (u * 4294967296 + l / 4294967296) / v * v := by rw [Int.emod_def, Int.mul_comm v]
    generalize hu' : (u * 4294967296 + l / 4294967296) % v = u' at *
    have hd2 : dig (v / 4294967296) (v % 4294967296) u' (l % 4294967296) := ⟨by omega, by omega, by omega, by omega, by omega, by omega, by omega, by omega⟩
    have hst2 := dig_start hd2
    have hdl2 := dig_lt hd2
    have hQ2 : digQ (v / 4294967296) (v % 4294967296) u' (l % 4294967296) = (u' * 4294967296 + l % 4294967296) / v := by unfold digQ; rw [hva]
    have ei1 := dig_init hd1
    have ei2 := dig_init hd2
    refine ⟨h3, by omega, by omega, by omega, by omega, by omega, ⟨_, hst1, ⟨int_mk ei1.1, int_mk ei1.2⟩, trivial⟩, fun x hx => ?_⟩
    have eu' : ∀ q, q = digQ (v / 4294967296) (v % 4294967296) u (l / 4294967296) → IntKind.u64.wrap (IntKind.u64.wrap (IntKind.u64.wrap (u * 4294967296) + l / 4294967296) - IntKind.u64.wrap (q * v)) = u' := by
      intro q hq
      rw [hq, hQ1, hm2, wrap_u64, wrap_u64, wrap_u64, wrap_u64]
      rw [hm2] at hm0 hm1
      generalize (u * 4294967296 + l / 4294967296) / v * v = P at *
      omega
    have hr0 : 0 ≤ (u' * 4294967296 + l % 4294967296) % v := Int.emod_nonneg _ (by omega)
    have hr1 : (u' * 4294967296 + l % 4294967296) % v < v := Int.emod_lt_of_pos _ (by omega)
    have hr2 : (u' * 4294967296 + l % 4294967296) % v = (u' * 4294967296 + l % 4294967296) - (u' * 4294967296 + l % 4294967296) / v * v := by rw [Int.emod_def, Int.mul_comm v]
    have er' : ∀ q, q = digQ (v / 4294967296) (v % 4294967296) u' (l % 4294967296) → IntKind.u64.wrap (IntKind.u64.wrap (IntKind.u64.wrap (u' * 4294967296) + l % 4294967296) - IntKind.u64.wrap (q * v)) = (u' * 4294967296 + l % 4294967296) % v := by
      intro q hq
      rw [hq, hQ2, hr2, wrap_u64, wrap_u64, wrap_u64, wrap_u64]
      rw [hr2] at hr0 hr1
      generalize (u' * 4294967296 + l % 4294967296) / v * v = P at *
      omega
    rw [hQ1] at hdl1
    rw [hQ2] at hdl2
    have hf := hfin ((u * 4294967296 + l / 4294967296) / v * 4294967296 + (u' * 4294967296 + l % 4294967296) / v) ((u' * 4294967296 + l % 4294967296) % v) (by
      rw [Int.add_mul, Int.mul_right_comm, hr2, hw]
      generalize (u' * 4294967296 + l % 4294967296) / v * v = P at *
      generalize (u * 4294967296 + l / 4294967296) / v * v = P' at *
      omega) hr0 hr1
    refine dig_loop hd1 hx (fun e => ?_) (fun e => ?_) (fun e => ?_)
    all_goals
      rw [eu' _ e]
      refine ⟨by omega, ⟨_, hst2, ⟨int_mk ei2.1, int_mk ei2.2⟩, trivial⟩, fun x' hx' => ?_⟩
      refine dig_loop hd2 hx' (fun e' => ?_) (fun e' => ?_) (fun e' => ?_)
      all_goals
        rw [er' _ e', e, e', hQ1, hQ2]
        refine ⟨by omega, ?_⟩
        rw [u64_in (n := (u * 4294967296 + l / 4294967296) / v * 4294967296) ⟨by omega, by omega⟩, u64_in ⟨by omega, by omega⟩, hf.1, hf.2]
end Go.Proofs.Ytheljpebapokjaa
