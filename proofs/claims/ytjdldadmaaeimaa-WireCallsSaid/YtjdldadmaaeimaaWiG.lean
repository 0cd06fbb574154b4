/-
  Contracts: pose, spots, done.
-/
import Derived.Test.YtjdldadmaaeimaaWiF
set_option maxRecDepth 100000
set_option linter.unusedSimpArgs false
set_option linter.unusedVariables false
namespace Go.Proofs.Ytjdldadmaaeimaa
open Go.SE Go.RowKit

def fPose : List SV → Option (Prop × Nat × List Int × Bool)
  | [.agg [.v (.int .i64 xv), .v (.bool xf), .v (.int .i64 yv), .v (.bool yf), .v (.int .i64 cv), .v (.bool cf), .v (.int .i64 sv), .v (.bool sf)]] => some (I64 xv ∧ I64 yv ∧ I64 cv ∧ I64 sv, 36, vecL xv xf yv yf ++ (numL cv cf ++ numL sv sf), isMin xv || isMin yv || (isMin cv || isMin sv))
  | _ => none
theorem vcPose (b : Bool) (n0 : Nat) (g : Nat → Int) (c : Nat) (xv : Int) (xf : Bool) (yv : Int) (yf : Bool) (cv : Int) (cf : Bool) (sv : Int) (sf : Bool) : (vcFn Try.prog ΓF1 noΛ Try.f98 [.vp 0 0, .agg [.v (.int .i64 xv), .v (.bool xf), .v (.int .i64 yv), .v (.bool yf), .v (.int .i64 cv), .v (.bool cf), .v (.int .i64 sv), .v (.bool sf)]] (heapOf (uB (some b) n0 g c)) 64 (fun y' h' => FinE (uB (some b) n0 g c) (apE (.used (some b) n0 g c True) 0 True 36 (vecL xv xf yv yf ++ (numL cv cf ++ numL sv sf)) (isMin xv || isMin yv || (isMin cv || isMin sv))) y' h')) =
((((bytesOk n0 c { elem := 5, size := 1, rw := true, lock := false, lit := false, flat := true, n := n0, row := fun i => [SV.v (Value.int IntKind.u8 (g i))], ext := c }) ∧ ((n0 : Nat) ≤ NB0)) ∧ (((4 : Nat) = 4) ∧ (((1 : Nat) ≤ 4) ∧ (((4 : Nat) ≤ 100) ∧ (∀ i : Nat, (((i : Nat) < 4) → (isNum [SV.v (Value.int IntKind.i64 (bop (Nat.beq (0 + i) 0) xv (bop (Nat.beq (0 + i) 1) yv (bop (Nat.beq (0 + i) 2) cv sv)))), SV.v (Value.bool (bop (Nat.beq (0 + i) 0) xf (bop (Nat.beq (0 + i) 1) yf (bop (Nat.beq (0 + i) 2) cf sf))))]))))))) ∧ (∀ c_1 : Nat, (∃ c_2 : Nat, (True ∧ ((((1 : Nat) = 1) ∧ (((1 : Nat) ≤ 1) ∧ (((SV.sl 184 1 0 (n0 + 36) (n0 + 36 + c_1)) = (SV.sl 184 1 0 (n0 + 36) (n0 + 36 + c_2))) ∧ ((SV.v (Value.bool (b || anyMin (fun i => nV [SV.v (Value.int IntKind.i64 (bop (Nat.beq (0 + i) 0) xv (bop (Nat.beq (0 + i) 1) yv (bop (Nat.beq (0 + i) 2) cv sv)))), SV.v (Value.bool (bop (Nat.beq (0 + i) 0) xf (bop (Nat.beq (0 + i) 1) yf (bop (Nat.beq (0 + i) 2) cf sf))))]) 4))) = (SV.v (Value.bool (b || (isMin xv || isMin yv || (isMin cv || isMin sv))))))))) ∧ ((((n0 + 36) : Nat) = (n0 + 36)) ∧ ((((n0 + 36 + c_2) : Nat) ≤ (n0 + 36 + c_1)) ∧ (∀ i : Nat, (((i : Nat) < (n0 + 36)) → ([(SV.v (Value.int IntKind.u8 (apG n0 (fun i => SE.byteOf [SV.v (Value.int IntKind.u8 (g i))]) (numsL (fun i => nV [SV.v (Value.int IntKind.i64 (bop (Nat.beq (0 + i) 0) xv (bop (Nat.beq (0 + i) 1) yv (bop (Nat.beq (0 + i) 2) cv sv)))), SV.v (Value.bool (bop (Nat.beq (0 + i) 0) xf (bop (Nat.beq (0 + i) 1) yf (bop (Nat.beq (0 + i) 2) cf sf))))]) (fun i => nF [SV.v (Value.int IntKind.i64 (bop (Nat.beq (0 + i) 0) xv (bop (Nat.beq (0 + i) 1) yv (bop (Nat.beq (0 + i) 2) cv sv)))), SV.v (Value.bool (bop (Nat.beq (0 + i) 0) xf (bop (Nat.beq (0 + i) 1) yf (bop (Nat.beq (0 + i) 2) cf sf))))]) 4) i)))] = [(SV.v (Value.int IntKind.u8 (apG n0 g (vecL xv xf yv yf ++ (numL cv cf ++ numL sv sf)) i)))])))))))))) := by kernel_rfl
/-- Spots: none, nil, or some. -/
def sSpots (args : List SV) (bs : List Blk) : Option Eff := match args, bs with
  | [.vp 0 0, .v (.slice none 0 0)], [B, D] => match wrOf [B, D] with
    | some (.used (some b) n0 g c p) => some (.det (some p) (.tup []) [(0, wB (some b) false (.sl 1 1 0 n0 c)), (1, bG n0 g c)])
    | _ => none
  | [.vp 0 0, .sl 2 2 0 n _], [B, D, S] => match wrOf [B, D] with
    | some (.used (some b) n0 g c p) => bif roOk2 S then (match n with
      | 0 => some (.det (some (p ∧ S.n = 0)) (.tup []) [(0, wB (some b) false (.sl 1 1 0 n0 c)), (1, bG n0 g c)])
      | m + 1 => some (apE (.used (some b) n0 g c p) NB0 (S.n = m + 1 ∧ m < 100 ∧ ∀ i, i < m + 1 → isPair (S.row i)) (16 * (m + 1)) (spotsL (fun i => pX (S.row i)) (fun i => pY (S.row i)) (m + 1)) false)) else none
    | _ => none
  | _, _ => none
noncomputable def ΛSpots (b : Bool) (n0 : Nat) (g : Nat → Int) (n : Nat) (x y : Nat → Int) : Nat → Option LoopSpec := addLoopN noΛ Try.f105 0 NX (fun z => z.i ≤ n ∧ (z.i = 0 ∨ n0 + 16 * z.i ≤ z.c)) (fun z => n - z.i) [(8, fun z => .v (.int .i64 z.i))] [(0, fun z => wB (some b) false (.sl 40 1 0 (n0 + 16 * z.i) z.c))] [(40, fun z => bG (n0 + 16 * z.i) (apG n0 g (spotsL x y z.i)) z.c, inVar 0 0)]
noncomputable def ΛSpots0 (b : Bool) (n0 : Nat) (g : Nat → Int) (c : Nat) : Nat → Option LoopSpec := addLoop noΛ Try.f105 0 Nat (fun z => z = 0) (fun z => z) [(8, fun z => .v (.int .i64 z))] [(0, fun z => wB (some b) false (.sl 1 1 0 n0 c)), (1, fun z => bG n0 g c)]
theorem vcSpots (b : Bool) (n0 : Nat) (g : Nat → Int) (c m e n' c' : Nat) (x y : Nat → Int) : (vcFn Try.prog ΓF1 (ΛSpots b n0 g (m + 1) x y) Try.f105 [.vp 0 0, .sl 2 2 0 (m + 1) c'] (heapOf [wB (some b) false (.sl 1 1 0 n0 c), bG n0 g c, spB e n' x y]) 64 (fun y' h' => FinE [wB (some b) false (.sl 1 1 0 n0 c), bG n0 g c, spB e n' x y] (apE (.used (some b) n0 g c True) 0 True (16 * (m + 1)) (spotsL x y (m + 1)) false) y' h')) =
((∃ x_1 : NX, (((((NX.i x_1) : Nat) ≤ (m + 1)) ∧ (NX.i x_1 = 0 ∨ n0 + 16 * NX.i x_1 ≤ NX.c x_1)) ∧ (((SV.v (Value.int IntKind.i64 0)) = (SV.v (Value.int IntKind.i64 ((↑(NX.i x_1) : Int))))) ∧ ((((1 : Nat) = 1) ∧ (((1 : Nat) ≤ 1) ∧ (((SV.sl 1 1 0 n0 c) = (SV.sl 1 1 0 (n0 + 16 * NX.i x_1) (NX.c x_1))) ∧ ((SV.v (Value.bool b)) = (SV.v (Value.bool b)))))) ∧ (((n0 : Nat) = (n0 + 16 * NX.i x_1)) ∧ ((((NX.c x_1) : Nat) ≤ c) ∧ (∀ i : Nat, (((i : Nat) < (n0 + 16 * NX.i x_1)) → ([(SV.v (Value.int IntKind.u8 (g i)))] = [(SV.v (Value.int IntKind.u8 (apG n0 g (spotsL x y (NX.i x_1)) i)))]))))))))) ∧ (∀ x_1 : NX, (((((NX.i x_1) : Nat) ≤ (m + 1)) ∧ (NX.i x_1 = 0 ∨ n0 + 16 * NX.i x_1 ≤ NX.c x_1)) → 
(sel (decide ((↑(NX.i x_1) : Int) < (↑(m + 1) : Int))) ((((0 : Int) ≤ ((↑(NX.i x_1) : Int))) ∧ ((((↑(NX.i x_1) : Int)) : Int) < ((↑(m + 1) : Int)))) ∧ ((((bytesOk (n0 + 16 * NX.i x_1) (NX.c x_1) { elem := 5, size := 1, rw := true, lock := false, lit := false, flat := true, n := n0 + 16 * NX.i x_1, row := fun i => [SV.v (Value.int IntKind.u8 (apG n0 g (spotsL x y (NX.i x_1)) i))], ext := NX.c x_1 }) ∧ (((n0 + 16 * NX.i x_1) : Nat) ≤ M0)) ∧ (I64 (x (0 + Int.toNat (↑(NX.i x_1) : Int))))) ∧ (∀ c_1 : Nat, ((((bytesOk (n0 + 16 * NX.i x_1 + 8) (n0 + 16 * NX.i x_1 + 8 + c_1) { elem := 5, size := 1, rw := true, lock := false, lit := false, flat := true, n := n0 + 16 * NX.i x_1 + 8, row := fun i => [SV.v (Value.int IntKind.u8 (apG (n0 + 16 * NX.i x_1) (fun i => SE.byteOf [SV.v (Value.int IntKind.u8 (apG n0 g (spotsL x y (NX.i x_1)) i))]) (be (x (0 + Int.toNat (↑(NX.i x_1) : Int)) % 18446744073709551616) 8) i))], ext := n0 + 16 * NX.i x_1 + 8 + c_1 }) ∧ (((n0 + 16 * NX.i x_1 + 8) : Nat) ≤ M0)) ∧ (I64 (y (0 + Int.toNat (↑(NX.i x_1) : Int))))) ∧ (∀ c_2 : Nat, (∃ x' : NX, ((((((NX.i x') : Nat) ≤ (m + 1)) ∧ (NX.i x' = 0 ∨ n0 + 16 * NX.i x' ≤ NX.c x')) ∧ (((SV.v (Value.int IntKind.i64 (IntKind.wrap IntKind.i64 ((↑(NX.i x_1) : Int) + 1)))) = (SV.v (Value.int IntKind.i64 ((↑(NX.i x') : Int))))) ∧ ((((1 : Nat) = 1) ∧ (((1 : Nat) ≤ 1) ∧ (((SV.sl 216 1 0 (n0 + 16 * NX.i x_1 + 8 + 8) (n0 + 16 * NX.i x_1 + 8 + 8 + c_2)) = (SV.sl 216 1 0 (n0 + 16 * NX.i x') (NX.c x'))) ∧ ((SV.v (Value.bool (b || false || false))) = (SV.v (Value.bool b)))))) ∧ ((((n0 + 16 * NX.i x_1 + 8 + 8) : Nat) = (n0 + 16 * NX.i x')) ∧ ((((NX.c x') : Nat) ≤ (n0 + 16 * NX.i x_1 + 8 + 8 + c_2)) ∧ (∀ i : Nat, (((i : Nat) < (n0 + 16 * NX.i x')) → ([(SV.v (Value.int IntKind.u8 (apG (n0 + 16 * NX.i x_1 + 8) (fun i => SE.byteOf [SV.v (Value.int IntKind.u8 (apG (n0 + 16 * NX.i x_1) (fun i => SE.byteOf [SV.v (Value.int IntKind.u8 (apG n0 g (spotsL x y (NX.i x_1)) i))]) (be (x (0 + Int.toNat (↑(NX.i x_1) : Int)) % 18446744073709551616) 8) i))]) (be (y (0 + Int.toNat (↑(NX.i x_1) : Int)) % 18446744073709551616) 8) i)))] = [(SV.v (Value.int IntKind.u8 (apG n0 g (spotsL x y (NX.i x')) i)))])))))))) ∧ (((m + 1 - NX.i x') : Nat) < (m + 1 - NX.i x_1))))))))) (∃ c_1 : Nat, (True ∧ ((((1 : Nat) = 1) ∧ (((1 : Nat) ≤ 1) ∧ (((SV.sl 40 1 0 (n0 + 16 * NX.i x_1) (NX.c x_1)) = (SV.sl 40 1 0 (n0 + 16 * (m + 1)) (n0 + 16 * (m + 1) + c_1))) ∧ ((SV.v (Value.bool b)) = (SV.v (Value.bool (b || false))))))) ∧ ((((n0 + 16 * NX.i x_1) : Nat) = (n0 + 16 * (m + 1))) ∧ ((((n0 + 16 * (m + 1) + c_1) : Nat) ≤ (NX.c x_1)) ∧ (∀ i : Nat, (((i : Nat) < (n0 + 16 * (m + 1))) → ([(SV.v (Value.int IntKind.u8 (apG n0 g (spotsL x y (NX.i x_1)) i)))] = [(SV.v (Value.int IntKind.u8 (apG n0 g (spotsL x y (m + 1)) i)))])))))))))))) := by kernel_rfl
theorem vcSpotsZ (b : Bool) (n0 : Nat) (g : Nat → Int) (c e n' c' : Nat) (x y : Nat → Int) : (vcFn Try.prog ΓF1 (ΛSpots0 b n0 g c) Try.f105 [.vp 0 0, .sl 2 2 0 0 c'] (heapOf [wB (some b) false (.sl 1 1 0 n0 c), bG n0 g c, spB e n' x y]) 64 (fun y' h' => FinE [wB (some b) false (.sl 1 1 0 n0 c), bG n0 g c, spB e n' x y] (.det none (.tup []) [(0, wB (some b) false (.sl 1 1 0 n0 c)), (1, bG n0 g c)]) y' h')) =
((∃ x_1 : Nat, (((x_1 : Nat) = 0) ∧ (((SV.v (Value.int IntKind.i64 0)) = (SV.v (Value.int IntKind.i64 ((↑x_1 : Int))))) ∧ ((((1 : Nat) = 1) ∧ (((1 : Nat) ≤ 1) ∧ (((SV.sl 1 1 0 n0 c) = (SV.sl 1 1 0 n0 c)) ∧ ((SV.v (Value.bool b)) = (SV.v (Value.bool b)))))) ∧ (((n0 : Nat) = n0) ∧ (((c : Nat) ≤ c) ∧ (∀ i : Nat, (((i : Nat) < n0) → ([(SV.v (Value.int IntKind.u8 (g i)))] = [(SV.v (Value.int IntKind.u8 (g i)))]))))))))) ∧ (∀ x_1 : Nat, (((x_1 : Nat) = 0) → (True ∧ ((((1 : Nat) = 1) ∧ (((1 : Nat) ≤ 1) ∧ (((SV.sl 1 1 0 n0 c) = (SV.sl 1 1 0 n0 c)) ∧ ((SV.v (Value.bool b)) = (SV.v (Value.bool b)))))) ∧ (((n0 : Nat) = n0) ∧ (((c : Nat) ≤ c) ∧ (∀ i : Nat, (((i : Nat) < n0) → ([(SV.v (Value.int IntKind.u8 (g i)))] = [(SV.v (Value.int IntKind.u8 (g i)))])))))))))) := by kernel_rfl
theorem vcSpotsN (b : Bool) (n0 : Nat) (g : Nat → Int) (c : Nat) : (vcFn Try.prog ΓF1 (ΛSpots0 b n0 g c) Try.f105 [.vp 0 0, .v (.slice none 0 0)] (heapOf [wB (some b) false (.sl 1 1 0 n0 c), bG n0 g c]) 64 (fun y' h' => FinE [wB (some b) false (.sl 1 1 0 n0 c), bG n0 g c] (.det none (.tup []) [(0, wB (some b) false (.sl 1 1 0 n0 c)), (1, bG n0 g c)]) y' h')) =
((∃ x : Nat, (((x : Nat) = 0) ∧ (((SV.v (Value.int IntKind.i64 0)) = (SV.v (Value.int IntKind.i64 ((↑x : Int))))) ∧ ((((1 : Nat) = 1) ∧ (((1 : Nat) ≤ 1) ∧ (((SV.sl 1 1 0 n0 c) = (SV.sl 1 1 0 n0 c)) ∧ ((SV.v (Value.bool b)) = (SV.v (Value.bool b)))))) ∧ (((n0 : Nat) = n0) ∧ (((c : Nat) ≤ c) ∧ (∀ i : Nat, (((i : Nat) < n0) → ([(SV.v (Value.int IntKind.u8 (g i)))] = [(SV.v (Value.int IntKind.u8 (g i)))]))))))))) ∧ (∀ x : Nat, (((x : Nat) = 0) → (True ∧ ((((1 : Nat) = 1) ∧ (((1 : Nat) ≤ 1) ∧ (((SV.sl 1 1 0 n0 c) = (SV.sl 1 1 0 n0 c)) ∧ ((SV.v (Value.bool b)) = (SV.v (Value.bool b)))))) ∧ (((n0 : Nat) = n0) ∧ (((c : Nat) ≤ c) ∧ (∀ i : Nat, (((i : Nat) < n0) → ([(SV.v (Value.int IntKind.u8 (g i)))] = [(SV.v (Value.int IntKind.u8 (g i)))])))))))))) := by kernel_rfl
def ΓG0 : Ctrs := addCtr (addCtr (addCtr ΓF1 103 (hpCtr true (sApp {} NB0 fHandle))) 99 (hpCtr true (sApp {} NB0 fVec))) 98 (hpCtr true (sApp {} NB0 fPose))
theorem four_cases {i : Nat} (h : i < 4) : i = 0 ∨ i = 1 ∨ i = 2 ∨ i = 3 := by omega
theorem Pose_spec : HpSpec Try.prog 98 (sApp {} NB0 fPose) := app_spec ΓF1_ok Try.func98 (Λ0 := fun _ _ => noΛ) (Λ1 := fun _ _ _ _ _ => noΛ)
  (fun rest q k L b kd h hq ha => by cases kd <;> cases ha)
  (fun rest q k L b kd n0 g c h hq ha hm hn => by
  unfold fPose at h
  split at h <;> try (cases h; done)
  rename_i xv xf yv yf cv cf sv sf
  cases kd with
  | none => cases ha
  | some bd =>
    cases h
    obtain ⟨q1, q2, q3, q4⟩ := hq
    exact Eq.mpr (vcPose bd n0 g c xv xf yv yf cv cf sv sf) ⟨⟨⟨bytesOk_bG _ _ _ (by omega), hm⟩, rfl, by omega, by omega, fun i hi => by
      rcases four_cases hi with rfl | rfl | rfl | rfl
      · exact q1
      · exact q2
      · exact q3
      · exact q4⟩, fun c1 => tailU rfl (by simp [anyMin, nV, bop, Nat.beq, Bool.or_assoc]) fun i hi => by
        congr 1⟩)
theorem spotsL_len (x y : Nat → Int) : ∀ k, (spotsL x y k).length = 16 * k
  | 0 => rfl
  | k + 1 => by
    show (spotsL x y k ++ (i8 (x k) ++ i8 (y k))).length = _
    rw [List.length_append, spotsL_len x y k, List.length_append, i8_len, i8_len]; omega
theorem spots_row (x y : Nat → Int) (n0 : Nat) (g : Nat → Int) (k i : Nat) : apG (n0 + 16 * k + 8) (apG (n0 + 16 * k) (apG n0 g (spotsL x y k)) (i8 (x k))) (i8 (y k)) i = apG n0 g (spotsL x y (k + 1)) i := by
  rw [apG_ap (by rw [i8_len]), apG_ap (by rw [spotsL_len])]
  rfl
theorem Spots_used (b : Bool) (n0 : Nat) (g : Nat → Int) (c m e n' c' : Nat) (x y : Nat → Int) (hn0 : n0 ≤ 1000000000) (hm : m < 100) (hv : ∀ i, i < m + 1 → I64 (x i) ∧ I64 (y i)) :
    vcFn Try.prog ΓF1 (ΛSpots b n0 g (m + 1) x y) Try.f105 [.vp 0 0, .sl 2 2 0 (m + 1) c'] (heapOf [wB (some b) false (.sl 1 1 0 n0 c), bG n0 g c, spB e n' x y]) 64 (fun y' h' => FinE [wB (some b) false (.sl 1 1 0 n0 c), bG n0 g c, spB e n' x y] (apE (.used (some b) n0 g c True) 0 True (16 * (m + 1)) (spotsL x y (m + 1)) false) y' h') := by
  refine Eq.mpr (vcSpots b n0 g c m e n' c' x y) ⟨⟨⟨0, c⟩, ⟨Nat.zero_le _, .inl rfl⟩, rfl, ⟨rfl, Nat.le_refl _, rfl, rfl⟩, rfl, Nat.le_refl _, fun i hi => congrArg (fun z => [SV.v (.int .u8 z)]) (apG_old hi).symm⟩, fun z ⟨h2, h3⟩ => sel_of (fun hlt => ?_) fun hge => ?_⟩
  · have hlt := of_decide_eq_true hlt
    have hlt : z.i < m + 1 := by omega
    have hw : IntKind.i64.wrap ((z.i : Int) + 1) = ((z.i + 1 : Nat) : Int) := wrap_i64 ⟨by omega, by omega⟩
    have hvx := hv z.i hlt
    rw [show 0 + Int.toNat (z.i : Int) = z.i by omega]
    refine ⟨⟨by omega, by omega⟩, ⟨⟨bytesOk_bG _ _ _ (by omega), by show n0 + 16 * z.i ≤ 1099511627776; omega⟩, hvx.1⟩, fun c1 => ⟨⟨⟨bytesOk_bG _ _ _ (by omega), by show n0 + 16 * z.i + 8 ≤ 1099511627776; omega⟩, hvx.2⟩, fun c2 => ⟨⟨z.i + 1, n0 + 16 * z.i + 8 + 8 + c2⟩, ⟨⟨by show z.i + 1 ≤ m + 1; omega, .inr (by show n0 + 16 * (z.i + 1) ≤ n0 + 16 * z.i + 8 + 8 + c2; omega)⟩, int_mk hw, ⟨rfl, Nat.le_refl _, ?_, ?_⟩, ?_, Nat.le_refl _, fun i hi => ?_⟩, by show m + 1 - (z.i + 1) < m + 1 - z.i; omega⟩⟩⟩
    · show SV.sl _ 1 0 _ _ = SV.sl _ 1 0 (n0 + 16 * (z.i + 1)) _
      rw [show n0 + 16 * (z.i + 1) = n0 + 16 * z.i + 8 + 8 by omega]
    · rw [Bool.or_false, Bool.or_false]
    · show n0 + 16 * z.i + 8 + 8 = n0 + 16 * (z.i + 1)
      omega
    · exact congrArg (fun z => [SV.v (.int .u8 z)]) (spots_row x y n0 g z.i i)
  · have hge := of_decide_eq_false hge
    have hx : z.i = m + 1 := by omega
    rw [hx] at h3 ⊢
    have h3 : n0 + 16 * (m + 1) ≤ z.c := by omega
    have he : n0 + 16 * (m + 1) + (z.c - (n0 + 16 * (m + 1))) = z.c := by omega
    exact ⟨z.c - (n0 + 16 * (m + 1)), trivial, ⟨rfl, Nat.le_refl _, by rw [he], by rw [Bool.or_false]⟩, rfl, by omega, fun i hi => rfl⟩
theorem isPair_row {r : List SV} (h : isPair r) : r = [.v (.int .i64 (pX r)), .v (.int .i64 (pY r))] ∧ I64 (pX r) ∧ I64 (pY r) := by
  unfold isPair at h
  split at h
  · exact ⟨rfl, h⟩
  · exact h.elim
theorem same_spB {S : Blk} {n : Nat} (h1 : roOk2 S = true) (hn : S.n = n) (h : ∀ i, i < n → isPair (S.row i)) : BlkSame S (spB S.elem n (fun i => pX (S.row i)) (fun i => pY (S.row i))) := by
  simp only [roOk2, Bool.and_eq_true, Bool.not_eq_true'] at h1
  obtain ⟨⟨⟨⟨⟨a1, a2⟩, a3⟩, a4⟩, a5⟩, a6⟩ := h1
  exact ⟨Nat.eq_of_beq_eq_true a4, a2, a1, hn, Nat.eq_of_beq_eq_true a5, a3, rfl, a6, fun i hi => (isPair_row (h i (by omega))).1⟩
theorem spots_stay (b : Bool) (n0 : Nat) (g : Nat → Int) (c : Nat) : (∃ x_1 : Nat, x_1 = 0 ∧ (SV.v (.int .i64 0) = SV.v (.int .i64 (x_1 : Int)) ∧ ((1 = 1 ∧ 1 ≤ 1 ∧ SV.sl 1 1 0 n0 c = SV.sl 1 1 0 n0 c ∧ SV.v (.bool b) = SV.v (.bool b)) ∧ n0 = n0 ∧ c ≤ c ∧ ∀ i, i < n0 → [SV.v (.int .u8 (g i))] = [SV.v (.int .u8 (g i))]))) ∧ ∀ x_1 : Nat, x_1 = 0 → (True ∧ ((1 = 1 ∧ 1 ≤ 1 ∧ SV.sl 1 1 0 n0 c = SV.sl 1 1 0 n0 c ∧ SV.v (.bool b) = SV.v (.bool b)) ∧ n0 = n0 ∧ c ≤ c ∧ ∀ i, i < n0 → [SV.v (.int .u8 (g i))] = [SV.v (.int .u8 (g i))])) :=
  ⟨⟨0, rfl, rfl, ⟨rfl, Nat.le_refl _, rfl, rfl⟩, rfl, Nat.le_refl _, fun _ _ => rfl⟩, fun _ _ => ⟨trivial, ⟨rfl, Nat.le_refl _, rfl, rfl⟩, rfl, Nat.le_refl _, fun _ _ => rfl⟩⟩
noncomputable def ΛS (args : List SV) (bs : List Blk) : Nat → Option LoopSpec := match args, bs with
  | [_, .v _], [B, D] => match wrOf [B, D] with
    | some (.used (some b) n0 g c _) => ΛSpots0 b n0 g c
    | _ => noΛ
  | [_, .sl _ _ _ 0 _], [B, D, _] => match wrOf [B, D] with
    | some (.used (some b) n0 g c _) => ΛSpots0 b n0 g c
    | _ => noΛ
  | [_, .sl _ _ _ (m + 1) _], [B, D, S] => match wrOf [B, D] with
    | some (.used (some b) n0 g c _) => ΛSpots b n0 g (m + 1) (fun i => pX (S.row i)) (fun i => pY (S.row i))
    | _ => noΛ
  | _, _ => noΛ
theorem Spots_spec : HpSpec Try.prog 105 sSpots := hp_spec hm ΓF1_ok Try.func105 (Λ := ΛS) fun args bs e hs hp => by
  unfold sSpots at hs
  split at hs <;> try (cases hs; done)
  · rename_i B D
    split at hs <;> try (cases hs; done)
    rename_i b n0 g c p hw
    cases hs
    refine ⟨_, (wrOf_used hw (hp _ rfl)).1, ?_⟩
    simp only [ΛS, hw]
    exact Eq.mpr (vcSpotsN b n0 g c) (spots_stay b n0 g c)
  · rename_i n c' B D S
    split at hs <;> try (cases hs; done)
    rename_i b n0 g c p hw
    cases hro : roOk2 S with
    | false => rw [hro] at hs; cases hs
    | true =>
      rw [hro, cond_true] at hs
      cases n with
      | zero =>
        cases hs
        obtain ⟨hp, hn⟩ := hp _ rfl
        have hsame := (wrOf_used hw hp).1
        refine ⟨[wB (some b) false (.sl 1 1 0 n0 c), bG n0 g c, spB S.elem 0 (fun i => pX (S.row i)) (fun i => pY (S.row i))], ⟨hsame.1, hsame.2.1, same_spB hro hn (fun i hi => absurd hi (Nat.not_lt_zero i)), trivial⟩, ?_⟩
        simp only [ΛS, hw]
        exact Eq.mpr (vcSpotsZ b n0 g c S.elem 0 c' _ _) (spots_stay b n0 g c)
      | succ m =>
        cases hs
        obtain ⟨⟨hp, hm⟩, hn, h100, hv⟩ : (p ∧ n0 ≤ NB0) ∧ S.n = m + 1 ∧ m < 100 ∧ ∀ i, i < m + 1 → isPair (S.row i) := hp
        have hsame := (wrOf_used hw hp).1
        refine ⟨[wB (some b) false (.sl 1 1 0 n0 c), bG n0 g c, spB S.elem (m + 1) (fun i => pX (S.row i)) (fun i => pY (S.row i))], ⟨hsame.1, hsame.2.1, same_spB hro hn hv, trivial⟩, ?_⟩
        simp only [ΛS, hw]
        exact Spots_used b n0 g c m S.elem (m + 1) c' _ _ hm h100 fun i hi => (isPair_row (hv i hi)).2
end Go.Proofs.Ytjdldadmaaeimaa
