/-
  What the proof uses, part 14.
-/
import Derived.Test.YtjdldadmaaeimaaZb13

section
set_option maxRecDepth 100000
set_option linter.unusedSimpArgs false
set_option linter.unusedVariables false
namespace Go.Proofs.Ytjdldadmaaeimaa
open Go.SE Go.RowKit

def sameCB (k1 k2 : Int) (a b : CV) (s : Bool) : Bool := (k1 == k2) && ((a.id == b.id) && ((a.bs == b.bs && a.bg == b.bg) && ((a.ver == b.ver) && ((s) && ((a.p0v == b.p0v && a.p0f == b.p0f && (a.p1v == b.p1v && a.p1f == b.p1f) && (a.p2v == b.p2v && a.p2f == b.p2f && (a.p3v == b.p3v && a.p3f == b.p3f))) && ((a.v0v == b.v0v && a.v0f == b.v0f && (a.v1v == b.v1v && a.v1f == b.v1f)) && ((a.w0v == b.w0v && a.w0f == b.w0f) && ((a.dn == b.dn) && ((a.mv == b.mv) && ((a.a0v == b.a0v && a.a0f == b.a0f && (a.a1v == b.a1v && a.a1f == b.a1f)) && ((a.t0v == b.t0v && a.t0f == b.t0f && (a.t1v == b.t1v && a.t1f == b.t1f)) && ((a.gr == b.gr) && ((a.b0 == b.b0 && (a.b1 == b.b1 && (a.b2 == b.b2 && a.b3 == b.b3))) && ((a.f0 == b.f0 && a.f1 == b.f1) && (a.u0 == b.u0 && a.u1 == b.u1)))))))))))))))
def tkI {α : Type} (l : List SV) (K : Int → List SV → Option α) : Option α := match l with
  | .v (.int .i64 n) :: rest => K n rest
  | _ => none
def tkB {α : Type} (l : List SV) (K : Bool → List SV → Option α) : Option α := match l with
  | .v (.bool n) :: rest => K n rest
  | _ => none
def tkA {α : Type} (l : List SV) (K : SV → List SV → Option α) : Option α := match l with
  | x :: rest => K x rest
  | _ => none
def tkE {α : Type} (l : List SV) (r : α) : Option α := match l with
  | [] => some r
  | _ => none
def cellsOf (l : List SV) : Option (Int × CV × SV) := tkI l fun x_k l => tkI l fun x_id l => tkI l fun x_bs l => tkI l fun x_bg l => tkI l fun x_ver l => tkI l fun x_sk l => tkI l fun x_sr l => tkI l fun x_sw l => tkI l fun x_sh l => tkA l fun x_P l => tkI l fun x_p0v l => tkB l fun x_p0f l => tkI l fun x_p1v l => tkB l fun x_p1f l => tkI l fun x_p2v l => tkB l fun x_p2f l => tkI l fun x_p3v l => tkB l fun x_p3f l => tkI l fun x_v0v l => tkB l fun x_v0f l => tkI l fun x_v1v l => tkB l fun x_v1f l => tkI l fun x_w0v l => tkB l fun x_w0f l => tkI l fun x_dn l => tkB l fun x_mv l => tkI l fun x_a0v l => tkB l fun x_a0f l => tkI l fun x_a1v l => tkB l fun x_a1f l => tkI l fun x_t0v l => tkB l fun x_t0f l => tkI l fun x_t1v l => tkB l fun x_t1f l => tkI l fun x_gr l => tkI l fun x_b0 l => tkI l fun x_b1 l => tkI l fun x_b2 l => tkI l fun x_b3 l => tkI l fun x_f0 l => tkI l fun x_f1 l => tkI l fun x_u0 l => tkI l fun x_u1 l => tkE l (x_k, ⟨x_id, x_bs, x_bg, x_ver, x_sk, x_sr, x_sw, x_sh, x_p0v, x_p0f, x_p1v, x_p1f, x_p2v, x_p2f, x_p3v, x_p3f, x_v0v, x_v0f, x_v1v, x_v1f, x_w0v, x_w0f, x_dn, x_mv, x_a0v, x_a0f, x_a1v, x_a1f, x_t0v, x_t0f, x_t1v, x_t1f, x_gr, x_b0, x_b1, x_b2, x_b3, x_f0, x_f1, x_u0, x_u1⟩, x_P)
def sSameC : List SV → List Ro → Option (Option Prop × SV)
  | [.agg x, .agg y], rs => match cellsOf x, cellsOf y, rs with
    | some (k1, a, .sl 0 2 0 n _), some (k2, b, .sl 1 2 0 m _), [⟨2, n', row⟩, ⟨2, m', row'⟩] => some (some (rowsPre n n' row ∧ rowsPre m m' row'), .v (.bool (sameCB k1 k2 a b (sameS (shOf a) n (fun i => gi (row i)) (shOf b) m fun i => gi (row' i)))))
    | some (k1, a, .v (.slice none 0 0)), some (k2, b, .sl 0 2 0 m _), [⟨2, m', row⟩] => some (some (rowsPre m m' row), .v (.bool (sameCB k1 k2 a b (eqSh (shOf a) (shOf b) && Nat.beq m 0))))
    | _, _, _ => none
  | _, _ => none
theorem tkI_eq {α : Type} {l : List SV} {K : Int → List SV → Option α} {r : α} (h : tkI l K = some r) : ∃ n rest, l = .v (.int .i64 n) :: rest ∧ K n rest = some r := by
  unfold tkI at h
  split at h
  · exact ⟨_, _, rfl, h⟩
  · cases h
theorem tkB_eq {α : Type} {l : List SV} {K : Bool → List SV → Option α} {r : α} (h : tkB l K = some r) : ∃ n rest, l = .v (.bool n) :: rest ∧ K n rest = some r := by
  unfold tkB at h
  split at h
  · exact ⟨_, _, rfl, h⟩
  · cases h
theorem tkA_eq {α : Type} {l : List SV} {K : SV → List SV → Option α} {r : α} (h : tkA l K = some r) : ∃ x rest, l = x :: rest ∧ K x rest = some r := by
  unfold tkA at h
  split at h
  · exact ⟨_, _, rfl, h⟩
  · cases h
theorem tkE_eq {α : Type} {l : List SV} {x r : α} (h : tkE l x = some r) : l = [] ∧ x = r := by
  unfold tkE at h
  split at h
  · exact ⟨rfl, Option.some.inj h⟩
  · cases h
theorem cells_eq {l : List SV} {k : Int} {c : CV} {p : SV} (h : cellsOf l = some (k, c, p)) : SV.agg l = caS k c p := by
  unfold cellsOf at h
  obtain ⟨x_k, l_k, e_k, h_k⟩ := tkI_eq h
  subst e_k
  clear h
  obtain ⟨x_id, l_id, e_id, h_id⟩ := tkI_eq h_k
  subst e_id
  clear h_k
  obtain ⟨x_bs, l_bs, e_bs, h_bs⟩ := tkI_eq h_id
  subst e_bs
  clear h_id
  obtain ⟨x_bg, l_bg, e_bg, h_bg⟩ := tkI_eq h_bs
  subst e_bg
  clear h_bs
  obtain ⟨x_ver, l_ver, e_ver, h_ver⟩ := tkI_eq h_bg
  subst e_ver
  clear h_bg
  obtain ⟨x_sk, l_sk, e_sk, h_sk⟩ := tkI_eq h_ver
  subst e_sk
  clear h_ver
  obtain ⟨x_sr, l_sr, e_sr, h_sr⟩ := tkI_eq h_sk
  subst e_sr
  clear h_sk
  obtain ⟨x_sw, l_sw, e_sw, h_sw⟩ := tkI_eq h_sr
  subst e_sw
  clear h_sr
  obtain ⟨x_sh, l_sh, e_sh, h_sh⟩ := tkI_eq h_sw
  subst e_sh
  clear h_sw
  obtain ⟨x_P, l_P, e_P, h_P⟩ := tkA_eq h_sh
  subst e_P
  clear h_sh
  obtain ⟨x_p0v, l_p0v, e_p0v, h_p0v⟩ := tkI_eq h_P
  subst e_p0v
  clear h_P
  obtain ⟨x_p0f, l_p0f, e_p0f, h_p0f⟩ := tkB_eq h_p0v
  subst e_p0f
  clear h_p0v
  obtain ⟨x_p1v, l_p1v, e_p1v, h_p1v⟩ := tkI_eq h_p0f
  subst e_p1v
  clear h_p0f
  obtain ⟨x_p1f, l_p1f, e_p1f, h_p1f⟩ := tkB_eq h_p1v
  subst e_p1f
  clear h_p1v
  obtain ⟨x_p2v, l_p2v, e_p2v, h_p2v⟩ := tkI_eq h_p1f
  subst e_p2v
  clear h_p1f
  obtain ⟨x_p2f, l_p2f, e_p2f, h_p2f⟩ := tkB_eq h_p2v
  subst e_p2f
  clear h_p2v
  obtain ⟨x_p3v, l_p3v, e_p3v, h_p3v⟩ := tkI_eq h_p2f
  subst e_p3v
  clear h_p2f
  obtain ⟨x_p3f, l_p3f, e_p3f, h_p3f⟩ := tkB_eq h_p3v
  subst e_p3f
  clear h_p3v
  obtain ⟨x_v0v, l_v0v, e_v0v, h_v0v⟩ := tkI_eq h_p3f
  subst e_v0v
  clear h_p3f
  obtain ⟨x_v0f, l_v0f, e_v0f, h_v0f⟩ := tkB_eq h_v0v
  subst e_v0f
  clear h_v0v
  obtain ⟨x_v1v, l_v1v, e_v1v, h_v1v⟩ := tkI_eq h_v0f
  subst e_v1v
  clear h_v0f
  obtain ⟨x_v1f, l_v1f, e_v1f, h_v1f⟩ := tkB_eq h_v1v
  subst e_v1f
  clear h_v1v
  obtain ⟨x_w0v, l_w0v, e_w0v, h_w0v⟩ := tkI_eq h_v1f
  subst e_w0v
  clear h_v1f
  obtain ⟨x_w0f, l_w0f, e_w0f, h_w0f⟩ := tkB_eq h_w0v
  subst e_w0f
  clear h_w0v
  obtain ⟨x_dn, l_dn, e_dn, h_dn⟩ := tkI_eq h_w0f
  subst e_dn
  clear h_w0f
  obtain ⟨x_mv, l_mv, e_mv, h_mv⟩ := tkB_eq h_dn
  subst e_mv
  clear h_dn
  obtain ⟨x_a0v, l_a0v, e_a0v, h_a0v⟩ := tkI_eq h_mv
  subst e_a0v
  clear h_mv
  obtain ⟨x_a0f, l_a0f, e_a0f, h_a0f⟩ := tkB_eq h_a0v
  subst e_a0f
  clear h_a0v
  obtain ⟨x_a1v, l_a1v, e_a1v, h_a1v⟩ := tkI_eq h_a0f
  subst e_a1v
  clear h_a0f
  obtain ⟨x_a1f, l_a1f, e_a1f, h_a1f⟩ := tkB_eq h_a1v
  subst e_a1f
  clear h_a1v
  obtain ⟨x_t0v, l_t0v, e_t0v, h_t0v⟩ := tkI_eq h_a1f
  subst e_t0v
  clear h_a1f
  obtain ⟨x_t0f, l_t0f, e_t0f, h_t0f⟩ := tkB_eq h_t0v
  subst e_t0f
  clear h_t0v
  obtain ⟨x_t1v, l_t1v, e_t1v, h_t1v⟩ := tkI_eq h_t0f
  subst e_t1v
  clear h_t0f
  obtain ⟨x_t1f, l_t1f, e_t1f, h_t1f⟩ := tkB_eq h_t1v
  subst e_t1f
  clear h_t1v
  obtain ⟨x_gr, l_gr, e_gr, h_gr⟩ := tkI_eq h_t1f
  subst e_gr
  clear h_t1f
  obtain ⟨x_b0, l_b0, e_b0, h_b0⟩ := tkI_eq h_gr
  subst e_b0
  clear h_gr
  obtain ⟨x_b1, l_b1, e_b1, h_b1⟩ := tkI_eq h_b0
  subst e_b1
  clear h_b0
  obtain ⟨x_b2, l_b2, e_b2, h_b2⟩ := tkI_eq h_b1
  subst e_b2
  clear h_b1
  obtain ⟨x_b3, l_b3, e_b3, h_b3⟩ := tkI_eq h_b2
  subst e_b3
  clear h_b2
  obtain ⟨x_f0, l_f0, e_f0, h_f0⟩ := tkI_eq h_b3
  subst e_f0
  clear h_b3
  obtain ⟨x_f1, l_f1, e_f1, h_f1⟩ := tkI_eq h_f0
  subst e_f1
  clear h_f0
  obtain ⟨x_u0, l_u0, e_u0, h_u0⟩ := tkI_eq h_f1
  subst e_u0
  clear h_f1
  obtain ⟨x_u1, l_u1, e_u1, h_u1⟩ := tkI_eq h_u0
  subst e_u1
  clear h_u0
  obtain ⟨e0, h0⟩ := tkE_eq h_u1
  subst e0
  obtain ⟨h1, h2⟩ := Prod.mk.inj h0
  obtain ⟨h3, h4⟩ := Prod.mk.inj h2
  subst h1 h3 h4
  rfl
theorem ΓU0_ok : ∀ f g, ΓU0 f = some g → g.ok Try.prog f := addCtr_ok noCtrs_ok (ro_ok Try.func72 (by kernel_rfl) (by kernel_rfl) (ro_or SameS_spec SameN_spec))
theorem pre_rows {n : Nat} {g : Nat → Int × Int} (hn : n < 1099511627776) (hg : ∀ i, i < n → I64 (g i).1 ∧ I64 (g i).2) : rowsPre n n fun y => [SV.v (.int .i64 (g (0 + y)).1), SV.v (.int .i64 (g (0 + y)).2)] := ⟨okAll_rows.2 fun i hi => by rw [Nat.zero_add]; exact hg i hi, rfl, hn⟩
theorem same_ww (k1 k2 : Int) (a b : CV) (n c m d : Nat) (g h : Nat → Int × Int) (hn : n < 1099511627776) (hg : ∀ i, i < n → I64 (g i).1 ∧ I64 (g i).2) (hm : m < 1099511627776) (hh : ∀ i, i < m → I64 (h i).1 ∧ I64 (h i).2) : vcFn Try.prog ΓU0 noΛ Try.f25 [caS k1 a (.sl 0 2 0 n c), caS k2 b (.sl 1 2 0 m d)] (roHeap [⟨2, n, rowsP g⟩, ⟨2, m, rowsP h⟩]) 64 (fun y _ => y = .v (.bool (sameCB k1 k2 a b (sameS (shOf a) n g (shOf b) m h)))) := by
  refine Eq.mpr (vcSameC k1 k2 a b n n c m m d g h _) ?_
  rw [gi_rows, gi_rows]
  unfold sameCB shOf
  refine sel_of (fun e => ?_) fun e => by rw [e]; rfl
  rw [e, Bool.true_and]
  refine sel_of (fun e => ?_) fun e => by rw [e]; rfl
  rw [e, Bool.true_and]
  refine sel_of (fun e => ?_) fun e => by rw [e]; rfl
  rw [e, Bool.true_and]
  refine sel_of (fun e => ?_) fun e => by rw [e]; rfl
  rw [e, Bool.true_and]
  refine ⟨⟨pre_rows hn hg, pre_rows hm hh⟩, ?_⟩
  refine sel_of (fun e => ?_) fun e => by rw [e]; rfl
  rw [e, Bool.true_and]
  refine sel_of (fun e => ?_) fun e => by rw [e]; rfl
  rw [e, Bool.true_and]
  refine sel_of (fun e => ?_) fun e => by rw [e]; rfl
  rw [e, Bool.true_and]
  refine sel_of (fun e => ?_) fun e => by rw [e]; rfl
  rw [e, Bool.true_and]
  refine sel_of (fun e => ?_) fun e => by rw [e]; rfl
  rw [e, Bool.true_and]
  refine sel_of (fun e => ?_) fun e => by rw [e]; rfl
  rw [e, Bool.true_and]
  refine sel_of (fun e => ?_) fun e => by rw [e]; rfl
  rw [e, Bool.true_and]
  refine sel_of (fun e => ?_) fun e => by rw [e]; rfl
  rw [e, Bool.true_and]
  refine sel_of (fun e => ?_) fun e => by rw [e]; rfl
  rw [e, Bool.true_and]
  refine sel_of (fun e => ?_) fun e => by rw [e]; rfl
  rw [e, Bool.true_and]
  refine sel_of (fun e => ?_) fun e => by rw [e]; rfl
  rw [e, Bool.true_and]
theorem same_nw (k1 k2 : Int) (a b : CV) (m d : Nat) (h : Nat → Int × Int) (hm : m < 1099511627776) (hh : ∀ i, i < m → I64 (h i).1 ∧ I64 (h i).2) : vcFn Try.prog ΓU0 noΛ Try.f25 [caS k1 a nilS, caS k2 b (.sl 0 2 0 m d)] (roHeap [⟨2, m, rowsP h⟩]) 64 (fun y _ => y = .v (.bool (sameCB k1 k2 a b (eqSh (shOf a) (shOf b) && Nat.beq m 0)))) := by
  refine Eq.mpr (vcSameCN k1 k2 a b m m d h _) ?_
  unfold sameCB shOf
  refine sel_of (fun e => ?_) fun e => by rw [e]; rfl
  rw [e, Bool.true_and]
  refine sel_of (fun e => ?_) fun e => by rw [e]; rfl
  rw [e, Bool.true_and]
  refine sel_of (fun e => ?_) fun e => by rw [e]; rfl
  rw [e, Bool.true_and]
  refine sel_of (fun e => ?_) fun e => by rw [e]; rfl
  rw [e, Bool.true_and]
  refine ⟨pre_rows hm hh, ?_⟩
  refine sel_of (fun e => ?_) fun e => by rw [e]; rfl
  rw [e, Bool.true_and]
  refine sel_of (fun e => ?_) fun e => by rw [e]; rfl
  rw [e, Bool.true_and]
  refine sel_of (fun e => ?_) fun e => by rw [e]; rfl
  rw [e, Bool.true_and]
  refine sel_of (fun e => ?_) fun e => by rw [e]; rfl
  rw [e, Bool.true_and]
  refine sel_of (fun e => ?_) fun e => by rw [e]; rfl
  rw [e, Bool.true_and]
  refine sel_of (fun e => ?_) fun e => by rw [e]; rfl
  rw [e, Bool.true_and]
  refine sel_of (fun e => ?_) fun e => by rw [e]; rfl
  rw [e, Bool.true_and]
  refine sel_of (fun e => ?_) fun e => by rw [e]; rfl
  rw [e, Bool.true_and]
  refine sel_of (fun e => ?_) fun e => by rw [e]; rfl
  rw [e, Bool.true_and]
  refine sel_of (fun e => ?_) fun e => by rw [e]; rfl
  rw [e, Bool.true_and]
  refine sel_of (fun e => ?_) fun e => by rw [e]; rfl
  rw [e, Bool.true_and]
theorem SameC_spec : RoSpec Try.prog 25 sSameC := ro_spec hm ΓU0_ok Try.func25 (Λ := fun _ _ => noΛ) fun args bs p x hs hp => by
  unfold sSameC at hs
  split at hs
  · rename_i x y
    split at hs
    · rename_i k1 a n c k2 b m d n' row m' row' hx hy
      cases hs
      obtain ⟨⟨h0, rfl, hn⟩, k0, rfl, hm'⟩ := hp _ rfl
      have h0 := okAll_rows.1 h0
      have k0 := okAll_rows.1 k0
      refine ⟨rfl, [⟨2, n', rowsP fun i => gi (row i)⟩, ⟨2, m', rowsP fun i => gi (row' i)⟩], ⟨⟨rfl, rfl, fun i hi => (isPI_row (h0 i hi)).1⟩, ⟨rfl, rfl, fun i hi => (isPI_row (k0 i hi)).1⟩, trivial⟩, ?_⟩
      rw [cells_eq hx, cells_eq hy]
      exact same_ww k1 k2 a b n' c m' d _ _ hn (fun i hi => (isPI_row (h0 i hi)).2) hm' fun i hi => (isPI_row (k0 i hi)).2
    · rename_i k1 a k2 b m d m' row hx hy
      cases hs
      obtain ⟨h0, rfl, hn⟩ := hp _ rfl
      have h0 := okAll_rows.1 h0
      refine ⟨rfl, [⟨2, m', rowsP fun i => gi (row i)⟩], ⟨⟨rfl, rfl, fun i hi => (isPI_row (h0 i hi)).1⟩, trivial⟩, ?_⟩
      rw [cells_eq hx, cells_eq hy]
      exact same_nw k1 k2 a b m' d _ hn fun i hi => (isPI_row (h0 i hi)).2
    · cases hs
  · cases hs
end Go.Proofs.Ytjdldadmaaeimaa
end

section
set_option maxRecDepth 100000
set_option linter.unusedSimpArgs false
set_option linter.unusedVariables false
namespace Go.Proofs.Ytjdldadmaaeimaa
open Go.SE Go.RowKit

theorem vcDone0 (q : Option Prop) (n : Nat) (g : Nat→Int) (c : Nat) : (vcFn Try.prog noCtrs noΛ Try.f71 [.vp 0 0] (heapOf (uB (some false) n g c)) 64 (fun y h' => FinE (uB (some false) n g c) (.det q (.tup [strS (strOf n fun i => [.v (.int .u8 (g i))]),iV 0]) [(0,wB (some false) false (.sl 1 1 0 n c)),(1,bG n g c)]) y h')) = ((∀ y : Nat,(((y : Nat) < n)→True))∧((((SV.v (.string (strOf n fun y => [SV.v (.int .u8 (g (0 + y)))]))) = (SV.v (.string (strOf n fun i => [SV.v (.int .u8 (g i))]))))∧((SV.v (.int .i64 0)) = (SV.v (.int .i64 0))))∧((((1 : Nat) = 1)∧(((1 : Nat) ≤ 1)∧(((SV.sl 1 1 0 n c) = (SV.sl 1 1 0 n c))∧((SV.v (.bool false)) = (SV.v (.bool false))))))∧(((n : Nat) = n)∧(((c : Nat) ≤ c)∧(∀ i : Nat,(((i : Nat) < n)→([(SV.v (.int .u8 (g i)))] = [(SV.v (.int .u8 (g i)))])))))))):=by kernel_rfl
theorem vcDone1 (q : Option Prop) (n : Nat) (g : Nat→Int) (c : Nat) : (vcFn Try.prog noCtrs noΛ Try.f71 [.vp 0 0] (heapOf (uB (some true) n g c)) 64 (fun y h' => FinE (uB (some true) n g c) (.det q (.tup [strS emp,iV 3]) [(0,wB (some true) false (.sl 1 1 0 n c)),(1,bG n g c)]) y h')) = ((((SV.v (.string ({data:=#[]}))) = (SV.v (.string emp)))∧((SV.v (.int .i64 3)) = (SV.v (.int .i64 3))))∧((((1 : Nat) = 1)∧(((1 : Nat) ≤ 1)∧(((SV.sl 1 1 0 n c) = (SV.sl 1 1 0 n c))∧((SV.v (.bool true)) = (SV.v (.bool true))))))∧(((n : Nat) = n)∧(((c : Nat) ≤ c)∧(∀ i : Nat,(((i : Nat) < n)→([(SV.v (.int .u8 (g i)))] = [(SV.v (.int .u8 (g i)))]))))))):=by kernel_rfl
def relLs : List Int := [6] ++ (c4 1 ++ c4 2)
theorem vcCallR (b : Bool) : (vcFn Try.prog ΓG0 noΛ Try.f70 [.vp 0 0,relC] (heapOf (fB (some b))) 64 (fun y h' => FinE (fB (some b)) (apE (.fresh (some b)) 0 True 9 relLs false) y h')) = ((I64 6)∧(∀ c : Nat,((((bytesOk 1 (1 + c) {elem:=5,size:=1,rw:=true,lock:=false,lit:=false,flat:=true,n:=1,row:=fun i => [SV.v (.int .u8 ((fun i => List.getD [6] i 0) i))],ext:=1 + c})∧((1 : Nat) ≤ M0))∧(I64 1))∧(∀ c_1 : Nat,((((bytesOk 5 (5 + c_1) {elem:=5,size:=1,rw:=true,lock:=false,lit:=false,flat:=true,n:=5,row:=fun i => [SV.v (.int .u8 (apG 1 (fun i => SE.byteOf [SV.v (.int .u8 ((fun i => List.getD [6] i 0) i))]) (be 1 4) i))],ext:=5 + c_1})∧((5 : Nat) ≤ M0))∧(I64 2))∧(∀ c_2 : Nat,(∃ c_3 : Nat,(True∧((((1 : Nat) = 1)∧(((1 : Nat) ≤ 1)∧(((SV.sl 288 1 0 9 (9 + c_2)) = (SV.sl 288 1 0 9 (9 + c_3)))∧((SV.v (.bool (b||false||false||false))) = (SV.v (.bool (b||false)))))))∧(((9 : Nat) = 9)∧((((9 + c_3) : Nat) ≤ (9 + c_2))∧(∀ i : Nat,(((i : Nat) < 9)→([(SV.v (.int .u8 (apG 5 (fun i => SE.byteOf [SV.v (.int .u8 (apG 1 (fun i => SE.byteOf [SV.v (.int .u8 ((fun i => List.getD [6] i 0) i))]) (be 1 4) i))]) (be 2 4) i)))] = [(SV.v (.int .u8 (List.getD relLs i 0)))])))))))))))))):=by kernel_rfl
def doneE : WrS → Option Eff
  | .used (some true) n g c p => some (.det (some p) (.tup [strS emp, iV 3]) [(0, wB (some true) false (.sl 1 1 0 n c)), (1, bG n g c)])
  | .used (some false) n g c p => some (.det (some p) (.tup [strS (strOf n fun i => [.v (.int .u8 (g i))]), iV 0]) [(0, wB (some false) false (.sl 1 1 0 n c)), (1, bG n g c)])
  | _ => none
def sDoneX (args : List SV) (bs : List Blk) : Option Eff := match args with
  | [.vp 0 0] => match wrOf bs with
    | some w => doneE w
    | none => none
  | _ => none
def ΓI0 : Ctrs := addCtr (addCtr (addCtr (addCtr noCtrs 69 (pureCtr (sAt [relC] (.tup [relC, bV true])))) 25 (pureCtr (sAt [relC, relC] (bV true)))) 70 (hpCtr true sCallR)) 71 (hpCtr true sDoneX)
theorem vcCall (R : SV→Prop) : (vcPure Try.prog ΓI0 noΛ Try.f24 [relC] R) = (([(SV.agg [(SV.v (.int .i64 6)),(SV.v (.int .i64 1)),(SV.v (.int .i64 0)),(SV.v (.int .i64 0)),(SV.v (.int .i64 0)),(SV.v (.int .i64 0)),(SV.v (.int .i64 0)),(SV.v (.int .i64 0)),(SV.v (.int .i64 0)),(SV.v (Value.slice none 0 0)),(SV.v (.int .i64 0)),(SV.v (.bool false)),(SV.v (.int .i64 0)),(SV.v (.bool false)),(SV.v (.int .i64 0)),(SV.v (.bool false)),(SV.v (.int .i64 0)),(SV.v (.bool false)),(SV.v (.int .i64 0)),(SV.v (.bool false)),(SV.v (.int .i64 0)),(SV.v (.bool false)),(SV.v (.int .i64 0)),(SV.v (.bool false)),(SV.v (.int .i64 0)),(SV.v (.bool false)),(SV.v (.int .i64 0)),(SV.v (.bool false)),(SV.v (.int .i64 0)),(SV.v (.bool false)),(SV.v (.int .i64 0)),(SV.v (.bool false)),(SV.v (.int .i64 0)),(SV.v (.bool false)),(SV.v (.int .i64 2)),(SV.v (.int .i64 0)),(SV.v (.int .i64 0)),(SV.v (.int .i64 0)),(SV.v (.int .i64 0)),(SV.v (.int .i64 0)),(SV.v (.int .i64 0)),(SV.v (.int .i64 0)),(SV.v (.int .i64 0))])] = [(SV.agg [(SV.v (.int .i64 6)),(SV.v (.int .i64 1)),(SV.v (.int .i64 0)),(SV.v (.int .i64 0)),(SV.v (.int .i64 0)),(SV.v (.int .i64 0)),(SV.v (.int .i64 0)),(SV.v (.int .i64 0)),(SV.v (.int .i64 0)),(SV.v (Value.slice none 0 0)),(SV.v (.int .i64 0)),(SV.v (.bool false)),(SV.v (.int .i64 0)),(SV.v (.bool false)),(SV.v (.int .i64 0)),(SV.v (.bool false)),(SV.v (.int .i64 0)),(SV.v (.bool false)),(SV.v (.int .i64 0)),(SV.v (.bool false)),(SV.v (.int .i64 0)),(SV.v (.bool false)),(SV.v (.int .i64 0)),(SV.v (.bool false)),(SV.v (.int .i64 0)),(SV.v (.bool false)),(SV.v (.int .i64 0)),(SV.v (.bool false)),(SV.v (.int .i64 0)),(SV.v (.bool false)),(SV.v (.int .i64 0)),(SV.v (.bool false)),(SV.v (.int .i64 0)),(SV.v (.bool false)),(SV.v (.int .i64 2)),(SV.v (.int .i64 0)),(SV.v (.int .i64 0)),(SV.v (.int .i64 0)),(SV.v (.int .i64 0)),(SV.v (.int .i64 0)),(SV.v (.int .i64 0)),(SV.v (.int .i64 0)),(SV.v (.int .i64 0))])])∧(([(SV.agg [(SV.v (.int .i64 6)),(SV.v (.int .i64 1)),(SV.v (.int .i64 0)),(SV.v (.int .i64 0)),(SV.v (.int .i64 0)),(SV.v (.int .i64 0)),(SV.v (.int .i64 0)),(SV.v (.int .i64 0)),(SV.v (.int .i64 0)),(SV.v (Value.slice none 0 0)),(SV.v (.int .i64 0)),(SV.v (.bool false)),(SV.v (.int .i64 0)),(SV.v (.bool false)),(SV.v (.int .i64 0)),(SV.v (.bool false)),(SV.v (.int .i64 0)),(SV.v (.bool false)),(SV.v (.int .i64 0)),(SV.v (.bool false)),(SV.v (.int .i64 0)),(SV.v (.bool false)),(SV.v (.int .i64 0)),(SV.v (.bool false)),(SV.v (.int .i64 0)),(SV.v (.bool false)),(SV.v (.int .i64 0)),(SV.v (.bool false)),(SV.v (.int .i64 0)),(SV.v (.bool false)),(SV.v (.int .i64 0)),(SV.v (.bool false)),(SV.v (.int .i64 0)),(SV.v (.bool false)),(SV.v (.int .i64 2)),(SV.v (.int .i64 0)),(SV.v (.int .i64 0)),(SV.v (.int .i64 0)),(SV.v (.int .i64 0)),(SV.v (.int .i64 0)),(SV.v (.int .i64 0)),(SV.v (.int .i64 0)),(SV.v (.int .i64 0))]),(SV.agg [(SV.v (.int .i64 6)),(SV.v (.int .i64 1)),(SV.v (.int .i64 0)),(SV.v (.int .i64 0)),(SV.v (.int .i64 0)),(SV.v (.int .i64 0)),(SV.v (.int .i64 0)),(SV.v (.int .i64 0)),(SV.v (.int .i64 0)),(SV.v (Value.slice none 0 0)),(SV.v (.int .i64 0)),(SV.v (.bool false)),(SV.v (.int .i64 0)),(SV.v (.bool false)),(SV.v (.int .i64 0)),(SV.v (.bool false)),(SV.v (.int .i64 0)),(SV.v (.bool false)),(SV.v (.int .i64 0)),(SV.v (.bool false)),(SV.v (.int .i64 0)),(SV.v (.bool false)),(SV.v (.int .i64 0)),(SV.v (.bool false)),(SV.v (.int .i64 0)),(SV.v (.bool false)),(SV.v (.int .i64 0)),(SV.v (.bool false)),(SV.v (.int .i64 0)),(SV.v (.bool false)),(SV.v (.int .i64 0)),(SV.v (.bool false)),(SV.v (.int .i64 0)),(SV.v (.bool false)),(SV.v (.int .i64 2)),(SV.v (.int .i64 0)),(SV.v (.int .i64 0)),(SV.v (.int .i64 0)),(SV.v (.int .i64 0)),(SV.v (.int .i64 0)),(SV.v (.int .i64 0)),(SV.v (.int .i64 0)),(SV.v (.int .i64 0))])] = [(SV.agg [(SV.v (.int .i64 6)),(SV.v (.int .i64 1)),(SV.v (.int .i64 0)),(SV.v (.int .i64 0)),(SV.v (.int .i64 0)),(SV.v (.int .i64 0)),(SV.v (.int .i64 0)),(SV.v (.int .i64 0)),(SV.v (.int .i64 0)),(SV.v (Value.slice none 0 0)),(SV.v (.int .i64 0)),(SV.v (.bool false)),(SV.v (.int .i64 0)),(SV.v (.bool false)),(SV.v (.int .i64 0)),(SV.v (.bool false)),(SV.v (.int .i64 0)),(SV.v (.bool false)),(SV.v (.int .i64 0)),(SV.v (.bool false)),(SV.v (.int .i64 0)),(SV.v (.bool false)),(SV.v (.int .i64 0)),(SV.v (.bool false)),(SV.v (.int .i64 0)),(SV.v (.bool false)),(SV.v (.int .i64 0)),(SV.v (.bool false)),(SV.v (.int .i64 0)),(SV.v (.bool false)),(SV.v (.int .i64 0)),(SV.v (.bool false)),(SV.v (.int .i64 0)),(SV.v (.bool false)),(SV.v (.int .i64 2)),(SV.v (.int .i64 0)),(SV.v (.int .i64 0)),(SV.v (.int .i64 0)),(SV.v (.int .i64 0)),(SV.v (.int .i64 0)),(SV.v (.int .i64 0)),(SV.v (.int .i64 0)),(SV.v (.int .i64 0))]),(SV.agg [(SV.v (.int .i64 6)),(SV.v (.int .i64 1)),(SV.v (.int .i64 0)),(SV.v (.int .i64 0)),(SV.v (.int .i64 0)),(SV.v (.int .i64 0)),(SV.v (.int .i64 0)),(SV.v (.int .i64 0)),(SV.v (.int .i64 0)),(SV.v (Value.slice none 0 0)),(SV.v (.int .i64 0)),(SV.v (.bool false)),(SV.v (.int .i64 0)),(SV.v (.bool false)),(SV.v (.int .i64 0)),(SV.v (.bool false)),(SV.v (.int .i64 0)),(SV.v (.bool false)),(SV.v (.int .i64 0)),(SV.v (.bool false)),(SV.v (.int .i64 0)),(SV.v (.bool false)),(SV.v (.int .i64 0)),(SV.v (.bool false)),(SV.v (.int .i64 0)),(SV.v (.bool false)),(SV.v (.int .i64 0)),(SV.v (.bool false)),(SV.v (.int .i64 0)),(SV.v (.bool false)),(SV.v (.int .i64 0)),(SV.v (.bool false)),(SV.v (.int .i64 0)),(SV.v (.bool false)),(SV.v (.int .i64 2)),(SV.v (.int .i64 0)),(SV.v (.int .i64 0)),(SV.v (.int .i64 0)),(SV.v (.int .i64 0)),(SV.v (.int .i64 0)),(SV.v (.int .i64 0)),(SV.v (.int .i64 0)),(SV.v (.int .i64 0))])])∧(((SV.agg [(SV.v (.int .i64 6)),(SV.v (.int .i64 1)),(SV.v (.int .i64 0)),(SV.v (.int .i64 0)),(SV.v (.int .i64 0)),(SV.v (.int .i64 0)),(SV.v (.int .i64 0)),(SV.v (.int .i64 0)),(SV.v (.int .i64 0)),(SV.v (Value.slice none 0 0)),(SV.v (.int .i64 0)),(SV.v (.bool false)),(SV.v (.int .i64 0)),(SV.v (.bool false)),(SV.v (.int .i64 0)),(SV.v (.bool false)),(SV.v (.int .i64 0)),(SV.v (.bool false)),(SV.v (.int .i64 0)),(SV.v (.bool false)),(SV.v (.int .i64 0)),(SV.v (.bool false)),(SV.v (.int .i64 0)),(SV.v (.bool false)),(SV.v (.int .i64 0)),(SV.v (.bool false)),(SV.v (.int .i64 0)),(SV.v (.bool false)),(SV.v (.int .i64 0)),(SV.v (.bool false)),(SV.v (.int .i64 0)),(SV.v (.bool false)),(SV.v (.int .i64 0)),(SV.v (.bool false)),(SV.v (.int .i64 2)),(SV.v (.int .i64 0)),(SV.v (.int .i64 0)),(SV.v (.int .i64 0)),(SV.v (.int .i64 0)),(SV.v (.int .i64 0)),(SV.v (.int .i64 0)),(SV.v (.int .i64 0)),(SV.v (.int .i64 0))]) = (SV.agg [(SV.v (.int .i64 6)),(SV.v (.int .i64 1)),(SV.v (.int .i64 0)),(SV.v (.int .i64 0)),(SV.v (.int .i64 0)),(SV.v (.int .i64 0)),(SV.v (.int .i64 0)),(SV.v (.int .i64 0)),(SV.v (.int .i64 0)),(SV.v (Value.slice none 0 0)),(SV.v (.int .i64 0)),(SV.v (.bool false)),(SV.v (.int .i64 0)),(SV.v (.bool false)),(SV.v (.int .i64 0)),(SV.v (.bool false)),(SV.v (.int .i64 0)),(SV.v (.bool false)),(SV.v (.int .i64 0)),(SV.v (.bool false)),(SV.v (.int .i64 0)),(SV.v (.bool false)),(SV.v (.int .i64 0)),(SV.v (.bool false)),(SV.v (.int .i64 0)),(SV.v (.bool false)),(SV.v (.int .i64 0)),(SV.v (.bool false)),(SV.v (.int .i64 0)),(SV.v (.bool false)),(SV.v (.int .i64 0)),(SV.v (.bool false)),(SV.v (.int .i64 0)),(SV.v (.bool false)),(SV.v (.int .i64 2)),(SV.v (.int .i64 0)),(SV.v (.int .i64 0)),(SV.v (.int .i64 0)),(SV.v (.int .i64 0)),(SV.v (.int .i64 0)),(SV.v (.int .i64 0)),(SV.v (.int .i64 0)),(SV.v (.int .i64 0))]))∧(∀ c : Nat,((bytesOk 9 (9 + c) {elem:=5,size:=1,rw:=true,lock:=false,lit:=false,flat:=true,n:=9,row:=fun i => [SV.v (.int .u8 ((fun i => List.getD relL i 0) i))],ext:=9 + c})∧(R (SV.tup [(SV.v (.string (strOf 9 fun i => [SV.v (.int .u8 (SE.byteOf [SV.v (.int .u8 ((fun i => List.getD relL i 0) i))]))]))),(SV.v (.int .i64 0))]))))))):=by kernel_rfl
theorem done_plain (n : Nat) (g : Nat → Int) : (strOf n fun i => [SV.v (.int .u8 (g (0 + i)))]) = strOf n fun i => [SV.v (.int .u8 (g i))] := by simp only [Nat.zero_add]
theorem ΓG0_ok : ∀ f g, ΓG0 f = some g → g.ok Try.prog f := addCtr_ok (addCtr_ok (addCtr_ok ΓF1_ok (hp_ok Try.func103 (by kernel_rfl) (by kernel_rfl) Handle_spec)) (hp_ok Try.func99 (by kernel_rfl) (by kernel_rfl) Vec_spec)) (hp_ok Try.func98 (by kernel_rfl) (by kernel_rfl) Pose_spec)
theorem rel_row (i : Nat) (hi : i < 9) : apG 5 (apG 1 (fun i => ([6] : List Int).getD i 0) (be 1 4)) (be 2 4) i = relLs.getD i 0 := by
  rw [apG_ap (by rw [be_len])]
  have h := lstG_ap 1 (fun i => ([6] : List Int).getD i 0) (be 1 4 ++ be 2 4)
  have e : relLs = [6] ++ (be 1 4 ++ be 2 4) := rfl
  rw [e]
  by_cases h1 : i < 1
  · have : i = 0 := by omega
    subst this; rfl
  · obtain ⟨j, rfl⟩ : ∃ j, i = j + 1 := ⟨i - 1, by omega⟩
    rw [apG_new h1, Nat.add_sub_cancel]
    rfl
theorem CallR_spec : HpSpec Try.prog 70 sCallR := hp_spec hm ΓG0_ok Try.func70 (Λ := fun _ _ => noΛ) fun args bs e hs hp => by
  unfold sCallR at hs
  split at hs <;> try (cases hs; done)
  rename_i x
  split at hs <;> try (cases hs; done)
  rename_i b hw
  cases hs
  have hx : x = relC := hp
  subst hx
  refine ⟨_, wrOf_fresh hw, Eq.mpr (vcCallR b) ⟨⟨by omega, by omega⟩, fun c => ⟨⟨⟨bytesOk_bG _ _ _ (by omega), by show 1 ≤ 1099511627776; omega⟩, ⟨by omega, by omega⟩⟩, fun c1 => ⟨⟨⟨bytesOk_bG _ _ _ (by omega), by show 5 ≤ 1099511627776; omega⟩, ⟨by omega, by omega⟩⟩, fun c2 => tailU rfl (by simp) fun i hi => rel_row i hi⟩⟩⟩⟩
theorem done_arm {w : WrS} {e : Eff} (h : doneE w = some e) (hp : e.asks) : ∃ (b : Bool) (n : Nat) (g : Nat → Int) (c : Nat) (p : Prop), w = .used (some b) n g c p ∧ p ∧ vcFn Try.prog noCtrs noΛ Try.f71 [.vp 0 0] (heapOf (uB (some b) n g c)) 64 (fun y h' => FinE (uB (some b) n g c) e y h') := by
  cases w with
  | fresh k => cases h
  | used k n g c p =>
    cases k with
    | none => cases h
    | some b =>
      cases b with
      | true =>
        have he := Option.some.inj h
        subst he
        refine ⟨true, n, g, c, p, rfl, hp p rfl, ?_⟩
        rw [vcDone1]
        exact ⟨⟨rfl, rfl⟩, ⟨rfl, Nat.le_refl _, rfl, rfl⟩, rfl, Nat.le_refl _, fun _ _ => rfl⟩
      | false =>
        have he := Option.some.inj h
        subst he
        refine ⟨false, n, g, c, p, rfl, hp p rfl, ?_⟩
        rw [vcDone0]
        exact ⟨fun _ _ => trivial, ⟨congrArg (fun z => SV.v (.string z)) (done_plain n g), rfl⟩, ⟨rfl, Nat.le_refl _, rfl, rfl⟩, rfl, Nat.le_refl _, fun _ _ => rfl⟩
theorem Done_spec : HpSpec Try.prog 71 sDoneX := hp_spec hm noCtrs_ok Try.func71 (Λ := fun _ _ => noΛ) fun args bs e hs hp => by
  unfold sDoneX at hs
  split at hs
  · split at hs
    · rename_i w hw
      obtain ⟨b, n, g, c, p, rfl, h1, h2⟩ := done_arm hs hp
      exact ⟨_, (wrOf_used hw h1).1, h2⟩
    · cases hs
  · cases hs
theorem ΓI0_ok : ∀ f g, ΓI0 f = some g → g.ok Try.prog f := addCtr_ok (addCtr_ok (addCtr_ok (addCtr_ok noCtrs_ok (pure_ok Try.func69 (by kernel_rfl) (by kernel_rfl) UsedR_spec)) (pure_ok Try.func25 (by kernel_rfl) (by kernel_rfl) SameR_spec)) (hp_ok Try.func70 (by kernel_rfl) (by kernel_rfl) CallR_spec)) (hp_ok Try.func71 (by kernel_rfl) (by kernel_rfl) Done_spec)
end Go.Proofs.Ytjdldadmaaeimaa
end

section
set_option maxRecDepth 100000
set_option linter.unusedSimpArgs false
set_option linter.unusedVariables false
namespace Go.Proofs.Ytjdldadmaaeimaa
open Go.SE Go.RowKit

def ucK (k : Int) (c : CV) : CV := bif decide (k = 1) then uc1 c else (bif decide (k = 2) then uc2 c else (bif decide (k = 3) then uc3 c else (bif decide (k = 4) then uc4 c else (bif decide (k = 5) then uc5 c else (bif decide (k = 6) then uc6 c else (bif decide (k = 7) then uc7 c else (bif decide (k = 8) then uc8 c else (bif decide (k = 9) then uc9 c else (bif decide (k = 10) then uc10 c else (zCV))))))))))
def kN (k : Int) (n : Nat) : Nat := bif decide (k = 1) then caN1 n else (bif decide (k = 2) then caN2 n else (bif decide (k = 3) then caN3 n else (bif decide (k = 4) then caN4 n else (bif decide (k = 5) then caN5 n else (bif decide (k = 6) then caN6 n else (bif decide (k = 7) then caN7 n else (bif decide (k = 8) then caN8 n else (bif decide (k = 9) then caN9 n else (bif decide (k = 10) then caN10 n else (0))))))))))
def kT (k : Int) (c : CV) (n : Nat) (x y : Nat → Int) : List Int := bif decide (k = 1) then caT1 c n x y else (bif decide (k = 2) then caT2 c n x y else (bif decide (k = 3) then caT3 c n x y else (bif decide (k = 4) then caT4 c n x y else (bif decide (k = 5) then caT5 c n x y else (bif decide (k = 6) then caT6 c n x y else (bif decide (k = 7) then caT7 c n x y else (bif decide (k = 8) then caT8 c n x y else (bif decide (k = 9) then caT9 c n x y else (bif decide (k = 10) then caT10 c n x y else ([]))))))))))
def kB (k : Int) (c : CV) (n : Nat) : Bool := bif decide (k = 1) then caB1 c n else (bif decide (k = 2) then caB2 c n else (bif decide (k = 3) then caB3 c n else (bif decide (k = 4) then caB4 c n else (bif decide (k = 5) then caB5 c n else (bif decide (k = 6) then caB6 c n else (bif decide (k = 7) then caB7 c n else (bif decide (k = 8) then caB8 c n else (bif decide (k = 9) then caB9 c n else (bif decide (k = 10) then caB10 c n else (false))))))))))
def gX (S : Blk) : Nat → Int := fun i => (rowG S i).1
def gY (S : Blk) : Nat → Int := fun i => (rowG S i).2
def sCallW (args : List SV) (bs : List Blk) : Option Eff := match args with
  | [.vp 0 0, .agg l] => match cellsOf l with
    | some (k, c, .sl 1 2 0 n _) => match bs with
      | [B, S] => match wrOf [B] with
        | some (.fresh (some b)) => bif okB S then some (apE (.fresh (some b)) 0 ((1 ≤ k ∧ k ≤ 10) ∧ cvOk c ∧ spPre n S ∧ n < 100) (5 + kN k n) (caL k c (kT k c n (gX S) (gY S))) (caB c (kB k c n))) else none
        | _ => none
      | _ => none
    | _ => none
  | _ => none
def sUsedC (args : List SV) (bs : List Blk) : Option Eff := match args with
  | [.agg l] => match cellsOf l with
    | some (k, c, .sl 0 2 0 n cap) => match bs with
      | [S] => bif okB S then (bif decide (k = 1) then some (.det (some (spPre n S)) (.tup [caS 1 (uc1 c) (.sl 0 2 0 n cap), bV true]) []) else bif decide (k = 2) then some (.det (some (spPre n S)) (.tup [caS 2 (uc2 c) nilS, bV true]) []) else bif decide (k = 3) then some (.det (some (spPre n S)) (.tup [caS 3 (uc3 c) nilS, bV true]) []) else bif decide (k = 4) then some (.det (some (spPre n S)) (.tup [caS 4 (uc4 c) nilS, bV true]) []) else bif decide (k = 5) then some (.det (some (spPre n S)) (.tup [caS 5 (uc5 c) nilS, bV true]) []) else bif decide (k = 6) then some (.det (some (spPre n S)) (.tup [caS 6 (uc6 c) nilS, bV true]) []) else bif decide (k = 7) then some (.det (some (spPre n S)) (.tup [caS 7 (uc7 c) nilS, bV true]) []) else bif decide (k = 8) then some (.det (some (spPre n S)) (.tup [caS 8 (uc8 c) nilS, bV true]) []) else bif decide (k = 9) then some (.det (some (spPre n S)) (.tup [caS 9 (uc9 c) nilS, bV true]) []) else bif decide (k = 10) then some (.det (some (spPre n S)) (.tup [caS 10 (uc10 c) nilS, bV true]) []) else none) else none
      | _ => none
    | _ => none
  | _ => none
def sDoneG (args : List SV) (bs : List Blk) : Option Eff := match args with
  | [.vp 0 0] => match wrOf bs with
    | some (.used (some b) n g c p) => some (.det (some p) (.tup [strS (bif b then emp else strOf n fun i => [.v (.int .u8 (g i))]), iV (bif b then 3 else 0)]) [(0, wB (some b) false (.sl 1 1 0 n c)), (1, bG n g c)])
    | _ => none
  | _ => none
def ΓCc : Ctrs := addCtr (addCtr (addCtr (addCtr noCtrs 69 (hpCtr true sUsedC)) 25 (roCtr sSameC)) 70 (hpCtr true sCallW)) 71 (hpCtr true sDoneG)
def sUsedO (args : List SV) (bs : List Blk) : Option Eff := match args with
  | [.agg l] => match cellsOf l with
    | some (k, c, .sl 0 2 0 n cap) => match bs with
      | [S] => bif okB S then some (.det (some (spPre n S ∧ (k < 1 ∨ 10 < k))) (.tup [caS 0 zCV nilS, bV false]) []) else none
      | _ => none
    | _ => none
  | _ => none
def ΓCo : Ctrs := addCtr ΓCc 69 (hpCtr true sUsedO)
theorem vcCallGO (k : Int) (c : CV) (n m cap : Nat) (g : Nat→Int × Int) (R : SV→Prop) : (vcFn Try.prog ΓCo noΛ Try.f24 [caS k c (.sl 0 2 0 n cap)] (roHeap [⟨2,m,rowsP g⟩]) 64 (fun y _ => R y)) = (((spPre n (winBlk (Ro.blk {s:=2,n:=m,row:=fun i => [SV.v (.int .i64 (Prod.fst (g i))),SV.v (.int .i64 (Prod.snd (g i)))]}) 2 0 n))∧(k < 1 ∨ 10 < k))∧(R (SV.tup [(SV.v (.string ({data:=#[]}))),(SV.v (.int .i64 8))]))):=by kernel_rfl
theorem vcDoneG0 (q : Option Prop) (n : Nat) (g : Nat→Int) (c : Nat) : (vcFn Try.prog noCtrs noΛ Try.f71 [.vp 0 0] (heapOf (uB (some false) n g c)) 64 (fun y h' => FinE (uB (some false) n g c) (.det q (.tup [strS (bif false then emp else strOf n fun i => [.v (.int .u8 (g i))]),iV (bif false then 3 else 0)]) [(0,wB (some false) false (.sl 1 1 0 n c)),(1,bG n g c)]) y h')) = ((∀ y : Nat,(((y : Nat) < n)→True))∧((((SV.v (.string (strOf n fun y => [SV.v (.int .u8 (g (0 + y)))]))) = (SV.v (.string (bif false then emp else strOf n fun i => [SV.v (.int .u8 (g i))]))))∧((SV.v (.int .i64 0)) = (SV.v (.int .i64 0))))∧((((1 : Nat) = 1)∧(((1 : Nat) ≤ 1)∧(((SV.sl 1 1 0 n c) = (SV.sl 1 1 0 n c))∧((SV.v (.bool false)) = (SV.v (.bool false))))))∧(((n : Nat) = n)∧(((c : Nat) ≤ c)∧(∀ i : Nat,(((i : Nat) < n)→([(SV.v (.int .u8 (g i)))] = [(SV.v (.int .u8 (g i)))])))))))):=by kernel_rfl
theorem vcDoneG1 (q : Option Prop) (n : Nat) (g : Nat→Int) (c : Nat) : (vcFn Try.prog noCtrs noΛ Try.f71 [.vp 0 0] (heapOf (uB (some true) n g c)) 64 (fun y h' => FinE (uB (some true) n g c) (.det q (.tup [strS (bif true then emp else strOf n fun i => [.v (.int .u8 (g i))]),iV (bif true then 3 else 0)]) [(0,wB (some true) false (.sl 1 1 0 n c)),(1,bG n g c)]) y h')) = ((((SV.v (.string ({data:=#[]}))) = (SV.v (.string (bif true then emp else strOf n fun i => [SV.v (.int .u8 (g i))]))))∧((SV.v (.int .i64 3)) = (SV.v (.int .i64 3))))∧((((1 : Nat) = 1)∧(((1 : Nat) ≤ 1)∧(((SV.sl 1 1 0 n c) = (SV.sl 1 1 0 n c))∧((SV.v (.bool true)) = (SV.v (.bool true))))))∧(((n : Nat) = n)∧(((c : Nat) ≤ c)∧(∀ i : Nat,(((i : Nat) < n)→([(SV.v (.int .u8 (g i)))] = [(SV.v (.int .u8 (g i)))]))))))):=by kernel_rfl
theorem vcCallG1 (c : CV) (n m cap : Nat) (g : Nat→Int × Int) (R : SV→Prop) : (vcFn Try.prog ΓCc noΛ Try.f24 [caS 1 c (.sl 0 2 0 n cap)] (roHeap [⟨2,m,rowsP g⟩]) 64 (fun y _ => R y)) = ((spPre n (winBlk (Ro.blk {s:=2,n:=m,row:=fun i => [SV.v (.int .i64 (Prod.fst (g i))),SV.v (.int .i64 (Prod.snd (g i)))]}) 2 0 n))∧(((rowsPre n n fun y => [SV.v (.int .i64 (Prod.fst (g (0 + y)))),SV.v (.int .i64 (Prod.snd (g (0 + y))))])∧(rowsPre n n fun y => [SV.v (.int .i64 (Prod.fst (g (0 + y)))),SV.v (.int .i64 (Prod.snd (g (0 + y))))]))∧(sel (!sameCB 1 1 (uc1 c) c (sameS (shOf (uc1 c)) n (fun i => gi [SV.v (.int .i64 (Prod.fst (g (0 + i)))),SV.v (.int .i64 (Prod.snd (g (0 + i))))]) (shOf c) n fun i => gi [SV.v (.int .i64 (Prod.fst (g (0 + i)))),SV.v (.int .i64 (Prod.snd (g (0 + i))))])) (R (SV.tup [(SV.v (.string ({data:=#[]}))),(SV.v (.int .i64 4))])) (((((1 : Int) ≤ 1)∧((1 : Int) ≤ 10))∧((cvOk c)∧((spPre n (winBlk (Ro.blk {s:=2,n:=m,row:=fun i => [SV.v (.int .i64 (Prod.fst (g i))),SV.v (.int .i64 (Prod.snd (g i)))]}) 2 0 n))∧((n : Nat) < 100))))∧(∀ c_1 : Nat,((bytesOk (5 + kN 1 n) (5 + kN 1 n + c_1) {elem:=5,size:=1,rw:=true,lock:=false,lit:=false,flat:=true,n:=5 + kN 1 n,row:=fun i => [SV.v (.int .u8 ((fun i => List.getD (caL 1 c (kT 1 c n (gX (winBlk (Ro.blk {s:=2,n:=m,row:=fun i => [SV.v (.int .i64 (Prod.fst (g i))),SV.v (.int .i64 (Prod.snd (g i)))]}) 2 0 n)) (gY (winBlk (Ro.blk {s:=2,n:=m,row:=fun i => [SV.v (.int .i64 (Prod.fst (g i))),SV.v (.int .i64 (Prod.snd (g i)))]}) 2 0 n)))) i 0) i))],ext:=5 + kN 1 n + c_1})∧(R (SV.tup [(SV.v (.string (bif false||caB c (kB 1 c n) then emp else strOf (5 + kN 1 n) fun i => [SV.v (.int .u8 (SE.byteOf [SV.v (.int .u8 ((fun i => List.getD (caL 1 c (kT 1 c n (gX (winBlk (Ro.blk {s:=2,n:=m,row:=fun i => [SV.v (.int .i64 (Prod.fst (g i))),SV.v (.int .i64 (Prod.snd (g i)))]}) 2 0 n)) (gY (winBlk (Ro.blk {s:=2,n:=m,row:=fun i => [SV.v (.int .i64 (Prod.fst (g i))),SV.v (.int .i64 (Prod.snd (g i)))]}) 2 0 n)))) i 0) i))]))]))),(SV.v (.int .i64 (bif false||caB c (kB 1 c n) then 3 else 0)))])))))))):=by kernel_rfl
theorem vcCallG2 (c : CV) (n m cap : Nat) (g : Nat→Int × Int) (R : SV→Prop) : (vcFn Try.prog ΓCc noΛ Try.f24 [caS 2 c (.sl 0 2 0 n cap)] (roHeap [⟨2,m,rowsP g⟩]) 64 (fun y _ => R y)) = ((spPre n (winBlk (Ro.blk {s:=2,n:=m,row:=fun i => [SV.v (.int .i64 (Prod.fst (g i))),SV.v (.int .i64 (Prod.snd (g i)))]}) 2 0 n))∧((rowsPre n n fun y => [SV.v (.int .i64 (Prod.fst (g (0 + y)))),SV.v (.int .i64 (Prod.snd (g (0 + y))))])∧(sel (!sameCB 2 2 (uc2 c) c (eqSh (shOf (uc2 c)) (shOf c)&&Nat.beq n 0)) (R (SV.tup [(SV.v (.string ({data:=#[]}))),(SV.v (.int .i64 4))])) (((((1 : Int) ≤ 2)∧((2 : Int) ≤ 10))∧((cvOk c)∧((spPre n (winBlk (Ro.blk {s:=2,n:=m,row:=fun i => [SV.v (.int .i64 (Prod.fst (g i))),SV.v (.int .i64 (Prod.snd (g i)))]}) 2 0 n))∧((n : Nat) < 100))))∧(∀ c_1 : Nat,((bytesOk (5 + kN 2 n) (5 + kN 2 n + c_1) {elem:=5,size:=1,rw:=true,lock:=false,lit:=false,flat:=true,n:=5 + kN 2 n,row:=fun i => [SV.v (.int .u8 ((fun i => List.getD (caL 2 c (kT 2 c n (gX (winBlk (Ro.blk {s:=2,n:=m,row:=fun i => [SV.v (.int .i64 (Prod.fst (g i))),SV.v (.int .i64 (Prod.snd (g i)))]}) 2 0 n)) (gY (winBlk (Ro.blk {s:=2,n:=m,row:=fun i => [SV.v (.int .i64 (Prod.fst (g i))),SV.v (.int .i64 (Prod.snd (g i)))]}) 2 0 n)))) i 0) i))],ext:=5 + kN 2 n + c_1})∧(R (SV.tup [(SV.v (.string (bif false||caB c (kB 2 c n) then emp else strOf (5 + kN 2 n) fun i => [SV.v (.int .u8 (SE.byteOf [SV.v (.int .u8 ((fun i => List.getD (caL 2 c (kT 2 c n (gX (winBlk (Ro.blk {s:=2,n:=m,row:=fun i => [SV.v (.int .i64 (Prod.fst (g i))),SV.v (.int .i64 (Prod.snd (g i)))]}) 2 0 n)) (gY (winBlk (Ro.blk {s:=2,n:=m,row:=fun i => [SV.v (.int .i64 (Prod.fst (g i))),SV.v (.int .i64 (Prod.snd (g i)))]}) 2 0 n)))) i 0) i))]))]))),(SV.v (.int .i64 (bif false||caB c (kB 2 c n) then 3 else 0)))])))))))):=by kernel_rfl
theorem vcCallG3 (c : CV) (n m cap : Nat) (g : Nat→Int × Int) (R : SV→Prop) : (vcFn Try.prog ΓCc noΛ Try.f24 [caS 3 c (.sl 0 2 0 n cap)] (roHeap [⟨2,m,rowsP g⟩]) 64 (fun y _ => R y)) = ((spPre n (winBlk (Ro.blk {s:=2,n:=m,row:=fun i => [SV.v (.int .i64 (Prod.fst (g i))),SV.v (.int .i64 (Prod.snd (g i)))]}) 2 0 n))∧((rowsPre n n fun y => [SV.v (.int .i64 (Prod.fst (g (0 + y)))),SV.v (.int .i64 (Prod.snd (g (0 + y))))])∧(sel (!sameCB 3 3 (uc3 c) c (eqSh (shOf (uc3 c)) (shOf c)&&Nat.beq n 0)) (R (SV.tup [(SV.v (.string ({data:=#[]}))),(SV.v (.int .i64 4))])) (((((1 : Int) ≤ 3)∧((3 : Int) ≤ 10))∧((cvOk c)∧((spPre n (winBlk (Ro.blk {s:=2,n:=m,row:=fun i => [SV.v (.int .i64 (Prod.fst (g i))),SV.v (.int .i64 (Prod.snd (g i)))]}) 2 0 n))∧((n : Nat) < 100))))∧(∀ c_1 : Nat,((bytesOk (5 + kN 3 n) (5 + kN 3 n + c_1) {elem:=5,size:=1,rw:=true,lock:=false,lit:=false,flat:=true,n:=5 + kN 3 n,row:=fun i => [SV.v (.int .u8 ((fun i => List.getD (caL 3 c (kT 3 c n (gX (winBlk (Ro.blk {s:=2,n:=m,row:=fun i => [SV.v (.int .i64 (Prod.fst (g i))),SV.v (.int .i64 (Prod.snd (g i)))]}) 2 0 n)) (gY (winBlk (Ro.blk {s:=2,n:=m,row:=fun i => [SV.v (.int .i64 (Prod.fst (g i))),SV.v (.int .i64 (Prod.snd (g i)))]}) 2 0 n)))) i 0) i))],ext:=5 + kN 3 n + c_1})∧(R (SV.tup [(SV.v (.string (bif false||caB c (kB 3 c n) then emp else strOf (5 + kN 3 n) fun i => [SV.v (.int .u8 (SE.byteOf [SV.v (.int .u8 ((fun i => List.getD (caL 3 c (kT 3 c n (gX (winBlk (Ro.blk {s:=2,n:=m,row:=fun i => [SV.v (.int .i64 (Prod.fst (g i))),SV.v (.int .i64 (Prod.snd (g i)))]}) 2 0 n)) (gY (winBlk (Ro.blk {s:=2,n:=m,row:=fun i => [SV.v (.int .i64 (Prod.fst (g i))),SV.v (.int .i64 (Prod.snd (g i)))]}) 2 0 n)))) i 0) i))]))]))),(SV.v (.int .i64 (bif false||caB c (kB 3 c n) then 3 else 0)))])))))))):=by kernel_rfl
theorem vcCallG4 (c : CV) (n m cap : Nat) (g : Nat→Int × Int) (R : SV→Prop) : (vcFn Try.prog ΓCc noΛ Try.f24 [caS 4 c (.sl 0 2 0 n cap)] (roHeap [⟨2,m,rowsP g⟩]) 64 (fun y _ => R y)) = ((spPre n (winBlk (Ro.blk {s:=2,n:=m,row:=fun i => [SV.v (.int .i64 (Prod.fst (g i))),SV.v (.int .i64 (Prod.snd (g i)))]}) 2 0 n))∧((rowsPre n n fun y => [SV.v (.int .i64 (Prod.fst (g (0 + y)))),SV.v (.int .i64 (Prod.snd (g (0 + y))))])∧(sel (!sameCB 4 4 (uc4 c) c (eqSh (shOf (uc4 c)) (shOf c)&&Nat.beq n 0)) (R (SV.tup [(SV.v (.string ({data:=#[]}))),(SV.v (.int .i64 4))])) (((((1 : Int) ≤ 4)∧((4 : Int) ≤ 10))∧((cvOk c)∧((spPre n (winBlk (Ro.blk {s:=2,n:=m,row:=fun i => [SV.v (.int .i64 (Prod.fst (g i))),SV.v (.int .i64 (Prod.snd (g i)))]}) 2 0 n))∧((n : Nat) < 100))))∧(∀ c_1 : Nat,((bytesOk (5 + kN 4 n) (5 + kN 4 n + c_1) {elem:=5,size:=1,rw:=true,lock:=false,lit:=false,flat:=true,n:=5 + kN 4 n,row:=fun i => [SV.v (.int .u8 ((fun i => List.getD (caL 4 c (kT 4 c n (gX (winBlk (Ro.blk {s:=2,n:=m,row:=fun i => [SV.v (.int .i64 (Prod.fst (g i))),SV.v (.int .i64 (Prod.snd (g i)))]}) 2 0 n)) (gY (winBlk (Ro.blk {s:=2,n:=m,row:=fun i => [SV.v (.int .i64 (Prod.fst (g i))),SV.v (.int .i64 (Prod.snd (g i)))]}) 2 0 n)))) i 0) i))],ext:=5 + kN 4 n + c_1})∧(R (SV.tup [(SV.v (.string (bif false||caB c (kB 4 c n) then emp else strOf (5 + kN 4 n) fun i => [SV.v (.int .u8 (SE.byteOf [SV.v (.int .u8 ((fun i => List.getD (caL 4 c (kT 4 c n (gX (winBlk (Ro.blk {s:=2,n:=m,row:=fun i => [SV.v (.int .i64 (Prod.fst (g i))),SV.v (.int .i64 (Prod.snd (g i)))]}) 2 0 n)) (gY (winBlk (Ro.blk {s:=2,n:=m,row:=fun i => [SV.v (.int .i64 (Prod.fst (g i))),SV.v (.int .i64 (Prod.snd (g i)))]}) 2 0 n)))) i 0) i))]))]))),(SV.v (.int .i64 (bif false||caB c (kB 4 c n) then 3 else 0)))])))))))):=by kernel_rfl
theorem vcCallG5 (c : CV) (n m cap : Nat) (g : Nat→Int × Int) (R : SV→Prop) : (vcFn Try.prog ΓCc noΛ Try.f24 [caS 5 c (.sl 0 2 0 n cap)] (roHeap [⟨2,m,rowsP g⟩]) 64 (fun y _ => R y)) = ((spPre n (winBlk (Ro.blk {s:=2,n:=m,row:=fun i => [SV.v (.int .i64 (Prod.fst (g i))),SV.v (.int .i64 (Prod.snd (g i)))]}) 2 0 n))∧((rowsPre n n fun y => [SV.v (.int .i64 (Prod.fst (g (0 + y)))),SV.v (.int .i64 (Prod.snd (g (0 + y))))])∧(sel (!sameCB 5 5 (uc5 c) c (eqSh (shOf (uc5 c)) (shOf c)&&Nat.beq n 0)) (R (SV.tup [(SV.v (.string ({data:=#[]}))),(SV.v (.int .i64 4))])) (((((1 : Int) ≤ 5)∧((5 : Int) ≤ 10))∧((cvOk c)∧((spPre n (winBlk (Ro.blk {s:=2,n:=m,row:=fun i => [SV.v (.int .i64 (Prod.fst (g i))),SV.v (.int .i64 (Prod.snd (g i)))]}) 2 0 n))∧((n : Nat) < 100))))∧(∀ c_1 : Nat,((bytesOk (5 + kN 5 n) (5 + kN 5 n + c_1) {elem:=5,size:=1,rw:=true,lock:=false,lit:=false,flat:=true,n:=5 + kN 5 n,row:=fun i => [SV.v (.int .u8 ((fun i => List.getD (caL 5 c (kT 5 c n (gX (winBlk (Ro.blk {s:=2,n:=m,row:=fun i => [SV.v (.int .i64 (Prod.fst (g i))),SV.v (.int .i64 (Prod.snd (g i)))]}) 2 0 n)) (gY (winBlk (Ro.blk {s:=2,n:=m,row:=fun i => [SV.v (.int .i64 (Prod.fst (g i))),SV.v (.int .i64 (Prod.snd (g i)))]}) 2 0 n)))) i 0) i))],ext:=5 + kN 5 n + c_1})∧(R (SV.tup [(SV.v (.string (bif false||caB c (kB 5 c n) then emp else strOf (5 + kN 5 n) fun i => [SV.v (.int .u8 (SE.byteOf [SV.v (.int .u8 ((fun i => List.getD (caL 5 c (kT 5 c n (gX (winBlk (Ro.blk {s:=2,n:=m,row:=fun i => [SV.v (.int .i64 (Prod.fst (g i))),SV.v (.int .i64 (Prod.snd (g i)))]}) 2 0 n)) (gY (winBlk (Ro.blk {s:=2,n:=m,row:=fun i => [SV.v (.int .i64 (Prod.fst (g i))),SV.v (.int .i64 (Prod.snd (g i)))]}) 2 0 n)))) i 0) i))]))]))),(SV.v (.int .i64 (bif false||caB c (kB 5 c n) then 3 else 0)))])))))))):=by kernel_rfl
theorem vcCallG6 (c : CV) (n m cap : Nat) (g : Nat→Int × Int) (R : SV→Prop) : (vcFn Try.prog ΓCc noΛ Try.f24 [caS 6 c (.sl 0 2 0 n cap)] (roHeap [⟨2,m,rowsP g⟩]) 64 (fun y _ => R y)) = ((spPre n (winBlk (Ro.blk {s:=2,n:=m,row:=fun i => [SV.v (.int .i64 (Prod.fst (g i))),SV.v (.int .i64 (Prod.snd (g i)))]}) 2 0 n))∧((rowsPre n n fun y => [SV.v (.int .i64 (Prod.fst (g (0 + y)))),SV.v (.int .i64 (Prod.snd (g (0 + y))))])∧(sel (!sameCB 6 6 (uc6 c) c (eqSh (shOf (uc6 c)) (shOf c)&&Nat.beq n 0)) (R (SV.tup [(SV.v (.string ({data:=#[]}))),(SV.v (.int .i64 4))])) (((((1 : Int) ≤ 6)∧((6 : Int) ≤ 10))∧((cvOk c)∧((spPre n (winBlk (Ro.blk {s:=2,n:=m,row:=fun i => [SV.v (.int .i64 (Prod.fst (g i))),SV.v (.int .i64 (Prod.snd (g i)))]}) 2 0 n))∧((n : Nat) < 100))))∧(∀ c_1 : Nat,((bytesOk (5 + kN 6 n) (5 + kN 6 n + c_1) {elem:=5,size:=1,rw:=true,lock:=false,lit:=false,flat:=true,n:=5 + kN 6 n,row:=fun i => [SV.v (.int .u8 ((fun i => List.getD (caL 6 c (kT 6 c n (gX (winBlk (Ro.blk {s:=2,n:=m,row:=fun i => [SV.v (.int .i64 (Prod.fst (g i))),SV.v (.int .i64 (Prod.snd (g i)))]}) 2 0 n)) (gY (winBlk (Ro.blk {s:=2,n:=m,row:=fun i => [SV.v (.int .i64 (Prod.fst (g i))),SV.v (.int .i64 (Prod.snd (g i)))]}) 2 0 n)))) i 0) i))],ext:=5 + kN 6 n + c_1})∧(R (SV.tup [(SV.v (.string (bif false||caB c (kB 6 c n) then emp else strOf (5 + kN 6 n) fun i => [SV.v (.int .u8 (SE.byteOf [SV.v (.int .u8 ((fun i => List.getD (caL 6 c (kT 6 c n (gX (winBlk (Ro.blk {s:=2,n:=m,row:=fun i => [SV.v (.int .i64 (Prod.fst (g i))),SV.v (.int .i64 (Prod.snd (g i)))]}) 2 0 n)) (gY (winBlk (Ro.blk {s:=2,n:=m,row:=fun i => [SV.v (.int .i64 (Prod.fst (g i))),SV.v (.int .i64 (Prod.snd (g i)))]}) 2 0 n)))) i 0) i))]))]))),(SV.v (.int .i64 (bif false||caB c (kB 6 c n) then 3 else 0)))])))))))):=by kernel_rfl
theorem vcCallG7 (c : CV) (n m cap : Nat) (g : Nat→Int × Int) (R : SV→Prop) : (vcFn Try.prog ΓCc noΛ Try.f24 [caS 7 c (.sl 0 2 0 n cap)] (roHeap [⟨2,m,rowsP g⟩]) 64 (fun y _ => R y)) = ((spPre n (winBlk (Ro.blk {s:=2,n:=m,row:=fun i => [SV.v (.int .i64 (Prod.fst (g i))),SV.v (.int .i64 (Prod.snd (g i)))]}) 2 0 n))∧((rowsPre n n fun y => [SV.v (.int .i64 (Prod.fst (g (0 + y)))),SV.v (.int .i64 (Prod.snd (g (0 + y))))])∧(sel (!sameCB 7 7 (uc7 c) c (eqSh (shOf (uc7 c)) (shOf c)&&Nat.beq n 0)) (R (SV.tup [(SV.v (.string ({data:=#[]}))),(SV.v (.int .i64 4))])) (((((1 : Int) ≤ 7)∧((7 : Int) ≤ 10))∧((cvOk c)∧((spPre n (winBlk (Ro.blk {s:=2,n:=m,row:=fun i => [SV.v (.int .i64 (Prod.fst (g i))),SV.v (.int .i64 (Prod.snd (g i)))]}) 2 0 n))∧((n : Nat) < 100))))∧(∀ c_1 : Nat,((bytesOk (5 + kN 7 n) (5 + kN 7 n + c_1) {elem:=5,size:=1,rw:=true,lock:=false,lit:=false,flat:=true,n:=5 + kN 7 n,row:=fun i => [SV.v (.int .u8 ((fun i => List.getD (caL 7 c (kT 7 c n (gX (winBlk (Ro.blk {s:=2,n:=m,row:=fun i => [SV.v (.int .i64 (Prod.fst (g i))),SV.v (.int .i64 (Prod.snd (g i)))]}) 2 0 n)) (gY (winBlk (Ro.blk {s:=2,n:=m,row:=fun i => [SV.v (.int .i64 (Prod.fst (g i))),SV.v (.int .i64 (Prod.snd (g i)))]}) 2 0 n)))) i 0) i))],ext:=5 + kN 7 n + c_1})∧(R (SV.tup [(SV.v (.string (bif false||caB c (kB 7 c n) then emp else strOf (5 + kN 7 n) fun i => [SV.v (.int .u8 (SE.byteOf [SV.v (.int .u8 ((fun i => List.getD (caL 7 c (kT 7 c n (gX (winBlk (Ro.blk {s:=2,n:=m,row:=fun i => [SV.v (.int .i64 (Prod.fst (g i))),SV.v (.int .i64 (Prod.snd (g i)))]}) 2 0 n)) (gY (winBlk (Ro.blk {s:=2,n:=m,row:=fun i => [SV.v (.int .i64 (Prod.fst (g i))),SV.v (.int .i64 (Prod.snd (g i)))]}) 2 0 n)))) i 0) i))]))]))),(SV.v (.int .i64 (bif false||caB c (kB 7 c n) then 3 else 0)))])))))))):=by kernel_rfl
theorem vcCallG8 (c : CV) (n m cap : Nat) (g : Nat→Int × Int) (R : SV→Prop) : (vcFn Try.prog ΓCc noΛ Try.f24 [caS 8 c (.sl 0 2 0 n cap)] (roHeap [⟨2,m,rowsP g⟩]) 64 (fun y _ => R y)) = ((spPre n (winBlk (Ro.blk {s:=2,n:=m,row:=fun i => [SV.v (.int .i64 (Prod.fst (g i))),SV.v (.int .i64 (Prod.snd (g i)))]}) 2 0 n))∧((rowsPre n n fun y => [SV.v (.int .i64 (Prod.fst (g (0 + y)))),SV.v (.int .i64 (Prod.snd (g (0 + y))))])∧(sel (!sameCB 8 8 (uc8 c) c (eqSh (shOf (uc8 c)) (shOf c)&&Nat.beq n 0)) (R (SV.tup [(SV.v (.string ({data:=#[]}))),(SV.v (.int .i64 4))])) (((((1 : Int) ≤ 8)∧((8 : Int) ≤ 10))∧((cvOk c)∧((spPre n (winBlk (Ro.blk {s:=2,n:=m,row:=fun i => [SV.v (.int .i64 (Prod.fst (g i))),SV.v (.int .i64 (Prod.snd (g i)))]}) 2 0 n))∧((n : Nat) < 100))))∧(∀ c_1 : Nat,((bytesOk (5 + kN 8 n) (5 + kN 8 n + c_1) {elem:=5,size:=1,rw:=true,lock:=false,lit:=false,flat:=true,n:=5 + kN 8 n,row:=fun i => [SV.v (.int .u8 ((fun i => List.getD (caL 8 c (kT 8 c n (gX (winBlk (Ro.blk {s:=2,n:=m,row:=fun i => [SV.v (.int .i64 (Prod.fst (g i))),SV.v (.int .i64 (Prod.snd (g i)))]}) 2 0 n)) (gY (winBlk (Ro.blk {s:=2,n:=m,row:=fun i => [SV.v (.int .i64 (Prod.fst (g i))),SV.v (.int .i64 (Prod.snd (g i)))]}) 2 0 n)))) i 0) i))],ext:=5 + kN 8 n + c_1})∧(R (SV.tup [(SV.v (.string (bif false||caB c (kB 8 c n) then emp else strOf (5 + kN 8 n) fun i => [SV.v (.int .u8 (SE.byteOf [SV.v (.int .u8 ((fun i => List.getD (caL 8 c (kT 8 c n (gX (winBlk (Ro.blk {s:=2,n:=m,row:=fun i => [SV.v (.int .i64 (Prod.fst (g i))),SV.v (.int .i64 (Prod.snd (g i)))]}) 2 0 n)) (gY (winBlk (Ro.blk {s:=2,n:=m,row:=fun i => [SV.v (.int .i64 (Prod.fst (g i))),SV.v (.int .i64 (Prod.snd (g i)))]}) 2 0 n)))) i 0) i))]))]))),(SV.v (.int .i64 (bif false||caB c (kB 8 c n) then 3 else 0)))])))))))):=by kernel_rfl
theorem vcCallG9 (c : CV) (n m cap : Nat) (g : Nat→Int × Int) (R : SV→Prop) : (vcFn Try.prog ΓCc noΛ Try.f24 [caS 9 c (.sl 0 2 0 n cap)] (roHeap [⟨2,m,rowsP g⟩]) 64 (fun y _ => R y)) = ((spPre n (winBlk (Ro.blk {s:=2,n:=m,row:=fun i => [SV.v (.int .i64 (Prod.fst (g i))),SV.v (.int .i64 (Prod.snd (g i)))]}) 2 0 n))∧((rowsPre n n fun y => [SV.v (.int .i64 (Prod.fst (g (0 + y)))),SV.v (.int .i64 (Prod.snd (g (0 + y))))])∧(sel (!sameCB 9 9 (uc9 c) c (eqSh (shOf (uc9 c)) (shOf c)&&Nat.beq n 0)) (R (SV.tup [(SV.v (.string ({data:=#[]}))),(SV.v (.int .i64 4))])) (((((1 : Int) ≤ 9)∧((9 : Int) ≤ 10))∧((cvOk c)∧((spPre n (winBlk (Ro.blk {s:=2,n:=m,row:=fun i => [SV.v (.int .i64 (Prod.fst (g i))),SV.v (.int .i64 (Prod.snd (g i)))]}) 2 0 n))∧((n : Nat) < 100))))∧(∀ c_1 : Nat,((bytesOk (5 + kN 9 n) (5 + kN 9 n + c_1) {elem:=5,size:=1,rw:=true,lock:=false,lit:=false,flat:=true,n:=5 + kN 9 n,row:=fun i => [SV.v (.int .u8 ((fun i => List.getD (caL 9 c (kT 9 c n (gX (winBlk (Ro.blk {s:=2,n:=m,row:=fun i => [SV.v (.int .i64 (Prod.fst (g i))),SV.v (.int .i64 (Prod.snd (g i)))]}) 2 0 n)) (gY (winBlk (Ro.blk {s:=2,n:=m,row:=fun i => [SV.v (.int .i64 (Prod.fst (g i))),SV.v (.int .i64 (Prod.snd (g i)))]}) 2 0 n)))) i 0) i))],ext:=5 + kN 9 n + c_1})∧(R (SV.tup [(SV.v (.string (bif false||caB c (kB 9 c n) then emp else strOf (5 + kN 9 n) fun i => [SV.v (.int .u8 (SE.byteOf [SV.v (.int .u8 ((fun i => List.getD (caL 9 c (kT 9 c n (gX (winBlk (Ro.blk {s:=2,n:=m,row:=fun i => [SV.v (.int .i64 (Prod.fst (g i))),SV.v (.int .i64 (Prod.snd (g i)))]}) 2 0 n)) (gY (winBlk (Ro.blk {s:=2,n:=m,row:=fun i => [SV.v (.int .i64 (Prod.fst (g i))),SV.v (.int .i64 (Prod.snd (g i)))]}) 2 0 n)))) i 0) i))]))]))),(SV.v (.int .i64 (bif false||caB c (kB 9 c n) then 3 else 0)))])))))))):=by kernel_rfl
theorem vcCallG10 (c : CV) (n m cap : Nat) (g : Nat→Int × Int) (R : SV→Prop) : (vcFn Try.prog ΓCc noΛ Try.f24 [caS 10 c (.sl 0 2 0 n cap)] (roHeap [⟨2,m,rowsP g⟩]) 64 (fun y _ => R y)) = ((spPre n (winBlk (Ro.blk {s:=2,n:=m,row:=fun i => [SV.v (.int .i64 (Prod.fst (g i))),SV.v (.int .i64 (Prod.snd (g i)))]}) 2 0 n))∧((rowsPre n n fun y => [SV.v (.int .i64 (Prod.fst (g (0 + y)))),SV.v (.int .i64 (Prod.snd (g (0 + y))))])∧(sel (!sameCB 10 10 (uc10 c) c (eqSh (shOf (uc10 c)) (shOf c)&&Nat.beq n 0)) (R (SV.tup [(SV.v (.string ({data:=#[]}))),(SV.v (.int .i64 4))])) (((((1 : Int) ≤ 10)∧((10 : Int) ≤ 10))∧((cvOk c)∧((spPre n (winBlk (Ro.blk {s:=2,n:=m,row:=fun i => [SV.v (.int .i64 (Prod.fst (g i))),SV.v (.int .i64 (Prod.snd (g i)))]}) 2 0 n))∧((n : Nat) < 100))))∧(∀ c_1 : Nat,((bytesOk (5 + kN 10 n) (5 + kN 10 n + c_1) {elem:=5,size:=1,rw:=true,lock:=false,lit:=false,flat:=true,n:=5 + kN 10 n,row:=fun i => [SV.v (.int .u8 ((fun i => List.getD (caL 10 c (kT 10 c n (gX (winBlk (Ro.blk {s:=2,n:=m,row:=fun i => [SV.v (.int .i64 (Prod.fst (g i))),SV.v (.int .i64 (Prod.snd (g i)))]}) 2 0 n)) (gY (winBlk (Ro.blk {s:=2,n:=m,row:=fun i => [SV.v (.int .i64 (Prod.fst (g i))),SV.v (.int .i64 (Prod.snd (g i)))]}) 2 0 n)))) i 0) i))],ext:=5 + kN 10 n + c_1})∧(R (SV.tup [(SV.v (.string (bif false||caB c (kB 10 c n) then emp else strOf (5 + kN 10 n) fun i => [SV.v (.int .u8 (SE.byteOf [SV.v (.int .u8 ((fun i => List.getD (caL 10 c (kT 10 c n (gX (winBlk (Ro.blk {s:=2,n:=m,row:=fun i => [SV.v (.int .i64 (Prod.fst (g i))),SV.v (.int .i64 (Prod.snd (g i)))]}) 2 0 n)) (gY (winBlk (Ro.blk {s:=2,n:=m,row:=fun i => [SV.v (.int .i64 (Prod.fst (g i))),SV.v (.int .i64 (Prod.snd (g i)))]}) 2 0 n)))) i 0) i))]))]))),(SV.v (.int .i64 (bif false||caB c (kB 10 c n) then 3 else 0)))])))))))):=by kernel_rfl
theorem bif_some2' {b : Bool} {α : Type _} {x : Option α} {y : α} (h : (bif b then x else none) = some y) : b = true ∧ x = some y := by
  cases b with
  | true => exact ⟨rfl, h⟩
  | false => cases h
theorem same_ptB {S : Blk} {n : Nat} (h1 : okB S = true) (h2 : spPre n S) : BlkSame S (ptB S.elem n (gX S) (gY S) S.ext S.whole) := by
  simp only [okB, Bool.and_eq_true, Bool.not_eq_true'] at h1
  obtain ⟨⟨⟨a1, a2⟩, a3⟩, a4⟩ := h1
  obtain ⟨b1, b2, _⟩ := h2
  have b1 := okAll_rows.1 b1
  exact ⟨Nat.eq_of_beq_eq_true a3, a1, a4, b2, rfl, a2, rfl, rfl, fun i hi => (isPI_row (b1 i hi)).1⟩
theorem DoneG_spec : HpSpec Try.prog 71 sDoneG := hp_spec hm noCtrs_ok Try.func71 (Λ := fun _ _ => noΛ) fun args bs e hs hp => by
  unfold sDoneG at hs
  split at hs
  · split at hs
    · rename_i b n g c p hw
      have he := Option.some.inj hs
      subst he
      refine ⟨uB (some b) n g c, (wrOf_used hw (hp p rfl)).1, ?_⟩
      cases b with
      | false =>
        rw [vcDoneG0]
        exact ⟨fun _ _ => trivial, ⟨congrArg (fun z => SV.v (.string z)) (done_plain n g), rfl⟩, ⟨rfl, Nat.le_refl _, rfl, rfl⟩, rfl, Nat.le_refl _, fun _ _ => rfl⟩
      | true =>
        rw [vcDoneG1]
        exact ⟨⟨rfl, rfl⟩, ⟨rfl, Nat.le_refl _, rfl, rfl⟩, rfl, Nat.le_refl _, fun _ _ => rfl⟩
    · cases hs
  · cases hs
theorem ΓCw_ok : ∀ f g, ΓCw f = some g → g.ok Try.prog f := addCtr_ok (addCtr_ok (addCtr_ok ΓG0_ok (hp_ok Try.func118 (by kernel_rfl) (by kernel_rfl) Small_spec)) (hp_ok Try.func105 (by kernel_rfl) (by kernel_rfl) Spots2_spec)) (hp_ok Try.func97 (by kernel_rfl) (by kernel_rfl) Shape_spec)
theorem ten {k : Int} (h : 1 ≤ k ∧ k ≤ 10) : k = 1 ∨ k = 2 ∨ k = 3 ∨ k = 4 ∨ k = 5 ∨ k = 6 ∨ k = 7 ∨ k = 8 ∨ k = 9 ∨ k = 10 := by omega
theorem CallW_spec : HpSpec Try.prog 70 sCallW := hp_spec hm ΓCw_ok Try.func70 (Λ := fun _ _ => noΛ) fun args bs e hs hp => by
  unfold sCallW at hs
  split at hs
  · rename_i l
    split at hs
    · rename_i k c n cap hl
      split at hs
      · rename_i B S
        split at hs
        · rename_i b hw
          obtain ⟨hS, he⟩ := bif_some hs
          subst he
          obtain ⟨hk, hc, hsp, hn⟩ := hp
          refine ⟨[wB (some b) true nilS, ptB S.elem n (gX S) (gY S) S.ext S.whole], ⟨(wrOf_fresh hw).1, same_ptB hS hsp, trivial⟩, ?_⟩
          rw [cells_eq hl]
          have hv : ∀ i, i < n → I64 (gX S i) ∧ I64 (gY S i) := (pre_of hsp).2
          rcases ten hk with rfl | rfl | rfl | rfl | rfl | rfl | rfl | rfl | rfl | rfl
          · exact call_1 hc hn hv
          · exact call_2 hc hn hv
          · exact call_3 hc hn hv
          · exact call_4 hc hn hv
          · exact call_5 hc hn hv
          · exact call_6 hc hn hv
          · exact call_7 hc hn hv
          · exact call_8 hc hn hv
          · exact call_9 hc hn hv
          · exact call_10 hc hn hv
        · cases hs
      · cases hs
    · cases hs
  · cases hs
theorem used_1 {q : Option Prop} {c : CV} {e n m cap xt : Nat} {x y : Nat → Int} {wh : Bool} : vcFn Try.prog noCtrs ΛUsed Try.f69 [caS 1 c (.sl 0 2 0 n cap)] (heapOf [ptB e m x y xt wh]) 64 (fun y' h' => FinE [ptB e m x y xt wh] (.det q (.tup [caS 1 (uc1 c) (.sl 0 2 0 n cap), bV true]) []) y' h') := by
  rw [vcUsed1]
  refine ⟨⟨?_, rfl⟩, trivial⟩
  repeat (first | exact rfl | refine ⟨rfl, ?_⟩)
theorem used_2 {q : Option Prop} {c : CV} {e n m cap xt : Nat} {x y : Nat → Int} {wh : Bool} : vcFn Try.prog noCtrs ΛUsed Try.f69 [caS 2 c (.sl 0 2 0 n cap)] (heapOf [ptB e m x y xt wh]) 64 (fun y' h' => FinE [ptB e m x y xt wh] (.det q (.tup [caS 2 (uc2 c) (nilS), bV true]) []) y' h') := by
  rw [vcUsed2]
  refine ⟨⟨?_, rfl⟩, trivial⟩
  repeat (first | exact rfl | refine ⟨rfl, ?_⟩)
theorem used_3 {q : Option Prop} {c : CV} {e n m cap xt : Nat} {x y : Nat → Int} {wh : Bool} : vcFn Try.prog noCtrs ΛUsed Try.f69 [caS 3 c (.sl 0 2 0 n cap)] (heapOf [ptB e m x y xt wh]) 64 (fun y' h' => FinE [ptB e m x y xt wh] (.det q (.tup [caS 3 (uc3 c) (nilS), bV true]) []) y' h') := by
  rw [vcUsed3]
  refine ⟨⟨?_, rfl⟩, trivial⟩
  repeat (first | exact rfl | refine ⟨rfl, ?_⟩)
theorem used_4 {q : Option Prop} {c : CV} {e n m cap xt : Nat} {x y : Nat → Int} {wh : Bool} : vcFn Try.prog noCtrs ΛUsed Try.f69 [caS 4 c (.sl 0 2 0 n cap)] (heapOf [ptB e m x y xt wh]) 64 (fun y' h' => FinE [ptB e m x y xt wh] (.det q (.tup [caS 4 (uc4 c) (nilS), bV true]) []) y' h') := by
  rw [vcUsed4]
  refine ⟨⟨?_, rfl⟩, trivial⟩
  repeat (first | exact rfl | refine ⟨rfl, ?_⟩)
theorem used_5 {q : Option Prop} {c : CV} {e n m cap xt : Nat} {x y : Nat → Int} {wh : Bool} : vcFn Try.prog noCtrs ΛUsed Try.f69 [caS 5 c (.sl 0 2 0 n cap)] (heapOf [ptB e m x y xt wh]) 64 (fun y' h' => FinE [ptB e m x y xt wh] (.det q (.tup [caS 5 (uc5 c) (nilS), bV true]) []) y' h') := by
  rw [vcUsed5]
  refine ⟨⟨?_, rfl⟩, trivial⟩
  repeat (first | exact rfl | refine ⟨rfl, ?_⟩)
theorem used_6 {q : Option Prop} {c : CV} {e n m cap xt : Nat} {x y : Nat → Int} {wh : Bool} : vcFn Try.prog noCtrs ΛUsed Try.f69 [caS 6 c (.sl 0 2 0 n cap)] (heapOf [ptB e m x y xt wh]) 64 (fun y' h' => FinE [ptB e m x y xt wh] (.det q (.tup [caS 6 (uc6 c) (nilS), bV true]) []) y' h') := by
  rw [vcUsed6]
  refine ⟨⟨?_, rfl⟩, trivial⟩
  repeat (first | exact rfl | refine ⟨rfl, ?_⟩)
theorem used_7 {q : Option Prop} {c : CV} {e n m cap xt : Nat} {x y : Nat → Int} {wh : Bool} : vcFn Try.prog noCtrs ΛUsed Try.f69 [caS 7 c (.sl 0 2 0 n cap)] (heapOf [ptB e m x y xt wh]) 64 (fun y' h' => FinE [ptB e m x y xt wh] (.det q (.tup [caS 7 (uc7 c) (nilS), bV true]) []) y' h') := by
  rw [vcUsed7]
  refine ⟨⟨?_, rfl⟩, trivial⟩
  repeat (first | exact rfl | refine ⟨rfl, ?_⟩)
theorem used_8 {q : Option Prop} {c : CV} {e n m cap xt : Nat} {x y : Nat → Int} {wh : Bool} : vcFn Try.prog noCtrs ΛUsed Try.f69 [caS 8 c (.sl 0 2 0 n cap)] (heapOf [ptB e m x y xt wh]) 64 (fun y' h' => FinE [ptB e m x y xt wh] (.det q (.tup [caS 8 (uc8 c) (nilS), bV true]) []) y' h') := by
  rw [vcUsed8]
  refine ⟨⟨?_, rfl⟩, trivial⟩
  repeat (first | exact rfl | refine ⟨rfl, ?_⟩)
theorem used_9 {q : Option Prop} {c : CV} {e n m cap xt : Nat} {x y : Nat → Int} {wh : Bool} : vcFn Try.prog noCtrs ΛUsed Try.f69 [caS 9 c (.sl 0 2 0 n cap)] (heapOf [ptB e m x y xt wh]) 64 (fun y' h' => FinE [ptB e m x y xt wh] (.det q (.tup [caS 9 (uc9 c) (nilS), bV true]) []) y' h') := by
  rw [vcUsed9]
  refine ⟨⟨?_, rfl⟩, trivial⟩
  repeat (first | exact rfl | refine ⟨rfl, ?_⟩)
theorem used_10 {q : Option Prop} {c : CV} {e n m cap xt : Nat} {x y : Nat → Int} {wh : Bool} : vcFn Try.prog noCtrs ΛUsed Try.f69 [caS 10 c (.sl 0 2 0 n cap)] (heapOf [ptB e m x y xt wh]) 64 (fun y' h' => FinE [ptB e m x y xt wh] (.det q (.tup [caS 10 (uc10 c) (nilS), bV true]) []) y' h') := by
  rw [vcUsed10]
  refine ⟨⟨?_, rfl⟩, trivial⟩
  repeat (first | exact rfl | refine ⟨rfl, ?_⟩)
theorem UsedC_spec : HpSpec Try.prog 69 sUsedC := hp_spec hm noCtrs_ok Try.func69 (Λ := fun _ _ => ΛUsed) fun args bs e hs hp => by
  unfold sUsedC at hs
  split at hs
  · rename_i l
    split at hs
    · rename_i k c n cap hl
      split at hs
      · rename_i S
        obtain ⟨hS, hs⟩ := bif_some2' hs
        by_cases hk : 1 ≤ k ∧ k ≤ 10
        · rcases ten hk with rfl | rfl | rfl | rfl | rfl | rfl | rfl | rfl | rfl | rfl
          · have he := Option.some.inj hs
            subst he
            have hsp := hp _ rfl
            refine ⟨[ptB S.elem n (gX S) (gY S) S.ext S.whole], ⟨same_ptB hS hsp, trivial⟩, ?_⟩
            rw [cells_eq hl]
            exact used_1
          · have he := Option.some.inj hs
            subst he
            have hsp := hp _ rfl
            refine ⟨[ptB S.elem n (gX S) (gY S) S.ext S.whole], ⟨same_ptB hS hsp, trivial⟩, ?_⟩
            rw [cells_eq hl]
            exact used_2
          · have he := Option.some.inj hs
            subst he
            have hsp := hp _ rfl
            refine ⟨[ptB S.elem n (gX S) (gY S) S.ext S.whole], ⟨same_ptB hS hsp, trivial⟩, ?_⟩
            rw [cells_eq hl]
            exact used_3
          · have he := Option.some.inj hs
            subst he
            have hsp := hp _ rfl
            refine ⟨[ptB S.elem n (gX S) (gY S) S.ext S.whole], ⟨same_ptB hS hsp, trivial⟩, ?_⟩
            rw [cells_eq hl]
            exact used_4
          · have he := Option.some.inj hs
            subst he
            have hsp := hp _ rfl
            refine ⟨[ptB S.elem n (gX S) (gY S) S.ext S.whole], ⟨same_ptB hS hsp, trivial⟩, ?_⟩
            rw [cells_eq hl]
            exact used_5
          · have he := Option.some.inj hs
            subst he
            have hsp := hp _ rfl
            refine ⟨[ptB S.elem n (gX S) (gY S) S.ext S.whole], ⟨same_ptB hS hsp, trivial⟩, ?_⟩
            rw [cells_eq hl]
            exact used_6
          · have he := Option.some.inj hs
            subst he
            have hsp := hp _ rfl
            refine ⟨[ptB S.elem n (gX S) (gY S) S.ext S.whole], ⟨same_ptB hS hsp, trivial⟩, ?_⟩
            rw [cells_eq hl]
            exact used_7
          · have he := Option.some.inj hs
            subst he
            have hsp := hp _ rfl
            refine ⟨[ptB S.elem n (gX S) (gY S) S.ext S.whole], ⟨same_ptB hS hsp, trivial⟩, ?_⟩
            rw [cells_eq hl]
            exact used_8
          · have he := Option.some.inj hs
            subst he
            have hsp := hp _ rfl
            refine ⟨[ptB S.elem n (gX S) (gY S) S.ext S.whole], ⟨same_ptB hS hsp, trivial⟩, ?_⟩
            rw [cells_eq hl]
            exact used_9
          · have he := Option.some.inj hs
            subst he
            have hsp := hp _ rfl
            refine ⟨[ptB S.elem n (gX S) (gY S) S.ext S.whole], ⟨same_ptB hS hsp, trivial⟩, ?_⟩
            rw [cells_eq hl]
            exact used_10
        · rw [show decide (k = 1) = false from decide_eq_false (by omega), show decide (k = 2) = false from decide_eq_false (by omega), show decide (k = 3) = false from decide_eq_false (by omega), show decide (k = 4) = false from decide_eq_false (by omega), show decide (k = 5) = false from decide_eq_false (by omega), show decide (k = 6) = false from decide_eq_false (by omega), show decide (k = 7) = false from decide_eq_false (by omega), show decide (k = 8) = false from decide_eq_false (by omega), show decide (k = 9) = false from decide_eq_false (by omega), show decide (k = 10) = false from decide_eq_false (by omega)] at hs
          cases hs
      · cases hs
    · cases hs
  · cases hs
end Go.Proofs.Ytjdldadmaaeimaa
end

section
set_option maxRecDepth 100000
set_option linter.unusedSimpArgs false
set_option linter.unusedVariables false
namespace Go.Proofs.Ytjdldadmaaeimaa
open Go.SE Go.RowKit

def kindOk (k : Int) : Bool := decide (1 ≤ k) && decide (k ≤ 10)
def formB (k : Int) (c : CV) (n : Nat) (g : Nat → Int × Int) : Bool := bif decide (k = 1) then sameCB 1 1 (uc1 c) c (sameS (shOf (uc1 c)) n g (shOf c) n g) else sameCB k k (ucK k c) c (eqSh (shOf (ucK k c)) (shOf c) && Nat.beq n 0)
def badB (k : Int) (c : CV) (n : Nat) : Bool := caB c (kB k c n)
def callBs (k : Int) (c : CV) (n : Nat) (g : Nat → Int × Int) : ByteArray := strOf (5 + kN k n) fun i => [.v (.int .u8 ((caL k c (kT k c n (fun i => (g i).1) (fun i => (g i).2))).getD i 0))]
def callT (k : Int) (c : CV) (n : Nat) (g : Nat → Int × Int) : ByteArray := bif kindOk k && (formB k c n g && !badB k c n) then callBs k c n g else emp
def callE (k : Int) (c : CV) (n : Nat) (g : Nat → Int × Int) : Int := bif kindOk k then (bif formB k c n g then (bif badB k c n then 3 else 0) else 4) else 8
def calPre (k : Int) (c : CV) (n n' : Nat) (row : Nat → List SV) : Prop := rowsPre n n' row ∧ cvOk c ∧ I64 k ∧ n < 100
def sCallG : List SV → List Ro → Option (Option Prop × SV)
  | [.agg l], rs => match cellsOf l, rs with
    | some (k, c, .sl 0 2 0 n _), [⟨2, n', row⟩] => some (some (calPre k c n n' row), .tup [strS (callT k c n fun i => gi (row i)), iV (callE k c n fun i => gi (row i))])
    | _, _ => none
  | _, _ => none
def ΓCk : Ctrs := addCtr noCtrs 24 (roCtr sCallG)
theorem vcCheckG (k : Int) (c : CV) (n m cap : Nat) (g : Nat→Int × Int) (R : SV→Prop) : (vcFn Try.prog ΓCk noΛ Try.f28 [caS k c (.sl 0 2 0 n cap)] (roHeap [⟨2,m,rowsP g⟩]) 64 (fun y _ => R y)) = ((calPre k c n n fun y => [SV.v (.int .i64 (Prod.fst (g (0 + y)))),SV.v (.int .i64 (Prod.snd (g (0 + y))))])∧(R (SV.v (.int .i64 (callE k c n fun i => gi [SV.v (.int .i64 (Prod.fst (g (0 + i)))),SV.v (.int .i64 (Prod.snd (g (0 + i))))]))))):=by kernel_rfl
def sCheckG : List SV → List Ro → Option (Option Prop × SV)
  | [.agg l], rs => match cellsOf l, rs with
    | some (k, c, .sl 0 2 0 n _), [⟨2, n', row⟩] => some (some (calPre k c n n' row), iV (callE k c n fun i => gi (row i)))
    | _, _ => none
  | _, _ => none
theorem ΓCc_ok : ∀ f g, ΓCc f = some g → g.ok Try.prog f := addCtr_ok (addCtr_ok (addCtr_ok (addCtr_ok noCtrs_ok (hp_ok Try.func69 (by kernel_rfl) (by kernel_rfl) UsedC_spec)) (ro_ok Try.func25 (by kernel_rfl) (by kernel_rfl) SameC_spec)) (hp_ok Try.func70 (by kernel_rfl) (by kernel_rfl) CallW_spec)) (hp_ok Try.func71 (by kernel_rfl) (by kernel_rfl) DoneG_spec)
theorem selFG {b : Bool} {x y : Prop} (h : b = false) (hy : y) : sel b x y := by subst h; exact hy
theorem UsedO_spec : HpSpec Try.prog 69 sUsedO := hp_spec hm noCtrs_ok Try.func69 (Λ := fun _ _ => ΛUsed) fun args bs e hs hp => by
  unfold sUsedO at hs
  split at hs
  · rename_i l
    split at hs
    · rename_i k c n cap hl
      split at hs
      · rename_i S
        obtain ⟨hS, hs⟩ := bif_some2' hs
        have he := Option.some.inj hs
        subst he
        obtain ⟨hsp, hk⟩ := hp _ rfl
        refine ⟨[ptB S.elem n (gX S) (gY S) S.ext S.whole], ⟨same_ptB hS hsp, trivial⟩, ?_⟩
        rw [cells_eq hl, vcUsedO]
        have ne : ∀ j : Int, 1 ≤ j → j ≤ 10 → (k == j) = false := fun j h1 h2 => by
          cases hc : k == j with
          | false => rfl
          | true => have := (beq_iff_eq ..).1 hc; omega
        refine selFG (ne 1 (by omega) (by omega)) (selFG (ne 3 (by omega) (by omega)) (selFG (ne 4 (by omega) (by omega)) (selFG (ne 2 (by omega) (by omega)) (selFG (ne 7 (by omega) (by omega)) (selFG (ne 5 (by omega) (by omega)) (selFG (ne 6 (by omega) (by omega)) (selFG (ne 8 (by omega) (by omega)) (selFG (ne 9 (by omega) (by omega)) (selFG (ne 10 (by omega) (by omega)) ?_)))))))))
        refine ⟨⟨?_, rfl⟩, trivial⟩
        repeat (first | exact rfl | refine ⟨rfl, ?_⟩)
      · cases hs
    · cases hs
  · cases hs
theorem ΓCo_ok : ∀ f g, ΓCo f = some g → g.ok Try.prog f := addCtr_ok ΓCc_ok (hp_ok Try.func69 (by kernel_rfl) (by kernel_rfl) UsedO_spec)
theorem win_sp {n : Nat} {g : Nat → Int × Int} (hn : n < 1099511627776) (hg : ∀ i, i < n → I64 (g i).1 ∧ I64 (g i).2) : spPre n (winBlk (Ro.blk { s := 2, n := n, row := fun i => [SV.v (.int .i64 (g i).1), SV.v (.int .i64 (g i).2)] }) 2 0 n) := ⟨okAll_rows.2 fun i hi => by
  show isPI [SV.v (.int .i64 (g (0 + i)).1), SV.v (.int .i64 (g (0 + i)).2)]
  rw [Nat.zero_add]; exact hg i hi, rfl, hn⟩
theorem win_gX {n m : Nat} (g : Nat → Int × Int) : gX (winBlk (Ro.blk { s := 2, n := m, row := fun i => [SV.v (.int .i64 (g i).1), SV.v (.int .i64 (g i).2)] }) 2 0 n) = fun i => (g i).1 := funext fun i => by
  show (g (0 + i)).1 = _
  rw [Nat.zero_add]
theorem win_gY {n m : Nat} (g : Nat → Int × Int) : gY (winBlk (Ro.blk { s := 2, n := m, row := fun i => [SV.v (.int .i64 (g i).1), SV.v (.int .i64 (g i).2)] }) 2 0 n) = fun i => (g i).2 := funext fun i => by
  show (g (0 + i)).2 = _
  rw [Nat.zero_add]
theorem kN_le (k : Int) (n : Nat) (hn : n < 100) : kN k n ≤ 2000 := by
  have := shN_le n
  unfold kN
  by_cases h1 : k = 1
  · rw [decide_eq_true h1, cond_true]
    first | (show shN n + 72 ≤ 2000; omega) | (show (_ : Nat) ≤ 2000; unfold caN1; omega)
  rw [decide_eq_false h1, cond_false]
  by_cases h2 : k = 2
  · rw [decide_eq_true h2, cond_true]
    first | (show shN n + 72 ≤ 2000; omega) | (show (_ : Nat) ≤ 2000; unfold caN2; omega)
  rw [decide_eq_false h2, cond_false]
  by_cases h3 : k = 3
  · rw [decide_eq_true h3, cond_true]
    first | (show shN n + 72 ≤ 2000; omega) | (show (_ : Nat) ≤ 2000; unfold caN3; omega)
  rw [decide_eq_false h3, cond_false]
  by_cases h4 : k = 4
  · rw [decide_eq_true h4, cond_true]
    first | (show shN n + 72 ≤ 2000; omega) | (show (_ : Nat) ≤ 2000; unfold caN4; omega)
  rw [decide_eq_false h4, cond_false]
  by_cases h5 : k = 5
  · rw [decide_eq_true h5, cond_true]
    first | (show shN n + 72 ≤ 2000; omega) | (show (_ : Nat) ≤ 2000; unfold caN5; omega)
  rw [decide_eq_false h5, cond_false]
  by_cases h6 : k = 6
  · rw [decide_eq_true h6, cond_true]
    first | (show shN n + 72 ≤ 2000; omega) | (show (_ : Nat) ≤ 2000; unfold caN6; omega)
  rw [decide_eq_false h6, cond_false]
  by_cases h7 : k = 7
  · rw [decide_eq_true h7, cond_true]
    first | (show shN n + 72 ≤ 2000; omega) | (show (_ : Nat) ≤ 2000; unfold caN7; omega)
  rw [decide_eq_false h7, cond_false]
  by_cases h8 : k = 8
  · rw [decide_eq_true h8, cond_true]
    first | (show shN n + 72 ≤ 2000; omega) | (show (_ : Nat) ≤ 2000; unfold caN8; omega)
  rw [decide_eq_false h8, cond_false]
  by_cases h9 : k = 9
  · rw [decide_eq_true h9, cond_true]
    first | (show shN n + 72 ≤ 2000; omega) | (show (_ : Nat) ≤ 2000; unfold caN9; omega)
  rw [decide_eq_false h9, cond_false]
  by_cases h10 : k = 10
  · rw [decide_eq_true h10, cond_true]
    first | (show shN n + 72 ≤ 2000; omega) | (show (_ : Nat) ≤ 2000; unfold caN10; omega)
  rw [decide_eq_false h10, cond_false]
  omega
theorem callG_1 {c : CV} {n cap : Nat} {g : Nat → Int × Int} (hc : cvOk c) (hn : n < 1099511627776) (h100 : n < 100) (hg : ∀ i, i < n → I64 (g i).1 ∧ I64 (g i).2) : vcFn Try.prog ΓCc noΛ Try.f24 [caS 1 c (.sl 0 2 0 n cap)] (roHeap [⟨2, n, rowsP g⟩]) 64 (fun y _ => y = .tup [strS (callT 1 c n g), iV (callE 1 c n g)]) := by
  refine Eq.mpr (vcCallG1 c n n cap g _) ⟨win_sp hn hg, ⟨pre_rows hn hg, pre_rows hn hg⟩, ?_⟩
  rw [win_gX, win_gY, gi_rows]
  have hk : kindOk 1 = true := rfl
  have hkn := kN_le 1 n h100
  unfold callT callE
  rw [hk, Bool.true_and, cond_true]
  have hf : formB 1 c n g = sameCB 1 1 (uc1 c) c (sameS (shOf (uc1 c)) n g (shOf c) n g) := rfl
  rw [hf]
  refine sel_of (fun e => ?_) fun e => ⟨⟨⟨by omega, by omega⟩, hc, win_sp hn hg, h100⟩, fun c1 => ⟨bytesOk_bG _ _ _ (by omega), ?_⟩⟩
  · rw [show sameCB 1 1 (uc1 c) c (sameS (shOf (uc1 c)) n g (shOf c) n g) = false by simpa using e]
    rfl
  · rw [show sameCB 1 1 (uc1 c) c (sameS (shOf (uc1 c)) n g (shOf c) n g) = true by simpa using e]
    rw [Bool.true_and, cond_true]
    show SV.tup [.v (.string (bif false || badB 1 c n then emp else callBs 1 c n g)), .v (.int .i64 (bif false || badB 1 c n then 3 else 0))] = _
    cases badB 1 c n <;> rfl
theorem callG_2 {c : CV} {n cap : Nat} {g : Nat → Int × Int} (hc : cvOk c) (hn : n < 1099511627776) (h100 : n < 100) (hg : ∀ i, i < n → I64 (g i).1 ∧ I64 (g i).2) : vcFn Try.prog ΓCc noΛ Try.f24 [caS 2 c (.sl 0 2 0 n cap)] (roHeap [⟨2, n, rowsP g⟩]) 64 (fun y _ => y = .tup [strS (callT 2 c n g), iV (callE 2 c n g)]) := by
  refine Eq.mpr (vcCallG2 c n n cap g _) ⟨win_sp hn hg, pre_rows hn hg, ?_⟩
  rw [win_gX, win_gY]
  have hk : kindOk 2 = true := rfl
  have hkn := kN_le 2 n h100
  unfold callT callE
  rw [hk, Bool.true_and, cond_true]
  have hf : formB 2 c n g = sameCB 2 2 (uc2 c) c (eqSh (shOf (uc2 c)) (shOf c) && Nat.beq n 0) := rfl
  rw [hf]
  refine sel_of (fun e => ?_) fun e => ⟨⟨⟨by omega, by omega⟩, hc, win_sp hn hg, h100⟩, fun c1 => ⟨bytesOk_bG _ _ _ (by omega), ?_⟩⟩
  · rw [show sameCB 2 2 (uc2 c) c (eqSh (shOf (uc2 c)) (shOf c) && Nat.beq n 0) = false by simpa using e]
    rfl
  · rw [show sameCB 2 2 (uc2 c) c (eqSh (shOf (uc2 c)) (shOf c) && Nat.beq n 0) = true by simpa using e]
    rw [Bool.true_and, cond_true]
    show SV.tup [.v (.string (bif false || badB 2 c n then emp else callBs 2 c n g)), .v (.int .i64 (bif false || badB 2 c n then 3 else 0))] = _
    cases badB 2 c n <;> rfl
theorem callG_3 {c : CV} {n cap : Nat} {g : Nat → Int × Int} (hc : cvOk c) (hn : n < 1099511627776) (h100 : n < 100) (hg : ∀ i, i < n → I64 (g i).1 ∧ I64 (g i).2) : vcFn Try.prog ΓCc noΛ Try.f24 [caS 3 c (.sl 0 2 0 n cap)] (roHeap [⟨2, n, rowsP g⟩]) 64 (fun y _ => y = .tup [strS (callT 3 c n g), iV (callE 3 c n g)]) := by
  refine Eq.mpr (vcCallG3 c n n cap g _) ⟨win_sp hn hg, pre_rows hn hg, ?_⟩
  rw [win_gX, win_gY]
  have hk : kindOk 3 = true := rfl
  have hkn := kN_le 3 n h100
  unfold callT callE
  rw [hk, Bool.true_and, cond_true]
  have hf : formB 3 c n g = sameCB 3 3 (uc3 c) c (eqSh (shOf (uc3 c)) (shOf c) && Nat.beq n 0) := rfl
  rw [hf]
  refine sel_of (fun e => ?_) fun e => ⟨⟨⟨by omega, by omega⟩, hc, win_sp hn hg, h100⟩, fun c1 => ⟨bytesOk_bG _ _ _ (by omega), ?_⟩⟩
  · rw [show sameCB 3 3 (uc3 c) c (eqSh (shOf (uc3 c)) (shOf c) && Nat.beq n 0) = false by simpa using e]
    rfl
  · rw [show sameCB 3 3 (uc3 c) c (eqSh (shOf (uc3 c)) (shOf c) && Nat.beq n 0) = true by simpa using e]
    rw [Bool.true_and, cond_true]
    show SV.tup [.v (.string (bif false || badB 3 c n then emp else callBs 3 c n g)), .v (.int .i64 (bif false || badB 3 c n then 3 else 0))] = _
    cases badB 3 c n <;> rfl
theorem callG_4 {c : CV} {n cap : Nat} {g : Nat → Int × Int} (hc : cvOk c) (hn : n < 1099511627776) (h100 : n < 100) (hg : ∀ i, i < n → I64 (g i).1 ∧ I64 (g i).2) : vcFn Try.prog ΓCc noΛ Try.f24 [caS 4 c (.sl 0 2 0 n cap)] (roHeap [⟨2, n, rowsP g⟩]) 64 (fun y _ => y = .tup [strS (callT 4 c n g), iV (callE 4 c n g)]) := by
  refine Eq.mpr (vcCallG4 c n n cap g _) ⟨win_sp hn hg, pre_rows hn hg, ?_⟩
  rw [win_gX, win_gY]
  have hk : kindOk 4 = true := rfl
  have hkn := kN_le 4 n h100
  unfold callT callE
  rw [hk, Bool.true_and, cond_true]
  have hf : formB 4 c n g = sameCB 4 4 (uc4 c) c (eqSh (shOf (uc4 c)) (shOf c) && Nat.beq n 0) := rfl
  rw [hf]
  refine sel_of (fun e => ?_) fun e => ⟨⟨⟨by omega, by omega⟩, hc, win_sp hn hg, h100⟩, fun c1 => ⟨bytesOk_bG _ _ _ (by omega), ?_⟩⟩
  · rw [show sameCB 4 4 (uc4 c) c (eqSh (shOf (uc4 c)) (shOf c) && Nat.beq n 0) = false by simpa using e]
    rfl
  · rw [show sameCB 4 4 (uc4 c) c (eqSh (shOf (uc4 c)) (shOf c) && Nat.beq n 0) = true by simpa using e]
    rw [Bool.true_and, cond_true]
    show SV.tup [.v (.string (bif false || badB 4 c n then emp else callBs 4 c n g)), .v (.int .i64 (bif false || badB 4 c n then 3 else 0))] = _
    cases badB 4 c n <;> rfl
theorem callG_5 {c : CV} {n cap : Nat} {g : Nat → Int × Int} (hc : cvOk c) (hn : n < 1099511627776) (h100 : n < 100) (hg : ∀ i, i < n → I64 (g i).1 ∧ I64 (g i).2) : vcFn Try.prog ΓCc noΛ Try.f24 [caS 5 c (.sl 0 2 0 n cap)] (roHeap [⟨2, n, rowsP g⟩]) 64 (fun y _ => y = .tup [strS (callT 5 c n g), iV (callE 5 c n g)]) := by
  refine Eq.mpr (vcCallG5 c n n cap g _) ⟨win_sp hn hg, pre_rows hn hg, ?_⟩
  rw [win_gX, win_gY]
  have hk : kindOk 5 = true := rfl
  have hkn := kN_le 5 n h100
  unfold callT callE
  rw [hk, Bool.true_and, cond_true]
  have hf : formB 5 c n g = sameCB 5 5 (uc5 c) c (eqSh (shOf (uc5 c)) (shOf c) && Nat.beq n 0) := rfl
  rw [hf]
  refine sel_of (fun e => ?_) fun e => ⟨⟨⟨by omega, by omega⟩, hc, win_sp hn hg, h100⟩, fun c1 => ⟨bytesOk_bG _ _ _ (by omega), ?_⟩⟩
  · rw [show sameCB 5 5 (uc5 c) c (eqSh (shOf (uc5 c)) (shOf c) && Nat.beq n 0) = false by simpa using e]
    rfl
  · rw [show sameCB 5 5 (uc5 c) c (eqSh (shOf (uc5 c)) (shOf c) && Nat.beq n 0) = true by simpa using e]
    rw [Bool.true_and, cond_true]
    show SV.tup [.v (.string (bif false || badB 5 c n then emp else callBs 5 c n g)), .v (.int .i64 (bif false || badB 5 c n then 3 else 0))] = _
    cases badB 5 c n <;> rfl
theorem callG_6 {c : CV} {n cap : Nat} {g : Nat → Int × Int} (hc : cvOk c) (hn : n < 1099511627776) (h100 : n < 100) (hg : ∀ i, i < n → I64 (g i).1 ∧ I64 (g i).2) : vcFn Try.prog ΓCc noΛ Try.f24 [caS 6 c (.sl 0 2 0 n cap)] (roHeap [⟨2, n, rowsP g⟩]) 64 (fun y _ => y = .tup [strS (callT 6 c n g), iV (callE 6 c n g)]) := by
  refine Eq.mpr (vcCallG6 c n n cap g _) ⟨win_sp hn hg, pre_rows hn hg, ?_⟩
  rw [win_gX, win_gY]
  have hk : kindOk 6 = true := rfl
  have hkn := kN_le 6 n h100
  unfold callT callE
  rw [hk, Bool.true_and, cond_true]
  have hf : formB 6 c n g = sameCB 6 6 (uc6 c) c (eqSh (shOf (uc6 c)) (shOf c) && Nat.beq n 0) := rfl
  rw [hf]
  refine sel_of (fun e => ?_) fun e => ⟨⟨⟨by omega, by omega⟩, hc, win_sp hn hg, h100⟩, fun c1 => ⟨bytesOk_bG _ _ _ (by omega), ?_⟩⟩
  · rw [show sameCB 6 6 (uc6 c) c (eqSh (shOf (uc6 c)) (shOf c) && Nat.beq n 0) = false by simpa using e]
    rfl
  · rw [show sameCB 6 6 (uc6 c) c (eqSh (shOf (uc6 c)) (shOf c) && Nat.beq n 0) = true by simpa using e]
    rw [Bool.true_and, cond_true]
    show SV.tup [.v (.string (bif false || badB 6 c n then emp else callBs 6 c n g)), .v (.int .i64 (bif false || badB 6 c n then 3 else 0))] = _
    cases badB 6 c n <;> rfl
theorem callG_7 {c : CV} {n cap : Nat} {g : Nat → Int × Int} (hc : cvOk c) (hn : n < 1099511627776) (h100 : n < 100) (hg : ∀ i, i < n → I64 (g i).1 ∧ I64 (g i).2) : vcFn Try.prog ΓCc noΛ Try.f24 [caS 7 c (.sl 0 2 0 n cap)] (roHeap [⟨2, n, rowsP g⟩]) 64 (fun y _ => y = .tup [strS (callT 7 c n g), iV (callE 7 c n g)]) := by
  refine Eq.mpr (vcCallG7 c n n cap g _) ⟨win_sp hn hg, pre_rows hn hg, ?_⟩
  rw [win_gX, win_gY]
  have hk : kindOk 7 = true := rfl
  have hkn := kN_le 7 n h100
  unfold callT callE
  rw [hk, Bool.true_and, cond_true]
  have hf : formB 7 c n g = sameCB 7 7 (uc7 c) c (eqSh (shOf (uc7 c)) (shOf c) && Nat.beq n 0) := rfl
  rw [hf]
  refine sel_of (fun e => ?_) fun e => ⟨⟨⟨by omega, by omega⟩, hc, win_sp hn hg, h100⟩, fun c1 => ⟨bytesOk_bG _ _ _ (by omega), ?_⟩⟩
  · rw [show sameCB 7 7 (uc7 c) c (eqSh (shOf (uc7 c)) (shOf c) && Nat.beq n 0) = false by simpa using e]
    rfl
  · rw [show sameCB 7 7 (uc7 c) c (eqSh (shOf (uc7 c)) (shOf c) && Nat.beq n 0) = true by simpa using e]
    rw [Bool.true_and, cond_true]
    show SV.tup [.v (.string (bif false || badB 7 c n then emp else callBs 7 c n g)), .v (.int .i64 (bif false || badB 7 c n then 3 else 0))] = _
    cases badB 7 c n <;> rfl
theorem callG_8 {c : CV} {n cap : Nat} {g : Nat → Int × Int} (hc : cvOk c) (hn : n < 1099511627776) (h100 : n < 100) (hg : ∀ i, i < n → I64 (g i).1 ∧ I64 (g i).2) : vcFn Try.prog ΓCc noΛ Try.f24 [caS 8 c (.sl 0 2 0 n cap)] (roHeap [⟨2, n, rowsP g⟩]) 64 (fun y _ => y = .tup [strS (callT 8 c n g), iV (callE 8 c n g)]) := by
  refine Eq.mpr (vcCallG8 c n n cap g _) ⟨win_sp hn hg, pre_rows hn hg, ?_⟩
  rw [win_gX, win_gY]
  have hk : kindOk 8 = true := rfl
  have hkn := kN_le 8 n h100
  unfold callT callE
  rw [hk, Bool.true_and, cond_true]
  have hf : formB 8 c n g = sameCB 8 8 (uc8 c) c (eqSh (shOf (uc8 c)) (shOf c) && Nat.beq n 0) := rfl
  rw [hf]
  refine sel_of (fun e => ?_) fun e => ⟨⟨⟨by omega, by omega⟩, hc, win_sp hn hg, h100⟩, fun c1 => ⟨bytesOk_bG _ _ _ (by omega), ?_⟩⟩
  · rw [show sameCB 8 8 (uc8 c) c (eqSh (shOf (uc8 c)) (shOf c) && Nat.beq n 0) = false by simpa using e]
    rfl
  · rw [show sameCB 8 8 (uc8 c) c (eqSh (shOf (uc8 c)) (shOf c) && Nat.beq n 0) = true by simpa using e]
    rw [Bool.true_and, cond_true]
    show SV.tup [.v (.string (bif false || badB 8 c n then emp else callBs 8 c n g)), .v (.int .i64 (bif false || badB 8 c n then 3 else 0))] = _
    cases badB 8 c n <;> rfl
theorem callG_9 {c : CV} {n cap : Nat} {g : Nat → Int × Int} (hc : cvOk c) (hn : n < 1099511627776) (h100 : n < 100) (hg : ∀ i, i < n → I64 (g i).1 ∧ I64 (g i).2) : vcFn Try.prog ΓCc noΛ Try.f24 [caS 9 c (.sl 0 2 0 n cap)] (roHeap [⟨2, n, rowsP g⟩]) 64 (fun y _ => y = .tup [strS (callT 9 c n g), iV (callE 9 c n g)]) := by
  refine Eq.mpr (vcCallG9 c n n cap g _) ⟨win_sp hn hg, pre_rows hn hg, ?_⟩
  rw [win_gX, win_gY]
  have hk : kindOk 9 = true := rfl
  have hkn := kN_le 9 n h100
  unfold callT callE
  rw [hk, Bool.true_and, cond_true]
  have hf : formB 9 c n g = sameCB 9 9 (uc9 c) c (eqSh (shOf (uc9 c)) (shOf c) && Nat.beq n 0) := rfl
  rw [hf]
  refine sel_of (fun e => ?_) fun e => ⟨⟨⟨by omega, by omega⟩, hc, win_sp hn hg, h100⟩, fun c1 => ⟨bytesOk_bG _ _ _ (by omega), ?_⟩⟩
  · rw [show sameCB 9 9 (uc9 c) c (eqSh (shOf (uc9 c)) (shOf c) && Nat.beq n 0) = false by simpa using e]
    rfl
  · rw [show sameCB 9 9 (uc9 c) c (eqSh (shOf (uc9 c)) (shOf c) && Nat.beq n 0) = true by simpa using e]
    rw [Bool.true_and, cond_true]
    show SV.tup [.v (.string (bif false || badB 9 c n then emp else callBs 9 c n g)), .v (.int .i64 (bif false || badB 9 c n then 3 else 0))] = _
    cases badB 9 c n <;> rfl
theorem callG_10 {c : CV} {n cap : Nat} {g : Nat → Int × Int} (hc : cvOk c) (hn : n < 1099511627776) (h100 : n < 100) (hg : ∀ i, i < n → I64 (g i).1 ∧ I64 (g i).2) : vcFn Try.prog ΓCc noΛ Try.f24 [caS 10 c (.sl 0 2 0 n cap)] (roHeap [⟨2, n, rowsP g⟩]) 64 (fun y _ => y = .tup [strS (callT 10 c n g), iV (callE 10 c n g)]) := by
  refine Eq.mpr (vcCallG10 c n n cap g _) ⟨win_sp hn hg, pre_rows hn hg, ?_⟩
  rw [win_gX, win_gY]
  have hk : kindOk 10 = true := rfl
  have hkn := kN_le 10 n h100
  unfold callT callE
  rw [hk, Bool.true_and, cond_true]
  have hf : formB 10 c n g = sameCB 10 10 (uc10 c) c (eqSh (shOf (uc10 c)) (shOf c) && Nat.beq n 0) := rfl
  rw [hf]
  refine sel_of (fun e => ?_) fun e => ⟨⟨⟨by omega, by omega⟩, hc, win_sp hn hg, h100⟩, fun c1 => ⟨bytesOk_bG _ _ _ (by omega), ?_⟩⟩
  · rw [show sameCB 10 10 (uc10 c) c (eqSh (shOf (uc10 c)) (shOf c) && Nat.beq n 0) = false by simpa using e]
    rfl
  · rw [show sameCB 10 10 (uc10 c) c (eqSh (shOf (uc10 c)) (shOf c) && Nat.beq n 0) = true by simpa using e]
    rw [Bool.true_and, cond_true]
    show SV.tup [.v (.string (bif false || badB 10 c n then emp else callBs 10 c n g)), .v (.int .i64 (bif false || badB 10 c n then 3 else 0))] = _
    cases badB 10 c n <;> rfl
theorem callG_O {k : Int} {c : CV} {n cap : Nat} {g : Nat → Int × Int} (hk : k < 1 ∨ 10 < k) (hn : n < 1099511627776) (hg : ∀ i, i < n → I64 (g i).1 ∧ I64 (g i).2) : vcFn Try.prog ΓCo noΛ Try.f24 [caS k c (.sl 0 2 0 n cap)] (roHeap [⟨2, n, rowsP g⟩]) 64 (fun y _ => y = .tup [strS (callT k c n g), iV (callE k c n g)]) := by
  refine Eq.mpr (vcCallGO k c n n cap g _) ⟨⟨win_sp hn hg, hk⟩, ?_⟩
  have h : kindOk k = false := by
    unfold kindOk
    rw [Bool.and_eq_false_iff]
    rcases hk with h | h
    · exact .inl (decide_eq_false (by omega))
    · exact .inr (decide_eq_false (by omega))
  unfold callT callE
  rw [h]
  rfl
def sCallPart (w : Bool) : List SV → List Ro → Option (Option Prop × SV)
  | [.agg l], rs => match cellsOf l, rs with
    | some (k, c, .sl 0 2 0 n _), [⟨2, n', row⟩] => bif (kindOk k == w) then some (some (calPre k c n n' row), .tup [strS (callT k c n fun i => gi (row i)), iV (callE k c n fun i => gi (row i))]) else none
    | _, _ => none
  | _, _ => none
theorem CallIn_spec : RoSpec Try.prog 24 (sCallPart true) := ro_spec hm ΓCc_ok Try.func24 (Λ := fun _ _ => noΛ) fun args bs p x hs hp => by
  unfold sCallPart at hs
  split at hs
  · rename_i l
    split at hs
    · rename_i k c n cap n' row hl
      obtain ⟨hk, hs⟩ := bif_some2' hs
      have hs := Option.some.inj hs
      obtain ⟨rfl, rfl⟩ := Prod.mk.inj hs
      obtain ⟨⟨h0, rfl, hn⟩, hc, hki, h100⟩ := hp _ rfl
      have h0 := okAll_rows.1 h0
      refine ⟨rfl, [⟨2, n', rowsP fun i => gi (row i)⟩], ⟨⟨rfl, rfl, fun i hi => (isPI_row (h0 i hi)).1⟩, trivial⟩, ?_⟩
      rw [cells_eq hl]
      have hg : ∀ i, i < n' → I64 ((fun i => gi (row i)) i).1 ∧ I64 ((fun i => gi (row i)) i).2 := fun i hi => (isPI_row (h0 i hi)).2
      have hk1 : kindOk k = true := by simpa using hk
      unfold kindOk at hk1
      rw [Bool.and_eq_true] at hk1
      rcases ten ⟨of_decide_eq_true hk1.1, of_decide_eq_true hk1.2⟩ with rfl | rfl | rfl | rfl | rfl | rfl | rfl | rfl | rfl | rfl
      · exact callG_1 hc hn h100 hg
      · exact callG_2 hc hn h100 hg
      · exact callG_3 hc hn h100 hg
      · exact callG_4 hc hn h100 hg
      · exact callG_5 hc hn h100 hg
      · exact callG_6 hc hn h100 hg
      · exact callG_7 hc hn h100 hg
      · exact callG_8 hc hn h100 hg
      · exact callG_9 hc hn h100 hg
      · exact callG_10 hc hn h100 hg
    · cases hs
  · cases hs
theorem CallOut_spec : RoSpec Try.prog 24 (sCallPart false) := ro_spec hm ΓCo_ok Try.func24 (Λ := fun _ _ => noΛ) fun args bs p x hs hp => by
  unfold sCallPart at hs
  split at hs
  · rename_i l
    split at hs
    · rename_i k c n cap n' row hl
      obtain ⟨hk, hs⟩ := bif_some2' hs
      have hs := Option.some.inj hs
      obtain ⟨rfl, rfl⟩ := Prod.mk.inj hs
      obtain ⟨⟨h0, rfl, hn⟩, hc, hki, h100⟩ := hp _ rfl
      have h0 := okAll_rows.1 h0
      refine ⟨rfl, [⟨2, n', rowsP fun i => gi (row i)⟩], ⟨⟨rfl, rfl, fun i hi => (isPI_row (h0 i hi)).1⟩, trivial⟩, ?_⟩
      rw [cells_eq hl]
      have hk1 : kindOk k = false := by simpa using hk
      unfold kindOk at hk1
      rw [Bool.and_eq_false_iff] at hk1
      refine callG_O ?_ hn fun i hi => (isPI_row (h0 i hi)).2
      rcases hk1 with h | h
      · exact .inl (by have := of_decide_eq_false h; omega)
      · exact .inr (by have := of_decide_eq_false h; omega)
    · cases hs
  · cases hs
theorem ro_split {f : FuncId} {s : List SV → List Ro → Option (Option Prop × SV)} {s1 s2 : List SV → List Ro → Option (Option Prop × SV)} (h1 : RoSpec Try.prog f s1) (h2 : RoSpec Try.prog f s2) (h : ∀ args rs, s args rs = s1 args rs ∨ s args rs = s2 args rs) : RoSpec Try.prog f s := fun args bs e hs => by
  unfold roSpec at hs
  cases hr : roOf bs with
  | none => rw [hr] at hs; cases hs
  | some rs =>
    rw [hr] at hs
    rcases h args rs with e1 | e1
    · exact h1 args bs e (by unfold roSpec; rw [hr]; simp only; rw [← e1]; exact hs)
    · exact h2 args bs e (by unfold roSpec; rw [hr]; simp only; rw [← e1]; exact hs)
theorem CallA_spec : RoSpec Try.prog 24 sCallG := ro_split CallIn_spec CallOut_spec fun args rs => by
  unfold sCallG sCallPart
  split
  · split
    · rename_i k c n cap n' row hl
      cases kindOk k
      · exact .inr rfl
      · exact .inl rfl
    · exact .inl rfl
  · exact .inl rfl
theorem ΓCk_ok : ∀ f g, ΓCk f = some g → g.ok Try.prog f := addCtr_ok noCtrs_ok (ro_ok Try.func24 (by kernel_rfl) (by kernel_rfl) CallA_spec)
theorem CheckA_spec : RoSpec Try.prog 28 sCheckG := ro_spec hm ΓCk_ok Try.func28 (Λ := fun _ _ => noΛ) fun args bs p x hs hp => by
  unfold sCheckG at hs
  split at hs
  · rename_i l
    split at hs
    · rename_i k c n cap n' row hl
      have hs := Option.some.inj hs
      obtain ⟨rfl, rfl⟩ := Prod.mk.inj hs
      obtain ⟨⟨h0, rfl, hn⟩, hc, hki, h100⟩ := hp _ rfl
      have h0 := okAll_rows.1 h0
      refine ⟨rfl, [⟨2, n', rowsP fun i => gi (row i)⟩], ⟨⟨rfl, rfl, fun i hi => (isPI_row (h0 i hi)).1⟩, trivial⟩, ?_⟩
      rw [cells_eq hl]
      refine Eq.mpr (vcCheckG k c n' n' cap (fun i => gi (row i)) _) ⟨⟨pre_rows hn fun i hi => (isPI_row (h0 i hi)).2, hc, hki, h100⟩, ?_⟩
      show SV.v (.int .i64 (callE k c n' fun i => gi (row (0 + i)))) = _
      simp only [Nat.zero_add]
      rfl
    · cases hs
  · cases hs
end Go.Proofs.Ytjdldadmaaeimaa
end

section
set_option maxRecDepth 100000
set_option linter.unusedSimpArgs false
set_option linter.unusedVariables false
namespace Go.Proofs.Ytjdldadmaaeimaa
open Go.SE Go.RowKit

def aI : At := ⟨8, fun _ => false, 4⟩
def aC : At := ⟨4, fun v => decide (2147483647 < v), 4⟩
def aV : At := ⟨8, fun v => decide (1099511627776 < v), 4⟩
def aF : At := ⟨1, fun v => decide (1 < v), 4⟩
def aS : At := ⟨1, fun v => decide (255 < v), 4⟩
def aN : At := ⟨1, fun v => decide (8 < v), 4⟩
def aM : At := ⟨8, fun v => IntKind.i64.wrap v == -9223372036854775808, 4⟩
def aKd (low : Int) : At := ⟨1, fun v => !(decide (low ≤ v) && decide (v ≤ 10)), 8⟩
def flN (b : Bool) : Int := bif b then 1 else 0
def spA : Nat → List At
  | 0 => []
  | n + 1 => spA n ++ [aI, aI]
def spVs (g : Nat → Int × Int) : Nat → List Int
  | 0 => []
  | n + 1 => spVs g n ++ [(g n).1 % 18446744073709551616, (g n).2 % 18446744073709551616]
def at1 (n : Nat) : List At := [aS, aI, aI, aI, aN] ++ (spA n ++ [aM, aF, aM, aF, aM, aF, aM, aF, aM, aF, aM, aF, aM, aF, aI, aF])
def vs1 (c : CV) (n : Nat) (g : Nat → Int × Int) : List Int := [c.sk, c.sr % 18446744073709551616, c.sw % 18446744073709551616, c.sh % 18446744073709551616, (n : Int)] ++ (spVs g n ++ [c.p0v % 18446744073709551616, flN c.p0f, c.p1v % 18446744073709551616, flN c.p1f, c.p2v % 18446744073709551616, flN c.p2f, c.p3v % 18446744073709551616, flN c.p3f, c.v0v % 18446744073709551616, flN c.v0f, c.v1v % 18446744073709551616, flN c.v1f, c.w0v % 18446744073709551616, flN c.w0f, c.dn % 18446744073709551616, flN c.mv])
def at2 (n : Nat) : List At := [aC, aC, aV]
def vs2 (c : CV) (n : Nat) (g : Nat → Int × Int) : List Int := [c.bs % 4294967296, c.bg % 4294967296, c.ver % 18446744073709551616]
def at3 (n : Nat) : List At := [aC, aC, aV, aM, aF, aM, aF, aM, aF, aM, aF]
def vs3 (c : CV) (n : Nat) (g : Nat → Int × Int) : List Int := [c.bs % 4294967296, c.bg % 4294967296, c.ver % 18446744073709551616, c.a0v % 18446744073709551616, flN c.a0f, c.a1v % 18446744073709551616, flN c.a1f, c.t0v % 18446744073709551616, flN c.t0f, c.t1v % 18446744073709551616, flN c.t1f]
def at4 (n : Nat) : List At := [aC, aC, aV, aM, aF, aM, aF]
def vs4 (c : CV) (n : Nat) (g : Nat → Int × Int) : List Int := [c.bs % 4294967296, c.bg % 4294967296, c.ver % 18446744073709551616, c.a0v % 18446744073709551616, flN c.a0f, c.a1v % 18446744073709551616, flN c.a1f]
def at5 (n : Nat) : List At := [aC, aM, aF, aM, aF]
def vs5 (c : CV) (n : Nat) (g : Nat → Int × Int) : List Int := [c.gr % 4294967296, c.t0v % 18446744073709551616, flN c.t0f, c.t1v % 18446744073709551616, flN c.t1f]
def at6 (n : Nat) : List At := [aC]
def vs6 (c : CV) (n : Nat) (g : Nat → Int × Int) : List Int := [c.gr % 4294967296]
def at7 (n : Nat) : List At := [aC, aC]
def vs7 (c : CV) (n : Nat) (g : Nat → Int × Int) : List Int := [c.bs % 4294967296, c.bg % 4294967296]
def at8 (n : Nat) : List At := [aI, aI, aI, aI]
def vs8 (c : CV) (n : Nat) (g : Nat → Int × Int) : List Int := [c.b0 % 18446744073709551616, c.b1 % 18446744073709551616, c.b2 % 18446744073709551616, c.b3 % 18446744073709551616]
def at9 (n : Nat) : List At := [aI, aI, aI, aI]
def vs9 (c : CV) (n : Nat) (g : Nat → Int × Int) : List Int := [c.f0 % 18446744073709551616, c.f1 % 18446744073709551616, c.u0 % 18446744073709551616, c.u1 % 18446744073709551616]
def at10 (n : Nat) : List At := []
def vs10 (c : CV) (n : Nat) (g : Nat → Int × Int) : List Int := []
def atK (k : Int) (n : Nat) : List At := bif k == 1 then at1 n else (bif k == 2 then at2 n else (bif k == 3 then at3 n else (bif k == 4 then at4 n else (bif k == 5 then at5 n else (bif k == 6 then at6 n else (bif k == 7 then at7 n else (bif k == 8 then at8 n else (bif k == 9 then at9 n else (at10 n)))))))))
def vsK (k : Int) (c : CV) (n : Nat) (g : Nat → Int × Int) : List Int := bif k == 1 then vs1 c n g else (bif k == 2 then vs2 c n g else (bif k == 3 then vs3 c n g else (bif k == 4 then vs4 c n g else (bif k == 5 then vs5 c n g else (bif k == 6 then vs6 c n g else (bif k == 7 then vs7 c n g else (bif k == 8 then vs8 c n g else (bif k == 9 then vs9 c n g else (vs10 c n g)))))))))
def atC (k : Int) (n : Nat) : List At := aKd 1 :: aC :: atK k n
def vsC (k : Int) (c : CV) (n : Nat) (g : Nat → Int × Int) : List Int := k :: c.id % 4294967296 :: vsK k c n g
theorem be1 (v : Int) : be v 1 = [v % 256] := by rw [be_snoc]; rfl
theorem flN_be (f : Bool) : flB f = be (flN f) 1 := by rw [be1]; cases f <;> rfl
theorem spt_run {s : ByteArray} {k : Int} : ∀ {n : Nat} {F : Int → Pz}, (sptP s k n).seq (F (k + 16 * (n : Int))) = runA s F k (spA n)
  | 0, F => by
    rw [show k + 16 * ((0 : Nat) : Int) = k by omega]
    rfl
  | n + 1, F => by
    simp only [sptP, spA]
    rw [seq_assoc, runA_app, ← spt_run (n := n) (F := fun k' => runA s F k' [aI, aI])]
    show _ = (sptP s k n).seq ((tkP s (k + 16 * (n : Int)) 8).seq ((tkP s (k + 16 * (n : Int) + 8) 8).seq (F (k + 16 * (n : Int) + 8 + 8))))
    unfold spP
    rw [seq_assoc, show k + 16 * ((n + 1 : Nat) : Int) = k + 16 * (n : Int) + 8 + 8 by omega]
theorem sh_run {s : ByteArray} {k : Int} {F : Int → Pz} : (shP s k).seq (F (shEnd s k)) = runA s F k ([aS, aI, aI, aI, aN] ++ spA (shC s k)) := by
  rw [runA_app]
  unfold shP upP
  simp only [seq_assoc]
  unfold shEnd
  rw [spt_run (n := shC s k) (F := F)]
  rfl
theorem spA_len : ∀ n : Nat, atL (spA n) = 16 * n
  | 0 => rfl
  | n + 1 => by
    simp only [spA]
    rw [atL_app, spA_len n]
    show 16 * n + 16 = _
    omega
theorem spA_length : ∀ n : Nat, (spA n).length = 2 * n
  | 0 => rfl
  | n + 1 => by simp only [spA, List.length_append, spA_length n, List.length_cons, List.length_nil]; omega
theorem spVs_length (g : Nat → Int × Int) : ∀ n : Nat, (spVs g n).length = 2 * n
  | 0 => rfl
  | n + 1 => by simp only [spVs, List.length_append, spVs_length g n, List.length_cons, List.length_nil]; omega
theorem spots_enc (g : Nat → Int × Int) : ∀ n : Nat, spotsL (fun i => (g i).1) (fun i => (g i).2) n = enc (spA n) (spVs g n)
  | 0 => rfl
  | n + 1 => by
    simp only [spotsL, spA, spVs]
    rw [enc_app (by rw [spVs_length, spA_length]), spots_enc g n]
    simp only [enc, List.append_nil]
    rfl
theorem spots_vok (g : Nat → Int × Int) : ∀ n : Nat, vok (spA n) (spVs g n)
  | 0 => trivial
  | n + 1 => by
    simp only [spA, spVs]
    rw [vok_app (by rw [spVs_length, spA_length])]
    refine ⟨spots_vok g n, ⟨⟨Int.emod_nonneg _ (by decide), Int.emod_lt_of_pos _ (by decide)⟩, rfl⟩, ⟨⟨Int.emod_nonneg _ (by decide), Int.emod_lt_of_pos _ (by decide)⟩, rfl⟩, trivial⟩
theorem wrap_mod {x : Int} (h : I64 x) : IntKind.i64.wrap (x % 18446744073709551616) = x := by
  obtain ⟨h1, h2⟩ := h
  rw [wrap_i64e]
  omega
theorem mod_wrap {x : Int} (h0 : 0 ≤ x) (h1 : x < 18446744073709551616) : IntKind.i64.wrap x % 18446744073709551616 = x := by
  rw [wrap_i64e]
  omega
theorem fC {r x : Int} (h : r = x % 4294967296) (hx : 0 ≤ x ∧ x ≤ 2147483647) : r = x := by omega
theorem fV {r x : Int} (h : r = x % 18446744073709551616) (hx : 0 ≤ x ∧ x ≤ 1099511627776) : r = x := by omega
theorem fI {s : ByteArray} {p x : Int} (h : rdT s p 8 = x % 18446744073709551616) (hx : I64 x) : rdI s p = x := by rw [rdI_eq, h, wrap_mod hx]
theorem fF {s : ByteArray} {p : Int} {f : Bool} (h : rdT s p 1 = flN f) : rdF s p = f := by
  unfold rdF
  rw [h]
  cases f <;> rfl
theorem gC {r : Int} (h0 : 0 ≤ r) (h1 : decide (2147483647 < r) = false) : r % 4294967296 = r := by
  have := of_decide_eq_false h1
  omega
theorem gV {r : Int} (h0 : 0 ≤ r) (h1 : decide (1099511627776 < r) = false) : r % 18446744073709551616 = r := by
  have := of_decide_eq_false h1
  omega
theorem gI' {s : ByteArray} {p : Int} : rdI s p % 18446744073709551616 = rdT s p 8 := by
  have h := rdT_rng s p 8
  rw [rdI_eq]
  exact mod_wrap h.1 h.2
theorem gF {s : ByteArray} {p : Int} (h1 : decide (1 < rdT s p 1) = false) : flN (rdF s p) = rdT s p 1 := by
  have h := rdT_rng s p 1
  have h1 := of_decide_eq_false h1
  unfold rdF flN
  by_cases h2 : rdT s p 1 = 1
  · rw [h2]; rfl
  · rw [show (rdT s p 1 == 1) = false by simpa using h2]
    show 0 = _
    omega
theorem cP1_run (s : ByteArray) : cP1 s 0 = runA s (enP s) (0 + 1 + 4) (at1 (shC s (0 + 1 + 4))) := by
  have e : ∀ e : Int, (psP s (e)).seq ((vcP s (e + 8 + 1 + 8 + 1 + 8 + 1 + 8 + 1)).seq ((nuP s (e + 8 + 1 + 8 + 1 + 8 + 1 + 8 + 1 + 8 + 1 + 8 + 1)).seq ((tkP s (e + 8 + 1 + 8 + 1 + 8 + 1 + 8 + 1 + 8 + 1 + 8 + 1 + 8 + 1) 8).seq ((upP s (e + 8 + 1 + 8 + 1 + 8 + 1 + 8 + 1 + 8 + 1 + 8 + 1 + 8 + 1 + 8) 1 1).seq (enP s (e + 8 + 1 + 8 + 1 + 8 + 1 + 8 + 1 + 8 + 1 + 8 + 1 + 8 + 1 + 8 + 1)))))) = runA s (enP s) e [aM, aF, aM, aF, aM, aF, aM, aF, aM, aF, aM, aF, aM, aF, aI, aF] := fun e => by
    unfold psP vcP nuP upP
    simp only [seq_assoc, rdI_eq]
    rfl
  unfold cP1 at1
  rw [← List.append_assoc, runA_app, ← sh_run (F := fun e => runA s (enP s) e [aM, aF, aM, aF, aM, aF, aM, aF, aM, aF, aM, aF, aM, aF, aI, aF]), ← e]
theorem cP2_run (s : ByteArray) (n : Nat) : cP2 s 0 = runA s (enP s) (0 + 1 + 4) (at2 n) := by
  unfold cP2 at2
  try unfold haP
  try unfold vcP
  try unfold spP
  try unfold nuP
  try unfold upP
  try simp only [seq_assoc]
  try simp only [rdI_eq]
  rfl
theorem cP3_run (s : ByteArray) (n : Nat) : cP3 s 0 = runA s (enP s) (0 + 1 + 4) (at3 n) := by
  unfold cP3 at3
  try unfold haP
  try unfold vcP
  try unfold spP
  try unfold nuP
  try unfold upP
  try simp only [seq_assoc]
  try simp only [rdI_eq]
  rfl
theorem cP4_run (s : ByteArray) (n : Nat) : cP4 s 0 = runA s (enP s) (0 + 1 + 4) (at4 n) := by
  unfold cP4 at4
  try unfold haP
  try unfold vcP
  try unfold spP
  try unfold nuP
  try unfold upP
  try simp only [seq_assoc]
  try simp only [rdI_eq]
  rfl
theorem cP5_run (s : ByteArray) (n : Nat) : cP5 s 0 = runA s (enP s) (0 + 1 + 4) (at5 n) := by
  unfold cP5 at5
  try unfold haP
  try unfold vcP
  try unfold spP
  try unfold nuP
  try unfold upP
  try simp only [seq_assoc]
  try simp only [rdI_eq]
  rfl
theorem cP6_run (s : ByteArray) (n : Nat) : cP6 s 0 = runA s (enP s) (0 + 1 + 4) (at6 n) := by
  unfold cP6 at6
  try unfold haP
  try unfold vcP
  try unfold spP
  try unfold nuP
  try unfold upP
  try simp only [seq_assoc]
  try simp only [rdI_eq]
  rfl
theorem cP7_run (s : ByteArray) (n : Nat) : cP7 s 0 = runA s (enP s) (0 + 1 + 4) (at7 n) := by
  unfold cP7 at7
  try unfold haP
  try unfold vcP
  try unfold spP
  try unfold nuP
  try unfold upP
  try simp only [seq_assoc]
  try simp only [rdI_eq]
  rfl
theorem cP8_run (s : ByteArray) (n : Nat) : cP8 s 0 = runA s (enP s) (0 + 1 + 4) (at8 n) := by
  unfold cP8 at8
  try unfold haP
  try unfold vcP
  try unfold spP
  try unfold nuP
  try unfold upP
  try simp only [seq_assoc]
  try simp only [rdI_eq]
  rfl
theorem cP9_run (s : ByteArray) (n : Nat) : cP9 s 0 = runA s (enP s) (0 + 1 + 4) (at9 n) := by
  unfold cP9 at9
  try unfold haP
  try unfold vcP
  try unfold spP
  try unfold nuP
  try unfold upP
  try simp only [seq_assoc]
  try simp only [rdI_eq]
  rfl
theorem cP10_run (s : ByteArray) (n : Nat) : cP10 s 0 = runA s (enP s) (0 + 1 + 4) (at10 n) := by
  unfold cP10 at10
  try unfold haP
  try unfold vcP
  try unfold spP
  try unfold nuP
  try unfold upP
  try simp only [seq_assoc]
  try simp only [rdI_eq]
  rfl
theorem caP_run {s : ByteArray} (h1 : 1 ≤ rdT s 0 1) (h2 : rdT s 0 1 ≤ 10) : caP s 0 = runA s (enP s) 0 (atC (rdT s 0 1) (caN s 0)) := by
  have e : caR s 0 = runA s (enP s) (0 + 1 + 4) (atK (rdT s 0 1) (caN s 0)) := by
    have hk : rdT s 0 1 = 1 ∨ rdT s 0 1 = 2 ∨ rdT s 0 1 = 3 ∨ rdT s 0 1 = 4 ∨ rdT s 0 1 = 5 ∨ rdT s 0 1 = 6 ∨ rdT s 0 1 = 7 ∨ rdT s 0 1 = 8 ∨ rdT s 0 1 = 9 ∨ rdT s 0 1 = 10 := by omega
    unfold caR caN atK
    rcases hk with h | h | h | h | h | h | h | h | h | h <;> rw [h]
    · exact cP1_run s
    · exact cP2_run s 0
    · exact cP3_run s 0
    · exact cP4_run s 0
    · exact cP5_run s 0
    · exact cP6_run s 0
    · exact cP7_run s 0
    · exact cP8_run s 0
    · exact cP9_run s 0
    · exact cP10_run s 0
  unfold caP kiP upP atC
  simp only [seq_assoc, runA]
  rw [e]
  rfl
end Go.Proofs.Ytjdldadmaaeimaa
end

section
set_option maxRecDepth 100000
set_option linter.unusedSimpArgs false
set_option linter.unusedVariables false
namespace Go.Proofs.Ytjdldadmaaeimaa
open Go.SE Go.RowKit

theorem caT1_len (c : CV) (n : Nat) (x y : Nat → Int) : (caT1 c n x y).length = caN1 n := by
  unfold caT1 caN1
  first | rfl | (simp only [List.length_append, hLl, i8l, c4l, vLl, aLl, tLl, poLl, shLl, numl, vecl, List.length_cons, List.length_nil, flB_len]; done) | (simp only [List.length_append, hLl, i8l, c4l, vLl, aLl, tLl, poLl, shLl, numl, vecl, List.length_cons, List.length_nil, flB_len]; omega)
theorem caT2_len (c : CV) (n : Nat) (x y : Nat → Int) : (caT2 c n x y).length = caN2 n := by
  unfold caT2 caN2
  first | rfl | (simp only [List.length_append, hLl, i8l, c4l, vLl, aLl, tLl, poLl, shLl, numl, vecl, List.length_cons, List.length_nil, flB_len]; done) | (simp only [List.length_append, hLl, i8l, c4l, vLl, aLl, tLl, poLl, shLl, numl, vecl, List.length_cons, List.length_nil, flB_len]; omega)
theorem caT3_len (c : CV) (n : Nat) (x y : Nat → Int) : (caT3 c n x y).length = caN3 n := by
  unfold caT3 caN3
  first | rfl | (simp only [List.length_append, hLl, i8l, c4l, vLl, aLl, tLl, poLl, shLl, numl, vecl, List.length_cons, List.length_nil, flB_len]; done) | (simp only [List.length_append, hLl, i8l, c4l, vLl, aLl, tLl, poLl, shLl, numl, vecl, List.length_cons, List.length_nil, flB_len]; omega)
theorem caT4_len (c : CV) (n : Nat) (x y : Nat → Int) : (caT4 c n x y).length = caN4 n := by
  unfold caT4 caN4
  first | rfl | (simp only [List.length_append, hLl, i8l, c4l, vLl, aLl, tLl, poLl, shLl, numl, vecl, List.length_cons, List.length_nil, flB_len]; done) | (simp only [List.length_append, hLl, i8l, c4l, vLl, aLl, tLl, poLl, shLl, numl, vecl, List.length_cons, List.length_nil, flB_len]; omega)
theorem caT5_len (c : CV) (n : Nat) (x y : Nat → Int) : (caT5 c n x y).length = caN5 n := by
  unfold caT5 caN5
  first | rfl | (simp only [List.length_append, hLl, i8l, c4l, vLl, aLl, tLl, poLl, shLl, numl, vecl, List.length_cons, List.length_nil, flB_len]; done) | (simp only [List.length_append, hLl, i8l, c4l, vLl, aLl, tLl, poLl, shLl, numl, vecl, List.length_cons, List.length_nil, flB_len]; omega)
theorem caT6_len (c : CV) (n : Nat) (x y : Nat → Int) : (caT6 c n x y).length = caN6 n := by
  unfold caT6 caN6
  first | rfl | (simp only [List.length_append, hLl, i8l, c4l, vLl, aLl, tLl, poLl, shLl, numl, vecl, List.length_cons, List.length_nil, flB_len]; done) | (simp only [List.length_append, hLl, i8l, c4l, vLl, aLl, tLl, poLl, shLl, numl, vecl, List.length_cons, List.length_nil, flB_len]; omega)
theorem caT7_len (c : CV) (n : Nat) (x y : Nat → Int) : (caT7 c n x y).length = caN7 n := by
  unfold caT7 caN7
  first | rfl | (simp only [List.length_append, hLl, i8l, c4l, vLl, aLl, tLl, poLl, shLl, numl, vecl, List.length_cons, List.length_nil, flB_len]; done) | (simp only [List.length_append, hLl, i8l, c4l, vLl, aLl, tLl, poLl, shLl, numl, vecl, List.length_cons, List.length_nil, flB_len]; omega)
theorem caT8_len (c : CV) (n : Nat) (x y : Nat → Int) : (caT8 c n x y).length = caN8 n := by
  unfold caT8 caN8
  first | rfl | (simp only [List.length_append, hLl, i8l, c4l, vLl, aLl, tLl, poLl, shLl, numl, vecl, List.length_cons, List.length_nil, flB_len]; done) | (simp only [List.length_append, hLl, i8l, c4l, vLl, aLl, tLl, poLl, shLl, numl, vecl, List.length_cons, List.length_nil, flB_len]; omega)
theorem caT9_len (c : CV) (n : Nat) (x y : Nat → Int) : (caT9 c n x y).length = caN9 n := by
  unfold caT9 caN9
  first | rfl | (simp only [List.length_append, hLl, i8l, c4l, vLl, aLl, tLl, poLl, shLl, numl, vecl, List.length_cons, List.length_nil, flB_len]; done) | (simp only [List.length_append, hLl, i8l, c4l, vLl, aLl, tLl, poLl, shLl, numl, vecl, List.length_cons, List.length_nil, flB_len]; omega)
theorem caT10_len (c : CV) (n : Nat) (x y : Nat → Int) : (caT10 c n x y).length = caN10 n := by
  unfold caT10 caN10
  first | rfl | (simp only [List.length_append, hLl, i8l, c4l, vLl, aLl, tLl, poLl, shLl, numl, vecl, List.length_cons, List.length_nil, flB_len]; done) | (simp only [List.length_append, hLl, i8l, c4l, vLl, aLl, tLl, poLl, shLl, numl, vecl, List.length_cons, List.length_nil, flB_len]; omega)
theorem kT_len {k : Int} (hk : 1 ≤ k ∧ k ≤ 10) (c : CV) (n : Nat) (x y : Nat → Int) : (kT k c n x y).length = kN k n := by
  rcases ten hk with rfl | rfl | rfl | rfl | rfl | rfl | rfl | rfl | rfl | rfl
  · exact caT1_len c n x y
  · exact caT2_len c n x y
  · exact caT3_len c n x y
  · exact caT4_len c n x y
  · exact caT5_len c n x y
  · exact caT6_len c n x y
  · exact caT7_len c n x y
  · exact caT8_len c n x y
  · exact caT9_len c n x y
  · exact caT10_len c n x y
theorem callBs_eq {k : Int} (hk : 1 ≤ k ∧ k ≤ 10) (c : CV) (n : Nat) (g : Nat → Int × Int) : callBs k c n g = strOfNums (caL k c (kT k c n (fun i => (g i).1) (fun i => (g i).2))) := by
  unfold callBs
  have hl : (caL k c (kT k c n (fun i => (g i).1) (fun i => (g i).2))).length = 5 + kN k n := by
    unfold caL
    simp only [List.length_append, c4l, kT_len hk, List.length_cons, List.length_nil]
    omega
  rw [strOf_lst]
  congr 1
  have := lstG_list (caL k c (kT k c n (fun i => (g i).1) (fun i => (g i).2)))
  rw [hl] at this
  exact this
theorem notIn_f {x m : Int} (h : notIn x m = false) : 0 ≤ x ∧ x ≤ m := by
  unfold notIn at h
  have h : (decide (0 ≤ x) && decide (x ≤ m)) = true := by
    cases hb : (decide (0 ≤ x) && decide (x ≤ m)) with
    | true => rfl
    | false => rw [hb] at h; cases h
  rw [Bool.and_eq_true] at h
  exact ⟨of_decide_eq_true h.1, of_decide_eq_true h.2⟩
theorem notIn_of {x m : Int} (h : 0 ≤ x ∧ x ≤ m) : notIn x m = false := by
  unfold notIn
  rw [decide_eq_true h.1, decide_eq_true h.2]
  rfl
theorem vC {x : Int} (h : notIn x 2147483647 = false) : (0 ≤ x % 4294967296 ∧ x % 4294967296 < 256 ^ aC.n) ∧ aC.bd (x % 4294967296) = false := by
  have h := notIn_f h
  have e : x % 4294967296 = x := by omega
  rw [e]
  exact ⟨⟨h.1, by show x < 4294967296; omega⟩, decide_eq_false (by omega)⟩
theorem vV {x : Int} (h : notIn x 1099511627776 = false) : (0 ≤ x % 18446744073709551616 ∧ x % 18446744073709551616 < 256 ^ aV.n) ∧ aV.bd (x % 18446744073709551616) = false := by
  have h := notIn_f h
  have e : x % 18446744073709551616 = x := by omega
  rw [e]
  exact ⟨⟨h.1, by show x < 18446744073709551616; omega⟩, decide_eq_false (by omega)⟩
theorem vI {x : Int} : (0 ≤ x % 18446744073709551616 ∧ x % 18446744073709551616 < 256 ^ aI.n) ∧ aI.bd (x % 18446744073709551616) = false :=
  ⟨⟨Int.emod_nonneg _ (by decide), Int.emod_lt_of_pos _ (by decide)⟩, rfl⟩
theorem vM {x : Int} (hx : I64 x) (h : isMin x = false) : (0 ≤ x % 18446744073709551616 ∧ x % 18446744073709551616 < 256 ^ aM.n) ∧ aM.bd (x % 18446744073709551616) = false :=
  ⟨⟨Int.emod_nonneg _ (by decide), Int.emod_lt_of_pos _ (by decide)⟩, by
    show (IntKind.i64.wrap (x % 18446744073709551616) == -9223372036854775808) = false
    rw [wrap_mod hx]
    exact h⟩
theorem vF {f : Bool} : (0 ≤ flN f ∧ flN f < 256 ^ aF.n) ∧ aF.bd (flN f) = false := by cases f <;> exact ⟨⟨by decide, by decide⟩, rfl⟩
theorem vS {x : Int} (h : notIn x 255 = false) : (0 ≤ x ∧ x < 256 ^ aS.n) ∧ aS.bd x = false := by
  have h := notIn_f h
  exact ⟨⟨h.1, by show x < 256; omega⟩, decide_eq_false (by omega)⟩
theorem vN {n : Nat} (h : notIn (n : Int) 8 = false) : (0 ≤ (n : Int) ∧ (n : Int) < 256 ^ aN.n) ∧ aN.bd (n : Int) = false := by
  have h := notIn_f h
  exact ⟨⟨h.1, by show (n : Int) < 256; omega⟩, decide_eq_false (by omega)⟩
theorem vKd {k low : Int} (h0 : 0 ≤ low) (h1 : low ≤ k) (h2 : k ≤ 10) : (0 ≤ k ∧ k < 256 ^ (aKd low).n) ∧ (aKd low).bd k = false :=
  ⟨⟨by omega, by show k < 256; omega⟩, by
    show (!(decide (low ≤ k) && decide (k ≤ 10))) = false
    rw [decide_eq_true h1, decide_eq_true h2]
    rfl⟩
theorem rds_length {s : ByteArray} : ∀ {l : List At} {k : Int}, (rds s k l).length = l.length
  | [], _ => rfl
  | a :: l, k => by simp only [rds, List.length_cons, rds_length]
theorem spots_back {s : ByteArray} {k : Int} {g : Nat → Int × Int} : ∀ {n : Nat}, rds s k (spA n) = spVs g n → (∀ i, i < n → I64 (g i).1 ∧ I64 (g i).2) → ∀ i, i < n → rdSp s k i = g i
  | 0, _, _, i, hi => absurd hi (Nat.not_lt_zero _)
  | n + 1, h, hg, i, hi => by
    simp only [spA, spVs] at h
    rw [rds_app] at h
    obtain ⟨h1, h2⟩ := List.append_inj h (by rw [rds_length, spA_length, spVs_length])
    by_cases hin : i = n
    · subst hin
      rw [spA_len] at h2
      simp only [rds, List.cons.injEq, and_true] at h2
      have e1 : k + ((16 * i : Nat) : Int) = k + 16 * (i : Int) := by omega
      rw [e1] at h2
      have g1 := fI h2.1 (hg i hi).1
      have g2 : rdI s (k + 16 * (i : Int) + 8) = (g i).2 := fI h2.2 (hg i hi).2
      unfold rdSp
      rw [g1, g2]
    · exact spots_back h1 (fun m hm => hg m (by omega)) i (by omega)
theorem spots_is {s : ByteArray} {k : Int} : ∀ n : Nat, spVs (rdSp s k) n = rds s k (spA n)
  | 0 => rfl
  | n + 1 => by
    simp only [spA, spVs]
    rw [rds_app, spots_is n, spA_len]
    congr 1
    simp only [rds]
    have e1 : k + ((16 * n : Nat) : Int) = k + 16 * (n : Int) := by omega
    rw [e1]
    show [rdI s (k + 16 * (n : Int)) % 18446744073709551616, rdI s (k + 16 * (n : Int) + 8) % 18446744073709551616] = _
    rw [gI', gI']
    rfl
theorem spVs_congr {g h : Nat → Int × Int} : ∀ {n : Nat}, (∀ i, i < n → g i = h i) → spVs g n = spVs h n
  | 0, _ => rfl
  | n + 1, e => by
    simp only [spVs]
    rw [spVs_congr (fun i hi => e i (by omega)), e n (by omega)]
theorem T_enc_1 (c : CV) {n : Nat} (hn : n ≤ 8) (g : Nat → Int × Int) : caT1 c n (fun i => (g i).1) (fun i => (g i).2) = enc (at1 n) (vs1 c n g) := by
  unfold caT1 at1 vs1 shL poL vL vecL numL i8
  rw [enc_app rfl, enc_app (by rw [spVs_length, spA_length]), ← spots_enc, show Nat.ble n 8 = true from Nat.ble_eq_true_of_le hn]
  simp only [flN_be, enc, cond_true, List.append_assoc, List.append_nil, ← be1]
  rfl
theorem vok_1 {c : CV} {n : Nat} (g : Nat → Int × Int) (hc : cvOk c) (h : caB1 c n = false) : vok (at1 n) (vs1 c n g) := by
  simp only [caB1, hBad, shBad, Bool.or_eq_false_iff, and_assoc] at h
  obtain ⟨h_sk, h_n, h_p0v, h_p1v, h_p2v, h_p3v, h_v0v, h_v1v, h_w0v⟩ := h
  obtain ⟨_, _, _, _, _, _, _, _, i_p0v, i_p1v, i_p2v, i_p3v, i_v0v, i_v1v, i_w0v, _, _, _, _, _, _, _, _, _, _, _, _, _, _⟩ := hc
  unfold at1 vs1
  rw [vok_app rfl, vok_app (by rw [spVs_length, spA_length])]
  exact ⟨⟨vS h_sk, vI, vI, vI, vN h_n, trivial⟩, spots_vok g n, vM i_p0v h_p0v, vF, vM i_p1v h_p1v, vF, vM i_p2v h_p2v, vF, vM i_p3v h_p3v, vF, vM i_v0v h_v0v, vF, vM i_v1v h_v1v, vF, vM i_w0v h_w0v, vF, vI, vF, trivial⟩
theorem T_enc_2 (c : CV) (n : Nat) (g : Nat → Int × Int) : caT2 c n (fun i => (g i).1) (fun i => (g i).2) = enc (at2 n) (vs2 c n g) := by
  unfold caT2 at2 vs2
  try unfold hL
  try unfold atL'
  try unfold toL
  try unfold vecL
  try unfold numL
  try unfold c4
  try unfold i8
  simp only [flN_be, enc, List.append_assoc, List.append_nil]
  try rfl
theorem vok_2 {c : CV} {n : Nat} (g : Nat → Int × Int) (hc : cvOk c) (h : caB2 c n = false) : vok (at2 n) (vs2 c n g) := by
  simp only [caB2, hBad, shBad, Bool.or_eq_false_iff, and_assoc] at h
  obtain ⟨h_bs, h_bg, h_ver⟩ := h
  exact ⟨vC h_bs, vC h_bg, vV h_ver, trivial⟩
theorem T_enc_3 (c : CV) (n : Nat) (g : Nat → Int × Int) : caT3 c n (fun i => (g i).1) (fun i => (g i).2) = enc (at3 n) (vs3 c n g) := by
  unfold caT3 at3 vs3
  try unfold hL
  try unfold atL'
  try unfold toL
  try unfold vecL
  try unfold numL
  try unfold c4
  try unfold i8
  simp only [flN_be, enc, List.append_assoc, List.append_nil]
  try rfl
theorem vok_3 {c : CV} {n : Nat} (g : Nat → Int × Int) (hc : cvOk c) (h : caB3 c n = false) : vok (at3 n) (vs3 c n g) := by
  simp only [caB3, hBad, shBad, Bool.or_eq_false_iff, and_assoc] at h
  obtain ⟨h_bs, h_bg, h_ver, h_a0v, h_a1v, h_t0v, h_t1v⟩ := h
  obtain ⟨_, _, _, _, _, _, _, _, _, _, _, _, _, _, _, _, i_a0v, i_a1v, i_t0v, i_t1v, _, _, _, _, _, _, _, _, _⟩ := hc
  exact ⟨vC h_bs, vC h_bg, vV h_ver, vM i_a0v h_a0v, vF, vM i_a1v h_a1v, vF, vM i_t0v h_t0v, vF, vM i_t1v h_t1v, vF, trivial⟩
theorem T_enc_4 (c : CV) (n : Nat) (g : Nat → Int × Int) : caT4 c n (fun i => (g i).1) (fun i => (g i).2) = enc (at4 n) (vs4 c n g) := by
  unfold caT4 at4 vs4
  try unfold hL
  try unfold atL'
  try unfold toL
  try unfold vecL
  try unfold numL
  try unfold c4
  try unfold i8
  simp only [flN_be, enc, List.append_assoc, List.append_nil]
  try rfl
theorem vok_4 {c : CV} {n : Nat} (g : Nat → Int × Int) (hc : cvOk c) (h : caB4 c n = false) : vok (at4 n) (vs4 c n g) := by
  simp only [caB4, hBad, shBad, Bool.or_eq_false_iff, and_assoc] at h
  obtain ⟨h_bs, h_bg, h_ver, h_a0v, h_a1v⟩ := h
  obtain ⟨_, _, _, _, _, _, _, _, _, _, _, _, _, _, _, _, i_a0v, i_a1v, _, _, _, _, _, _, _, _, _, _, _⟩ := hc
  exact ⟨vC h_bs, vC h_bg, vV h_ver, vM i_a0v h_a0v, vF, vM i_a1v h_a1v, vF, trivial⟩
theorem T_enc_5 (c : CV) (n : Nat) (g : Nat → Int × Int) : caT5 c n (fun i => (g i).1) (fun i => (g i).2) = enc (at5 n) (vs5 c n g) := by
  unfold caT5 at5 vs5
  try unfold hL
  try unfold atL'
  try unfold toL
  try unfold vecL
  try unfold numL
  try unfold c4
  try unfold i8
  simp only [flN_be, enc, List.append_assoc, List.append_nil]
  try rfl
theorem vok_5 {c : CV} {n : Nat} (g : Nat → Int × Int) (hc : cvOk c) (h : caB5 c n = false) : vok (at5 n) (vs5 c n g) := by
  simp only [caB5, hBad, shBad, Bool.or_eq_false_iff, and_assoc] at h
  obtain ⟨h_gr, h_t0v, h_t1v⟩ := h
  obtain ⟨_, _, _, _, _, _, _, _, _, _, _, _, _, _, _, _, _, _, i_t0v, i_t1v, _, _, _, _, _, _, _, _, _⟩ := hc
  exact ⟨vC h_gr, vM i_t0v h_t0v, vF, vM i_t1v h_t1v, vF, trivial⟩
theorem T_enc_6 (c : CV) (n : Nat) (g : Nat → Int × Int) : caT6 c n (fun i => (g i).1) (fun i => (g i).2) = enc (at6 n) (vs6 c n g) := by
  unfold caT6 at6 vs6
  try unfold hL
  try unfold atL'
  try unfold toL
  try unfold vecL
  try unfold numL
  try unfold c4
  try unfold i8
  simp only [flN_be, enc, List.append_assoc, List.append_nil]
  try rfl
theorem vok_6 {c : CV} {n : Nat} (g : Nat → Int × Int) (hc : cvOk c) (h : caB6 c n = false) : vok (at6 n) (vs6 c n g) := by
  simp only [caB6, hBad, shBad, Bool.or_eq_false_iff, and_assoc] at h
  have h_gr := h
  exact ⟨vC h_gr, trivial⟩
theorem T_enc_7 (c : CV) (n : Nat) (g : Nat → Int × Int) : caT7 c n (fun i => (g i).1) (fun i => (g i).2) = enc (at7 n) (vs7 c n g) := by
  unfold caT7 at7 vs7
  try unfold hL
  try unfold atL'
  try unfold toL
  try unfold vecL
  try unfold numL
  try unfold c4
  try unfold i8
  simp only [flN_be, enc, List.append_assoc, List.append_nil]
  try rfl
theorem vok_7 {c : CV} {n : Nat} (g : Nat → Int × Int) (hc : cvOk c) (h : caB7 c n = false) : vok (at7 n) (vs7 c n g) := by
  simp only [caB7, hBad, shBad, Bool.or_eq_false_iff, and_assoc] at h
  obtain ⟨h_bs, h_bg⟩ := h
  exact ⟨vC h_bs, vC h_bg, trivial⟩
theorem T_enc_8 (c : CV) (n : Nat) (g : Nat → Int × Int) : caT8 c n (fun i => (g i).1) (fun i => (g i).2) = enc (at8 n) (vs8 c n g) := by
  unfold caT8 at8 vs8
  try unfold hL
  try unfold atL'
  try unfold toL
  try unfold vecL
  try unfold numL
  try unfold c4
  try unfold i8
  simp only [flN_be, enc, List.append_assoc, List.append_nil]
  try rfl
theorem vok_8 {c : CV} {n : Nat} (g : Nat → Int × Int) (hc : cvOk c) (h : caB8 c n = false) : vok (at8 n) (vs8 c n g) := by
  exact ⟨vI, vI, vI, vI, trivial⟩
theorem T_enc_9 (c : CV) (n : Nat) (g : Nat → Int × Int) : caT9 c n (fun i => (g i).1) (fun i => (g i).2) = enc (at9 n) (vs9 c n g) := by
  unfold caT9 at9 vs9
  try unfold hL
  try unfold atL'
  try unfold toL
  try unfold vecL
  try unfold numL
  try unfold c4
  try unfold i8
  simp only [flN_be, enc, List.append_assoc, List.append_nil]
  try rfl
theorem vok_9 {c : CV} {n : Nat} (g : Nat → Int × Int) (hc : cvOk c) (h : caB9 c n = false) : vok (at9 n) (vs9 c n g) := by
  exact ⟨vI, vI, vI, vI, trivial⟩
theorem T_enc_10 (c : CV) (n : Nat) (g : Nat → Int × Int) : caT10 c n (fun i => (g i).1) (fun i => (g i).2) = enc (at10 n) (vs10 c n g) := by
  unfold caT10 at10 vs10
  try unfold hL
  try unfold atL'
  try unfold toL
  try unfold vecL
  try unfold numL
  try unfold c4
  try unfold i8
  simp only [flN_be, enc, List.append_assoc, List.append_nil]
  try rfl
theorem vok_10 {c : CV} {n : Nat} (g : Nat → Int × Int) (hc : cvOk c) (h : caB10 c n = false) : vok (at10 n) (vs10 c n g) := by
  trivial
end Go.Proofs.Ytjdldadmaaeimaa
end

section
set_option maxRecDepth 100000
set_option linter.unusedSimpArgs false
set_option linter.unusedVariables false
namespace Go.Proofs.Ytjdldadmaaeimaa
open Go.SE Go.RowKit

theorem cv_eq {k1 k2 : Int} {a b : CV} {s : Bool} (h : sameCB k1 k2 a b s = true) (hs : eqSh (shOf a) (shOf b) = true) : a = b := by
  simp only [sameCB, Bool.and_eq_true, beq_iff_eq, and_assoc] at h
  simp only [eqSh, shOf, Bool.and_eq_true, beq_iff_eq] at hs
  obtain ⟨hk, e_id, e_bs, e_bg, e_ver, e_S, e_p0v, e_p0f, e_p1v, e_p1f, e_p2v, e_p2f, e_p3v, e_p3f, e_v0v, e_v0f, e_v1v, e_v1f, e_w0v, e_w0f, e_dn, e_mv, e_a0v, e_a0f, e_a1v, e_a1f, e_t0v, e_t0f, e_t1v, e_t1f, e_gr, e_b0, e_b1, e_b2, e_b3, e_f0, e_f1, e_u0, e_u1⟩ := h
  obtain ⟨e_sk, e_sr, e_sw, e_sh⟩ := hs
  obtain ⟨a_id, a_bs, a_bg, a_ver, a_sk, a_sr, a_sw, a_sh, a_p0v, a_p0f, a_p1v, a_p1f, a_p2v, a_p2f, a_p3v, a_p3f, a_v0v, a_v0f, a_v1v, a_v1f, a_w0v, a_w0f, a_dn, a_mv, a_a0v, a_a0f, a_a1v, a_a1f, a_t0v, a_t0f, a_t1v, a_t1f, a_gr, a_b0, a_b1, a_b2, a_b3, a_f0, a_f1, a_u0, a_u1⟩ := a
  obtain ⟨b_id, b_bs, b_bg, b_ver, b_sk, b_sr, b_sw, b_sh, b_p0v, b_p0f, b_p1v, b_p1f, b_p2v, b_p2f, b_p3v, b_p3f, b_v0v, b_v0f, b_v1v, b_v1f, b_w0v, b_w0f, b_dn, b_mv, b_a0v, b_a0f, b_a1v, b_a1f, b_t0v, b_t0f, b_t1v, b_t1f, b_gr, b_b0, b_b1, b_b2, b_b3, b_f0, b_f1, b_u0, b_u1⟩ := b
  simp only at e_id e_bs e_bg e_ver e_sk e_sr e_sw e_sh e_p0v e_p0f e_p1v e_p1f e_p2v e_p2f e_p3v e_p3f e_v0v e_v0f e_v1v e_v1f e_w0v e_w0f e_dn e_mv e_a0v e_a0f e_a1v e_a1f e_t0v e_t0f e_t1v e_t1f e_gr e_b0 e_b1 e_b2 e_b3 e_f0 e_f1 e_u0 e_u1
  subst e_id e_bs e_bg e_ver e_sk e_sr e_sw e_sh e_p0v e_p0f e_p1v e_p1f e_p2v e_p2f e_p3v e_p3f e_v0v e_v0f e_v1v e_v1f e_w0v e_w0f e_dn e_mv e_a0v e_a0f e_a1v e_a1f e_t0v e_t0f e_t1v e_t1f e_gr e_b0 e_b1 e_b2 e_b3 e_f0 e_f1 e_u0 e_u1
  rfl
theorem cv_s {k1 k2 : Int} {a b : CV} {s : Bool} (h : sameCB k1 k2 a b s = true) : s = true := by
  simp only [sameCB, Bool.and_eq_true, beq_iff_eq] at h
  exact h.2.2.2.2.1
theorem cv_self (k : Int) (a : CV) : sameCB k k a a true = true := by
  simp only [sameCB, beq_self_eq_true, Bool.and_self]
theorem callE0 {k : Int} {c : CV} {n : Nat} {g : Nat → Int × Int} (h : callE k c n g = 0) : (1 ≤ k ∧ k ≤ 10) ∧ formB k c n g = true ∧ badB k c n = false := by
  unfold callE at h
  cases h1 : kindOk k with
  | false => rw [h1] at h; cases h
  | true =>
    rw [h1] at h
    cases h2 : formB k c n g with
    | false => rw [h2] at h; cases h
    | true =>
      rw [h2] at h
      cases h3 : badB k c n with
      | true => rw [h3] at h; cases h
      | false =>
        unfold kindOk at h1
        rw [Bool.and_eq_true] at h1
        exact ⟨⟨of_decide_eq_true h1.1, of_decide_eq_true h1.2⟩, rfl, rfl⟩
theorem callE_of {k : Int} {c : CV} {n : Nat} {g : Nat → Int × Int} (hk : 1 ≤ k ∧ k ≤ 10) (h2 : formB k c n g = true) (h3 : badB k c n = false) : callE k c n g = 0 ∧ callT k c n g = callBs k c n g := by
  unfold callE callT kindOk
  rw [decide_eq_true hk.1, decide_eq_true hk.2, h2, h3]
  exact ⟨rfl, rfl⟩
theorem form_eq {k : Int} {c : CV} {n : Nat} {g : Nat → Int × Int} (hk : 1 ≤ k ∧ k ≤ 10) (h : formB k c n g = true) : ucK k c = c ∧ (k ≠ 1 → n = 0) := by
  unfold formB at h
  by_cases h1 : k = 1
  · subst h1
    have h : sameCB 1 1 (uc1 c) c (sameS (shOf (uc1 c)) n g (shOf c) n g) = true := h
    have hs := cv_s h
    unfold sameS at hs
    rw [Bool.and_eq_true] at hs
    exact ⟨cv_eq h hs.1, fun h => absurd rfl h⟩
  · rw [decide_eq_false h1, cond_false] at h
    have hs := cv_s h
    rw [Bool.and_eq_true] at hs
    exact ⟨cv_eq h hs.1, fun _ => Nat.eq_of_beq_eq_true hs.2⟩
theorem sameP_self (n : Nat) (g : Nat → Int × Int) : sameP n g n g = true := by
  unfold sameP
  rw [Nat.beq_refl, Bool.true_and]
  exact List.all_eq_true.2 fun i _ => by unfold eqP; rw [beq_self_eq_true, beq_self_eq_true]; rfl
theorem eqSh_self (a : ShB) : eqSh a a = true := by
  unfold eqSh
  simp only [beq_self_eq_true, Bool.and_self]
theorem form_of {k : Int} {c : CV} {n : Nat} {g : Nat → Int × Int} (h1 : ucK k c = c) (h2 : k ≠ 1 → n = 0) : formB k c n g = true := by
  unfold formB
  by_cases h : k = 1
  · subst h
    have h1 : uc1 c = c := h1
    rw [h1]
    show sameCB 1 1 c c (sameS (shOf c) n g (shOf c) n g) = true
    unfold sameS
    rw [eqSh_self, sameP_self]
    exact cv_self 1 c
  · rw [decide_eq_false h, cond_false, h1, eqSh_self, h2 h]
    exact cv_self k c
theorem bytes_enc {k : Int} {c : CV} {n : Nat} {g : Nat → Int × Int} (hk : 1 ≤ k ∧ k ≤ 10) (hn : k = 1 → n ≤ 8) : byt (callBs k c n g) = enc (atC k n) (vsC k c n g) := by
  have e : caL k c (kT k c n (fun i => (g i).1) (fun i => (g i).2)) = enc (atC k n) (vsC k c n g) := by
    have et : kT k c n (fun i => (g i).1) (fun i => (g i).2) = enc (atK k n) (vsK k c n g) := by
      rcases ten hk with h | h | h | h | h | h | h | h | h | h <;> subst h
      · exact T_enc_1 c (hn rfl) g
      · exact T_enc_2 c n g
      · exact T_enc_3 c n g
      · exact T_enc_4 c n g
      · exact T_enc_5 c n g
      · exact T_enc_6 c n g
      · exact T_enc_7 c n g
      · exact T_enc_8 c n g
      · exact T_enc_9 c n g
      · exact T_enc_10 c n g
    unfold caL atC vsC
    rw [et]
    unfold c4
    rw [← be1]
    rfl
  rw [callBs_eq hk, e]
  exact byt_str (enc_rng _ _)
theorem bad_n {c : CV} {n : Nat} (h : badB 1 c n = false) : n ≤ 8 := by
  have h : caB c (caB1 c n) = false := h
  simp only [caB, caB1, shBad, Bool.or_eq_false_iff] at h
  have := notIn_f h.2.1.2
  omega
theorem vok_all {k : Int} {c : CV} {n : Nat} (g : Nat → Int × Int) (hk : 1 ≤ k ∧ k ≤ 10) (hc : cvOk c) (h : badB k c n = false) : vok (atC k n) (vsC k c n g) := by
  have h : caB c (kB k c n) = false := h
  simp only [caB, Bool.or_eq_false_iff] at h
  refine ⟨vKd (by omega) hk.1 hk.2, vC h.1, ?_⟩
  have h2 := h.2
  rcases ten hk with h | h | h | h | h | h | h | h | h | h <;> subst h
  · exact vok_1 (n := n) g hc h2
  · exact vok_2 (n := n) g hc h2
  · exact vok_3 (n := n) g hc h2
  · exact vok_4 (n := n) g hc h2
  · exact vok_5 (n := n) g hc h2
  · exact vok_6 (n := n) g hc h2
  · exact vok_7 (n := n) g hc h2
  · exact vok_8 (n := n) g hc h2
  · exact vok_9 (n := n) g hc h2
  · exact vok_10 (n := n) g hc h2
theorem back_2 {s : ByteArray} {c : CV} {n : Nat} {g : Nat → Int × Int} (hc : cvOk c) (hb : badB 2 c n = false) (hu : uc2 c = c) (hr : rds s 0 (atC 2 n) = vsC 2 c n g) : rdT s 0 1 = 2 ∧ cV2 s 0 = c := by
  have hr : [rdT s 0 1, rdT s (0 + 1) 4, rdT s (0 + 1 + 4) 4, rdT s (0 + 1 + 4 + 4) 4, rdT s (0 + 1 + 4 + 4 + 4) 8] = [2, c.id % 4294967296, c.bs % 4294967296, c.bg % 4294967296, c.ver % 18446744073709551616] := hr
  simp only [List.cons.injEq, and_true] at hr
  obtain ⟨r_k, r_id, r_bs, r_bg, r_ver⟩ := hr
  have hb : caB c (caB2 c n) = false := hb
  simp only [caB, caB2, hBad, Bool.or_eq_false_iff, and_assoc] at hb
  obtain ⟨h_id, h_bs, h_bg, h_ver⟩ := hb
  refine ⟨r_k, ?_⟩
  rw [← hu]
  unfold cV2
  rw [fC r_id (notIn_f h_id), fC r_bs (notIn_f h_bs), fC r_bg (notIn_f h_bg), fV r_ver (notIn_f h_ver)]
  rfl
theorem back_3 {s : ByteArray} {c : CV} {n : Nat} {g : Nat → Int × Int} (hc : cvOk c) (hb : badB 3 c n = false) (hu : uc3 c = c) (hr : rds s 0 (atC 3 n) = vsC 3 c n g) : rdT s 0 1 = 3 ∧ cV3 s 0 = c := by
  have hr : [rdT s 0 1, rdT s (0 + 1) 4, rdT s (0 + 1 + 4) 4, rdT s (0 + 1 + 4 + 4) 4, rdT s (0 + 1 + 4 + 4 + 4) 8, rdT s (0 + 1 + 4 + 4 + 4 + 8) 8, rdT s (0 + 1 + 4 + 4 + 4 + 8 + 8) 1, rdT s (0 + 1 + 4 + 4 + 4 + 8 + 8 + 1) 8, rdT s (0 + 1 + 4 + 4 + 4 + 8 + 8 + 1 + 8) 1, rdT s (0 + 1 + 4 + 4 + 4 + 8 + 8 + 1 + 8 + 1) 8, rdT s (0 + 1 + 4 + 4 + 4 + 8 + 8 + 1 + 8 + 1 + 8) 1, rdT s (0 + 1 + 4 + 4 + 4 + 8 + 8 + 1 + 8 + 1 + 8 + 1) 8, rdT s (0 + 1 + 4 + 4 + 4 + 8 + 8 + 1 + 8 + 1 + 8 + 1 + 8) 1] = [3, c.id % 4294967296, c.bs % 4294967296, c.bg % 4294967296, c.ver % 18446744073709551616, c.a0v % 18446744073709551616, flN c.a0f, c.a1v % 18446744073709551616, flN c.a1f, c.t0v % 18446744073709551616, flN c.t0f, c.t1v % 18446744073709551616, flN c.t1f] := hr
  simp only [List.cons.injEq, and_true] at hr
  obtain ⟨r_k, r_id, r_bs, r_bg, r_ver, r_a0v, r_a0f, r_a1v, r_a1f, r_t0v, r_t0f, r_t1v, r_t1f⟩ := hr
  have hb : caB c (caB3 c n) = false := hb
  simp only [caB, caB3, hBad, Bool.or_eq_false_iff, and_assoc] at hb
  obtain ⟨h_id, h_bs, h_bg, h_ver, h_a0v, h_a1v, h_t0v, h_t1v⟩ := hb
  obtain ⟨_, _, _, _, _, _, _, _, _, _, _, _, _, _, _, _, i_a0v, i_a1v, i_t0v, i_t1v, _, _, _, _, _, _, _, _, _⟩ := hc
  refine ⟨r_k, ?_⟩
  rw [← hu]
  unfold cV3
  rw [fC r_id (notIn_f h_id), fC r_bs (notIn_f h_bs), fC r_bg (notIn_f h_bg), fV r_ver (notIn_f h_ver), fI r_a0v i_a0v, fF r_a0f, fI r_a1v i_a1v, fF r_a1f, fI r_t0v i_t0v, fF r_t0f, fI r_t1v i_t1v, fF r_t1f]
  rfl
theorem back_4 {s : ByteArray} {c : CV} {n : Nat} {g : Nat → Int × Int} (hc : cvOk c) (hb : badB 4 c n = false) (hu : uc4 c = c) (hr : rds s 0 (atC 4 n) = vsC 4 c n g) : rdT s 0 1 = 4 ∧ cV4 s 0 = c := by
  have hr : [rdT s 0 1, rdT s (0 + 1) 4, rdT s (0 + 1 + 4) 4, rdT s (0 + 1 + 4 + 4) 4, rdT s (0 + 1 + 4 + 4 + 4) 8, rdT s (0 + 1 + 4 + 4 + 4 + 8) 8, rdT s (0 + 1 + 4 + 4 + 4 + 8 + 8) 1, rdT s (0 + 1 + 4 + 4 + 4 + 8 + 8 + 1) 8, rdT s (0 + 1 + 4 + 4 + 4 + 8 + 8 + 1 + 8) 1] = [4, c.id % 4294967296, c.bs % 4294967296, c.bg % 4294967296, c.ver % 18446744073709551616, c.a0v % 18446744073709551616, flN c.a0f, c.a1v % 18446744073709551616, flN c.a1f] := hr
  simp only [List.cons.injEq, and_true] at hr
  obtain ⟨r_k, r_id, r_bs, r_bg, r_ver, r_a0v, r_a0f, r_a1v, r_a1f⟩ := hr
  have hb : caB c (caB4 c n) = false := hb
  simp only [caB, caB4, hBad, Bool.or_eq_false_iff, and_assoc] at hb
  obtain ⟨h_id, h_bs, h_bg, h_ver, h_a0v, h_a1v⟩ := hb
  obtain ⟨_, _, _, _, _, _, _, _, _, _, _, _, _, _, _, _, i_a0v, i_a1v, _, _, _, _, _, _, _, _, _, _, _⟩ := hc
  refine ⟨r_k, ?_⟩
  rw [← hu]
  unfold cV4
  rw [fC r_id (notIn_f h_id), fC r_bs (notIn_f h_bs), fC r_bg (notIn_f h_bg), fV r_ver (notIn_f h_ver), fI r_a0v i_a0v, fF r_a0f, fI r_a1v i_a1v, fF r_a1f]
  rfl
theorem back_5 {s : ByteArray} {c : CV} {n : Nat} {g : Nat → Int × Int} (hc : cvOk c) (hb : badB 5 c n = false) (hu : uc5 c = c) (hr : rds s 0 (atC 5 n) = vsC 5 c n g) : rdT s 0 1 = 5 ∧ cV5 s 0 = c := by
  have hr : [rdT s 0 1, rdT s (0 + 1) 4, rdT s (0 + 1 + 4) 4, rdT s (0 + 1 + 4 + 4) 8, rdT s (0 + 1 + 4 + 4 + 8) 1, rdT s (0 + 1 + 4 + 4 + 8 + 1) 8, rdT s (0 + 1 + 4 + 4 + 8 + 1 + 8) 1] = [5, c.id % 4294967296, c.gr % 4294967296, c.t0v % 18446744073709551616, flN c.t0f, c.t1v % 18446744073709551616, flN c.t1f] := hr
  simp only [List.cons.injEq, and_true] at hr
  obtain ⟨r_k, r_id, r_gr, r_t0v, r_t0f, r_t1v, r_t1f⟩ := hr
  have hb : caB c (caB5 c n) = false := hb
  simp only [caB, caB5, hBad, Bool.or_eq_false_iff, and_assoc] at hb
  obtain ⟨h_id, h_gr, h_t0v, h_t1v⟩ := hb
  obtain ⟨_, _, _, _, _, _, _, _, _, _, _, _, _, _, _, _, _, _, i_t0v, i_t1v, _, _, _, _, _, _, _, _, _⟩ := hc
  refine ⟨r_k, ?_⟩
  rw [← hu]
  unfold cV5
  rw [fC r_id (notIn_f h_id), fC r_gr (notIn_f h_gr), fI r_t0v i_t0v, fF r_t0f, fI r_t1v i_t1v, fF r_t1f]
  rfl
theorem back_6 {s : ByteArray} {c : CV} {n : Nat} {g : Nat → Int × Int} (hc : cvOk c) (hb : badB 6 c n = false) (hu : uc6 c = c) (hr : rds s 0 (atC 6 n) = vsC 6 c n g) : rdT s 0 1 = 6 ∧ cV6 s 0 = c := by
  have hr : [rdT s 0 1, rdT s (0 + 1) 4, rdT s (0 + 1 + 4) 4] = [6, c.id % 4294967296, c.gr % 4294967296] := hr
  simp only [List.cons.injEq, and_true] at hr
  obtain ⟨r_k, r_id, r_gr⟩ := hr
  have hb : caB c (caB6 c n) = false := hb
  simp only [caB, caB6, hBad, Bool.or_eq_false_iff, and_assoc] at hb
  obtain ⟨h_id, h_gr⟩ := hb
  refine ⟨r_k, ?_⟩
  rw [← hu]
  unfold cV6
  rw [fC r_id (notIn_f h_id), fC r_gr (notIn_f h_gr)]
  rfl
theorem back_7 {s : ByteArray} {c : CV} {n : Nat} {g : Nat → Int × Int} (hc : cvOk c) (hb : badB 7 c n = false) (hu : uc7 c = c) (hr : rds s 0 (atC 7 n) = vsC 7 c n g) : rdT s 0 1 = 7 ∧ cV7 s 0 = c := by
  have hr : [rdT s 0 1, rdT s (0 + 1) 4, rdT s (0 + 1 + 4) 4, rdT s (0 + 1 + 4 + 4) 4] = [7, c.id % 4294967296, c.bs % 4294967296, c.bg % 4294967296] := hr
  simp only [List.cons.injEq, and_true] at hr
  obtain ⟨r_k, r_id, r_bs, r_bg⟩ := hr
  have hb : caB c (caB7 c n) = false := hb
  simp only [caB, caB7, hBad, Bool.or_eq_false_iff, and_assoc] at hb
  obtain ⟨h_id, h_bs, h_bg⟩ := hb
  refine ⟨r_k, ?_⟩
  rw [← hu]
  unfold cV7
  rw [fC r_id (notIn_f h_id), fC r_bs (notIn_f h_bs), fC r_bg (notIn_f h_bg)]
  rfl
theorem back_8 {s : ByteArray} {c : CV} {n : Nat} {g : Nat → Int × Int} (hc : cvOk c) (hb : badB 8 c n = false) (hu : uc8 c = c) (hr : rds s 0 (atC 8 n) = vsC 8 c n g) : rdT s 0 1 = 8 ∧ cV8 s 0 = c := by
  have hr : [rdT s 0 1, rdT s (0 + 1) 4, rdT s (0 + 1 + 4) 8, rdT s (0 + 1 + 4 + 8) 8, rdT s (0 + 1 + 4 + 8 + 8) 8, rdT s (0 + 1 + 4 + 8 + 8 + 8) 8] = [8, c.id % 4294967296, c.b0 % 18446744073709551616, c.b1 % 18446744073709551616, c.b2 % 18446744073709551616, c.b3 % 18446744073709551616] := hr
  simp only [List.cons.injEq, and_true] at hr
  obtain ⟨r_k, r_id, r_b0, r_b1, r_b2, r_b3⟩ := hr
  have hb : caB c (caB8 c n) = false := hb
  simp only [caB, caB8, hBad, Bool.or_eq_false_iff, and_assoc] at hb
  have h_id := hb.1
  obtain ⟨_, _, _, _, _, _, _, _, _, _, _, _, _, _, _, _, _, _, _, _, _, i_b0, i_b1, i_b2, i_b3, _, _, _, _⟩ := hc
  refine ⟨r_k, ?_⟩
  rw [← hu]
  unfold cV8
  rw [fC r_id (notIn_f h_id), fI r_b0 i_b0, fI r_b1 i_b1, fI r_b2 i_b2, fI r_b3 i_b3]
  rfl
theorem back_9 {s : ByteArray} {c : CV} {n : Nat} {g : Nat → Int × Int} (hc : cvOk c) (hb : badB 9 c n = false) (hu : uc9 c = c) (hr : rds s 0 (atC 9 n) = vsC 9 c n g) : rdT s 0 1 = 9 ∧ cV9 s 0 = c := by
  have hr : [rdT s 0 1, rdT s (0 + 1) 4, rdT s (0 + 1 + 4) 8, rdT s (0 + 1 + 4 + 8) 8, rdT s (0 + 1 + 4 + 8 + 8) 8, rdT s (0 + 1 + 4 + 8 + 8 + 8) 8] = [9, c.id % 4294967296, c.f0 % 18446744073709551616, c.f1 % 18446744073709551616, c.u0 % 18446744073709551616, c.u1 % 18446744073709551616] := hr
  simp only [List.cons.injEq, and_true] at hr
  obtain ⟨r_k, r_id, r_f0, r_f1, r_u0, r_u1⟩ := hr
  have hb : caB c (caB9 c n) = false := hb
  simp only [caB, caB9, hBad, Bool.or_eq_false_iff, and_assoc] at hb
  have h_id := hb.1
  obtain ⟨_, _, _, _, _, _, _, _, _, _, _, _, _, _, _, _, _, _, _, _, _, _, _, _, _, i_f0, i_f1, i_u0, i_u1⟩ := hc
  refine ⟨r_k, ?_⟩
  rw [← hu]
  unfold cV9
  rw [fC r_id (notIn_f h_id), fI r_f0 i_f0, fI r_f1 i_f1, fI r_u0 i_u0, fI r_u1 i_u1]
  rfl
theorem back_10 {s : ByteArray} {c : CV} {n : Nat} {g : Nat → Int × Int} (hc : cvOk c) (hb : badB 10 c n = false) (hu : uc10 c = c) (hr : rds s 0 (atC 10 n) = vsC 10 c n g) : rdT s 0 1 = 10 ∧ cV10 s 0 = c := by
  have hr : [rdT s 0 1, rdT s (0 + 1) 4] = [10, c.id % 4294967296] := hr
  simp only [List.cons.injEq, and_true] at hr
  obtain ⟨r_k, r_id⟩ := hr
  have hb : caB c (caB10 c n) = false := hb
  simp only [caB, caB10, hBad, Bool.or_eq_false_iff, and_assoc] at hb
  have h_id := hb.1
  refine ⟨r_k, ?_⟩
  rw [← hu]
  unfold cV10
  rw [fC r_id (notIn_f h_id)]
  rfl
theorem back_1 {s : ByteArray} {c : CV} {n : Nat} {g : Nat → Int × Int} (hc : cvOk c) (hb : badB 1 c n = false) (hu : uc1 c = c) (hg : ∀ i, i < n → I64 (g i).1 ∧ I64 (g i).2) (hr : rds s 0 (atC 1 n) = vsC 1 c n g) : (rdT s 0 1 = 1 ∧ cV1 s 0 = c) ∧ shC s (0 + 1 + 4) = n ∧ ∀ i, i < n → caSp s 0 i = g i := by
  have hr : rds s 0 ([aKd 1, aC, aS, aI, aI, aI, aN] ++ (spA n ++ [aM, aF, aM, aF, aM, aF, aM, aF, aM, aF, aM, aF, aM, aF, aI, aF])) = [1, c.id % 4294967296, c.sk, c.sr % 18446744073709551616, c.sw % 18446744073709551616, c.sh % 18446744073709551616, (n : Int)] ++ (spVs g n ++ [c.p0v % 18446744073709551616, flN c.p0f, c.p1v % 18446744073709551616, flN c.p1f, c.p2v % 18446744073709551616, flN c.p2f, c.p3v % 18446744073709551616, flN c.p3f, c.v0v % 18446744073709551616, flN c.v0f, c.v1v % 18446744073709551616, flN c.v1f, c.w0v % 18446744073709551616, flN c.w0f, c.dn % 18446744073709551616, flN c.mv]) := hr
  rw [rds_app, rds_app, spA_len] at hr
  obtain ⟨hr1, hr⟩ := List.append_inj hr rfl
  obtain ⟨hr2, hr3⟩ := List.append_inj hr (by rw [rds_length, spA_length, spVs_length])
  have hr1 : [rdT s 0 1, rdT s (0 + 1) 4, rdT s (0 + 1 + 4) 1, rdT s (0 + 1 + 4 + 1) 8, rdT s (0 + 1 + 4 + 1 + 8) 8, rdT s (0 + 1 + 4 + 1 + 8 + 8) 8, rdT s (0 + 1 + 4 + 1 + 8 + 8 + 8) 1] = [1, c.id % 4294967296, c.sk, c.sr % 18446744073709551616, c.sw % 18446744073709551616, c.sh % 18446744073709551616, (n : Int)] := hr1
  simp only [List.cons.injEq, and_true] at hr1
  obtain ⟨r_k, r_id, r_sk, r_sr, r_sw, r_sh, r_n⟩ := hr1
  have hC : shC s (0 + 1 + 4) = n := by
    have := shC_int s (0 + 1 + 4)
    rw [r_n] at this
    omega
  have hP : (0 : Int) + ((atL [aKd 1, aC, aS, aI, aI, aI, aN] : Nat) : Int) + ((16 * n : Nat) : Int) = shEnd s (0 + 1 + 4) := by
    unfold shEnd
    rw [hC]
    show (31 : Int) + _ = 31 + _
    omega
  rw [hP] at hr3
  have hr3 : [rdT s (shEnd s (0 + 1 + 4)) 8, rdT s (shEnd s (0 + 1 + 4) + 8) 1, rdT s (shEnd s (0 + 1 + 4) + 8 + 1) 8, rdT s (shEnd s (0 + 1 + 4) + 8 + 1 + 8) 1, rdT s (shEnd s (0 + 1 + 4) + 8 + 1 + 8 + 1) 8, rdT s (shEnd s (0 + 1 + 4) + 8 + 1 + 8 + 1 + 8) 1, rdT s (shEnd s (0 + 1 + 4) + 8 + 1 + 8 + 1 + 8 + 1) 8, rdT s (shEnd s (0 + 1 + 4) + 8 + 1 + 8 + 1 + 8 + 1 + 8) 1, rdT s (shEnd s (0 + 1 + 4) + 8 + 1 + 8 + 1 + 8 + 1 + 8 + 1) 8, rdT s (shEnd s (0 + 1 + 4) + 8 + 1 + 8 + 1 + 8 + 1 + 8 + 1 + 8) 1, rdT s (shEnd s (0 + 1 + 4) + 8 + 1 + 8 + 1 + 8 + 1 + 8 + 1 + 8 + 1) 8, rdT s (shEnd s (0 + 1 + 4) + 8 + 1 + 8 + 1 + 8 + 1 + 8 + 1 + 8 + 1 + 8) 1, rdT s (shEnd s (0 + 1 + 4) + 8 + 1 + 8 + 1 + 8 + 1 + 8 + 1 + 8 + 1 + 8 + 1) 8, rdT s (shEnd s (0 + 1 + 4) + 8 + 1 + 8 + 1 + 8 + 1 + 8 + 1 + 8 + 1 + 8 + 1 + 8) 1, rdT s (shEnd s (0 + 1 + 4) + 8 + 1 + 8 + 1 + 8 + 1 + 8 + 1 + 8 + 1 + 8 + 1 + 8 + 1) 8, rdT s (shEnd s (0 + 1 + 4) + 8 + 1 + 8 + 1 + 8 + 1 + 8 + 1 + 8 + 1 + 8 + 1 + 8 + 1 + 8) 1] = [c.p0v % 18446744073709551616, flN c.p0f, c.p1v % 18446744073709551616, flN c.p1f, c.p2v % 18446744073709551616, flN c.p2f, c.p3v % 18446744073709551616, flN c.p3f, c.v0v % 18446744073709551616, flN c.v0f, c.v1v % 18446744073709551616, flN c.v1f, c.w0v % 18446744073709551616, flN c.w0f, c.dn % 18446744073709551616, flN c.mv] := hr3
  simp only [List.cons.injEq, and_true] at hr3
  obtain ⟨r_p0v, r_p0f, r_p1v, r_p1f, r_p2v, r_p2f, r_p3v, r_p3f, r_v0v, r_v0f, r_v1v, r_v1f, r_w0v, r_w0f, r_dn, r_mv⟩ := hr3
  have hb : caB c (caB1 c n) = false := hb
  simp only [caB, caB1, hBad, shBad, Bool.or_eq_false_iff, and_assoc] at hb
  obtain ⟨h_id, h_sk, h_n, h_p0v, h_p1v, h_p2v, h_p3v, h_v0v, h_v1v, h_w0v⟩ := hb
  obtain ⟨_, _, _, _, _, i_sr, i_sw, i_sh, i_p0v, i_p1v, i_p2v, i_p3v, i_v0v, i_v1v, i_w0v, i_dn, _, _, _, _, _, _, _, _, _, _, _, _, _⟩ := hc
  refine ⟨⟨r_k, ?_⟩, hC, fun i hi => spots_back hr2 hg i hi⟩
  have s4 : shB4 s (0 + 1 + 4) = ⟨c.sk, c.sr, c.sw, c.sh⟩ := by
    unfold shB4
    rw [r_sk, fI r_sr i_sr, fI r_sw i_sw, fI r_sh i_sh]
  rw [← hu]
  unfold cV1
  rw [fC r_id (notIn_f h_id), s4, fI r_p0v i_p0v, fF r_p0f, fI r_p1v i_p1v, fF r_p1f, fI r_p2v i_p2v, fF r_p2f, fI r_p3v i_p3v, fF r_p3f, fI r_v0v i_v0v, fF r_v0f, fI r_v1v i_v1v, fF r_v1f, fI r_w0v i_w0v, fF r_w0f, fI r_dn i_dn, fF r_mv]
  rfl
end Go.Proofs.Ytjdldadmaaeimaa
end

section
set_option maxRecDepth 100000
set_option linter.unusedSimpArgs false
set_option linter.unusedVariables false
namespace Go.Proofs.Ytjdldadmaaeimaa
open Go.SE Go.RowKit

theorem mC {r : Int} (h : (0 ≤ r ∧ r < 256 ^ aC.n) ∧ aC.bd r = false) : notIn r 2147483647 = false := notIn_of ⟨h.1.1, by have := of_decide_eq_false h.2; omega⟩
theorem mV {r : Int} (h : (0 ≤ r ∧ r < 256 ^ aV.n) ∧ aV.bd r = false) : notIn r 1099511627776 = false := notIn_of ⟨h.1.1, by have := of_decide_eq_false h.2; omega⟩
theorem mS {r : Int} (h : (0 ≤ r ∧ r < 256 ^ aS.n) ∧ aS.bd r = false) : notIn r 255 = false := notIn_of ⟨h.1.1, by have := of_decide_eq_false h.2; omega⟩
theorem mN {r : Int} {n : Nat} (e : r = (n : Int)) (h : (0 ≤ r ∧ r < 256 ^ aN.n) ∧ aN.bd r = false) : notIn (n : Int) 8 = false := by
  subst e
  exact notIn_of ⟨h.1.1, by have := of_decide_eq_false h.2; omega⟩
theorem mM {s : ByteArray} {p : Int} (h : (0 ≤ rdT s p 8 ∧ rdT s p 8 < 256 ^ aM.n) ∧ aM.bd (rdT s p 8) = false) : isMin (rdI s p) = false := by
  rw [rdI_eq]
  exact h.2
theorem iC {r : Int} (h : (0 ≤ r ∧ r < 256 ^ aC.n) ∧ aC.bd r = false) : I64 r := by
  have := of_decide_eq_false h.2
  exact ⟨by omega, by omega⟩
theorem iV' {r : Int} (h : (0 ≤ r ∧ r < 256 ^ aV.n) ∧ aV.bd r = false) : I64 r := by
  have := of_decide_eq_false h.2
  exact ⟨by omega, by omega⟩
theorem iS {r : Int} (h : (0 ≤ r ∧ r < 256 ^ aS.n) ∧ aS.bd r = false) : I64 r := by
  have := of_decide_eq_false h.2
  exact ⟨by omega, by omega⟩
theorem rdI_rng (s : ByteArray) (p : Int) : I64 (rdI s p) := by
  have h := rdT_rng s p 8
  have h2 : rdT s p 8 < 18446744073709551616 := h.2
  rw [rdI_eq, wrap_i64e]
  unfold I64
  omega
theorem i0 : I64 0 := ⟨by decide, by decide⟩
theorem fwd_2 {s : ByteArray} {n : Nat} (g : Nat → Int × Int) (hk : rdT s 0 1 = 2) (hv : vok (atC 2 n) (rds s 0 (atC 2 n))) : rds s 0 (atC 2 n) = vsC 2 (cV2 s 0) n g ∧ badB 2 (cV2 s 0) n = false ∧ cvOk (cV2 s 0) := by
  have hv : ((0 ≤ rdT s 0 1 ∧ rdT s 0 1 < 256 ^ (aKd 1).n) ∧ (aKd 1).bd (rdT s 0 1) = false) ∧ ((0 ≤ rdT s (0 + 1) 4 ∧ rdT s (0 + 1) 4 < 256 ^ (aC).n) ∧ (aC).bd (rdT s (0 + 1) 4) = false) ∧ ((0 ≤ rdT s (0 + 1 + 4) 4 ∧ rdT s (0 + 1 + 4) 4 < 256 ^ (aC).n) ∧ (aC).bd (rdT s (0 + 1 + 4) 4) = false) ∧ ((0 ≤ rdT s (0 + 1 + 4 + 4) 4 ∧ rdT s (0 + 1 + 4 + 4) 4 < 256 ^ (aC).n) ∧ (aC).bd (rdT s (0 + 1 + 4 + 4) 4) = false) ∧ ((0 ≤ rdT s (0 + 1 + 4 + 4 + 4) 8 ∧ rdT s (0 + 1 + 4 + 4 + 4) 8 < 256 ^ (aV).n) ∧ (aV).bd (rdT s (0 + 1 + 4 + 4 + 4) 8) = false) ∧ True := hv
  obtain ⟨v_k, v_id, v_bs, v_bg, v_ver, _⟩ := hv
  refine ⟨?_, ?_, ?_⟩
  · show [rdT s 0 1, rdT s (0 + 1) 4, rdT s (0 + 1 + 4) 4, rdT s (0 + 1 + 4 + 4) 4, rdT s (0 + 1 + 4 + 4 + 4) 8] = [2, rdT s (0 + 1) 4 % 4294967296, rdT s (0 + 1 + 4) 4 % 4294967296, rdT s (0 + 1 + 4 + 4) 4 % 4294967296, rdT s (0 + 1 + 4 + 4 + 4) 8 % 18446744073709551616]
    rw [gC v_id.1.1 v_id.2, gC v_bs.1.1 v_bs.2, gC v_bg.1.1 v_bg.2, gV v_ver.1.1 v_ver.2, hk]
  · show caB (cV2 s 0) (caB2 (cV2 s 0) n) = false
    simp only [caB, caB2, hBad, Bool.or_eq_false_iff, and_assoc]
    exact ⟨mC v_id, mC v_bs, mC v_bg, mV v_ver⟩
  · exact ⟨iC v_id, iC v_bs, iC v_bg, iV' v_ver, i0, i0, i0, i0, i0, i0, i0, i0, i0, i0, i0, i0, i0, i0, i0, i0, i0, i0, i0, i0, i0, i0, i0, i0, i0⟩
theorem fwd_3 {s : ByteArray} {n : Nat} (g : Nat → Int × Int) (hk : rdT s 0 1 = 3) (hv : vok (atC 3 n) (rds s 0 (atC 3 n))) : rds s 0 (atC 3 n) = vsC 3 (cV3 s 0) n g ∧ badB 3 (cV3 s 0) n = false ∧ cvOk (cV3 s 0) := by
  have hv : ((0 ≤ rdT s 0 1 ∧ rdT s 0 1 < 256 ^ (aKd 1).n) ∧ (aKd 1).bd (rdT s 0 1) = false) ∧ ((0 ≤ rdT s (0 + 1) 4 ∧ rdT s (0 + 1) 4 < 256 ^ (aC).n) ∧ (aC).bd (rdT s (0 + 1) 4) = false) ∧ ((0 ≤ rdT s (0 + 1 + 4) 4 ∧ rdT s (0 + 1 + 4) 4 < 256 ^ (aC).n) ∧ (aC).bd (rdT s (0 + 1 + 4) 4) = false) ∧ ((0 ≤ rdT s (0 + 1 + 4 + 4) 4 ∧ rdT s (0 + 1 + 4 + 4) 4 < 256 ^ (aC).n) ∧ (aC).bd (rdT s (0 + 1 + 4 + 4) 4) = false) ∧ ((0 ≤ rdT s (0 + 1 + 4 + 4 + 4) 8 ∧ rdT s (0 + 1 + 4 + 4 + 4) 8 < 256 ^ (aV).n) ∧ (aV).bd (rdT s (0 + 1 + 4 + 4 + 4) 8) = false) ∧ ((0 ≤ rdT s (0 + 1 + 4 + 4 + 4 + 8) 8 ∧ rdT s (0 + 1 + 4 + 4 + 4 + 8) 8 < 256 ^ (aM).n) ∧ (aM).bd (rdT s (0 + 1 + 4 + 4 + 4 + 8) 8) = false) ∧ ((0 ≤ rdT s (0 + 1 + 4 + 4 + 4 + 8 + 8) 1 ∧ rdT s (0 + 1 + 4 + 4 + 4 + 8 + 8) 1 < 256 ^ (aF).n) ∧ (aF).bd (rdT s (0 + 1 + 4 + 4 + 4 + 8 + 8) 1) = false) ∧ ((0 ≤ rdT s (0 + 1 + 4 + 4 + 4 + 8 + 8 + 1) 8 ∧ rdT s (0 + 1 + 4 + 4 + 4 + 8 + 8 + 1) 8 < 256 ^ (aM).n) ∧ (aM).bd (rdT s (0 + 1 + 4 + 4 + 4 + 8 + 8 + 1) 8) = false) ∧ ((0 ≤ rdT s (0 + 1 + 4 + 4 + 4 + 8 + 8 + 1 + 8) 1 ∧ rdT s (0 + 1 + 4 + 4 + 4 + 8 + 8 + 1 + 8) 1 < 256 ^ (aF).n) ∧ (aF).bd (rdT s (0 + 1 + 4 + 4 + 4 + 8 + 8 + 1 + 8) 1) = false) ∧ ((0 ≤ rdT s (0 + 1 + 4 + 4 + 4 + 8 + 8 + 1 + 8 + 1) 8 ∧ rdT s (0 + 1 + 4 + 4 + 4 + 8 + 8 + 1 + 8 + 1) 8 < 256 ^ (aM).n) ∧ (aM).bd (rdT s (0 + 1 + 4 + 4 + 4 + 8 + 8 + 1 + 8 + 1) 8) = false) ∧ ((0 ≤ rdT s (0 + 1 + 4 + 4 + 4 + 8 + 8 + 1 + 8 + 1 + 8) 1 ∧ rdT s (0 + 1 + 4 + 4 + 4 + 8 + 8 + 1 + 8 + 1 + 8) 1 < 256 ^ (aF).n) ∧ (aF).bd (rdT s (0 + 1 + 4 + 4 + 4 + 8 + 8 + 1 + 8 + 1 + 8) 1) = false) ∧ ((0 ≤ rdT s (0 + 1 + 4 + 4 + 4 + 8 + 8 + 1 + 8 + 1 + 8 + 1) 8 ∧ rdT s (0 + 1 + 4 + 4 + 4 + 8 + 8 + 1 + 8 + 1 + 8 + 1) 8 < 256 ^ (aM).n) ∧ (aM).bd (rdT s (0 + 1 + 4 + 4 + 4 + 8 + 8 + 1 + 8 + 1 + 8 + 1) 8) = false) ∧ ((0 ≤ rdT s (0 + 1 + 4 + 4 + 4 + 8 + 8 + 1 + 8 + 1 + 8 + 1 + 8) 1 ∧ rdT s (0 + 1 + 4 + 4 + 4 + 8 + 8 + 1 + 8 + 1 + 8 + 1 + 8) 1 < 256 ^ (aF).n) ∧ (aF).bd (rdT s (0 + 1 + 4 + 4 + 4 + 8 + 8 + 1 + 8 + 1 + 8 + 1 + 8) 1) = false) ∧ True := hv
  obtain ⟨v_k, v_id, v_bs, v_bg, v_ver, v_a0v, v_a0f, v_a1v, v_a1f, v_t0v, v_t0f, v_t1v, v_t1f, _⟩ := hv
  refine ⟨?_, ?_, ?_⟩
  · show [rdT s 0 1, rdT s (0 + 1) 4, rdT s (0 + 1 + 4) 4, rdT s (0 + 1 + 4 + 4) 4, rdT s (0 + 1 + 4 + 4 + 4) 8, rdT s (0 + 1 + 4 + 4 + 4 + 8) 8, rdT s (0 + 1 + 4 + 4 + 4 + 8 + 8) 1, rdT s (0 + 1 + 4 + 4 + 4 + 8 + 8 + 1) 8, rdT s (0 + 1 + 4 + 4 + 4 + 8 + 8 + 1 + 8) 1, rdT s (0 + 1 + 4 + 4 + 4 + 8 + 8 + 1 + 8 + 1) 8, rdT s (0 + 1 + 4 + 4 + 4 + 8 + 8 + 1 + 8 + 1 + 8) 1, rdT s (0 + 1 + 4 + 4 + 4 + 8 + 8 + 1 + 8 + 1 + 8 + 1) 8, rdT s (0 + 1 + 4 + 4 + 4 + 8 + 8 + 1 + 8 + 1 + 8 + 1 + 8) 1] = [3, rdT s (0 + 1) 4 % 4294967296, rdT s (0 + 1 + 4) 4 % 4294967296, rdT s (0 + 1 + 4 + 4) 4 % 4294967296, rdT s (0 + 1 + 4 + 4 + 4) 8 % 18446744073709551616, rdI s (0 + 1 + 4 + 4 + 4 + 8) % 18446744073709551616, flN (rdF s (0 + 1 + 4 + 4 + 4 + 8 + 8)), rdI s (0 + 1 + 4 + 4 + 4 + 8 + 8 + 1) % 18446744073709551616, flN (rdF s (0 + 1 + 4 + 4 + 4 + 8 + 8 + 1 + 8)), rdI s (0 + 1 + 4 + 4 + 4 + 8 + 8 + 1 + 8 + 1) % 18446744073709551616, flN (rdF s (0 + 1 + 4 + 4 + 4 + 8 + 8 + 1 + 8 + 1 + 8)), rdI s (0 + 1 + 4 + 4 + 4 + 8 + 8 + 1 + 8 + 1 + 8 + 1) % 18446744073709551616, flN (rdF s (0 + 1 + 4 + 4 + 4 + 8 + 8 + 1 + 8 + 1 + 8 + 1 + 8))]
    rw [gC v_id.1.1 v_id.2, gC v_bs.1.1 v_bs.2, gC v_bg.1.1 v_bg.2, gV v_ver.1.1 v_ver.2, gI' (s := s) (p := 0 + 1 + 4 + 4 + 4 + 8), gF v_a0f.2, gI' (s := s) (p := 0 + 1 + 4 + 4 + 4 + 8 + 8 + 1), gF v_a1f.2, gI' (s := s) (p := 0 + 1 + 4 + 4 + 4 + 8 + 8 + 1 + 8 + 1), gF v_t0f.2, gI' (s := s) (p := 0 + 1 + 4 + 4 + 4 + 8 + 8 + 1 + 8 + 1 + 8 + 1), gF v_t1f.2, hk]
  · show caB (cV3 s 0) (caB3 (cV3 s 0) n) = false
    simp only [caB, caB3, hBad, Bool.or_eq_false_iff, and_assoc]
    exact ⟨mC v_id, mC v_bs, mC v_bg, mV v_ver, mM v_a0v, mM v_a1v, mM v_t0v, mM v_t1v⟩
  · exact ⟨iC v_id, iC v_bs, iC v_bg, iV' v_ver, i0, i0, i0, i0, i0, i0, i0, i0, i0, i0, i0, i0, rdI_rng _ _, rdI_rng _ _, rdI_rng _ _, rdI_rng _ _, i0, i0, i0, i0, i0, i0, i0, i0, i0⟩
theorem fwd_4 {s : ByteArray} {n : Nat} (g : Nat → Int × Int) (hk : rdT s 0 1 = 4) (hv : vok (atC 4 n) (rds s 0 (atC 4 n))) : rds s 0 (atC 4 n) = vsC 4 (cV4 s 0) n g ∧ badB 4 (cV4 s 0) n = false ∧ cvOk (cV4 s 0) := by
  have hv : ((0 ≤ rdT s 0 1 ∧ rdT s 0 1 < 256 ^ (aKd 1).n) ∧ (aKd 1).bd (rdT s 0 1) = false) ∧ ((0 ≤ rdT s (0 + 1) 4 ∧ rdT s (0 + 1) 4 < 256 ^ (aC).n) ∧ (aC).bd (rdT s (0 + 1) 4) = false) ∧ ((0 ≤ rdT s (0 + 1 + 4) 4 ∧ rdT s (0 + 1 + 4) 4 < 256 ^ (aC).n) ∧ (aC).bd (rdT s (0 + 1 + 4) 4) = false) ∧ ((0 ≤ rdT s (0 + 1 + 4 + 4) 4 ∧ rdT s (0 + 1 + 4 + 4) 4 < 256 ^ (aC).n) ∧ (aC).bd (rdT s (0 + 1 + 4 + 4) 4) = false) ∧ ((0 ≤ rdT s (0 + 1 + 4 + 4 + 4) 8 ∧ rdT s (0 + 1 + 4 + 4 + 4) 8 < 256 ^ (aV).n) ∧ (aV).bd (rdT s (0 + 1 + 4 + 4 + 4) 8) = false) ∧ ((0 ≤ rdT s (0 + 1 + 4 + 4 + 4 + 8) 8 ∧ rdT s (0 + 1 + 4 + 4 + 4 + 8) 8 < 256 ^ (aM).n) ∧ (aM).bd (rdT s (0 + 1 + 4 + 4 + 4 + 8) 8) = false) ∧ ((0 ≤ rdT s (0 + 1 + 4 + 4 + 4 + 8 + 8) 1 ∧ rdT s (0 + 1 + 4 + 4 + 4 + 8 + 8) 1 < 256 ^ (aF).n) ∧ (aF).bd (rdT s (0 + 1 + 4 + 4 + 4 + 8 + 8) 1) = false) ∧ ((0 ≤ rdT s (0 + 1 + 4 + 4 + 4 + 8 + 8 + 1) 8 ∧ rdT s (0 + 1 + 4 + 4 + 4 + 8 + 8 + 1) 8 < 256 ^ (aM).n) ∧ (aM).bd (rdT s (0 + 1 + 4 + 4 + 4 + 8 + 8 + 1) 8) = false) ∧ ((0 ≤ rdT s (0 + 1 + 4 + 4 + 4 + 8 + 8 + 1 + 8) 1 ∧ rdT s (0 + 1 + 4 + 4 + 4 + 8 + 8 + 1 + 8) 1 < 256 ^ (aF).n) ∧ (aF).bd (rdT s (0 + 1 + 4 + 4 + 4 + 8 + 8 + 1 + 8) 1) = false) ∧ True := hv
  obtain ⟨v_k, v_id, v_bs, v_bg, v_ver, v_a0v, v_a0f, v_a1v, v_a1f, _⟩ := hv
  refine ⟨?_, ?_, ?_⟩
  · show [rdT s 0 1, rdT s (0 + 1) 4, rdT s (0 + 1 + 4) 4, rdT s (0 + 1 + 4 + 4) 4, rdT s (0 + 1 + 4 + 4 + 4) 8, rdT s (0 + 1 + 4 + 4 + 4 + 8) 8, rdT s (0 + 1 + 4 + 4 + 4 + 8 + 8) 1, rdT s (0 + 1 + 4 + 4 + 4 + 8 + 8 + 1) 8, rdT s (0 + 1 + 4 + 4 + 4 + 8 + 8 + 1 + 8) 1] = [4, rdT s (0 + 1) 4 % 4294967296, rdT s (0 + 1 + 4) 4 % 4294967296, rdT s (0 + 1 + 4 + 4) 4 % 4294967296, rdT s (0 + 1 + 4 + 4 + 4) 8 % 18446744073709551616, rdI s (0 + 1 + 4 + 4 + 4 + 8) % 18446744073709551616, flN (rdF s (0 + 1 + 4 + 4 + 4 + 8 + 8)), rdI s (0 + 1 + 4 + 4 + 4 + 8 + 8 + 1) % 18446744073709551616, flN (rdF s (0 + 1 + 4 + 4 + 4 + 8 + 8 + 1 + 8))]
    rw [gC v_id.1.1 v_id.2, gC v_bs.1.1 v_bs.2, gC v_bg.1.1 v_bg.2, gV v_ver.1.1 v_ver.2, gI' (s := s) (p := 0 + 1 + 4 + 4 + 4 + 8), gF v_a0f.2, gI' (s := s) (p := 0 + 1 + 4 + 4 + 4 + 8 + 8 + 1), gF v_a1f.2, hk]
  · show caB (cV4 s 0) (caB4 (cV4 s 0) n) = false
    simp only [caB, caB4, hBad, Bool.or_eq_false_iff, and_assoc]
    exact ⟨mC v_id, mC v_bs, mC v_bg, mV v_ver, mM v_a0v, mM v_a1v⟩
  · exact ⟨iC v_id, iC v_bs, iC v_bg, iV' v_ver, i0, i0, i0, i0, i0, i0, i0, i0, i0, i0, i0, i0, rdI_rng _ _, rdI_rng _ _, i0, i0, i0, i0, i0, i0, i0, i0, i0, i0, i0⟩
theorem fwd_5 {s : ByteArray} {n : Nat} (g : Nat → Int × Int) (hk : rdT s 0 1 = 5) (hv : vok (atC 5 n) (rds s 0 (atC 5 n))) : rds s 0 (atC 5 n) = vsC 5 (cV5 s 0) n g ∧ badB 5 (cV5 s 0) n = false ∧ cvOk (cV5 s 0) := by
  have hv : ((0 ≤ rdT s 0 1 ∧ rdT s 0 1 < 256 ^ (aKd 1).n) ∧ (aKd 1).bd (rdT s 0 1) = false) ∧ ((0 ≤ rdT s (0 + 1) 4 ∧ rdT s (0 + 1) 4 < 256 ^ (aC).n) ∧ (aC).bd (rdT s (0 + 1) 4) = false) ∧ ((0 ≤ rdT s (0 + 1 + 4) 4 ∧ rdT s (0 + 1 + 4) 4 < 256 ^ (aC).n) ∧ (aC).bd (rdT s (0 + 1 + 4) 4) = false) ∧ ((0 ≤ rdT s (0 + 1 + 4 + 4) 8 ∧ rdT s (0 + 1 + 4 + 4) 8 < 256 ^ (aM).n) ∧ (aM).bd (rdT s (0 + 1 + 4 + 4) 8) = false) ∧ ((0 ≤ rdT s (0 + 1 + 4 + 4 + 8) 1 ∧ rdT s (0 + 1 + 4 + 4 + 8) 1 < 256 ^ (aF).n) ∧ (aF).bd (rdT s (0 + 1 + 4 + 4 + 8) 1) = false) ∧ ((0 ≤ rdT s (0 + 1 + 4 + 4 + 8 + 1) 8 ∧ rdT s (0 + 1 + 4 + 4 + 8 + 1) 8 < 256 ^ (aM).n) ∧ (aM).bd (rdT s (0 + 1 + 4 + 4 + 8 + 1) 8) = false) ∧ ((0 ≤ rdT s (0 + 1 + 4 + 4 + 8 + 1 + 8) 1 ∧ rdT s (0 + 1 + 4 + 4 + 8 + 1 + 8) 1 < 256 ^ (aF).n) ∧ (aF).bd (rdT s (0 + 1 + 4 + 4 + 8 + 1 + 8) 1) = false) ∧ True := hv
  obtain ⟨v_k, v_id, v_gr, v_t0v, v_t0f, v_t1v, v_t1f, _⟩ := hv
  refine ⟨?_, ?_, ?_⟩
  · show [rdT s 0 1, rdT s (0 + 1) 4, rdT s (0 + 1 + 4) 4, rdT s (0 + 1 + 4 + 4) 8, rdT s (0 + 1 + 4 + 4 + 8) 1, rdT s (0 + 1 + 4 + 4 + 8 + 1) 8, rdT s (0 + 1 + 4 + 4 + 8 + 1 + 8) 1] = [5, rdT s (0 + 1) 4 % 4294967296, rdT s (0 + 1 + 4) 4 % 4294967296, rdI s (0 + 1 + 4 + 4) % 18446744073709551616, flN (rdF s (0 + 1 + 4 + 4 + 8)), rdI s (0 + 1 + 4 + 4 + 8 + 1) % 18446744073709551616, flN (rdF s (0 + 1 + 4 + 4 + 8 + 1 + 8))]
    rw [gC v_id.1.1 v_id.2, gC v_gr.1.1 v_gr.2, gI' (s := s) (p := 0 + 1 + 4 + 4), gF v_t0f.2, gI' (s := s) (p := 0 + 1 + 4 + 4 + 8 + 1), gF v_t1f.2, hk]
  · show caB (cV5 s 0) (caB5 (cV5 s 0) n) = false
    simp only [caB, caB5, hBad, Bool.or_eq_false_iff, and_assoc]
    exact ⟨mC v_id, mC v_gr, mM v_t0v, mM v_t1v⟩
  · exact ⟨iC v_id, i0, i0, i0, i0, i0, i0, i0, i0, i0, i0, i0, i0, i0, i0, i0, i0, i0, rdI_rng _ _, rdI_rng _ _, iC v_gr, i0, i0, i0, i0, i0, i0, i0, i0⟩
theorem fwd_6 {s : ByteArray} {n : Nat} (g : Nat → Int × Int) (hk : rdT s 0 1 = 6) (hv : vok (atC 6 n) (rds s 0 (atC 6 n))) : rds s 0 (atC 6 n) = vsC 6 (cV6 s 0) n g ∧ badB 6 (cV6 s 0) n = false ∧ cvOk (cV6 s 0) := by
  have hv : ((0 ≤ rdT s 0 1 ∧ rdT s 0 1 < 256 ^ (aKd 1).n) ∧ (aKd 1).bd (rdT s 0 1) = false) ∧ ((0 ≤ rdT s (0 + 1) 4 ∧ rdT s (0 + 1) 4 < 256 ^ (aC).n) ∧ (aC).bd (rdT s (0 + 1) 4) = false) ∧ ((0 ≤ rdT s (0 + 1 + 4) 4 ∧ rdT s (0 + 1 + 4) 4 < 256 ^ (aC).n) ∧ (aC).bd (rdT s (0 + 1 + 4) 4) = false) ∧ True := hv
  obtain ⟨v_k, v_id, v_gr, _⟩ := hv
  refine ⟨?_, ?_, ?_⟩
  · show [rdT s 0 1, rdT s (0 + 1) 4, rdT s (0 + 1 + 4) 4] = [6, rdT s (0 + 1) 4 % 4294967296, rdT s (0 + 1 + 4) 4 % 4294967296]
    rw [gC v_id.1.1 v_id.2, gC v_gr.1.1 v_gr.2, hk]
  · show caB (cV6 s 0) (caB6 (cV6 s 0) n) = false
    simp only [caB, caB6, hBad, Bool.or_eq_false_iff, and_assoc]
    exact ⟨mC v_id, mC v_gr⟩
  · exact ⟨iC v_id, i0, i0, i0, i0, i0, i0, i0, i0, i0, i0, i0, i0, i0, i0, i0, i0, i0, i0, i0, iC v_gr, i0, i0, i0, i0, i0, i0, i0, i0⟩
theorem fwd_7 {s : ByteArray} {n : Nat} (g : Nat → Int × Int) (hk : rdT s 0 1 = 7) (hv : vok (atC 7 n) (rds s 0 (atC 7 n))) : rds s 0 (atC 7 n) = vsC 7 (cV7 s 0) n g ∧ badB 7 (cV7 s 0) n = false ∧ cvOk (cV7 s 0) := by
  have hv : ((0 ≤ rdT s 0 1 ∧ rdT s 0 1 < 256 ^ (aKd 1).n) ∧ (aKd 1).bd (rdT s 0 1) = false) ∧ ((0 ≤ rdT s (0 + 1) 4 ∧ rdT s (0 + 1) 4 < 256 ^ (aC).n) ∧ (aC).bd (rdT s (0 + 1) 4) = false) ∧ ((0 ≤ rdT s (0 + 1 + 4) 4 ∧ rdT s (0 + 1 + 4) 4 < 256 ^ (aC).n) ∧ (aC).bd (rdT s (0 + 1 + 4) 4) = false) ∧ ((0 ≤ rdT s (0 + 1 + 4 + 4) 4 ∧ rdT s (0 + 1 + 4 + 4) 4 < 256 ^ (aC).n) ∧ (aC).bd (rdT s (0 + 1 + 4 + 4) 4) = false) ∧ True := hv
  obtain ⟨v_k, v_id, v_bs, v_bg, _⟩ := hv
  refine ⟨?_, ?_, ?_⟩
  · show [rdT s 0 1, rdT s (0 + 1) 4, rdT s (0 + 1 + 4) 4, rdT s (0 + 1 + 4 + 4) 4] = [7, rdT s (0 + 1) 4 % 4294967296, rdT s (0 + 1 + 4) 4 % 4294967296, rdT s (0 + 1 + 4 + 4) 4 % 4294967296]
    rw [gC v_id.1.1 v_id.2, gC v_bs.1.1 v_bs.2, gC v_bg.1.1 v_bg.2, hk]
  · show caB (cV7 s 0) (caB7 (cV7 s 0) n) = false
    simp only [caB, caB7, hBad, Bool.or_eq_false_iff, and_assoc]
    exact ⟨mC v_id, mC v_bs, mC v_bg⟩
  · exact ⟨iC v_id, iC v_bs, iC v_bg, i0, i0, i0, i0, i0, i0, i0, i0, i0, i0, i0, i0, i0, i0, i0, i0, i0, i0, i0, i0, i0, i0, i0, i0, i0, i0⟩
theorem fwd_8 {s : ByteArray} {n : Nat} (g : Nat → Int × Int) (hk : rdT s 0 1 = 8) (hv : vok (atC 8 n) (rds s 0 (atC 8 n))) : rds s 0 (atC 8 n) = vsC 8 (cV8 s 0) n g ∧ badB 8 (cV8 s 0) n = false ∧ cvOk (cV8 s 0) := by
  have hv : ((0 ≤ rdT s 0 1 ∧ rdT s 0 1 < 256 ^ (aKd 1).n) ∧ (aKd 1).bd (rdT s 0 1) = false) ∧ ((0 ≤ rdT s (0 + 1) 4 ∧ rdT s (0 + 1) 4 < 256 ^ (aC).n) ∧ (aC).bd (rdT s (0 + 1) 4) = false) ∧ ((0 ≤ rdT s (0 + 1 + 4) 8 ∧ rdT s (0 + 1 + 4) 8 < 256 ^ (aI).n) ∧ (aI).bd (rdT s (0 + 1 + 4) 8) = false) ∧ ((0 ≤ rdT s (0 + 1 + 4 + 8) 8 ∧ rdT s (0 + 1 + 4 + 8) 8 < 256 ^ (aI).n) ∧ (aI).bd (rdT s (0 + 1 + 4 + 8) 8) = false) ∧ ((0 ≤ rdT s (0 + 1 + 4 + 8 + 8) 8 ∧ rdT s (0 + 1 + 4 + 8 + 8) 8 < 256 ^ (aI).n) ∧ (aI).bd (rdT s (0 + 1 + 4 + 8 + 8) 8) = false) ∧ ((0 ≤ rdT s (0 + 1 + 4 + 8 + 8 + 8) 8 ∧ rdT s (0 + 1 + 4 + 8 + 8 + 8) 8 < 256 ^ (aI).n) ∧ (aI).bd (rdT s (0 + 1 + 4 + 8 + 8 + 8) 8) = false) ∧ True := hv
  obtain ⟨v_k, v_id, v_b0, v_b1, v_b2, v_b3, _⟩ := hv
  refine ⟨?_, ?_, ?_⟩
  · show [rdT s 0 1, rdT s (0 + 1) 4, rdT s (0 + 1 + 4) 8, rdT s (0 + 1 + 4 + 8) 8, rdT s (0 + 1 + 4 + 8 + 8) 8, rdT s (0 + 1 + 4 + 8 + 8 + 8) 8] = [8, rdT s (0 + 1) 4 % 4294967296, rdI s (0 + 1 + 4) % 18446744073709551616, rdI s (0 + 1 + 4 + 8) % 18446744073709551616, rdI s (0 + 1 + 4 + 8 + 8) % 18446744073709551616, rdI s (0 + 1 + 4 + 8 + 8 + 8) % 18446744073709551616]
    rw [gC v_id.1.1 v_id.2, gI' (s := s) (p := 0 + 1 + 4), gI' (s := s) (p := 0 + 1 + 4 + 8), gI' (s := s) (p := 0 + 1 + 4 + 8 + 8), gI' (s := s) (p := 0 + 1 + 4 + 8 + 8 + 8), hk]
  · show caB (cV8 s 0) (caB8 (cV8 s 0) n) = false
    simp only [caB, caB8, hBad, Bool.or_eq_false_iff, and_assoc]
    first | exact mC v_id | exact ⟨mC v_id, trivial⟩ | exact ⟨mC v_id, rfl⟩
  · exact ⟨iC v_id, i0, i0, i0, i0, i0, i0, i0, i0, i0, i0, i0, i0, i0, i0, i0, i0, i0, i0, i0, i0, rdI_rng _ _, rdI_rng _ _, rdI_rng _ _, rdI_rng _ _, i0, i0, i0, i0⟩
theorem fwd_9 {s : ByteArray} {n : Nat} (g : Nat → Int × Int) (hk : rdT s 0 1 = 9) (hv : vok (atC 9 n) (rds s 0 (atC 9 n))) : rds s 0 (atC 9 n) = vsC 9 (cV9 s 0) n g ∧ badB 9 (cV9 s 0) n = false ∧ cvOk (cV9 s 0) := by
  have hv : ((0 ≤ rdT s 0 1 ∧ rdT s 0 1 < 256 ^ (aKd 1).n) ∧ (aKd 1).bd (rdT s 0 1) = false) ∧ ((0 ≤ rdT s (0 + 1) 4 ∧ rdT s (0 + 1) 4 < 256 ^ (aC).n) ∧ (aC).bd (rdT s (0 + 1) 4) = false) ∧ ((0 ≤ rdT s (0 + 1 + 4) 8 ∧ rdT s (0 + 1 + 4) 8 < 256 ^ (aI).n) ∧ (aI).bd (rdT s (0 + 1 + 4) 8) = false) ∧ ((0 ≤ rdT s (0 + 1 + 4 + 8) 8 ∧ rdT s (0 + 1 + 4 + 8) 8 < 256 ^ (aI).n) ∧ (aI).bd (rdT s (0 + 1 + 4 + 8) 8) = false) ∧ ((0 ≤ rdT s (0 + 1 + 4 + 8 + 8) 8 ∧ rdT s (0 + 1 + 4 + 8 + 8) 8 < 256 ^ (aI).n) ∧ (aI).bd (rdT s (0 + 1 + 4 + 8 + 8) 8) = false) ∧ ((0 ≤ rdT s (0 + 1 + 4 + 8 + 8 + 8) 8 ∧ rdT s (0 + 1 + 4 + 8 + 8 + 8) 8 < 256 ^ (aI).n) ∧ (aI).bd (rdT s (0 + 1 + 4 + 8 + 8 + 8) 8) = false) ∧ True := hv
  obtain ⟨v_k, v_id, v_f0, v_f1, v_u0, v_u1, _⟩ := hv
  refine ⟨?_, ?_, ?_⟩
  · show [rdT s 0 1, rdT s (0 + 1) 4, rdT s (0 + 1 + 4) 8, rdT s (0 + 1 + 4 + 8) 8, rdT s (0 + 1 + 4 + 8 + 8) 8, rdT s (0 + 1 + 4 + 8 + 8 + 8) 8] = [9, rdT s (0 + 1) 4 % 4294967296, rdI s (0 + 1 + 4) % 18446744073709551616, rdI s (0 + 1 + 4 + 8) % 18446744073709551616, rdI s (0 + 1 + 4 + 8 + 8) % 18446744073709551616, rdI s (0 + 1 + 4 + 8 + 8 + 8) % 18446744073709551616]
    rw [gC v_id.1.1 v_id.2, gI' (s := s) (p := 0 + 1 + 4), gI' (s := s) (p := 0 + 1 + 4 + 8), gI' (s := s) (p := 0 + 1 + 4 + 8 + 8), gI' (s := s) (p := 0 + 1 + 4 + 8 + 8 + 8), hk]
  · show caB (cV9 s 0) (caB9 (cV9 s 0) n) = false
    simp only [caB, caB9, hBad, Bool.or_eq_false_iff, and_assoc]
    first | exact mC v_id | exact ⟨mC v_id, trivial⟩ | exact ⟨mC v_id, rfl⟩
  · exact ⟨iC v_id, i0, i0, i0, i0, i0, i0, i0, i0, i0, i0, i0, i0, i0, i0, i0, i0, i0, i0, i0, i0, i0, i0, i0, i0, rdI_rng _ _, rdI_rng _ _, rdI_rng _ _, rdI_rng _ _⟩
theorem fwd_10 {s : ByteArray} {n : Nat} (g : Nat → Int × Int) (hk : rdT s 0 1 = 10) (hv : vok (atC 10 n) (rds s 0 (atC 10 n))) : rds s 0 (atC 10 n) = vsC 10 (cV10 s 0) n g ∧ badB 10 (cV10 s 0) n = false ∧ cvOk (cV10 s 0) := by
  have hv : ((0 ≤ rdT s 0 1 ∧ rdT s 0 1 < 256 ^ (aKd 1).n) ∧ (aKd 1).bd (rdT s 0 1) = false) ∧ ((0 ≤ rdT s (0 + 1) 4 ∧ rdT s (0 + 1) 4 < 256 ^ (aC).n) ∧ (aC).bd (rdT s (0 + 1) 4) = false) ∧ True := hv
  obtain ⟨v_k, v_id, _⟩ := hv
  refine ⟨?_, ?_, ?_⟩
  · show [rdT s 0 1, rdT s (0 + 1) 4] = [10, rdT s (0 + 1) 4 % 4294967296]
    rw [gC v_id.1.1 v_id.2, hk]
  · show caB (cV10 s 0) (caB10 (cV10 s 0) n) = false
    simp only [caB, caB10, hBad, Bool.or_eq_false_iff, and_assoc]
    first | exact mC v_id | exact ⟨mC v_id, trivial⟩ | exact ⟨mC v_id, rfl⟩
  · exact ⟨iC v_id, i0, i0, i0, i0, i0, i0, i0, i0, i0, i0, i0, i0, i0, i0, i0, i0, i0, i0, i0, i0, i0, i0, i0, i0, i0, i0, i0, i0⟩
theorem fwd_1 {s : ByteArray} (hk : rdT s 0 1 = 1) (hv : vok (atC 1 (shC s (0 + 1 + 4))) (rds s 0 (atC 1 (shC s (0 + 1 + 4))))) : rds s 0 (atC 1 (shC s (0 + 1 + 4))) = vsC 1 (cV1 s 0) (shC s (0 + 1 + 4)) (caSp s 0) ∧ badB 1 (cV1 s 0) (shC s (0 + 1 + 4)) = false ∧ cvOk (cV1 s 0) := by
  have hA : atC 1 (shC s (0 + 1 + 4)) = [aKd 1, aC, aS, aI, aI, aI, aN] ++ (spA (shC s (0 + 1 + 4)) ++ [aM, aF, aM, aF, aM, aF, aM, aF, aM, aF, aM, aF, aM, aF, aI, aF]) := rfl
  have hP : (0 : Int) + ((atL [aKd 1, aC, aS, aI, aI, aI, aN] : Nat) : Int) + ((16 * shC s (0 + 1 + 4) : Nat) : Int) = shEnd s (0 + 1 + 4) := by
    unfold shEnd
    show (31 : Int) + _ = 31 + _
    omega
  have hR : rds s 0 (atC 1 (shC s (0 + 1 + 4))) = [rdT s 0 1, rdT s (0 + 1) 4, rdT s (0 + 1 + 4) 1, rdT s (0 + 1 + 4 + 1) 8, rdT s (0 + 1 + 4 + 1 + 8) 8, rdT s (0 + 1 + 4 + 1 + 8 + 8) 8, rdT s (0 + 1 + 4 + 1 + 8 + 8 + 8) 1] ++ (rds s (shA (0 + 1 + 4)) (spA (shC s (0 + 1 + 4))) ++ [rdT s (shEnd s (0 + 1 + 4)) 8, rdT s (shEnd s (0 + 1 + 4) + 8) 1, rdT s (shEnd s (0 + 1 + 4) + 8 + 1) 8, rdT s (shEnd s (0 + 1 + 4) + 8 + 1 + 8) 1, rdT s (shEnd s (0 + 1 + 4) + 8 + 1 + 8 + 1) 8, rdT s (shEnd s (0 + 1 + 4) + 8 + 1 + 8 + 1 + 8) 1, rdT s (shEnd s (0 + 1 + 4) + 8 + 1 + 8 + 1 + 8 + 1) 8, rdT s (shEnd s (0 + 1 + 4) + 8 + 1 + 8 + 1 + 8 + 1 + 8) 1, rdT s (shEnd s (0 + 1 + 4) + 8 + 1 + 8 + 1 + 8 + 1 + 8 + 1) 8, rdT s (shEnd s (0 + 1 + 4) + 8 + 1 + 8 + 1 + 8 + 1 + 8 + 1 + 8) 1, rdT s (shEnd s (0 + 1 + 4) + 8 + 1 + 8 + 1 + 8 + 1 + 8 + 1 + 8 + 1) 8, rdT s (shEnd s (0 + 1 + 4) + 8 + 1 + 8 + 1 + 8 + 1 + 8 + 1 + 8 + 1 + 8) 1, rdT s (shEnd s (0 + 1 + 4) + 8 + 1 + 8 + 1 + 8 + 1 + 8 + 1 + 8 + 1 + 8 + 1) 8, rdT s (shEnd s (0 + 1 + 4) + 8 + 1 + 8 + 1 + 8 + 1 + 8 + 1 + 8 + 1 + 8 + 1 + 8) 1, rdT s (shEnd s (0 + 1 + 4) + 8 + 1 + 8 + 1 + 8 + 1 + 8 + 1 + 8 + 1 + 8 + 1 + 8 + 1) 8, rdT s (shEnd s (0 + 1 + 4) + 8 + 1 + 8 + 1 + 8 + 1 + 8 + 1 + 8 + 1 + 8 + 1 + 8 + 1 + 8) 1]) := by
    rw [hA, rds_app, rds_app, spA_len, hP]
    rfl
  rw [hR, hA, vok_app rfl, vok_app rds_length] at hv
  obtain ⟨hv1, _, hv3⟩ := hv
  have hv1 : ((0 ≤ rdT s 0 1 ∧ rdT s 0 1 < 256 ^ (aKd 1).n) ∧ (aKd 1).bd (rdT s 0 1) = false) ∧ ((0 ≤ rdT s (0 + 1) 4 ∧ rdT s (0 + 1) 4 < 256 ^ (aC).n) ∧ (aC).bd (rdT s (0 + 1) 4) = false) ∧ ((0 ≤ rdT s (0 + 1 + 4) 1 ∧ rdT s (0 + 1 + 4) 1 < 256 ^ (aS).n) ∧ (aS).bd (rdT s (0 + 1 + 4) 1) = false) ∧ ((0 ≤ rdT s (0 + 1 + 4 + 1) 8 ∧ rdT s (0 + 1 + 4 + 1) 8 < 256 ^ (aI).n) ∧ (aI).bd (rdT s (0 + 1 + 4 + 1) 8) = false) ∧ ((0 ≤ rdT s (0 + 1 + 4 + 1 + 8) 8 ∧ rdT s (0 + 1 + 4 + 1 + 8) 8 < 256 ^ (aI).n) ∧ (aI).bd (rdT s (0 + 1 + 4 + 1 + 8) 8) = false) ∧ ((0 ≤ rdT s (0 + 1 + 4 + 1 + 8 + 8) 8 ∧ rdT s (0 + 1 + 4 + 1 + 8 + 8) 8 < 256 ^ (aI).n) ∧ (aI).bd (rdT s (0 + 1 + 4 + 1 + 8 + 8) 8) = false) ∧ ((0 ≤ rdT s (0 + 1 + 4 + 1 + 8 + 8 + 8) 1 ∧ rdT s (0 + 1 + 4 + 1 + 8 + 8 + 8) 1 < 256 ^ (aN).n) ∧ (aN).bd (rdT s (0 + 1 + 4 + 1 + 8 + 8 + 8) 1) = false) ∧ True := hv1
  obtain ⟨v_k, v_id, v_sk, v_sr, v_sw, v_sh, v_n, _⟩ := hv1
  have hv3 : ((0 ≤ rdT s (shEnd s (0 + 1 + 4)) 8 ∧ rdT s (shEnd s (0 + 1 + 4)) 8 < 256 ^ (aM).n) ∧ (aM).bd (rdT s (shEnd s (0 + 1 + 4)) 8) = false) ∧ ((0 ≤ rdT s (shEnd s (0 + 1 + 4) + 8) 1 ∧ rdT s (shEnd s (0 + 1 + 4) + 8) 1 < 256 ^ (aF).n) ∧ (aF).bd (rdT s (shEnd s (0 + 1 + 4) + 8) 1) = false) ∧ ((0 ≤ rdT s (shEnd s (0 + 1 + 4) + 8 + 1) 8 ∧ rdT s (shEnd s (0 + 1 + 4) + 8 + 1) 8 < 256 ^ (aM).n) ∧ (aM).bd (rdT s (shEnd s (0 + 1 + 4) + 8 + 1) 8) = false) ∧ ((0 ≤ rdT s (shEnd s (0 + 1 + 4) + 8 + 1 + 8) 1 ∧ rdT s (shEnd s (0 + 1 + 4) + 8 + 1 + 8) 1 < 256 ^ (aF).n) ∧ (aF).bd (rdT s (shEnd s (0 + 1 + 4) + 8 + 1 + 8) 1) = false) ∧ ((0 ≤ rdT s (shEnd s (0 + 1 + 4) + 8 + 1 + 8 + 1) 8 ∧ rdT s (shEnd s (0 + 1 + 4) + 8 + 1 + 8 + 1) 8 < 256 ^ (aM).n) ∧ (aM).bd (rdT s (shEnd s (0 + 1 + 4) + 8 + 1 + 8 + 1) 8) = false) ∧ ((0 ≤ rdT s (shEnd s (0 + 1 + 4) + 8 + 1 + 8 + 1 + 8) 1 ∧ rdT s (shEnd s (0 + 1 + 4) + 8 + 1 + 8 + 1 + 8) 1 < 256 ^ (aF).n) ∧ (aF).bd (rdT s (shEnd s (0 + 1 + 4) + 8 + 1 + 8 + 1 + 8) 1) = false) ∧ ((0 ≤ rdT s (shEnd s (0 + 1 + 4) + 8 + 1 + 8 + 1 + 8 + 1) 8 ∧ rdT s (shEnd s (0 + 1 + 4) + 8 + 1 + 8 + 1 + 8 + 1) 8 < 256 ^ (aM).n) ∧ (aM).bd (rdT s (shEnd s (0 + 1 + 4) + 8 + 1 + 8 + 1 + 8 + 1) 8) = false) ∧ ((0 ≤ rdT s (shEnd s (0 + 1 + 4) + 8 + 1 + 8 + 1 + 8 + 1 + 8) 1 ∧ rdT s (shEnd s (0 + 1 + 4) + 8 + 1 + 8 + 1 + 8 + 1 + 8) 1 < 256 ^ (aF).n) ∧ (aF).bd (rdT s (shEnd s (0 + 1 + 4) + 8 + 1 + 8 + 1 + 8 + 1 + 8) 1) = false) ∧ ((0 ≤ rdT s (shEnd s (0 + 1 + 4) + 8 + 1 + 8 + 1 + 8 + 1 + 8 + 1) 8 ∧ rdT s (shEnd s (0 + 1 + 4) + 8 + 1 + 8 + 1 + 8 + 1 + 8 + 1) 8 < 256 ^ (aM).n) ∧ (aM).bd (rdT s (shEnd s (0 + 1 + 4) + 8 + 1 + 8 + 1 + 8 + 1 + 8 + 1) 8) = false) ∧ ((0 ≤ rdT s (shEnd s (0 + 1 + 4) + 8 + 1 + 8 + 1 + 8 + 1 + 8 + 1 + 8) 1 ∧ rdT s (shEnd s (0 + 1 + 4) + 8 + 1 + 8 + 1 + 8 + 1 + 8 + 1 + 8) 1 < 256 ^ (aF).n) ∧ (aF).bd (rdT s (shEnd s (0 + 1 + 4) + 8 + 1 + 8 + 1 + 8 + 1 + 8 + 1 + 8) 1) = false) ∧ ((0 ≤ rdT s (shEnd s (0 + 1 + 4) + 8 + 1 + 8 + 1 + 8 + 1 + 8 + 1 + 8 + 1) 8 ∧ rdT s (shEnd s (0 + 1 + 4) + 8 + 1 + 8 + 1 + 8 + 1 + 8 + 1 + 8 + 1) 8 < 256 ^ (aM).n) ∧ (aM).bd (rdT s (shEnd s (0 + 1 + 4) + 8 + 1 + 8 + 1 + 8 + 1 + 8 + 1 + 8 + 1) 8) = false) ∧ ((0 ≤ rdT s (shEnd s (0 + 1 + 4) + 8 + 1 + 8 + 1 + 8 + 1 + 8 + 1 + 8 + 1 + 8) 1 ∧ rdT s (shEnd s (0 + 1 + 4) + 8 + 1 + 8 + 1 + 8 + 1 + 8 + 1 + 8 + 1 + 8) 1 < 256 ^ (aF).n) ∧ (aF).bd (rdT s (shEnd s (0 + 1 + 4) + 8 + 1 + 8 + 1 + 8 + 1 + 8 + 1 + 8 + 1 + 8) 1) = false) ∧ ((0 ≤ rdT s (shEnd s (0 + 1 + 4) + 8 + 1 + 8 + 1 + 8 + 1 + 8 + 1 + 8 + 1 + 8 + 1) 8 ∧ rdT s (shEnd s (0 + 1 + 4) + 8 + 1 + 8 + 1 + 8 + 1 + 8 + 1 + 8 + 1 + 8 + 1) 8 < 256 ^ (aM).n) ∧ (aM).bd (rdT s (shEnd s (0 + 1 + 4) + 8 + 1 + 8 + 1 + 8 + 1 + 8 + 1 + 8 + 1 + 8 + 1) 8) = false) ∧ ((0 ≤ rdT s (shEnd s (0 + 1 + 4) + 8 + 1 + 8 + 1 + 8 + 1 + 8 + 1 + 8 + 1 + 8 + 1 + 8) 1 ∧ rdT s (shEnd s (0 + 1 + 4) + 8 + 1 + 8 + 1 + 8 + 1 + 8 + 1 + 8 + 1 + 8 + 1 + 8) 1 < 256 ^ (aF).n) ∧ (aF).bd (rdT s (shEnd s (0 + 1 + 4) + 8 + 1 + 8 + 1 + 8 + 1 + 8 + 1 + 8 + 1 + 8 + 1 + 8) 1) = false) ∧ ((0 ≤ rdT s (shEnd s (0 + 1 + 4) + 8 + 1 + 8 + 1 + 8 + 1 + 8 + 1 + 8 + 1 + 8 + 1 + 8 + 1) 8 ∧ rdT s (shEnd s (0 + 1 + 4) + 8 + 1 + 8 + 1 + 8 + 1 + 8 + 1 + 8 + 1 + 8 + 1 + 8 + 1) 8 < 256 ^ (aI).n) ∧ (aI).bd (rdT s (shEnd s (0 + 1 + 4) + 8 + 1 + 8 + 1 + 8 + 1 + 8 + 1 + 8 + 1 + 8 + 1 + 8 + 1) 8) = false) ∧ ((0 ≤ rdT s (shEnd s (0 + 1 + 4) + 8 + 1 + 8 + 1 + 8 + 1 + 8 + 1 + 8 + 1 + 8 + 1 + 8 + 1 + 8) 1 ∧ rdT s (shEnd s (0 + 1 + 4) + 8 + 1 + 8 + 1 + 8 + 1 + 8 + 1 + 8 + 1 + 8 + 1 + 8 + 1 + 8) 1 < 256 ^ (aF).n) ∧ (aF).bd (rdT s (shEnd s (0 + 1 + 4) + 8 + 1 + 8 + 1 + 8 + 1 + 8 + 1 + 8 + 1 + 8 + 1 + 8 + 1 + 8) 1) = false) ∧ True := hv3
  obtain ⟨v_p0v, v_p0f, v_p1v, v_p1f, v_p2v, v_p2f, v_p3v, v_p3f, v_v0v, v_v0f, v_v1v, v_v1f, v_w0v, v_w0f, v_dn, v_mv, _⟩ := hv3
  refine ⟨?_, ?_, ?_⟩
  · rw [hR]
    show [rdT s 0 1, rdT s (0 + 1) 4, rdT s (0 + 1 + 4) 1, rdT s (0 + 1 + 4 + 1) 8, rdT s (0 + 1 + 4 + 1 + 8) 8, rdT s (0 + 1 + 4 + 1 + 8 + 8) 8, rdT s (0 + 1 + 4 + 1 + 8 + 8 + 8) 1] ++ (rds s (shA (0 + 1 + 4)) (spA (shC s (0 + 1 + 4))) ++ [rdT s (shEnd s (0 + 1 + 4)) 8, rdT s (shEnd s (0 + 1 + 4) + 8) 1, rdT s (shEnd s (0 + 1 + 4) + 8 + 1) 8, rdT s (shEnd s (0 + 1 + 4) + 8 + 1 + 8) 1, rdT s (shEnd s (0 + 1 + 4) + 8 + 1 + 8 + 1) 8, rdT s (shEnd s (0 + 1 + 4) + 8 + 1 + 8 + 1 + 8) 1, rdT s (shEnd s (0 + 1 + 4) + 8 + 1 + 8 + 1 + 8 + 1) 8, rdT s (shEnd s (0 + 1 + 4) + 8 + 1 + 8 + 1 + 8 + 1 + 8) 1, rdT s (shEnd s (0 + 1 + 4) + 8 + 1 + 8 + 1 + 8 + 1 + 8 + 1) 8, rdT s (shEnd s (0 + 1 + 4) + 8 + 1 + 8 + 1 + 8 + 1 + 8 + 1 + 8) 1, rdT s (shEnd s (0 + 1 + 4) + 8 + 1 + 8 + 1 + 8 + 1 + 8 + 1 + 8 + 1) 8, rdT s (shEnd s (0 + 1 + 4) + 8 + 1 + 8 + 1 + 8 + 1 + 8 + 1 + 8 + 1 + 8) 1, rdT s (shEnd s (0 + 1 + 4) + 8 + 1 + 8 + 1 + 8 + 1 + 8 + 1 + 8 + 1 + 8 + 1) 8, rdT s (shEnd s (0 + 1 + 4) + 8 + 1 + 8 + 1 + 8 + 1 + 8 + 1 + 8 + 1 + 8 + 1 + 8) 1, rdT s (shEnd s (0 + 1 + 4) + 8 + 1 + 8 + 1 + 8 + 1 + 8 + 1 + 8 + 1 + 8 + 1 + 8 + 1) 8, rdT s (shEnd s (0 + 1 + 4) + 8 + 1 + 8 + 1 + 8 + 1 + 8 + 1 + 8 + 1 + 8 + 1 + 8 + 1 + 8) 1]) = [1, rdT s (0 + 1) 4 % 4294967296, rdT s (0 + 1 + 4) 1, rdI s (0 + 1 + 4 + 1) % 18446744073709551616, rdI s (0 + 1 + 4 + 1 + 8) % 18446744073709551616, rdI s (0 + 1 + 4 + 1 + 8 + 8) % 18446744073709551616, ((shC s (0 + 1 + 4) : Nat) : Int)] ++ (spVs (rdSp s (shA (0 + 1 + 4))) (shC s (0 + 1 + 4)) ++ [rdI s (shEnd s (0 + 1 + 4)) % 18446744073709551616, flN (rdF s (shEnd s (0 + 1 + 4) + 8)), rdI s (shEnd s (0 + 1 + 4) + 8 + 1) % 18446744073709551616, flN (rdF s (shEnd s (0 + 1 + 4) + 8 + 1 + 8)), rdI s (shEnd s (0 + 1 + 4) + 8 + 1 + 8 + 1) % 18446744073709551616, flN (rdF s (shEnd s (0 + 1 + 4) + 8 + 1 + 8 + 1 + 8)), rdI s (shEnd s (0 + 1 + 4) + 8 + 1 + 8 + 1 + 8 + 1) % 18446744073709551616, flN (rdF s (shEnd s (0 + 1 + 4) + 8 + 1 + 8 + 1 + 8 + 1 + 8)), rdI s (shEnd s (0 + 1 + 4) + 8 + 1 + 8 + 1 + 8 + 1 + 8 + 1) % 18446744073709551616, flN (rdF s (shEnd s (0 + 1 + 4) + 8 + 1 + 8 + 1 + 8 + 1 + 8 + 1 + 8)), rdI s (shEnd s (0 + 1 + 4) + 8 + 1 + 8 + 1 + 8 + 1 + 8 + 1 + 8 + 1) % 18446744073709551616, flN (rdF s (shEnd s (0 + 1 + 4) + 8 + 1 + 8 + 1 + 8 + 1 + 8 + 1 + 8 + 1 + 8)), rdI s (shEnd s (0 + 1 + 4) + 8 + 1 + 8 + 1 + 8 + 1 + 8 + 1 + 8 + 1 + 8 + 1) % 18446744073709551616, flN (rdF s (shEnd s (0 + 1 + 4) + 8 + 1 + 8 + 1 + 8 + 1 + 8 + 1 + 8 + 1 + 8 + 1 + 8)), rdI s (shEnd s (0 + 1 + 4) + 8 + 1 + 8 + 1 + 8 + 1 + 8 + 1 + 8 + 1 + 8 + 1 + 8 + 1) % 18446744073709551616, flN (rdF s (shEnd s (0 + 1 + 4) + 8 + 1 + 8 + 1 + 8 + 1 + 8 + 1 + 8 + 1 + 8 + 1 + 8 + 1 + 8))])
    rw [spots_is, gC v_id.1.1 v_id.2, gI' (s := s) (p := 0 + 1 + 4 + 1), gI' (s := s) (p := 0 + 1 + 4 + 1 + 8), gI' (s := s) (p := 0 + 1 + 4 + 1 + 8 + 8), ← shC_int, gI' (s := s) (p := shEnd s (0 + 1 + 4)), gF v_p0f.2, gI' (s := s) (p := shEnd s (0 + 1 + 4) + 8 + 1), gF v_p1f.2, gI' (s := s) (p := shEnd s (0 + 1 + 4) + 8 + 1 + 8 + 1), gF v_p2f.2, gI' (s := s) (p := shEnd s (0 + 1 + 4) + 8 + 1 + 8 + 1 + 8 + 1), gF v_p3f.2, gI' (s := s) (p := shEnd s (0 + 1 + 4) + 8 + 1 + 8 + 1 + 8 + 1 + 8 + 1), gF v_v0f.2, gI' (s := s) (p := shEnd s (0 + 1 + 4) + 8 + 1 + 8 + 1 + 8 + 1 + 8 + 1 + 8 + 1), gF v_v1f.2, gI' (s := s) (p := shEnd s (0 + 1 + 4) + 8 + 1 + 8 + 1 + 8 + 1 + 8 + 1 + 8 + 1 + 8 + 1), gF v_w0f.2, gI' (s := s) (p := shEnd s (0 + 1 + 4) + 8 + 1 + 8 + 1 + 8 + 1 + 8 + 1 + 8 + 1 + 8 + 1 + 8 + 1), gF v_mv.2, hk]
  · show caB (cV1 s 0) (caB1 (cV1 s 0) _) = false
    simp only [caB, caB1, hBad, shBad, Bool.or_eq_false_iff, and_assoc]
    exact ⟨mC v_id, mS v_sk, mN (shC_int s (0 + 1 + 4)) v_n, mM v_p0v, mM v_p1v, mM v_p2v, mM v_p3v, mM v_v0v, mM v_v1v, mM v_w0v⟩
  · exact ⟨iC v_id, i0, i0, i0, iS v_sk, rdI_rng _ _, rdI_rng _ _, rdI_rng _ _, rdI_rng _ _, rdI_rng _ _, rdI_rng _ _, rdI_rng _ _, rdI_rng _ _, rdI_rng _ _, rdI_rng _ _, rdI_rng _ _, i0, i0, i0, i0, i0, i0, i0, i0, i0, i0, i0, i0, i0⟩
theorem caP_kind {s : ByteArray} (h : (caP s 0).bad = false) : 1 ≤ rdT s 0 1 ∧ rdT s 0 1 ≤ 10 := by
  have h2 : (!(decide (1 ≤ rdT s 0 1) && decide (rdT s 0 1 ≤ 10))) = false := (seq_f (seq_f h).1).2
  cases h3 : (decide (1 ≤ rdT s 0 1) && decide (rdT s 0 1 ≤ 10)) with
  | false => rw [h3] at h2; cases h2
  | true =>
    rw [Bool.and_eq_true] at h3
    exact ⟨of_decide_eq_true h3.1, of_decide_eq_true h3.2⟩
theorem fwd_all {s : ByteArray} (hk : 1 ≤ rdT s 0 1 ∧ rdT s 0 1 ≤ 10) (hv : vok (atC (rdT s 0 1) (caN s 0)) (rds s 0 (atC (rdT s 0 1) (caN s 0)))) : rds s 0 (atC (rdT s 0 1) (caN s 0)) = vsC (rdT s 0 1) (caV s 0) (caN s 0) (caSp s 0) ∧ badB (rdT s 0 1) (caV s 0) (caN s 0) = false ∧ cvOk (caV s 0) ∧ ucK (rdT s 0 1) (caV s 0) = caV s 0 ∧ (rdT s 0 1 ≠ 1 → caN s 0 = 0) := by
  rcases ten hk with h | h | h | h | h | h | h | h | h | h
  · have eV : caV s 0 = cV1 s 0 := by unfold caV; rw [h]; rfl
    have eN : caN s 0 = shC s (0 + 1 + 4) := by unfold caN; rw [h]; rfl
    rw [h, eN] at hv
    rw [h, eV, eN]
    obtain ⟨a1, a2, a3⟩ := fwd_1 h hv
    exact ⟨a1, a2, a3, rfl, fun hn => absurd rfl hn⟩
  · have eV : caV s 0 = cV2 s 0 := by unfold caV; rw [h]; rfl
    have eN : caN s 0 = 0 := by unfold caN; rw [h]; rfl
    rw [h, eN] at hv
    rw [h, eV, eN]
    obtain ⟨a1, a2, a3⟩ := fwd_2 (caSp s 0) h hv
    exact ⟨a1, a2, a3, rfl, fun hn => rfl⟩
  · have eV : caV s 0 = cV3 s 0 := by unfold caV; rw [h]; rfl
    have eN : caN s 0 = 0 := by unfold caN; rw [h]; rfl
    rw [h, eN] at hv
    rw [h, eV, eN]
    obtain ⟨a1, a2, a3⟩ := fwd_3 (caSp s 0) h hv
    exact ⟨a1, a2, a3, rfl, fun hn => rfl⟩
  · have eV : caV s 0 = cV4 s 0 := by unfold caV; rw [h]; rfl
    have eN : caN s 0 = 0 := by unfold caN; rw [h]; rfl
    rw [h, eN] at hv
    rw [h, eV, eN]
    obtain ⟨a1, a2, a3⟩ := fwd_4 (caSp s 0) h hv
    exact ⟨a1, a2, a3, rfl, fun hn => rfl⟩
  · have eV : caV s 0 = cV5 s 0 := by unfold caV; rw [h]; rfl
    have eN : caN s 0 = 0 := by unfold caN; rw [h]; rfl
    rw [h, eN] at hv
    rw [h, eV, eN]
    obtain ⟨a1, a2, a3⟩ := fwd_5 (caSp s 0) h hv
    exact ⟨a1, a2, a3, rfl, fun hn => rfl⟩
  · have eV : caV s 0 = cV6 s 0 := by unfold caV; rw [h]; rfl
    have eN : caN s 0 = 0 := by unfold caN; rw [h]; rfl
    rw [h, eN] at hv
    rw [h, eV, eN]
    obtain ⟨a1, a2, a3⟩ := fwd_6 (caSp s 0) h hv
    exact ⟨a1, a2, a3, rfl, fun hn => rfl⟩
  · have eV : caV s 0 = cV7 s 0 := by unfold caV; rw [h]; rfl
    have eN : caN s 0 = 0 := by unfold caN; rw [h]; rfl
    rw [h, eN] at hv
    rw [h, eV, eN]
    obtain ⟨a1, a2, a3⟩ := fwd_7 (caSp s 0) h hv
    exact ⟨a1, a2, a3, rfl, fun hn => rfl⟩
  · have eV : caV s 0 = cV8 s 0 := by unfold caV; rw [h]; rfl
    have eN : caN s 0 = 0 := by unfold caN; rw [h]; rfl
    rw [h, eN] at hv
    rw [h, eV, eN]
    obtain ⟨a1, a2, a3⟩ := fwd_8 (caSp s 0) h hv
    exact ⟨a1, a2, a3, rfl, fun hn => rfl⟩
  · have eV : caV s 0 = cV9 s 0 := by unfold caV; rw [h]; rfl
    have eN : caN s 0 = 0 := by unfold caN; rw [h]; rfl
    rw [h, eN] at hv
    rw [h, eV, eN]
    obtain ⟨a1, a2, a3⟩ := fwd_9 (caSp s 0) h hv
    exact ⟨a1, a2, a3, rfl, fun hn => rfl⟩
  · have eV : caV s 0 = cV10 s 0 := by unfold caV; rw [h]; rfl
    have eN : caN s 0 = 0 := by unfold caN; rw [h]; rfl
    rw [h, eN] at hv
    rw [h, eV, eN]
    obtain ⟨a1, a2, a3⟩ := fwd_10 (caSp s 0) h hv
    exact ⟨a1, a2, a3, rfl, fun hn => rfl⟩
theorem en_f {s : ByteArray} {k : Nat} (h : (enP s (k : Int)).bad = false) : k = s.size := by
  have h : (!((k : Int) == (s.size : Int))) = false := h
  have : ((k : Int) == (s.size : Int)) = true := by
    cases hb : ((k : Int) == (s.size : Int)) with
    | true => rfl
    | false => rw [hb] at h; cases h
  have := beq_iff_eq.1 this
  omega
theorem call_fwd {s : ByteArray} (h : (caP s 0).bad = false) : ((1 ≤ rdT s 0 1 ∧ rdT s 0 1 ≤ 10) ∧ cvOk (caV s 0) ∧ caN s 0 ≤ 8 ∧ ∀ i, I64 (caSp s 0 i).1 ∧ I64 (caSp s 0 i).2) ∧ callE (rdT s 0 1) (caV s 0) (caN s 0) (caSp s 0) = 0 ∧ callT (rdT s 0 1) (caV s 0) (caN s 0) (caSp s 0) = s := by
  have hk := caP_kind h
  have hr := caP_run hk.1 hk.2
  rw [hr] at h
  obtain ⟨⟨h1, h2⟩, h3, h4⟩ := run_dec (k := 0) h (Nat.zero_le _)
  have h2 := en_f h2
  obtain ⟨f1, f2, f3, f4, f5⟩ := fwd_all hk h4
  have hform : formB (rdT s 0 1) (caV s 0) (caN s 0) (caSp s 0) = true := form_of f4 f5
  have hn : caN s 0 ≤ 8 := by
    by_cases h9 : rdT s 0 1 = 1
    · exact bad_n (h9 ▸ f2)
    · rw [f5 h9]; omega
  obtain ⟨c1, c2⟩ := callE_of hk hform f2
  refine ⟨⟨hk, f3, hn, fun i => ⟨rdI_rng _ _, rdI_rng _ _⟩⟩, c1, ?_⟩
  rw [c2]
  apply byt_inj
  rw [bytes_enc hk (fun _ => hn), ← f1]
  have h3 : enc (atC (rdT s 0 1) (caN s 0)) (rds s 0 (atC (rdT s 0 1) (caN s 0))) = ((byt s).drop 0).take (atL (atC (rdT s 0 1) (caN s 0))) := h3
  rw [h3, List.drop_zero, List.take_of_length_le (by rw [byt_len]; omega)]
theorem call_back {k : Int} {c : CV} {n : Nat} {g : Nat → Int × Int} (hc : cvOk c) (hg : ∀ i, i < n → I64 (g i).1 ∧ I64 (g i).2) (h : callE k c n g = 0) : (caP (callT k c n g) 0).bad = false ∧ rdT (callT k c n g) 0 1 = k ∧ caV (callT k c n g) 0 = c ∧ caN (callT k c n g) 0 = n ∧ ∀ i, i < n → caSp (callT k c n g) 0 i = g i := by
  obtain ⟨hk, hf, hb⟩ := callE0 h
  obtain ⟨hu, hn0⟩ := form_eq hk hf
  have eT := (callE_of hk hf hb).2
  have hB : byt (callT k c n g) = enc (atC k n) (vsC k c n g) := by
    rw [eT]
    exact bytes_enc hk fun h1 => bad_n (h1 ▸ hb)
  have hv := vok_all g hk hc hb
  have hlen := enc_len hv
  generalize callT k c n g = s at hB ⊢
  have hsz : s.size = atL (atC k n) := by rw [← byt_len, hB, hlen]
  obtain ⟨r1, r2⟩ := run_enc (s := s) (X := []) (fin := enP s) (P := []) (by rw [List.append_nil]; exact hB) hv
  have r1 : runA s (enP s) 0 (atC k n) = enP s ((0 + atL (atC k n) : Nat) : Int) := r1
  have r2 : rds s 0 (atC k n) = vsC k c n g := r2
  have hend : (enP s ((0 + atL (atC k n) : Nat) : Int)).bad = false := by
    show (!(((0 + atL (atC k n) : Nat) : Int) == (s.size : Int))) = false
    rw [hsz, Nat.zero_add, beq_self_eq_true]
    rfl
  have fields : rdT s 0 1 = k ∧ caV s 0 = c ∧ caN s 0 = n ∧ ∀ i, i < n → caSp s 0 i = g i := by
    rcases ten hk with e | e | e | e | e | e | e | e | e | e <;> subst e
    · obtain ⟨⟨b1, b2⟩, b3, b4⟩ := back_1 hc hb hu hg r2
      exact ⟨b1, by unfold caV; rw [b1]; exact b2, by unfold caN; rw [b1]; exact b3, b4⟩
    · obtain ⟨b1, b2⟩ := back_2 hc hb hu r2
      have hn := hn0 (by decide)
      exact ⟨b1, by unfold caV; rw [b1]; exact b2, by unfold caN; rw [b1, hn]; rfl, fun i hi => by omega⟩
    · obtain ⟨b1, b2⟩ := back_3 hc hb hu r2
      have hn := hn0 (by decide)
      exact ⟨b1, by unfold caV; rw [b1]; exact b2, by unfold caN; rw [b1, hn]; rfl, fun i hi => by omega⟩
    · obtain ⟨b1, b2⟩ := back_4 hc hb hu r2
      have hn := hn0 (by decide)
      exact ⟨b1, by unfold caV; rw [b1]; exact b2, by unfold caN; rw [b1, hn]; rfl, fun i hi => by omega⟩
    · obtain ⟨b1, b2⟩ := back_5 hc hb hu r2
      have hn := hn0 (by decide)
      exact ⟨b1, by unfold caV; rw [b1]; exact b2, by unfold caN; rw [b1, hn]; rfl, fun i hi => by omega⟩
    · obtain ⟨b1, b2⟩ := back_6 hc hb hu r2
      have hn := hn0 (by decide)
      exact ⟨b1, by unfold caV; rw [b1]; exact b2, by unfold caN; rw [b1, hn]; rfl, fun i hi => by omega⟩
    · obtain ⟨b1, b2⟩ := back_7 hc hb hu r2
      have hn := hn0 (by decide)
      exact ⟨b1, by unfold caV; rw [b1]; exact b2, by unfold caN; rw [b1, hn]; rfl, fun i hi => by omega⟩
    · obtain ⟨b1, b2⟩ := back_8 hc hb hu r2
      have hn := hn0 (by decide)
      exact ⟨b1, by unfold caV; rw [b1]; exact b2, by unfold caN; rw [b1, hn]; rfl, fun i hi => by omega⟩
    · obtain ⟨b1, b2⟩ := back_9 hc hb hu r2
      have hn := hn0 (by decide)
      exact ⟨b1, by unfold caV; rw [b1]; exact b2, by unfold caN; rw [b1, hn]; rfl, fun i hi => by omega⟩
    · obtain ⟨b1, b2⟩ := back_10 hc hb hu r2
      have hn := hn0 (by decide)
      exact ⟨b1, by unfold caV; rw [b1]; exact b2, by unfold caN; rw [b1, hn]; rfl, fun i hi => by omega⟩
  refine ⟨?_, fields⟩
  have := caP_run (s := s) (by omega) (by omega)
  rw [fields.1, fields.2.2.1, r1] at this
  rw [this]
  exact hend
end Go.Proofs.Ytjdldadmaaeimaa
end

section
set_option maxRecDepth 100000
set_option linter.unusedSimpArgs false
set_option linter.unusedVariables false
namespace Go.Proofs.Ytjdldadmaaeimaa
open Go.SE Go.RowKit

def srB (n cap : Nat) (a : Int) : Blk := { elem := 114, size := 2, rw := true, lock := false, lit := true, flat := false, n := 1, row := fun _ => [.sl 1 1 0 n cap, .v (.int .i64 a)], ext := 1, whole := true }
def srOk (b : Blk) : Bool := Nat.beq b.elem 114 && Nat.beq b.size 2 && b.rw && !b.dead && Nat.beq b.n 1 && Nat.beq b.ext 1 && b.whole && !b.flat
def niB (e m : Nat) (g : Nat → Int) (x : Nat) (wh : Bool) : Blk := { elem := e, size := 1, rw := false, lock := false, lit := false, flat := true, n := m, row := fun i => [.v (.int .i64 (g i))], ext := x, whole := wh }
def niOk (b : Blk) : Bool := Nat.beq b.size 1 && !b.rw && !b.dead && b.flat
def isI1 : List SV → Prop
  | [.v (.int .i64 a)] => I64 a
  | _ => False
def i1 : List SV → Int
  | [.v (.int _ a)] => a
  | _ => 0
def gI (D : Blk) : Nat → Int := fun i => i1 (D.row i)
def niPre (n : Nat) (D : Blk) : Prop := (D.n = n ∧ True) ∧ ∀ i, i < n → isI1 (D.row i)
def gOk (n : Nat) (g : Nat → Int) : Prop := True ∧ ∀ i, i < n → I64 (g i)
noncomputable def nxV (n : Nat) (g : Nat → Int) (a : Int) : Int := hide (bif decide (a < (n : Int)) then g a.toNat else 0)
noncomputable def frV (m x : Int) : Int := hide ((x.tmod (m + 1)).natAbs : Int)
noncomputable def nuV (x : Int) : Int := hide (bif decide (x = -9223372036854775808) then 0 else x)
noncomputable def nuF (x : Int) : Bool := hide (decide ((nuV x).tmod 7 = 3))
def sSr (F : List SV → Nat → (Nat → Int) → Int → Option (Prop × SV × Int)) (args : List SV) (bs : List Blk) : Option Eff := match args, bs with
  | .vp 0 0 :: rest, [S, D] => match S.row 0 with
    | [.sl 1 1 0 n cap, .v (.int .i64 a)] => match F rest n (gI D) a with
      | some (q, x, a') => bif srOk S && niOk D then some (.det (some ((niPre n D ∧ 0 ≤ a ∧ a' ≤ 4611686018427387904) ∧ q)) x [(0, srB n cap a')]) else none
      | none => none
    | _ => none
  | _, _ => none
def s0 (f : Nat → (Nat → Int) → Int → SV × Int) : List SV → Nat → (Nat → Int) → Int → Option (Prop × SV × Int)
  | [], n, g, a => some (True, (f n g a).1, (f n g a).2)
  | _, _, _, _ => none
noncomputable def sFrom : List SV → Nat → (Nat → Int) → Int → Option (Prop × SV × Int)
  | [.v (.int .i64 m)], n, g, a => some (0 ≤ m ∧ m ≤ 4611686018427387904, .v (.int .i64 (frV m (nxV n g a))), a + 1)
  | _, _, _, _ => none
noncomputable def yNext (n : Nat) (g : Nat → Int) (a : Int) : SV × Int := (.v (.int .i64 (nxV n g a)), a + 1)
noncomputable def nuC2 (n : Nat) (g : Nat → Int) (a : Int) : List SV := [.v (.int .i64 (nuV (nxV n g a))), .v (.bool (nuF (nxV n g a)))]
noncomputable def yNum (n : Nat) (g : Nat → Int) (a : Int) : SV × Int := (.agg (nuC2 n g a), a + 1)
noncomputable def yVec (n : Nat) (g : Nat → Int) (a : Int) : SV × Int := (.agg (nuC2 n g a ++ nuC2 n g (a + 1)), a + 1 + 1)
noncomputable def yPose (n : Nat) (g : Nat → Int) (a : Int) : SV × Int := (.agg (nuC2 n g a ++ (nuC2 n g (a + 1) ++ (nuC2 n g (a + 1 + 1) ++ nuC2 n g (a + 1 + 1 + 1)))), a + 1 + 1 + 1 + 1)
noncomputable def ySpot (n : Nat) (g : Nat → Int) (a : Int) : SV × Int := (.agg [.v (.int .i64 (nxV n g a)), .v (.int .i64 (nxV n g (a + 1)))], a + 1 + 1)
noncomputable def yHandle (n : Nat) (g : Nat → Int) (a : Int) : SV × Int := (.agg [.v (.int .i64 (frV 2147483647 (nxV n g a))), .v (.int .i64 (frV 2147483647 (nxV n g (a + 1))))], a + 1 + 1)
noncomputable def ΓSa : Ctrs := addCtr noCtrs 66 (hpCtr true (sSr (s0 yNext)))
noncomputable def ΓSb : Ctrs := addCtr (addCtr ΓSa 61 (hpCtr true (sSr sFrom))) 65 (hpCtr true (sSr (s0 yNum)))
noncomputable def ΓSc : Ctrs := addCtr ΓSb 64 (hpCtr true (sSr (s0 yVec)))
noncomputable def ΓSd : Ctrs := addCtr (addCtr (addCtr ΓSc 63 (hpCtr true (sSr (s0 yPose)))) 68 (hpCtr true (sSr (s0 ySpot)))) 67 (hpCtr true (sSr (s0 yHandle)))
noncomputable def srC (n : Nat) (g : Nat → Int) (a : Int) : Nat := hide (frV 8 (nxV n g (a + 1 + 1 + 1 + 1))).toNat
def srA (a : Int) : Int := a + 1 + 1 + 1 + 1 + 1
noncomputable def srEnd (n : Nat) (g : Nat → Int) (a : Int) : Int := srA a + 2 * (srC n g a : Int)
noncomputable def srSp (n : Nat) (g : Nat → Int) (a : Int) : Nat → Int × Int := fun i => (nxV n g (srA a + 2 * (i : Int)), nxV n g (srA a + 2 * (i : Int) + 1))
noncomputable def srS4 (n : Nat) (g : Nat → Int) (a : Int) : ShB := ⟨frV 255 (nxV n g a), nxV n g (a + 1), nxV n g (a + 1 + 1), nxV n g (a + 1 + 1 + 1)⟩
noncomputable def srShE (q : Prop) (n cap : Nat) (g : Nat → Int) (a : Int) : Eff := .nd q Nat 0 (fun c => shS (srS4 n g a) (.sl 1000 2 0 (srC n g a) (srC n g a + c))) fun c => [(0, srB n cap (srEnd n g a)), (1000, spW (srC n g a) (srC n g a + c) (srSp n g a))]
noncomputable def sSrSh (args : List SV) (bs : List Blk) : Option Eff := match args, bs with
  | [.vp 0 0], [S, D] => match S.row 0 with
    | [.sl 1 1 0 n cap, .v (.int .i64 a)] => bif srOk S && niOk D then some (srShE (niPre n D ∧ 0 ≤ a ∧ a ≤ 4611686018427387000) n cap (gI D) a) else none
    | _ => none
  | _, _ => none
noncomputable def ΛSrSh (n cap e m xt : Nat) (g : Nat → Int) (a : Int) (wh : Bool) : Nat → Option LoopSpec := addPrs (addLoopN noΛ Try.f62 0 SX (fun x => x.i ≤ srC n g a ∧ x.i ≤ x.c) (fun x => srC n g a - x.i) [(4, fun x => .v (.int .i64 ((srC n g a : Int) - (x.i : Int))))] [(0, fun x => srB n cap (srA a + 2 * (x.i : Int))), (1, fun _ => niB e m g xt wh), (112, fun x => varBlk 35 [.v (.int .i64 (srS4 n g a).k), .v (.int .i64 (srS4 n g a).r), .v (.int .i64 (srS4 n g a).w), .v (.int .i64 (srS4 n g a).h), .sl 40 2 0 x.i x.c])] [(40, fun x => spW x.i x.c (srSp n g a), inVar 112 4)]) 7 [(1, fun _ => [112]), (3, fun _ => [0, 1])]
noncomputable def md (a b : Int) : Int := hide (a % b)
noncomputable def sModH : List SV → Option (Option Prop × SV)
  | [.v (.int .i64 a), .v (.int .i64 b)] => some (some (I64 a ∧ 0 < b ∧ b < 4611686018427387904), .v (.int .i64 (md a b)))
  | _ => none
theorem vcNext (n cap e m x : Nat) (g : Nat→Int) (a : Int) (wh : Bool) : (vcFn Try.prog noCtrs noΛ Try.f66 [.vp 0 0] (heapOf [srB n cap a,niB e m g x wh]) 64 (fun y h' => FinE [srB n cap a,niB e m g x wh] (.det none (yNext n g a).1 [(0,srB n cap (yNext n g a).2)]) y h')) = (sel (decide (IntKind.wrap IntKind.i64 (a + 1) > (↑n : Int))) (((SV.v (.int .i64 0)) = (SV.v (.int .i64 (nxV n g a))))∧(((1 : Nat) = 1)∧(((1 : Nat) ≤ 1)∧(((SV.sl 1 1 0 n cap) = (SV.sl 1 1 0 n cap))∧((SV.v (.int .i64 (IntKind.wrap IntKind.i64 (a + 1)))) = (SV.v (.int .i64 (Prod.snd (yNext n g a))))))))) ((((0 : Int) ≤ (IntKind.wrap IntKind.i64 (IntKind.wrap IntKind.i64 (a + 1) - 1)))∧(((IntKind.wrap IntKind.i64 (IntKind.wrap IntKind.i64 (a + 1) - 1)) : Int) < ((↑n : Int))))∧(((SV.v (.int .i64 (g (0 + Int.toNat (IntKind.wrap IntKind.i64 (IntKind.wrap IntKind.i64 (a + 1) - 1)))))) = (SV.v (.int .i64 (nxV n g a))))∧(((1 : Nat) = 1)∧(((1 : Nat) ≤ 1)∧(((SV.sl 1 1 0 n cap) = (SV.sl 1 1 0 n cap))∧((SV.v (.int .i64 (IntKind.wrap IntKind.i64 (a + 1)))) = (SV.v (.int .i64 (Prod.snd (yNext n g a))))))))))):=by kernel_rfl
theorem vcFrom (n cap e m x : Nat) (g : Nat→Int) (a most : Int) (wh : Bool) : (vcFn Try.prog ΓSa noΛ Try.f61 [.vp 0 0,.v (.int .i64 most)] (heapOf [srB n cap a,niB e m g x wh]) 64 (fun y h' => FinE [srB n cap a,niB e m g x wh] (.det none (.v (.int .i64 (frV most (nxV n g a)))) [(0,srB n cap (a + 1))]) y h')) = ((((niPre n (winBlk (niB e m g x wh) 1 0 n))∧(((0 : Int) ≤ a)∧(((Prod.snd (yNext n (gI (winBlk (niB e m g x wh) 1 0 n)) a)) : Int) ≤ 4611686018427387904)))∧True)∧((((IntKind.wrap IntKind.i64 (most + 1)) : Int) ≠ 0)∧(sel (decide (Int.tmod (nxV n (gI (winBlk (niB e m g x wh) 1 0 n)) a) (IntKind.wrap IntKind.i64 (most + 1)) < 0)) (((SV.v (.int .i64 (IntKind.wrap IntKind.i64 (0 - Int.tmod (nxV n (gI (winBlk (niB e m g x wh) 1 0 n)) a) (IntKind.wrap IntKind.i64 (most + 1)))))) = (SV.v (.int .i64 (frV most (nxV n g a)))))∧(((1 : Nat) = 1)∧(((1 : Nat) ≤ 1)∧(((SV.sl 1 1 0 n cap) = (SV.sl 1 1 0 n cap))∧((SV.v (.int .i64 (Prod.snd (yNext n (gI (winBlk (niB e m g x wh) 1 0 n)) a)))) = (SV.v (.int .i64 (a + 1)))))))) (((SV.v (.int .i64 (Int.tmod (nxV n (gI (winBlk (niB e m g x wh) 1 0 n)) a) (IntKind.wrap IntKind.i64 (most + 1))))) = (SV.v (.int .i64 (frV most (nxV n g a)))))∧(((1 : Nat) = 1)∧(((1 : Nat) ≤ 1)∧(((SV.sl 1 1 0 n cap) = (SV.sl 1 1 0 n cap))∧((SV.v (.int .i64 (Prod.snd (yNext n (gI (winBlk (niB e m g x wh) 1 0 n)) a)))) = (SV.v (.int .i64 (a + 1))))))))))):=by kernel_rfl
theorem vcSNum (n cap e m x : Nat) (g : Nat→Int) (a : Int) (wh : Bool) : (vcFn Try.prog ΓSa noΛ Try.f65 [.vp 0 0] (heapOf [srB n cap a,niB e m g x wh]) 64 (fun y h' => FinE [srB n cap a,niB e m g x wh] (.det none (yNum n g a).1 [(0,srB n cap (yNum n g a).2)]) y h')) = ((((niPre n (winBlk (niB e m g x wh) 1 0 n))∧(((0 : Int) ≤ a)∧(((Prod.snd (yNext n (gI (winBlk (niB e m g x wh) 1 0 n)) a)) : Int) ≤ 4611686018427387904)))∧True)∧(sel (nxV n (gI (winBlk (niB e m g x wh) 1 0 n)) a == -9223372036854775808) ((((SV.v (.int .i64 0)) = (SV.v (.int .i64 (nuV (nxV n g a)))))∧((SV.v (.bool false)) = (SV.v (.bool (nuF (nxV n g a))))))∧(((1 : Nat) = 1)∧(((1 : Nat) ≤ 1)∧(((SV.sl 1 1 0 n cap) = (SV.sl 1 1 0 n cap))∧((SV.v (.int .i64 (Prod.snd (yNext n (gI (winBlk (niB e m g x wh) 1 0 n)) a)))) = (SV.v (.int .i64 (Prod.snd (yNum n g a))))))))) ((((SV.v (.int .i64 (nxV n (gI (winBlk (niB e m g x wh) 1 0 n)) a))) = (SV.v (.int .i64 (nuV (nxV n g a)))))∧((SV.v (.bool (Int.tmod (nxV n (gI (winBlk (niB e m g x wh) 1 0 n)) a) 7 == 3))) = (SV.v (.bool (nuF (nxV n g a))))))∧(((1 : Nat) = 1)∧(((1 : Nat) ≤ 1)∧(((SV.sl 1 1 0 n cap) = (SV.sl 1 1 0 n cap))∧((SV.v (.int .i64 (Prod.snd (yNext n (gI (winBlk (niB e m g x wh) 1 0 n)) a)))) = (SV.v (.int .i64 (Prod.snd (yNum n g a))))))))))):=by kernel_rfl
theorem vcSVec (n cap e m x : Nat) (g : Nat→Int) (a : Int) (wh : Bool) : (vcFn Try.prog ΓSb (addPrs noΛ 2 [(0,fun _ => [88]),(2,fun _ => [0,1])]) Try.f64 [.vp 0 0] (heapOf [srB n cap a,niB e m g x wh]) 64 (fun y h' => FinE [srB n cap a,niB e m g x wh] (.det none (yVec n g a).1 [(0,srB n cap (yVec n g a).2)]) y h')) = ((((niPre n (winBlk (niB e m g x wh) 1 0 n))∧(((0 : Int) ≤ a)∧(((Prod.snd (yNum n (gI (winBlk (niB e m g x wh) 1 0 n)) a)) : Int) ≤ 4611686018427387904)))∧True)∧((((niPre n (winBlk (niB e m g x wh) 1 0 n))∧(((0 : Int) ≤ (Prod.snd (yNum n (gI (winBlk (niB e m g x wh) 1 0 n)) a)))∧(((Prod.snd (yNum n (gI (winBlk (niB e m g x wh) 1 0 n)) (Prod.snd (yNum n (gI (winBlk (niB e m g x wh) 1 0 n)) a)))) : Int) ≤ 4611686018427387904)))∧True)∧((((SV.v (.int .i64 (nuV (nxV n (gI (winBlk (niB e m g x wh) 1 0 n)) a)))) = (SV.v (.int .i64 (nuV (nxV n g a)))))∧(((SV.v (.bool (nuF (nxV n (gI (winBlk (niB e m g x wh) 1 0 n)) a)))) = (SV.v (.bool (nuF (nxV n g a)))))∧(((SV.v (.int .i64 (nuV (nxV n (gI (winBlk (niB e m g x wh) 1 0 n)) (Prod.snd (yNum n (gI (winBlk (niB e m g x wh) 1 0 n)) a)))))) = (SV.v (.int .i64 (nuV (nxV n g (a + 1))))))∧((SV.v (.bool (nuF (nxV n (gI (winBlk (niB e m g x wh) 1 0 n)) (Prod.snd (yNum n (gI (winBlk (niB e m g x wh) 1 0 n)) a)))))) = (SV.v (.bool (nuF (nxV n g (a + 1)))))))))∧(((1 : Nat) = 1)∧(((1 : Nat) ≤ 1)∧(((SV.sl 1 1 0 n cap) = (SV.sl 1 1 0 n cap))∧((SV.v (.int .i64 (Prod.snd (yNum n (gI (winBlk (niB e m g x wh) 1 0 n)) (Prod.snd (yNum n (gI (winBlk (niB e m g x wh) 1 0 n)) a)))))) = (SV.v (.int .i64 (Prod.snd (yVec n g a))))))))))):=by kernel_rfl
theorem vcSPose (n cap e m x : Nat) (g : Nat→Int) (a : Int) (wh : Bool) : (vcFn Try.prog ΓSc (addPrs noΛ 3 [(0,fun _ => [88]),(1,fun _ => [120]),(3,fun _ => [0,1])]) Try.f63 [.vp 0 0] (heapOf [srB n cap a,niB e m g x wh]) 64 (fun y h' => FinE [srB n cap a,niB e m g x wh] (.det none (yPose n g a).1 [(0,srB n cap (yPose n g a).2)]) y h')) = ((((niPre n (winBlk (niB e m g x wh) 1 0 n))∧(((0 : Int) ≤ a)∧(((Prod.snd (yVec n (gI (winBlk (niB e m g x wh) 1 0 n)) a)) : Int) ≤ 4611686018427387904)))∧True)∧((((niPre n (winBlk (niB e m g x wh) 1 0 n))∧(((0 : Int) ≤ (Prod.snd (yVec n (gI (winBlk (niB e m g x wh) 1 0 n)) a)))∧(((Prod.snd (yNum n (gI (winBlk (niB e m g x wh) 1 0 n)) (Prod.snd (yVec n (gI (winBlk (niB e m g x wh) 1 0 n)) a)))) : Int) ≤ 4611686018427387904)))∧True)∧((((niPre n (winBlk (niB e m g x wh) 1 0 n))∧(((0 : Int) ≤ (Prod.snd (yNum n (gI (winBlk (niB e m g x wh) 1 0 n)) (Prod.snd (yVec n (gI (winBlk (niB e m g x wh) 1 0 n)) a)))))∧(((Prod.snd (yNum n (gI (winBlk (niB e m g x wh) 1 0 n)) (Prod.snd (yNum n (gI (winBlk (niB e m g x wh) 1 0 n)) (Prod.snd (yVec n (gI (winBlk (niB e m g x wh) 1 0 n)) a)))))) : Int) ≤ 4611686018427387904)))∧True)∧((((SV.v (.int .i64 (nuV (nxV n (gI (winBlk (niB e m g x wh) 1 0 n)) a)))) = (SV.v (.int .i64 (nuV (nxV n g a)))))∧(((SV.v (.bool (nuF (nxV n (gI (winBlk (niB e m g x wh) 1 0 n)) a)))) = (SV.v (.bool (nuF (nxV n g a)))))∧(((SV.v (.int .i64 (nuV (nxV n (gI (winBlk (niB e m g x wh) 1 0 n)) (a + 1))))) = (SV.v (.int .i64 (nuV (nxV n g (a + 1))))))∧(((SV.v (.bool (nuF (nxV n (gI (winBlk (niB e m g x wh) 1 0 n)) (a + 1))))) = (SV.v (.bool (nuF (nxV n g (a + 1))))))∧(((SV.v (.int .i64 (nuV (nxV n (gI (winBlk (niB e m g x wh) 1 0 n)) (Prod.snd (yVec n (gI (winBlk (niB e m g x wh) 1 0 n)) a)))))) = (SV.v (.int .i64 (nuV (nxV n g (a + 1 + 1))))))∧(((SV.v (.bool (nuF (nxV n (gI (winBlk (niB e m g x wh) 1 0 n)) (Prod.snd (yVec n (gI (winBlk (niB e m g x wh) 1 0 n)) a)))))) = (SV.v (.bool (nuF (nxV n g (a + 1 + 1))))))∧(((SV.v (.int .i64 (nuV (nxV n (gI (winBlk (niB e m g x wh) 1 0 n)) (Prod.snd (yNum n (gI (winBlk (niB e m g x wh) 1 0 n)) (Prod.snd (yVec n (gI (winBlk (niB e m g x wh) 1 0 n)) a)))))))) = (SV.v (.int .i64 (nuV (nxV n g (a + 1 + 1 + 1))))))∧((SV.v (.bool (nuF (nxV n (gI (winBlk (niB e m g x wh) 1 0 n)) (Prod.snd (yNum n (gI (winBlk (niB e m g x wh) 1 0 n)) (Prod.snd (yVec n (gI (winBlk (niB e m g x wh) 1 0 n)) a)))))))) = (SV.v (.bool (nuF (nxV n g (a + 1 + 1 + 1)))))))))))))∧(((1 : Nat) = 1)∧(((1 : Nat) ≤ 1)∧(((SV.sl 1 1 0 n cap) = (SV.sl 1 1 0 n cap))∧((SV.v (.int .i64 (Prod.snd (yNum n (gI (winBlk (niB e m g x wh) 1 0 n)) (Prod.snd (yNum n (gI (winBlk (niB e m g x wh) 1 0 n)) (Prod.snd (yVec n (gI (winBlk (niB e m g x wh) 1 0 n)) a)))))))) = (SV.v (.int .i64 (Prod.snd (yPose n g a)))))))))))):=by kernel_rfl
theorem vcSSpot (n cap e m x : Nat) (g : Nat→Int) (a : Int) (wh : Bool) : (vcFn Try.prog ΓSa noΛ Try.f68 [.vp 0 0] (heapOf [srB n cap a,niB e m g x wh]) 64 (fun y h' => FinE [srB n cap a,niB e m g x wh] (.det none (ySpot n g a).1 [(0,srB n cap (ySpot n g a).2)]) y h')) = ((((niPre n (winBlk (niB e m g x wh) 1 0 n))∧(((0 : Int) ≤ a)∧(((Prod.snd (yNext n (gI (winBlk (niB e m g x wh) 1 0 n)) a)) : Int) ≤ 4611686018427387904)))∧True)∧((((niPre n (winBlk (niB e m g x wh) 1 0 n))∧(((0 : Int) ≤ (Prod.snd (yNext n (gI (winBlk (niB e m g x wh) 1 0 n)) a)))∧(((Prod.snd (yNext n (gI (winBlk (niB e m g x wh) 1 0 n)) (Prod.snd (yNext n (gI (winBlk (niB e m g x wh) 1 0 n)) a)))) : Int) ≤ 4611686018427387904)))∧True)∧((((SV.v (.int .i64 (nxV n (gI (winBlk (niB e m g x wh) 1 0 n)) a))) = (SV.v (.int .i64 (nxV n g a))))∧((SV.v (.int .i64 (nxV n (gI (winBlk (niB e m g x wh) 1 0 n)) (Prod.snd (yNext n (gI (winBlk (niB e m g x wh) 1 0 n)) a))))) = (SV.v (.int .i64 (nxV n g (a + 1))))))∧(((1 : Nat) = 1)∧(((1 : Nat) ≤ 1)∧(((SV.sl 1 1 0 n cap) = (SV.sl 1 1 0 n cap))∧((SV.v (.int .i64 (Prod.snd (yNext n (gI (winBlk (niB e m g x wh) 1 0 n)) (Prod.snd (yNext n (gI (winBlk (niB e m g x wh) 1 0 n)) a)))))) = (SV.v (.int .i64 (Prod.snd (ySpot n g a))))))))))):=by kernel_rfl
theorem vcSHandle (n cap e m x : Nat) (g : Nat→Int) (a : Int) (wh : Bool) : (vcFn Try.prog ΓSb noΛ Try.f67 [.vp 0 0] (heapOf [srB n cap a,niB e m g x wh]) 64 (fun y h' => FinE [srB n cap a,niB e m g x wh] (.det none (yHandle n g a).1 [(0,srB n cap (yHandle n g a).2)]) y h')) = ((((niPre n (winBlk (niB e m g x wh) 1 0 n))∧(((0 : Int) ≤ a)∧(((a + 1) : Int) ≤ 4611686018427387904)))∧(((0 : Int) ≤ 2147483647)∧((2147483647 : Int) ≤ 4611686018427387904)))∧((((niPre n (winBlk (niB e m g x wh) 1 0 n))∧(((0 : Int) ≤ (a + 1))∧(((a + 1 + 1) : Int) ≤ 4611686018427387904)))∧(((0 : Int) ≤ 2147483647)∧((2147483647 : Int) ≤ 4611686018427387904)))∧((((SV.v (.int .i64 (frV 2147483647 (nxV n (gI (winBlk (niB e m g x wh) 1 0 n)) a)))) = (SV.v (.int .i64 (frV 2147483647 (nxV n g a)))))∧((SV.v (.int .i64 (frV 2147483647 (nxV n (gI (winBlk (niB e m g x wh) 1 0 n)) (a + 1))))) = (SV.v (.int .i64 (frV 2147483647 (nxV n g (a + 1)))))))∧(((1 : Nat) = 1)∧(((1 : Nat) ≤ 1)∧(((SV.sl 1 1 0 n cap) = (SV.sl 1 1 0 n cap))∧((SV.v (.int .i64 (a + 1 + 1))) = (SV.v (.int .i64 (Prod.snd (yHandle n g a))))))))))):=by kernel_rfl
theorem vcSShape (n cap e m x : Nat) (g : Nat→Int) (a : Int) (wh : Bool) : (vcFn Try.prog ΓSd (ΛSrSh n cap e m x g a wh) Try.f62 [.vp 0 0] (heapOf [srB n cap a,niB e m g x wh]) 64 (fun y h' => FinE [srB n cap a,niB e m g x wh] (srShE True n cap g a) y h')) = ((((niPre n (winBlk (niB e m g x wh) 1 0 n))∧(((0 : Int) ≤ a)∧(((a + 1) : Int) ≤ 4611686018427387904)))∧(((0 : Int) ≤ 255)∧((255 : Int) ≤ 4611686018427387904)))∧((((niPre n (winBlk (niB e m g x wh) 1 0 n))∧(((0 : Int) ≤ (a + 1))∧(((Prod.snd (yNext n (gI (winBlk (niB e m g x wh) 1 0 n)) (a + 1))) : Int) ≤ 4611686018427387904)))∧True)∧((((niPre n (winBlk (niB e m g x wh) 1 0 n))∧(((0 : Int) ≤ (Prod.snd (yNext n (gI (winBlk (niB e m g x wh) 1 0 n)) (a + 1))))∧(((Prod.snd (yNext n (gI (winBlk (niB e m g x wh) 1 0 n)) (Prod.snd (yNext n (gI (winBlk (niB e m g x wh) 1 0 n)) (a + 1))))) : Int) ≤ 4611686018427387904)))∧True)∧((((niPre n (winBlk (niB e m g x wh) 1 0 n))∧(((0 : Int) ≤ (Prod.snd (yNext n (gI (winBlk (niB e m g x wh) 1 0 n)) (Prod.snd (yNext n (gI (winBlk (niB e m g x wh) 1 0 n)) (a + 1))))))∧(((Prod.snd (yNext n (gI (winBlk (niB e m g x wh) 1 0 n)) (Prod.snd (yNext n (gI (winBlk (niB e m g x wh) 1 0 n)) (Prod.snd (yNext n (gI (winBlk (niB e m g x wh) 1 0 n)) (a + 1))))))) : Int) ≤ 4611686018427387904)))∧True)∧((((niPre n (winBlk (niB e m g x wh) 1 0 n))∧(((0 : Int) ≤ (Prod.snd (yNext n (gI (winBlk (niB e m g x wh) 1 0 n)) (Prod.snd (yNext n (gI (winBlk (niB e m g x wh) 1 0 n)) (Prod.snd (yNext n (gI (winBlk (niB e m g x wh) 1 0 n)) (a + 1))))))))∧(((Prod.snd (yNext n (gI (winBlk (niB e m g x wh) 1 0 n)) (Prod.snd (yNext n (gI (winBlk (niB e m g x wh) 1 0 n)) (Prod.snd (yNext n (gI (winBlk (niB e m g x wh) 1 0 n)) (a + 1)))))) + 1) : Int) ≤ 4611686018427387904)))∧(((0 : Int) ≤ 8)∧((8 : Int) ≤ 4611686018427387904)))∧((∃ x_1 : SX,(((((SX.i x_1) : Nat) ≤ (srC n g a))∧(((SX.i x_1) : Nat) ≤ (SX.c x_1)))∧(((SV.v (.int .i64 (frV 8 (nxV n (gI (winBlk (niB e m g x wh) 1 0 n)) (Prod.snd (yNext n (gI (winBlk (niB e m g x wh) 1 0 n)) (Prod.snd (yNext n (gI (winBlk (niB e m g x wh) 1 0 n)) (Prod.snd (yNext n (gI (winBlk (niB e m g x wh) 1 0 n)) (a + 1))))))))))) = (SV.v (.int .i64 ((↑(srC n g a) : Int) - (↑(SX.i x_1) : Int)))))∧((((1 : Nat) = 1)∧(((1 : Nat) ≤ 1)∧(((SV.sl 1 1 0 n cap) = (SV.sl 1 1 0 n cap))∧((SV.v (.int .i64 (Prod.snd (yNext n (gI (winBlk (niB e m g x wh) 1 0 n)) (Prod.snd (yNext n (gI (winBlk (niB e m g x wh) 1 0 n)) (Prod.snd (yNext n (gI (winBlk (niB e m g x wh) 1 0 n)) (a + 1)))))) + 1))) = (SV.v (.int .i64 (srA a + 2 * (↑(SX.i x_1) : Int))))))))∧( (sel (Nat.beq 1 1&&false == false&&!false&&!false&&(true||!true)&&!false&&!false&&(Nat.beq e 0||Nat.beq e e)&&(!wh||wh)) (((m : Nat) = m)∧(((x : Nat) ≤ x)∧(∀ i : Nat,(((i : Nat) < m)→([(SV.v (.int .i64 (g i)))] = [(SV.v (.int .i64 (g i)))]))))) False)∧((((1 : Nat) = 1)∧(((1 : Nat) ≤ 1)∧(((SV.v (.int .i64 (frV 255 (nxV n (gI (winBlk (niB e m g x wh) 1 0 n)) a)))) = (SV.v (.int .i64 (ShB.k (srS4 n g a)))))∧(((SV.v (.int .i64 (nxV n (gI (winBlk (niB e m g x wh) 1 0 n)) (a + 1)))) = (SV.v (.int .i64 (ShB.r (srS4 n g a)))))∧(((SV.v (.int .i64 (nxV n (gI (winBlk (niB e m g x wh) 1 0 n)) (Prod.snd (yNext n (gI (winBlk (niB e m g x wh) 1 0 n)) (a + 1)))))) = (SV.v (.int .i64 (ShB.w (srS4 n g a)))))∧(((SV.v (.int .i64 (nxV n (gI (winBlk (niB e m g x wh) 1 0 n)) (Prod.snd (yNext n (gI (winBlk (niB e m g x wh) 1 0 n)) (Prod.snd (yNext n (gI (winBlk (niB e m g x wh) 1 0 n)) (a + 1)))))))) = (SV.v (.int .i64 (ShB.h (srS4 n g a)))))∧(((SV.v (Value.slice none 0 0)) = (SV.v (Value.slice none 0 0)))∧(((0 : Nat) = 0)∧((((SX.i x_1) : Nat) = 0)∧(((SX.c x_1) : Nat) = 0))))))))))∧(((((SX.i x_1) : Nat) = 0)∧((((SX.c x_1) : Nat) = 0)∧True))∧True)))))))∧(∀ x_1 : SX,(((((SX.i x_1) : Nat) ≤ (srC n g a))∧(((SX.i x_1) : Nat) ≤ (SX.c x_1)))→(sel (decide ((↑(srC n g a) : Int) - (↑(SX.i x_1) : Int) > 0)) ((((niPre n (winBlk (niB e m g x wh) 1 0 n))∧(((0 : Int) ≤ (srA a + 2 * (↑(SX.i x_1) : Int)))∧(((Prod.snd (ySpot n (gI (winBlk (niB e m g x wh) 1 0 n)) (srA a + 2 * (↑(SX.i x_1) : Int)))) : Int) ≤ 4611686018427387904)))∧True)∧((((((SX.i x_1 + 1) * 16) : Nat) ≤ 140737488355328)∧((((0 + SX.c x_1) : Nat) ≤ (SX.c x_1))∧(∀ y : Nat,(((y : Nat) < 1)→True))))∧(∀ c : Nat,(∃ x' : SX,((((((SX.i x') : Nat) ≤ (srC n g a))∧(((SX.i x') : Nat) ≤ (SX.c x')))∧(((SV.v (.int .i64 (IntKind.wrap IntKind.i64 ((↑(srC n g a) : Int) - (↑(SX.i x_1) : Int) - 1)))) = (SV.v (.int .i64 ((↑(srC n g a) : Int) - (↑(SX.i x') : Int)))))∧((((1 : Nat) = 1)∧(((1 : Nat) ≤ 1)∧(((SV.sl 1 1 0 n cap) = (SV.sl 1 1 0 n cap))∧((SV.v (.int .i64 (Prod.snd (ySpot n (gI (winBlk (niB e m g x wh) 1 0 n)) (srA a + 2 * (↑(SX.i x_1) : Int)))))) = (SV.v (.int .i64 (srA a + 2 * (↑(SX.i x') : Int))))))))∧( (sel (Nat.beq 1 1&&false == false&&!false&&!false&&(true||!true)&&!false&&!false&&(Nat.beq e 0||Nat.beq e e)&&(!wh||wh)) (((m : Nat) = m)∧(((x : Nat) ≤ x)∧(∀ i : Nat,(((i : Nat) < m)→([(SV.v (.int .i64 (g i)))] = [(SV.v (.int .i64 (g i)))]))))) False)∧((((1 : Nat) = 1)∧(((1 : Nat) ≤ 1)∧(((SV.v (.int .i64 (ShB.k (srS4 n g a)))) = (SV.v (.int .i64 (ShB.k (srS4 n g a)))))∧(((SV.v (.int .i64 (ShB.r (srS4 n g a)))) = (SV.v (.int .i64 (ShB.r (srS4 n g a)))))∧(((SV.v (.int .i64 (ShB.w (srS4 n g a)))) = (SV.v (.int .i64 (ShB.w (srS4 n g a)))))∧(((SV.v (.int .i64 (ShB.h (srS4 n g a)))) = (SV.v (.int .i64 (ShB.h (srS4 n g a)))))∧((SV.sl 272 2 0 (SX.i x_1 + 1) (SX.i x_1 + 1 + c)) = (SV.sl 272 2 0 (SX.i x') (SX.c x')))))))))∧((((SX.i x_1 + 1) : Nat) = (SX.i x'))∧((((SX.c x') : Nat) ≤ (SX.i x_1 + 1 + c))∧(∀ i : Nat,(((i : Nat) < (SX.i x'))→([(SV.v (.int .i64 (bop (Nat.blt i (SX.i x_1)) (Prod.fst (srSp n g a (0 + i))) (nxV n (gI (winBlk (niB e m g x wh) 1 0 n)) (srA a + 2 * (↑(SX.i x_1) : Int)))))),(SV.v (.int .i64 (bop (Nat.blt i (SX.i x_1)) (Prod.snd (srSp n g a (0 + i))) (nxV n (gI (winBlk (niB e m g x wh) 1 0 n)) (srA a + 2 * (↑(SX.i x_1) : Int) + 1)))))] = [(SV.v (.int .i64 (Prod.fst (srSp n g a i)))),(SV.v (.int .i64 (Prod.snd (srSp n g a i))))]))))))))))∧(((srC n g a - SX.i x') : Nat) < (srC n g a - SX.i x_1))))))) (∃ c : Nat,((((SV.v (.int .i64 (ShB.k (srS4 n g a)))) = (SV.v (.int .i64 (ShB.k (srS4 n g a)))))∧(((SV.v (.int .i64 (ShB.r (srS4 n g a)))) = (SV.v (.int .i64 (ShB.r (srS4 n g a)))))∧(((SV.v (.int .i64 (ShB.w (srS4 n g a)))) = (SV.v (.int .i64 (ShB.w (srS4 n g a)))))∧(((SV.v (.int .i64 (ShB.h (srS4 n g a)))) = (SV.v (.int .i64 (ShB.h (srS4 n g a)))))∧((SV.sl 40 2 0 (SX.i x_1) (SX.c x_1)) = (SV.sl 40 2 0 (srC n g a) (srC n g a + c)))))))∧((((1 : Nat) = 1)∧(((1 : Nat) ≤ 1)∧(((SV.sl 1 1 0 n cap) = (SV.sl 1 1 0 n cap))∧((SV.v (.int .i64 (srA a + 2 * (↑(SX.i x_1) : Int)))) = (SV.v (.int .i64 (srEnd n g a)))))))∧((((SX.i x_1) : Nat) = (srC n g a))∧((((srC n g a + c) : Nat) ≤ (SX.c x_1))∧(∀ i : Nat,(((i : Nat) < (srC n g a))→([(SV.v (.int .i64 (Prod.fst (srSp n g a i)))),(SV.v (.int .i64 (Prod.snd (srSp n g a i))))] = [(SV.v (.int .i64 (Prod.fst (srSp n g a i)))),(SV.v (.int .i64 (Prod.snd (srSp n g a i))))]))))))))))))))))):=by kernel_rfl
theorem vcModH (a b : Int) (R : SV→Prop) : (vcPure Try.prog noCtrs noΛ Try.f39 [.v (.int .i64 a),.v (.int .i64 b)] R) = (((b : Int) ≠ 0)∧(sel (decide (Int.tmod a b < 0)) (R (SV.v (.int .i64 (IntKind.wrap IntKind.i64 (Int.tmod a b + b))))) (R (SV.v (.int .i64 (Int.tmod a b)))))):=by kernel_rfl
theorem gI_win {e m n x : Nat} {g : Nat → Int} {wh : Bool} : gI (winBlk (niB e m g x wh) 1 0 n) = g := funext fun i => by
  show i1 [SV.v (.int .i64 (g (0 + i)))] = g i
  rw [Nat.zero_add]; rfl
theorem niPre_win {e m n x : Nat} {g : Nat → Int} {wh : Bool} (h : gOk n g) : niPre n (winBlk (niB e m g x wh) 1 0 n) := ⟨⟨rfl, h.1⟩, fun i hi => by
  show I64 (g (0 + i))
  rw [Nat.zero_add]; exact h.2 i hi⟩
theorem isI1_row {r : List SV} (h : isI1 r) : r = [.v (.int .i64 (i1 r))] ∧ I64 (i1 r) := by
  unfold isI1 at h
  split at h
  · exact ⟨rfl, h⟩
  · exact h.elim
theorem same_srB {S : Blk} {n cap : Nat} {a : Int} (h1 : srOk S = true) (h2 : S.row 0 = [.sl 1 1 0 n cap, .v (.int .i64 a)]) : BlkSame S (srB n cap a) := by
  simp only [srOk, Bool.and_eq_true, Bool.not_eq_true'] at h1
  obtain ⟨⟨⟨⟨⟨⟨⟨a1, a2⟩, a3⟩, a4⟩, a5⟩, a6⟩, a7⟩, a8⟩ := h1
  have hn := Nat.eq_of_beq_eq_true a5
  exact ⟨Nat.eq_of_beq_eq_true a2, a3, a8, hn, Nat.eq_of_beq_eq_true a6, a4, Nat.eq_of_beq_eq_true a1, a7, fun i hi => by
    have : i = 0 := by omega
    subst this
    exact h2⟩
theorem same_niB {D : Blk} {n : Nat} (h1 : niOk D = true) (h2 : niPre n D) : BlkSame D (niB D.elem n (gI D) D.ext D.whole) := by
  simp only [niOk, Bool.and_eq_true, Bool.not_eq_true'] at h1
  obtain ⟨⟨⟨a1, a2⟩, a3⟩, a4⟩ := h1
  exact ⟨Nat.eq_of_beq_eq_true a1, a2, a4, h2.1.1, rfl, a3, rfl, rfl, fun i hi => (isI1_row (h2.2 i (by rw [h2.1.1] at hi; exact hi))).1⟩
theorem niPre_ok {D : Blk} {n : Nat} (h : niPre n D) : gOk n (gI D) := ⟨h.1.2, fun i hi => (isI1_row (h.2 i hi)).2⟩
theorem sr_spec {Γ : Ctrs} (hΓ : ∀ f g, Γ f = some g → g.ok Try.prog f) {f : FuncId} {fn : Func} (hf : Try.prog.funcs[f]? = some fn) {F : List SV → Nat → (Nat → Int) → Int → Option (Prop × SV × Int)} {Λ : List SV → List Blk → Nat → Option LoopSpec}
    (h : ∀ rest n cap e x g a wh q y a' bs, F rest n g a = some (q, y, a') → q → gOk n g → 0 ≤ a → a' ≤ 4611686018427387904 → vcFn Try.prog Γ (Λ rest bs) fn (.vp 0 0 :: rest) (heapOf [srB n cap a, niB e n g x wh]) 64 (fun y' h' => FinE [srB n cap a, niB e n g x wh] (.det none y [(0, srB n cap a')]) y' h')) :
    HpSpec Try.prog f (sSr F) := hp_spec hm hΓ hf (Λ := fun args bs => match args with
      | _ :: rest => Λ rest bs
      | _ => noΛ) fun args bs e hs hp => by
  unfold sSr at hs
  split at hs <;> try (cases hs; done)
  rename_i rest S D
  split at hs <;> try (cases hs; done)
  rename_i n cap a hS
  split at hs <;> try (cases hs; done)
  rename_i q y a' hF
  obtain ⟨ha, he⟩ := bif_some hs
  subst he
  rw [Bool.and_eq_true] at ha
  obtain ⟨⟨h1, h2, h3⟩, hq⟩ := hp _ rfl
  exact ⟨[srB n cap a, niB D.elem n (gI D) D.ext D.whole], ⟨same_srB ha.1 hS, same_niB ha.2 h1, trivial⟩, h rest n cap D.elem D.ext (gI D) a D.whole q y a' _ hF hq (niPre_ok h1) h2 h3⟩
theorem s0_spec {Γ : Ctrs} (hΓ : ∀ f g, Γ f = some g → g.ok Try.prog f) {f : FuncId} {fn : Func} (hf : Try.prog.funcs[f]? = some fn) {F : Nat → (Nat → Int) → Int → SV × Int} {Λ : Nat → Option LoopSpec}
    (h : ∀ n cap e x g a wh, gOk n g → 0 ≤ a → (F n g a).2 ≤ 4611686018427387904 → vcFn Try.prog Γ Λ fn [.vp 0 0] (heapOf [srB n cap a, niB e n g x wh]) 64 (fun y' h' => FinE [srB n cap a, niB e n g x wh] (.det none (F n g a).1 [(0, srB n cap (F n g a).2)]) y' h')) :
    HpSpec Try.prog f (sSr (s0 F)) := sr_spec hΓ hf (Λ := fun _ _ => Λ) fun rest n cap e x g a wh q y a' bs hF hq hg h0 h1 => by
  unfold s0 at hF
  split at hF <;> try (cases hF; done)
  have hF := Option.some.inj hF
  obtain ⟨_, hF⟩ := Prod.mk.inj hF
  obtain ⟨e1, e2⟩ := Prod.mk.inj hF
  subst e1 e2
  exact h n cap e x g a wh hg h0 h1
theorem nxV_in {n : Nat} {g : Nat → Int} {a : Int} (h : a < (n : Int)) : nxV n g a = g a.toNat := by
  unfold nxV; rw [hide_eq, decide_eq_true h]; rfl
theorem nxV_out {n : Nat} {g : Nat → Int} {a : Int} (h : ¬ a < (n : Int)) : nxV n g a = 0 := by
  unfold nxV; rw [hide_eq, decide_eq_false h]; rfl
theorem nx_rng {n : Nat} {g : Nat → Int} {a : Int} (hg : gOk n g) (h0 : 0 ≤ a) : I64 (nxV n g a) := by
  by_cases h : a < (n : Int)
  · rw [nxV_in h]; exact hg.2 _ (by omega)
  · rw [nxV_out h]; exact ⟨by omega, by omega⟩
theorem Next_spec : HpSpec Try.prog 66 (sSr (s0 yNext)) := s0_spec noCtrs_ok Try.func66 (Λ := noΛ) fun n cap e x g a wh hg h0 h1 => by
  have h1 : a + 1 ≤ 4611686018427387904 := h1
  have e1 : IntKind.i64.wrap (a + 1) = a + 1 := wrap_i64 ⟨by omega, by omega⟩
  have e2 : IntKind.i64.wrap (a + 1 - 1) = a := by rw [wrap_i64 ⟨by omega, by omega⟩]; omega
  rw [vcNext, e1, e2]
  refine sel_of (fun h => ?_) fun h => ?_
  · have h := of_decide_eq_true h
    exact ⟨int_mk (nxV_out (by omega)).symm, rfl, Nat.le_refl _, rfl, rfl⟩
  · have h := of_decide_eq_false h
    refine ⟨⟨h0, by omega⟩, int_mk ?_, rfl, Nat.le_refl _, rfl, rfl⟩
    rw [nxV_in (by omega), Nat.zero_add]
theorem ΓSa_ok : ∀ f g, ΓSa f = some g → g.ok Try.prog f := addCtr_ok noCtrs_ok (hp_ok Try.func66 (by kernel_rfl) (by kernel_rfl) Next_spec)
theorem tmod_rng (x : Int) {b : Int} (hb : 0 < b) : -b < x.tmod b ∧ x.tmod b < b := by
  have h1 := Int.tmod_lt_of_pos x hb
  have h2 := Int.tmod_lt_of_pos (-x) hb
  rw [Int.neg_tmod] at h2
  omega
theorem fr_rng {m : Int} (hm : 0 ≤ m) (x : Int) : 0 ≤ frV m x ∧ frV m x ≤ m := by
  unfold frV
  rw [hide_eq]
  have := tmod_rng x (b := m + 1) (by omega)
  omega
theorem From_spec : HpSpec Try.prog 61 (sSr sFrom) := sr_spec ΓSa_ok Try.func61 (Λ := fun _ _ => noΛ) fun rest n cap e x g a wh q y a' bs hF hq hg h0 h1 => by
  unfold sFrom at hF
  split at hF <;> try (cases hF; done)
  rename_i m
  have hF := Option.some.inj hF
  obtain ⟨eq, hF⟩ := Prod.mk.inj hF
  obtain ⟨e1, e2⟩ := Prod.mk.inj hF
  subst eq e1 e2
  have ew : IntKind.i64.wrap (m + 1) = m + 1 := wrap_i64 ⟨by omega, by omega⟩
  refine Eq.mpr (vcFrom n cap e n x g a m wh) ?_
  rw [gI_win, ew]
  have ht := tmod_rng (nxV n g a) (b := m + 1) (by omega)
  refine ⟨⟨⟨niPre_win hg, h0, h1⟩, trivial⟩, by omega, sel_of (fun h => ?_) fun h => ?_⟩
  · have h := of_decide_eq_true h
    refine ⟨int_mk ?_, rfl, Nat.le_refl _, rfl, rfl⟩
    unfold frV
    rw [hide_eq, wrap_i64 ⟨by omega, by omega⟩]
    omega
  · have h := of_decide_eq_false h
    refine ⟨int_mk ?_, rfl, Nat.le_refl _, rfl, rfl⟩
    unfold frV
    rw [hide_eq]
    omega
theorem SNum_spec : HpSpec Try.prog 65 (sSr (s0 yNum)) := s0_spec ΓSa_ok Try.func65 (Λ := noΛ) fun n cap e x g a wh hg h0 h1 => by
  refine Eq.mpr (vcSNum n cap e n x g a wh) ?_
  rw [gI_win]
  refine ⟨⟨⟨niPre_win hg, h0, h1⟩, trivial⟩, sel_of (fun h => ?_) fun h => ?_⟩
  · have h : nxV n g a = -9223372036854775808 := by simpa using h
    have e1 : nuV (nxV n g a) = 0 := by unfold nuV; rw [hide_eq, decide_eq_true h]; rfl
    have e2 : nuF (nxV n g a) = false := by unfold nuF; rw [hide_eq, e1]; rfl
    exact ⟨⟨int_mk e1.symm, bool_mk e2.symm⟩, rfl, Nat.le_refl _, rfl, rfl⟩
  · have h : ¬ nxV n g a = -9223372036854775808 := by simpa using h
    have e1 : nuV (nxV n g a) = nxV n g a := by unfold nuV; rw [hide_eq, decide_eq_false h]; rfl
    have e2 : nuF (nxV n g a) = (Int.tmod (nxV n g a) 7 == 3) := by unfold nuF; rw [hide_eq, e1]; rfl
    exact ⟨⟨int_mk e1.symm, bool_mk e2.symm⟩, rfl, Nat.le_refl _, rfl, rfl⟩
theorem ΓSb_ok : ∀ f g, ΓSb f = some g → g.ok Try.prog f := addCtr_ok (addCtr_ok ΓSa_ok (hp_ok Try.func61 (by kernel_rfl) (by kernel_rfl) From_spec)) (hp_ok Try.func65 (by kernel_rfl) (by kernel_rfl) SNum_spec)
theorem SVec_spec : HpSpec Try.prog 64 (sSr (s0 yVec)) := s0_spec ΓSb_ok Try.func64 (Λ := addPrs noΛ 2 [(0, fun _ => [88]), (2, fun _ => [0, 1])]) fun n cap e x g a wh hg h0 h1 => by
  have h1 : a + 1 + 1 ≤ 4611686018427387904 := h1
  refine Eq.mpr (vcSVec n cap e n x g a wh) ?_
  rw [gI_win]
  exact ⟨⟨⟨niPre_win hg, h0, by show a + 1 ≤ _; omega⟩, trivial⟩, ⟨⟨niPre_win hg, by show 0 ≤ a + 1; omega, h1⟩, trivial⟩, ⟨rfl, rfl, rfl, rfl⟩, rfl, Nat.le_refl _, rfl, rfl⟩
theorem ΓSc_ok : ∀ f g, ΓSc f = some g → g.ok Try.prog f := addCtr_ok ΓSb_ok (hp_ok Try.func64 (by kernel_rfl) (by kernel_rfl) SVec_spec)
theorem SPose_spec : HpSpec Try.prog 63 (sSr (s0 yPose)) := s0_spec ΓSc_ok Try.func63 (Λ := addPrs noΛ 3 [(0, fun _ => [88]), (1, fun _ => [120]), (3, fun _ => [0, 1])]) fun n cap e x g a wh hg h0 h1 => by
  have h1 : a + 1 + 1 + 1 + 1 ≤ 4611686018427387904 := h1
  refine Eq.mpr (vcSPose n cap e n x g a wh) ?_
  rw [gI_win]
  exact ⟨⟨⟨niPre_win hg, h0, by show a + 1 + 1 ≤ _; omega⟩, trivial⟩, ⟨⟨niPre_win hg, by show 0 ≤ a + 1 + 1; omega, by show a + 1 + 1 + 1 ≤ _; omega⟩, trivial⟩, ⟨⟨niPre_win hg, by show 0 ≤ a + 1 + 1 + 1; omega, h1⟩, trivial⟩, ⟨rfl, rfl, rfl, rfl, rfl, rfl, rfl, rfl⟩, rfl, Nat.le_refl _, rfl, rfl⟩
theorem SSpot_spec : HpSpec Try.prog 68 (sSr (s0 ySpot)) := s0_spec ΓSa_ok Try.func68 (Λ := noΛ) fun n cap e x g a wh hg h0 h1 => by
  have h1 : a + 1 + 1 ≤ 4611686018427387904 := h1
  refine Eq.mpr (vcSSpot n cap e n x g a wh) ?_
  rw [gI_win]
  exact ⟨⟨⟨niPre_win hg, h0, by show a + 1 ≤ _; omega⟩, trivial⟩, ⟨⟨niPre_win hg, by show 0 ≤ a + 1; omega, h1⟩, trivial⟩, ⟨rfl, rfl⟩, rfl, Nat.le_refl _, rfl, rfl⟩
theorem SHandle_spec : HpSpec Try.prog 67 (sSr (s0 yHandle)) := s0_spec ΓSb_ok Try.func67 (Λ := noΛ) fun n cap e x g a wh hg h0 h1 => by
  have h1 : a + 1 + 1 ≤ 4611686018427387904 := h1
  refine Eq.mpr (vcSHandle n cap e n x g a wh) ?_
  rw [gI_win]
  exact ⟨⟨⟨niPre_win hg, h0, by omega⟩, by omega, by omega⟩, ⟨⟨niPre_win hg, by omega, h1⟩, by omega, by omega⟩, ⟨rfl, rfl⟩, rfl, Nat.le_refl _, rfl, rfl⟩
theorem ΓSd_ok : ∀ f g, ΓSd f = some g → g.ok Try.prog f := addCtr_ok (addCtr_ok (addCtr_ok ΓSc_ok (hp_ok Try.func63 (by kernel_rfl) (by kernel_rfl) SPose_spec)) (hp_ok Try.func68 (by kernel_rfl) (by kernel_rfl) SSpot_spec)) (hp_ok Try.func67 (by kernel_rfl) (by kernel_rfl) SHandle_spec)
theorem srC_int (n : Nat) (g : Nat → Int) (a : Int) : frV 8 (nxV n g (a + 1 + 1 + 1 + 1)) = (srC n g a : Int) := by
  have := fr_rng (m := 8) (by omega) (nxV n g (a + 1 + 1 + 1 + 1))
  unfold srC
  rw [hide_eq]
  omega
theorem srC_le (n : Nat) (g : Nat → Int) (a : Int) : srC n g a ≤ 8 := by
  have := fr_rng (m := 8) (by omega) (nxV n g (a + 1 + 1 + 1 + 1))
  have := srC_int n g a
  omega
theorem selT_of {b : Bool} {x y : Prop} (h : b = true) (hx : x) : sel b x y := by subst h; exact hx
theorem SShape_spec : HpSpec Try.prog 62 sSrSh := hp_spec hm ΓSd_ok Try.func62 (Λ := fun args bs => match bs with
    | [S, D] => match S.row 0 with
      | [.sl _ _ _ n cap, .v (.int _ a)] => ΛSrSh n cap D.elem n D.ext (gI D) a D.whole
      | _ => noΛ
    | _ => noΛ) fun args bs e hs hp => by
  unfold sSrSh at hs
  split at hs <;> try (cases hs; done)
  rename_i S D
  split at hs <;> try (cases hs; done)
  rename_i n cap a hS
  obtain ⟨ha, he⟩ := bif_some hs
  subst he
  rw [Bool.and_eq_true] at ha
  obtain ⟨h1, h2, h3⟩ := hp
  refine ⟨[srB n cap a, niB D.elem n (gI D) D.ext D.whole], ⟨same_srB ha.1 hS, same_niB ha.2 h1, trivial⟩, ?_⟩
  simp only [hS]
  have hg := niPre_ok h1
  generalize gI D = g at hg ⊢
  generalize D.elem = e
  generalize D.ext = x
  generalize D.whole = wh
  refine Eq.mpr (vcSShape n cap e n x g a wh) ?_
  rw [gI_win]
  have hC := srC_int n g a
  have hC8 := srC_le n g a
  have hc : ∀ (e : Nat) (wh : Bool), (Nat.beq 1 1 && false == false && !false && !false && (true || !true) && !false && !false && (Nat.beq e 0 || Nat.beq e e) && (!wh || wh)) = true := fun e wh => by
    rw [show Nat.beq e e = true from Nat.beq_refl e, Bool.or_true]; cases wh <;> rfl
  refine ⟨⟨⟨niPre_win hg, h2, by omega⟩, by omega, by omega⟩, ⟨⟨niPre_win hg, by omega, by show a + 1 + 1 ≤ _; omega⟩, trivial⟩, ⟨⟨niPre_win hg, by show 0 ≤ a + 1 + 1; omega, by show a + 1 + 1 + 1 ≤ _; omega⟩, trivial⟩, ⟨⟨niPre_win hg, by show 0 ≤ a + 1 + 1 + 1; omega, by show a + 1 + 1 + 1 + 1 ≤ _; omega⟩, trivial⟩, ⟨⟨niPre_win hg, by show 0 ≤ a + 1 + 1 + 1 + 1; omega, by show a + 1 + 1 + 1 + 1 + 1 ≤ _; omega⟩, by omega, by omega⟩,
    ⟨⟨0, 0⟩, ⟨Nat.zero_le _, Nat.le_refl _⟩, int_mk ?_, ⟨rfl, Nat.le_refl _, rfl, int_mk ?_⟩, selT_of (hc _ _) ⟨rfl, Nat.le_refl _, fun _ _ => rfl⟩, ⟨rfl, Nat.le_refl _, rfl, rfl, rfl, rfl, rfl, rfl, rfl, rfl⟩, ⟨rfl, rfl, trivial⟩, trivial⟩, fun x hx => sel_of (fun hlt => ?_) fun hge => ?_⟩
  · show frV 8 (nxV n g (a + 1 + 1 + 1 + 1)) = (srC n g a : Int) - ((0 : Nat) : Int)
    omega
  · show a + 1 + 1 + 1 + 1 + 1 = srA a + 2 * ((0 : Nat) : Int)
    unfold srA; omega
  · obtain ⟨hx1, hx2⟩ := hx
    have hlt := of_decide_eq_true hlt
    have hlt : x.i < srC n g a := by omega
    have eA : srA a = a + 1 + 1 + 1 + 1 + 1 := rfl
    refine ⟨⟨⟨niPre_win hg, by omega, by show srA a + 2 * (x.i : Int) + 1 + 1 ≤ _; omega⟩, trivial⟩, ⟨by omega, by omega, fun _ _ => trivial⟩, fun c => ⟨⟨x.i + 1, x.i + 1 + c⟩, ⟨⟨hlt, by show x.i + 1 ≤ x.i + 1 + c; omega⟩, int_mk ?_, ⟨rfl, Nat.le_refl _, rfl, int_mk ?_⟩, selT_of (hc _ _) ⟨rfl, Nat.le_refl _, fun _ _ => rfl⟩, ⟨rfl, Nat.le_refl _, rfl, rfl, rfl, rfl, rfl⟩, rfl, Nat.le_refl _, fun i hi => ?_⟩, by show srC n g a - (x.i + 1) < srC n g a - x.i; omega⟩⟩
    · show IntKind.i64.wrap _ = (srC n g a : Int) - ((x.i + 1 : Nat) : Int)
      rw [wrap_i64 ⟨by omega, by omega⟩]; omega
    · show srA a + 2 * (x.i : Int) + 1 + 1 = srA a + 2 * ((x.i + 1 : Nat) : Int)
      omega
    · have hi : i < x.i + 1 := hi
      by_cases hik : i < x.i
      · rw [blt_true hik, Nat.zero_add]
        rfl
      · have hik : i = x.i := by omega
        subst hik
        rw [blt_false (Nat.lt_irrefl _)]
        rfl
  · obtain ⟨hx1, hx2⟩ := hx
    have hge := of_decide_eq_false hge
    have hn : x.i = srC n g a := by omega
    rw [hn] at hx2 ⊢
    exact ⟨x.c - srC n g a, ⟨rfl, rfl, rfl, rfl, slT_eq rfl rfl (by omega)⟩, ⟨rfl, Nat.le_refl _, rfl, rfl⟩, rfl, by omega, fun _ _ => rfl⟩
theorem ModH_spec : PureSpec Try.prog 39 sModH := vc_spec hm noCtrs_ok Try.func39 (Λ := fun _ => noΛ) fun args p x h hp => by
  unfold sModH at h
  split at h
  · rename_i a b
    cases h
    obtain ⟨⟨ha1, ha2⟩, hb, hb2⟩ := hp _ rfl
    refine ⟨rfl, rfl, Eq.mpr (vcModH a b _) ?_⟩
    have e0 : md a b = a % b := hide_eq _
    rw [e0]
    have hb1 := Int.tmod_lt_of_pos a hb
    have hb3 : -b < Int.tmod a b := by
      have := Int.tmod_lt_of_pos (-a) hb
      rw [Int.neg_tmod] at this; omega
    refine ⟨by omega, sel_of (fun h => int_mk ?_) fun h => int_mk ?_⟩
    · have h := of_decide_eq_true h
      rw [wrap_i64 ⟨by omega, by omega⟩]
      have e := Int.tmod_add_tdiv_mul a b
      have : a = (Int.tmod a b + b) + (Int.tdiv a b - 1) * b := by rw [Int.sub_mul, Int.one_mul]; omega
      conv => rhs; rw [this]
      rw [Int.add_mul_emod_self_right, Int.emod_eq_of_lt (by omega) (by omega)]
    · have h := of_decide_eq_false h
      have e := Int.tmod_add_tdiv_mul a b
      conv => rhs; rw [← e]
      rw [Int.add_mul_emod_self_right, Int.emod_eq_of_lt (by omega) (by omega)]
  · cases h
end Go.Proofs.Ytjdldadmaaeimaa
end
