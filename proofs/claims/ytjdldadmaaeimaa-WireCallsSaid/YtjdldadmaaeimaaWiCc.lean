/-
  Contracts: the same call, in general: the proofs.
-/
import Derived.Test.YtjdldadmaaeimaaWiCb
set_option maxRecDepth 100000
set_option linter.unusedSimpArgs false
set_option linter.unusedVariables false
namespace Go.Proofs.Ytjdldadmaaeimaa
open Go.SE Go.RowKit

def sameCB (k1 k2 : Int) (a b : CV) (s : Bool) : Bool := (k1 == k2) && ((a.id == b.id) && ((a.bs == b.bs && a.bg == b.bg) && ((a.ver == b.ver) && ((s) && ((a.p0v == b.p0v && a.p0f == b.p0f && (a.p1v == b.p1v && a.p1f == b.p1f) && (a.p2v == b.p2v && a.p2f == b.p2f && (a.p3v == b.p3v && a.p3f == b.p3f))) && ((a.v0v == b.v0v && a.v0f == b.v0f && (a.v1v == b.v1v && a.v1f == b.v1f)) && ((a.w0v == b.w0v && a.w0f == b.w0f) && ((a.dn == b.dn) && ((a.mv == b.mv) && ((a.a0v == b.a0v && a.a0f == b.a0f && (a.a1v == b.a1v && a.a1f == b.a1f)) && ((a.t0v == b.t0v && a.t0f == b.t0f && (a.t1v == b.t1v && a.t1f == b.t1f)) && ((a.gr == b.gr) && ((a.b0 == b.b0 && (a.b1 == b.b1 && (a.b2 == b.b2 && a.b3 == b.b3))) && ((a.f0 == b.f0 && a.f1 == b.f1) && (a.u0 == b.u0 && a.u1 == b.u1)))))))))))))))
def tkI {α : Type} (l : List SV) (K : Int → List SV → Option α) : Option α := match l with
  | .v (.int .i64 n) :: rest => K n rest
  | _ => none
def tkB {α : Type} (l : List SV) (K : Bool → List SV → Option α) : Option α := match l with
  | .v (.bool n) :: rest => K n rest
  | _ => none
def tkA {α : Type} (l : List SV) (K : SV → List SV → Option α) : Option α := match l with
  | x :: rest => K x rest
  | _ => none
def tkE {α : Type} (l : List SV) (r : α) : Option α := match l with
  | [] => some r
  | _ => none
def cellsOf (l : List SV) : Option (Int × CV × SV) := tkI l fun x_k l => tkI l fun x_id l => tkI l fun x_bs l => tkI l fun x_bg l => tkI l fun x_ver l => tkI l fun x_sk l => tkI l fun x_sr l => tkI l fun x_sw l => tkI l fun x_sh l => tkA l fun x_P l => tkI l fun x_p0v l => tkB l fun x_p0f l => tkI l fun x_p1v l => tkB l fun x_p1f l => tkI l fun x_p2v l => tkB l fun x_p2f l => tkI l fun x_p3v l => tkB l fun x_p3f l => tkI l fun x_v0v l => tkB l fun x_v0f l => tkI l fun x_v1v l => tkB l fun x_v1f l => tkI l fun x_w0v l => tkB l fun x_w0f l => tkI l fun x_dn l => tkB l fun x_mv l => tkI l fun x_a0v l => tkB l fun x_a0f l => tkI l fun x_a1v l => tkB l fun x_a1f l => tkI l fun x_t0v l => tkB l fun x_t0f l => tkI l fun x_t1v l => tkB l fun x_t1f l => tkI l fun x_gr l => tkI l fun x_b0 l => tkI l fun x_b1 l => tkI l fun x_b2 l => tkI l fun x_b3 l => tkI l fun x_f0 l => tkI l fun x_f1 l => tkI l fun x_u0 l => tkI l fun x_u1 l => tkE l (x_k, ⟨x_id, x_bs, x_bg, x_ver, x_sk, x_sr, x_sw, x_sh, x_p0v, x_p0f, x_p1v, x_p1f, x_p2v, x_p2f, x_p3v, x_p3f, x_v0v, x_v0f, x_v1v, x_v1f, x_w0v, x_w0f, x_dn, x_mv, x_a0v, x_a0f, x_a1v, x_a1f, x_t0v, x_t0f, x_t1v, x_t1f, x_gr, x_b0, x_b1, x_b2, x_b3, x_f0, x_f1, x_u0, x_u1⟩, x_P)
def sSameC : List SV → List Ro → Option (Option Prop × SV)
  | [.agg x, .agg y], rs => match cellsOf x, cellsOf y, rs with
    | some (k1, a, .sl 0 2 0 n _), some (k2, b, .sl 1 2 0 m _), [⟨2, n', row⟩, ⟨2, m', row'⟩] => some (some (rowsPre n n' row ∧ rowsPre m m' row'), .v (.bool (sameCB k1 k2 a b (sameS (shOf a) n (fun i => gi (row i)) (shOf b) m fun i => gi (row' i)))))
    | some (k1, a, .v (.slice none 0 0)), some (k2, b, .sl 0 2 0 m _), [⟨2, m', row⟩] => some (some (rowsPre m m' row), .v (.bool (sameCB k1 k2 a b (eqSh (shOf a) (shOf b) && Nat.beq m 0))))
    | _, _, _ => none
  | _, _ => none
def sRSameC : List SV → List Ro → Option (Option Prop × SV)
  | [.agg x, .agg y], rs => match cellsOf x, cellsOf y, rs with
    | some (k1, a, .sl 0 2 0 n _), some (k2, b, .sl 1 2 0 m _), [⟨2, n', row⟩, ⟨2, m', row'⟩] => some (some (rowsPre n n' row ∧ rowsPre m m' row'), .v (.bool (sameCB k1 k2 a b (sameS (shOf a) n (fun i => gi (row i)) (shOf b) m fun i => gi (row' i)))))
    | some (k1, a, .sl 0 2 0 m _), some (k2, b, .v (.slice none 0 0)), [⟨2, m', row⟩] => some (some (rowsPre m m' row), .v (.bool (sameCB k1 k2 a b (eqSh (shOf a) (shOf b) && Nat.beq m 0))))
    | _, _, _ => none
  | _, _ => none
theorem tkI_eq {α : Type} {l : List SV} {K : Int → List SV → Option α} {r : α} (h : tkI l K = some r) : ∃ n rest, l = .v (.int .i64 n) :: rest ∧ K n rest = some r := by
  unfold tkI at h
  split at h
  · exact ⟨_, _, rfl, h⟩
  · cases h
theorem tkB_eq {α : Type} {l : List SV} {K : Bool → List SV → Option α} {r : α} (h : tkB l K = some r) : ∃ n rest, l = .v (.bool n) :: rest ∧ K n rest = some r := by
  unfold tkB at h
  split at h
  · exact ⟨_, _, rfl, h⟩
  · cases h
theorem tkA_eq {α : Type} {l : List SV} {K : SV → List SV → Option α} {r : α} (h : tkA l K = some r) : ∃ x rest, l = x :: rest ∧ K x rest = some r := by
  unfold tkA at h
  split at h
  · exact ⟨_, _, rfl, h⟩
  · cases h
theorem tkE_eq {α : Type} {l : List SV} {x r : α} (h : tkE l x = some r) : l = [] ∧ x = r := by
  unfold tkE at h
  split at h
  · exact ⟨rfl, Option.some.inj h⟩
  · cases h
theorem cells_eq {l : List SV} {k : Int} {c : CV} {p : SV} (h : cellsOf l = some (k, c, p)) : SV.agg l = caS k c p := by
  unfold cellsOf at h
  obtain ⟨x_k, l_k, e_k, h_k⟩ := tkI_eq h
  subst e_k
  clear h
  obtain ⟨x_id, l_id, e_id, h_id⟩ := tkI_eq h_k
  subst e_id
  clear h_k
  obtain ⟨x_bs, l_bs, e_bs, h_bs⟩ := tkI_eq h_id
  subst e_bs
  clear h_id
  obtain ⟨x_bg, l_bg, e_bg, h_bg⟩ := tkI_eq h_bs
  subst e_bg
  clear h_bs
  obtain ⟨x_ver, l_ver, e_ver, h_ver⟩ := tkI_eq h_bg
  subst e_ver
  clear h_bg
  obtain ⟨x_sk, l_sk, e_sk, h_sk⟩ := tkI_eq h_ver
  subst e_sk
  clear h_ver
  obtain ⟨x_sr, l_sr, e_sr, h_sr⟩ := tkI_eq h_sk
  subst e_sr
  clear h_sk
  obtain ⟨x_sw, l_sw, e_sw, h_sw⟩ := tkI_eq h_sr
  subst e_sw
  clear h_sr
  obtain ⟨x_sh, l_sh, e_sh, h_sh⟩ := tkI_eq h_sw
  subst e_sh
  clear h_sw
  obtain ⟨x_P, l_P, e_P, h_P⟩ := tkA_eq h_sh
  subst e_P
  clear h_sh
  obtain ⟨x_p0v, l_p0v, e_p0v, h_p0v⟩ := tkI_eq h_P
  subst e_p0v
  clear h_P
  obtain ⟨x_p0f, l_p0f, e_p0f, h_p0f⟩ := tkB_eq h_p0v
  subst e_p0f
  clear h_p0v
  obtain ⟨x_p1v, l_p1v, e_p1v, h_p1v⟩ := tkI_eq h_p0f
  subst e_p1v
  clear h_p0f
  obtain ⟨x_p1f, l_p1f, e_p1f, h_p1f⟩ := tkB_eq h_p1v
  subst e_p1f
  clear h_p1v
  obtain ⟨x_p2v, l_p2v, e_p2v, h_p2v⟩ := tkI_eq h_p1f
  subst e_p2v
  clear h_p1f
  obtain ⟨x_p2f, l_p2f, e_p2f, h_p2f⟩ := tkB_eq h_p2v
  subst e_p2f
  clear h_p2v
  obtain ⟨x_p3v, l_p3v, e_p3v, h_p3v⟩ := tkI_eq h_p2f
  subst e_p3v
  clear h_p2f
  obtain ⟨x_p3f, l_p3f, e_p3f, h_p3f⟩ := tkB_eq h_p3v
  subst e_p3f
  clear h_p3v
  obtain ⟨x_v0v, l_v0v, e_v0v, h_v0v⟩ := tkI_eq h_p3f
  subst e_v0v
  clear h_p3f
  obtain ⟨x_v0f, l_v0f, e_v0f, h_v0f⟩ := tkB_eq h_v0v
  subst e_v0f
  clear h_v0v
  obtain ⟨x_v1v, l_v1v, e_v1v, h_v1v⟩ := tkI_eq h_v0f
  subst e_v1v
  clear h_v0f
  obtain ⟨x_v1f, l_v1f, e_v1f, h_v1f⟩ := tkB_eq h_v1v
  subst e_v1f
  clear h_v1v
  obtain ⟨x_w0v, l_w0v, e_w0v, h_w0v⟩ := tkI_eq h_v1f
  subst e_w0v
  clear h_v1f
  obtain ⟨x_w0f, l_w0f, e_w0f, h_w0f⟩ := tkB_eq h_w0v
  subst e_w0f
  clear h_w0v
  obtain ⟨x_dn, l_dn, e_dn, h_dn⟩ := tkI_eq h_w0f
  subst e_dn
  clear h_w0f
  obtain ⟨x_mv, l_mv, e_mv, h_mv⟩ := tkB_eq h_dn
  subst e_mv
  clear h_dn
  obtain ⟨x_a0v, l_a0v, e_a0v, h_a0v⟩ := tkI_eq h_mv
  subst e_a0v
  clear h_mv
  obtain ⟨x_a0f, l_a0f, e_a0f, h_a0f⟩ := tkB_eq h_a0v
  subst e_a0f
  clear h_a0v
  obtain ⟨x_a1v, l_a1v, e_a1v, h_a1v⟩ := tkI_eq h_a0f
  subst e_a1v
  clear h_a0f
  obtain ⟨x_a1f, l_a1f, e_a1f, h_a1f⟩ := tkB_eq h_a1v
  subst e_a1f
  clear h_a1v
  obtain ⟨x_t0v, l_t0v, e_t0v, h_t0v⟩ := tkI_eq h_a1f
  subst e_t0v
  clear h_a1f
  obtain ⟨x_t0f, l_t0f, e_t0f, h_t0f⟩ := tkB_eq h_t0v
  subst e_t0f
  clear h_t0v
  obtain ⟨x_t1v, l_t1v, e_t1v, h_t1v⟩ := tkI_eq h_t0f
  subst e_t1v
  clear h_t0f
  obtain ⟨x_t1f, l_t1f, e_t1f, h_t1f⟩ := tkB_eq h_t1v
  subst e_t1f
  clear h_t1v
  obtain ⟨x_gr, l_gr, e_gr, h_gr⟩ := tkI_eq h_t1f
  subst e_gr
  clear h_t1f
  obtain ⟨x_b0, l_b0, e_b0, h_b0⟩ := tkI_eq h_gr
  subst e_b0
  clear h_gr
  obtain ⟨x_b1, l_b1, e_b1, h_b1⟩ := tkI_eq h_b0
  subst e_b1
  clear h_b0
  obtain ⟨x_b2, l_b2, e_b2, h_b2⟩ := tkI_eq h_b1
  subst e_b2
  clear h_b1
  obtain ⟨x_b3, l_b3, e_b3, h_b3⟩ := tkI_eq h_b2
  subst e_b3
  clear h_b2
  obtain ⟨x_f0, l_f0, e_f0, h_f0⟩ := tkI_eq h_b3
  subst e_f0
  clear h_b3
  obtain ⟨x_f1, l_f1, e_f1, h_f1⟩ := tkI_eq h_f0
  subst e_f1
  clear h_f0
  obtain ⟨x_u0, l_u0, e_u0, h_u0⟩ := tkI_eq h_f1
  subst e_u0
  clear h_f1
  obtain ⟨x_u1, l_u1, e_u1, h_u1⟩ := tkI_eq h_u0
  subst e_u1
  clear h_u0
  obtain ⟨e0, h0⟩ := tkE_eq h_u1
  subst e0
  obtain ⟨h1, h2⟩ := Prod.mk.inj h0
  obtain ⟨h3, h4⟩ := Prod.mk.inj h2
  subst h1 h3 h4
  rfl
theorem ΓU0_ok : ∀ f g, ΓU0 f = some g → g.ok Try.prog f := addCtr_ok noCtrs_ok (ro_ok Try.func72 (by kernel_rfl) (by kernel_rfl) (ro_or SameS_spec SameN_spec))
theorem ΓU1_ok : ∀ f g, ΓU1 f = some g → g.ok Try.prog f := addCtr_ok noCtrs_ok (ro_ok Try.func76 (by kernel_rfl) (by kernel_rfl) (ro_or RSameS_spec RSameN_spec))
theorem pre_rows {n : Nat} {g : Nat → Int × Int} (hn : n < 1099511627776) (hg : ∀ i, i < n → I64 (g i).1 ∧ I64 (g i).2) : rowsPre n n fun y => [SV.v (.int .i64 (g (0 + y)).1), SV.v (.int .i64 (g (0 + y)).2)] := ⟨okAll_rows.2 fun i hi => by rw [Nat.zero_add]; exact hg i hi, rfl, hn⟩
theorem same_ww (k1 k2 : Int) (a b : CV) (n c m d : Nat) (g h : Nat → Int × Int) (hn : n < 1099511627776) (hg : ∀ i, i < n → I64 (g i).1 ∧ I64 (g i).2) (hm : m < 1099511627776) (hh : ∀ i, i < m → I64 (h i).1 ∧ I64 (h i).2) : vcFn Try.prog ΓU0 noΛ Try.f25 [caS k1 a (.sl 0 2 0 n c), caS k2 b (.sl 1 2 0 m d)] (roHeap [⟨2, n, rowsP g⟩, ⟨2, m, rowsP h⟩]) 64 (fun y _ => y = .v (.bool (sameCB k1 k2 a b (sameS (shOf a) n g (shOf b) m h)))) := by
  refine Eq.mpr (vcSameC k1 k2 a b n n c m m d g h _) ?_
  rw [gi_rows, gi_rows]
  unfold sameCB shOf
  refine sel_of (fun e => ?_) fun e => by rw [e]; rfl
  rw [e, Bool.true_and]
  refine sel_of (fun e => ?_) fun e => by rw [e]; rfl
  rw [e, Bool.true_and]
  refine sel_of (fun e => ?_) fun e => by rw [e]; rfl
  rw [e, Bool.true_and]
  refine sel_of (fun e => ?_) fun e => by rw [e]; rfl
  rw [e, Bool.true_and]
  refine ⟨⟨pre_rows hn hg, pre_rows hm hh⟩, ?_⟩
  refine sel_of (fun e => ?_) fun e => by rw [e]; rfl
  rw [e, Bool.true_and]
  refine sel_of (fun e => ?_) fun e => by rw [e]; rfl
  rw [e, Bool.true_and]
  refine sel_of (fun e => ?_) fun e => by rw [e]; rfl
  rw [e, Bool.true_and]
  refine sel_of (fun e => ?_) fun e => by rw [e]; rfl
  rw [e, Bool.true_and]
  refine sel_of (fun e => ?_) fun e => by rw [e]; rfl
  rw [e, Bool.true_and]
  refine sel_of (fun e => ?_) fun e => by rw [e]; rfl
  rw [e, Bool.true_and]
  refine sel_of (fun e => ?_) fun e => by rw [e]; rfl
  rw [e, Bool.true_and]
  refine sel_of (fun e => ?_) fun e => by rw [e]; rfl
  rw [e, Bool.true_and]
  refine sel_of (fun e => ?_) fun e => by rw [e]; rfl
  rw [e, Bool.true_and]
  refine sel_of (fun e => ?_) fun e => by rw [e]; rfl
  rw [e, Bool.true_and]
  refine sel_of (fun e => ?_) fun e => by rw [e]; rfl
  rw [e, Bool.true_and]
theorem same_nw (k1 k2 : Int) (a b : CV) (m d : Nat) (h : Nat → Int × Int) (hm : m < 1099511627776) (hh : ∀ i, i < m → I64 (h i).1 ∧ I64 (h i).2) : vcFn Try.prog ΓU0 noΛ Try.f25 [caS k1 a nilS, caS k2 b (.sl 0 2 0 m d)] (roHeap [⟨2, m, rowsP h⟩]) 64 (fun y _ => y = .v (.bool (sameCB k1 k2 a b (eqSh (shOf a) (shOf b) && Nat.beq m 0)))) := by
  refine Eq.mpr (vcSameCN k1 k2 a b m m d h _) ?_
  unfold sameCB shOf
  refine sel_of (fun e => ?_) fun e => by rw [e]; rfl
  rw [e, Bool.true_and]
  refine sel_of (fun e => ?_) fun e => by rw [e]; rfl
  rw [e, Bool.true_and]
  refine sel_of (fun e => ?_) fun e => by rw [e]; rfl
  rw [e, Bool.true_and]
  refine sel_of (fun e => ?_) fun e => by rw [e]; rfl
  rw [e, Bool.true_and]
  refine ⟨pre_rows hm hh, ?_⟩
  refine sel_of (fun e => ?_) fun e => by rw [e]; rfl
  rw [e, Bool.true_and]
  refine sel_of (fun e => ?_) fun e => by rw [e]; rfl
  rw [e, Bool.true_and]
  refine sel_of (fun e => ?_) fun e => by rw [e]; rfl
  rw [e, Bool.true_and]
  refine sel_of (fun e => ?_) fun e => by rw [e]; rfl
  rw [e, Bool.true_and]
  refine sel_of (fun e => ?_) fun e => by rw [e]; rfl
  rw [e, Bool.true_and]
  refine sel_of (fun e => ?_) fun e => by rw [e]; rfl
  rw [e, Bool.true_and]
  refine sel_of (fun e => ?_) fun e => by rw [e]; rfl
  rw [e, Bool.true_and]
  refine sel_of (fun e => ?_) fun e => by rw [e]; rfl
  rw [e, Bool.true_and]
  refine sel_of (fun e => ?_) fun e => by rw [e]; rfl
  rw [e, Bool.true_and]
  refine sel_of (fun e => ?_) fun e => by rw [e]; rfl
  rw [e, Bool.true_and]
  refine sel_of (fun e => ?_) fun e => by rw [e]; rfl
  rw [e, Bool.true_and]
theorem rsame_ww (k1 k2 : Int) (a b : CV) (n c m d : Nat) (g h : Nat → Int × Int) (hn : n < 1099511627776) (hg : ∀ i, i < n → I64 (g i).1 ∧ I64 (g i).2) (hm : m < 1099511627776) (hh : ∀ i, i < m → I64 (h i).1 ∧ I64 (h i).2) : vcFn Try.prog ΓU1 noΛ Try.f30 [caS k1 a (.sl 0 2 0 n c), caS k2 b (.sl 1 2 0 m d)] (roHeap [⟨2, n, rowsP g⟩, ⟨2, m, rowsP h⟩]) 64 (fun y _ => y = .v (.bool (sameCB k1 k2 a b (sameS (shOf a) n g (shOf b) m h)))) := by
  refine Eq.mpr (vcRSameC k1 k2 a b n n c m m d g h _) ?_
  rw [gi_rows, gi_rows]
  unfold sameCB shOf
  refine ⟨⟨pre_rows hn hg, pre_rows hm hh⟩, ?_⟩
  generalize sameS { k := CV.sk a, r := CV.sr a, w := CV.sw a, h := CV.sh a } n g { k := CV.sk b, r := CV.sr b, w := CV.sw b, h := CV.sh b } m h = s
  cases s with
  | false => exact sel_of (fun _ => by simp) fun e => by cases e
  | true =>
  refine sel_of (fun e => by cases e) fun _ => ?_
  refine sel_of (fun e => ?_) fun e => by rw [e]; rfl
  rw [e, Bool.true_and]
  refine sel_of (fun e => ?_) fun e => by rw [e]; rfl
  rw [e, Bool.true_and]
  refine sel_of (fun e => ?_) fun e => by rw [e]; rfl
  rw [e, Bool.true_and]
  refine sel_of (fun e => ?_) fun e => by rw [e]; rfl
  rw [e, Bool.true_and]
  rw [Bool.true_and]
  refine sel_of (fun e => ?_) fun e => by rw [e]; rfl
  rw [e, Bool.true_and]
  refine sel_of (fun e => ?_) fun e => by rw [e]; rfl
  rw [e, Bool.true_and]
  refine sel_of (fun e => ?_) fun e => by rw [e]; rfl
  rw [e, Bool.true_and]
  refine sel_of (fun e => ?_) fun e => by rw [e]; rfl
  rw [e, Bool.true_and]
  refine sel_of (fun e => ?_) fun e => by rw [e]; rfl
  rw [e, Bool.true_and]
  refine sel_of (fun e => ?_) fun e => by rw [e]; rfl
  rw [e, Bool.true_and]
  refine sel_of (fun e => ?_) fun e => by rw [e]; rfl
  rw [e, Bool.true_and]
  refine sel_of (fun e => ?_) fun e => by rw [e]; rfl
  rw [e, Bool.true_and]
  refine sel_of (fun e => ?_) fun e => by rw [e]; rfl
  rw [e, Bool.true_and]
  refine sel_of (fun e => ?_) fun e => by rw [e]; rfl
  rw [e, Bool.true_and]
theorem rsame_wn (k1 k2 : Int) (a b : CV) (m d : Nat) (h : Nat → Int × Int) (hm : m < 1099511627776) (hh : ∀ i, i < m → I64 (h i).1 ∧ I64 (h i).2) : vcFn Try.prog ΓU1 noΛ Try.f30 [caS k1 a (.sl 0 2 0 m d), caS k2 b nilS] (roHeap [⟨2, m, rowsP h⟩]) 64 (fun y _ => y = .v (.bool (sameCB k1 k2 a b (eqSh (shOf a) (shOf b) && Nat.beq m 0)))) := by
  refine Eq.mpr (vcRSameCN k1 k2 a b m m d h _) ?_
  unfold sameCB shOf
  refine ⟨pre_rows hm hh, ?_⟩
  generalize (eqSh { k := CV.sk a, r := CV.sr a, w := CV.sw a, h := CV.sh a } { k := CV.sk b, r := CV.sr b, w := CV.sw b, h := CV.sh b } && Nat.beq m 0) = s
  cases s with
  | false => exact sel_of (fun _ => by simp) fun e => by cases e
  | true =>
  refine sel_of (fun e => by cases e) fun _ => ?_
  refine sel_of (fun e => ?_) fun e => by rw [e]; rfl
  rw [e, Bool.true_and]
  refine sel_of (fun e => ?_) fun e => by rw [e]; rfl
  rw [e, Bool.true_and]
  refine sel_of (fun e => ?_) fun e => by rw [e]; rfl
  rw [e, Bool.true_and]
  refine sel_of (fun e => ?_) fun e => by rw [e]; rfl
  rw [e, Bool.true_and]
  rw [Bool.true_and]
  refine sel_of (fun e => ?_) fun e => by rw [e]; rfl
  rw [e, Bool.true_and]
  refine sel_of (fun e => ?_) fun e => by rw [e]; rfl
  rw [e, Bool.true_and]
  refine sel_of (fun e => ?_) fun e => by rw [e]; rfl
  rw [e, Bool.true_and]
  refine sel_of (fun e => ?_) fun e => by rw [e]; rfl
  rw [e, Bool.true_and]
  refine sel_of (fun e => ?_) fun e => by rw [e]; rfl
  rw [e, Bool.true_and]
  refine sel_of (fun e => ?_) fun e => by rw [e]; rfl
  rw [e, Bool.true_and]
  refine sel_of (fun e => ?_) fun e => by rw [e]; rfl
  rw [e, Bool.true_and]
  refine sel_of (fun e => ?_) fun e => by rw [e]; rfl
  rw [e, Bool.true_and]
  refine sel_of (fun e => ?_) fun e => by rw [e]; rfl
  rw [e, Bool.true_and]
  refine sel_of (fun e => ?_) fun e => by rw [e]; rfl
  rw [e, Bool.true_and]
theorem SameC_spec : RoSpec Try.prog 25 sSameC := ro_spec hm ΓU0_ok Try.func25 (Λ := fun _ _ => noΛ) fun args bs p x hs hp => by
  unfold sSameC at hs
  split at hs
  · rename_i x y
    split at hs
    · rename_i k1 a n c k2 b m d n' row m' row' hx hy
      cases hs
      obtain ⟨⟨h0, rfl, hn⟩, k0, rfl, hm'⟩ := hp _ rfl
      have h0 := okAll_rows.1 h0
      have k0 := okAll_rows.1 k0
      refine ⟨rfl, [⟨2, n', rowsP fun i => gi (row i)⟩, ⟨2, m', rowsP fun i => gi (row' i)⟩], ⟨⟨rfl, rfl, fun i hi => (isPI_row (h0 i hi)).1⟩, ⟨rfl, rfl, fun i hi => (isPI_row (k0 i hi)).1⟩, trivial⟩, ?_⟩
      rw [cells_eq hx, cells_eq hy]
      exact same_ww k1 k2 a b n' c m' d _ _ hn (fun i hi => (isPI_row (h0 i hi)).2) hm' fun i hi => (isPI_row (k0 i hi)).2
    · rename_i k1 a k2 b m d m' row hx hy
      cases hs
      obtain ⟨h0, rfl, hn⟩ := hp _ rfl
      have h0 := okAll_rows.1 h0
      refine ⟨rfl, [⟨2, m', rowsP fun i => gi (row i)⟩], ⟨⟨rfl, rfl, fun i hi => (isPI_row (h0 i hi)).1⟩, trivial⟩, ?_⟩
      rw [cells_eq hx, cells_eq hy]
      exact same_nw k1 k2 a b m' d _ hn fun i hi => (isPI_row (h0 i hi)).2
    · cases hs
  · cases hs
theorem RSameC_spec : RoSpec Try.prog 30 sRSameC := ro_spec hm ΓU1_ok Try.func30 (Λ := fun _ _ => noΛ) fun args bs p x hs hp => by
  unfold sRSameC at hs
  split at hs
  · rename_i x y
    split at hs
    · rename_i k1 a n c k2 b m d n' row m' row' hx hy
      cases hs
      obtain ⟨⟨h0, rfl, hn⟩, k0, rfl, hm'⟩ := hp _ rfl
      have h0 := okAll_rows.1 h0
      have k0 := okAll_rows.1 k0
      refine ⟨rfl, [⟨2, n', rowsP fun i => gi (row i)⟩, ⟨2, m', rowsP fun i => gi (row' i)⟩], ⟨⟨rfl, rfl, fun i hi => (isPI_row (h0 i hi)).1⟩, ⟨rfl, rfl, fun i hi => (isPI_row (k0 i hi)).1⟩, trivial⟩, ?_⟩
      rw [cells_eq hx, cells_eq hy]
      exact rsame_ww k1 k2 a b n' c m' d _ _ hn (fun i hi => (isPI_row (h0 i hi)).2) hm' fun i hi => (isPI_row (k0 i hi)).2
    · rename_i k1 a m d k2 b m' row hx hy
      cases hs
      obtain ⟨h0, rfl, hn⟩ := hp _ rfl
      have h0 := okAll_rows.1 h0
      refine ⟨rfl, [⟨2, m', rowsP fun i => gi (row i)⟩], ⟨⟨rfl, rfl, fun i hi => (isPI_row (h0 i hi)).1⟩, trivial⟩, ?_⟩
      rw [cells_eq hx, cells_eq hy]
      exact rsame_wn k1 k2 a b m' d _ hn fun i hi => (isPI_row (h0 i hi)).2
    · cases hs
  · cases hs
end Go.Proofs.Ytjdldadmaaeimaa
