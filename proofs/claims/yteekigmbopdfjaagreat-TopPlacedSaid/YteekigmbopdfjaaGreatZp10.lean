/-
 What the proof uses, part 10.
-/
import Derived.Test.YteekigmbopdfjaaGreatRows
import Derived.ProofKit
import Derived.Test.YteekigmbopdfjaaGreatZp9
set_option maxRecDepth 100000
set_option linter.unusedSimpArgs false
set_option linter.unusedVariables false

section
namespace Go.Proofs.YteekigmbopdfjaaGreat
open Go.ChangeShapes Go.WideShapes Go.ChangeAt Go.RowKit
theorem Tryz.own : ownKnob Tryz.prog.godebug = none := by kernel_rfl
theorem Tryz.laidOut : laidOutB Tryz.prog = true := by kernel_rfl
section
variable {H : Type} {enc : TypeId × Value → H}
theorem Qjm {P : Program} (hl : laidOutB P = true) {W W' : World} (hb : Below W.heap.size W W') :
   ∀ {ts : List TypeId} {vs : List Value} {ds : List (DataW H)} {ps : List MemPlace}, (∀ t ∈ ts, P.readableRec t = true ∧ t < P.types.size) → DataW.TrodAll enc P W 0 (fun _ => true) true ts vs ds ps →
     (∀ x ∈ ps, x.block < W.heap.size) → DataW.TrodAll enc P W' 0 (fun b => decide (b < W.heap.size)) true ts vs ds ps
 | [], [], [], _, _, h, _ => h
 | [], [], _ :: _, _, _, h, _ => h.elim
 | [], _ :: _, _, _, _, h, _ => h.elim
 | _ :: _, [], _, _, _, h, _ => h.elim
 | _ :: _, _ :: _, [], _, _, h, _ => h.elim
 | t :: ts, v :: vs, d :: ds, ps, ht, h, hlt => by
   obtain ⟨p, q, h1, h2, rfl⟩ := h
   have hd := ht t (List.mem_cons_self ..)
   exact ⟨p, q, Below.trod hl hd.1 hd.2 h1 hb fun x hx => hlt x (List.mem_append_left _ hx), Qjm hl hb (fun t' h' => ht t' (List.mem_cons_of_mem _ h')) h2 fun x hx => hlt x (List.mem_append_right _ hx), rfl⟩
theorem Qmq {P : Program} {W : World} {b : Nat} {sp : Nat → Bool} {hd : Bool} : ∀ {ts : List TypeId} {vs : List Value} {ds : List (DataW H)} {ps : List MemPlace}, DataW.TrodAll enc P W b sp hd ts vs ds ps → ds.length = ts.length
 | [], [], [], _, _ => rfl
 | [], [], _ :: _, _, h => h.elim
 | [], _ :: _, _, _, h => h.elim
 | _ :: _, [], _, _, h => h.elim
 | _ :: _, _ :: _, [], _, h => h.elim
 | _ :: _, _ :: _, _ :: _, _, ⟨_, _, _, h2, _⟩ => by simp [Qmq h2]
theorem Q2w {f : FuncId} {fn : Func} {s : ChangeSpec} {apart fresh handsOn : Bool} (hn : s.vars = []) (hr : fn.resultTypes = #[4])
   (hts : (fn.params.toList.all fun t => Tryz.prog.readableRec t && decide (t < Tryz.prog.types.size)) = true)
   (hspec : ∀ ds : List (DataW H), ds.length = fn.params.size → s.fn H ds = { results := [.lit (.bool true)], args := ds })
   (hc : ∀ (W : World) (base : Nat) (args : Array Value) (ds : List (DataW H)) (ps : List MemPlace), (∀ (j : Nat) t v, fn.params[j]? = some t → args[j]? = some v → Value.okWide Tryz.prog W .any base t v) →
     DataW.TrodAll enc Tryz.prog W 0 (fun _ => true) true fn.params.toList args.toList ds ps → Calls Tryz.prog f args W fun e W' => e = .returned (.bool true) ∧ Below W.heap.size W W')
   (W : World) (base : Nat) (args : Array Value) (ds gs : List (DataW H)) (before : List MemPlace)
   (hval : ∀ (j : Nat) t v, fn.params[j]? = some t → args[j]? = some v → Value.okWide Tryz.prog W .any base t v)
   (hW : DataW.Whole enc Tryz.prog fn.params.toList s.vars apart W args.toList ds gs before) :
   Calls Tryz.prog f args W fun e W' => ∃ v, e = .returned v ∧ s.post enc Tryz.prog fn apart fresh handsOn false W args v W' := by
 have hW' := hW
 obtain ⟨p, q, hA, hV, rfl, hfz, hnd⟩ := hW
 rw [hn] at hV
 obtain ⟨rfl, rfl⟩ := trodVars_none hV
 have hlen : ds.length = fn.params.size := by rw [Qmq hA, Array.length_toList]
 have hlt : ∀ x ∈ p, x.block < W.heap.size := fun x hx => by simpa using hW'.lt x (by simpa using hx)
 refine (hc W base args ds p hval hA).mono fun e W' ⟨he, hb⟩ => ⟨.bool true, he, ds, [], p ++ [], [], p, [], hW', ?_, ?_, ?_, hb.frame _, fun h => by cases h⟩
 · rw [hr, List.append_nil, hspec ds hlen]
   exact trodAll_mk1 (shut_bool Tryz.underlying4 true)
 · rw [List.append_nil, hspec ds hlen]
   refine Qjm Tryz.laidOut hb (fun t ht => ?_) hA hlt
   have := List.all_eq_true.1 hts t ht
   simp only [Bool.and_eq_true, decide_eq_true_eq] at this
   exact this
 · rw [hn, List.append_nil, hspec ds hlen]
   exact rfl
theorem Qok {n : Int} (hw : (Lit.int .i64 n).wf = true) : I64 n := by
 simp only [Lit.wf, Bool.and_eq_true, decide_eq_true_eq] at hw
 have e1 : IntKind.i64.min = -9223372036854775808 := by kernel_rfl
 have e2 : IntKind.i64.max = 9223372036854775807 := by kernel_rfl
 rw [e1, e2] at hw
 exact ⟨by omega, by omega⟩
end
end Go.Proofs.YteekigmbopdfjaaGreat
end
section
namespace Go.Proofs.YteekigmbopdfjaaGreat
open Go.SE Go.RowKit
theorem hm : Tryz.prog.follows .mixedOrders = true := by kernel_rfl
theorem Qsm {f : FuncId} {fn : Func} {e : Array Value → Sem Value} (hf : Tryz.prog.funcs[f]? = some fn) (hname : (fn.name == "runtime.NumGoroutine") = false) (hb : fn.body.isNone = true) (hn : Extern.findNext fn = none) (he : Extern.find fn = some e)
   {spec : List SV → Option (Option Prop × SV)} (hs : ∀ args p x, spec args = some (p, x) → (∀ q, p = some q → q) → Qgc args = true ∧ Qer x = true ∧ ∀ w, (e (Qkg args).toArray).run Tryz.prog w = .ok (Q6c x) w) : (Qaj spec).ok Tryz.prog f := by
 intro args h base ef hef δ w vals ha hr hp _
 simp only [Qaj] at hef
 cases hsp : spec args with
 | none => rw [hsp] at hef; cases hef
 | some px =>
   obtain ⟨p, x⟩ := px
   rw [hsp] at hef
   cases hef
   obtain ⟨h1, h2, h3⟩ := hs args p x hsp hp
   have hv := (Qd1 _ _ h1).1 ha
   subst hv
   rw [run_callFunc_extern hf hname hb hn he, h3 w]
   exact ⟨x, [], δ, ⟨rfl, rfl⟩, (Qfn _ _ h2).2 rfl, Upd.same hr⟩
def Q1n : List SV → Option (Option Prop × SV)
 | [.v (.int .u64 x), .v (.int .u64 y), .v (.int .u64 c)] => some (some (U64 x ∧ U64 y ∧ 0 ≤ c ∧ c ≤ 1), .tup [.v (.int .u64 ((x + y + c) % 18446744073709551616)), .v (.int .u64 ((x + y + c) / 18446744073709551616))])
 | _ => none
def Q06 : List SV → Option (Option Prop × SV)
 | [.v (.int .u64 x), .v (.int .u64 y), .v (.int .u64 b)] => some (some (U64 x ∧ U64 y ∧ 0 ≤ b ∧ b ≤ 1), .tup [.v (.int .u64 ((x - y - b) % 18446744073709551616)), .v (.int .u64 (bor x (y + b)))])
 | _ => none
theorem Q8r : (Qaj Q1n).ok Tryz.prog 225 := by
 refine Qsm Tryz.func225 (by kernel_rfl) (by kernel_rfl) (by kernel_rfl) (e := add64Entry) (by kernel_rfl) ?_
 intro args p x h hp
 unfold Q1n at h
 split at h
 · cases h
   obtain ⟨h1, h2, h3, h4⟩ := hp _ rfl
   exact ⟨rfl, rfl, fun w => run_add64 _ _ _ h1.1 h2.1 h3 h4 w⟩
 · cases h
def Qki : Array Value → Sem Value := fun args => do
 let (x, y, b) ← Extern.MathBitsCarry.three "Sub64" args
 pure (Extern.MathBitsCarry.pair ((x + Extern.MathBitsCarry.m64 - y - b) % Extern.MathBitsCarry.m64) (if x < y + b then 1 else 0))
theorem Q1q {P : Program} (x y b : Int) (hx : U64 x) (hy : U64 y) (hb0 : 0 ≤ b) (hb : b ≤ 1) (w : World) :
   (Qki #[.int .u64 x, .int .u64 y, .int .u64 b]).run P w = .ok (.tuple #[.int .u64 ((x - y - b) % 18446744073709551616), .int .u64 (bor x (y + b))]) w := by
 have key : ∀ k : Nat, k ≤ 1 → (Qki #[.int .u64 x, .int .u64 y, .int .u64 (k : Int)]).run P w =
     .ok (Extern.MathBitsCarry.pair ((x.toNat + Extern.MathBitsCarry.m64 - y.toNat - k) % Extern.MathBitsCarry.m64) (if x.toNat < y.toNat + k then 1 else 0)) w := by
   intro k hk
   have : k = 0 ∨ k = 1 := by omega
   rcases this with rfl | rfl <;> rfl
 obtain ⟨k, rfl⟩ := Int.eq_ofNat_of_zero_le hb0
 rw [key k (by omega)]
 obtain ⟨hx0, hx1⟩ := hx
 obtain ⟨hy0, hy1⟩ := hy
 obtain ⟨X, rfl⟩ := Int.eq_ofNat_of_zero_le hx0
 obtain ⟨Y, rfl⟩ := Int.eq_ofNat_of_zero_le hy0
 simp only [Extern.MathBitsCarry.pair, Extern.MathBitsCarry.m64, Int.toNat_natCast, bor]
 have e1 : (Int.ofNat ((X + 2 ^ 64 - Y - k) % 2 ^ 64)) = ((X : Int) - Y - k) % 18446744073709551616 := by
   show (((X + 2 ^ 64 - Y - k) % 2 ^ 64 : Nat) : Int) = _
   omega
 have e2 : Int.ofNat (if X < Y + k then 1 else 0) = if (X : Int) < Y + k then 1 else 0 := by
   by_cases h : X < Y + k
   · rw [if_pos h, if_pos (by omega)]; rfl
   · rw [if_neg h, if_neg (by omega)]; rfl
 rw [e1, e2]
theorem Q73 : (Qaj Q06).ok Tryz.prog 227 := by
 refine Qsm Tryz.func227 (by kernel_rfl) (by kernel_rfl) (by kernel_rfl) (e := Qki) (by kernel_rfl) ?_
 intro args p x h hp
 unfold Q06 at h
 split at h
 · cases h
   obtain ⟨h1, h2, h3, h4⟩ := hp _ rfl
   exact ⟨rfl, rfl, fun w => Q1q _ _ _ h1 h2 h3 h4 w⟩
 · cases h
def Zez (k : IntKind) : List SV → Option (Option Prop × SV)
 | [.v (.int k' _)] => if k' = k then some (none, .v (.bool false)) else none
 | _ => none
def Ze3 (k : IntKind) : List SV → Option (Option Prop × SV)
 | [.v (.int k1 x), .v (.int k2 y)] => if k1 = k ∧ k2 = k then some (none, .v (.int .i64 (Qec x y))) else none
 | _ => none
def Γ1 : Qb7 := Qah (Qah Qbi 225 (Qaj Q1n)) 227 (Qaj Q06)
def Γ2 : Qb7 := Qah (Qah Γ1 147 (Qaj (Zez .i64))) 325 (Qaj (Zez .u64))
def Γ3 : Qb7 := Qah (Qah Γ2 64 (Qaj (Ze3 .i64))) 301 (Qaj (Ze3 .u64))
def Qax : Nat → Option LoopSpec := fun _ => none
theorem Zgj (x : Int) (R : SV→Prop) : (Qau Tryz.prog Qbi Qax Tryz.f147 [.v (.int .i64 x)] R) = (R (SV.v (.bool (x != x)))):=by kernel_rfl
theorem Zgi (x : Int) (R : SV→Prop) : (Qau Tryz.prog Qbi Qax Tryz.f325 [.v (.int .u64 x)] R) = (R (SV.v (.bool (x != x)))):=by kernel_rfl
theorem Zg0 (x y : Int) (R : SV→Prop) : (Qau Tryz.prog Γ2 Qax Tryz.f64 [.v (.int .i64 x),.v (.int .i64 y)] R) = (sel (decide (x < y)) (R (SV.v (.int .i64 (-1)))) (sel (decide (x > y)) (R (SV.v (.int .i64 1))) (R (SV.v (.int .i64 0))))):=by kernel_rfl
theorem Zgz (x y : Int) (R : SV→Prop) : (Qau Tryz.prog Γ2 Qax Tryz.f301 [.v (.int .u64 x),.v (.int .u64 y)] R) = (sel (decide (x < y)) (R (SV.v (.int .i64 (-1)))) (sel (decide (x > y)) (R (SV.v (.int .i64 1))) (R (SV.v (.int .i64 0))))):=by kernel_rfl
theorem Zfr : ∀ f g, Γ1 f = some g → g.ok Tryz.prog f := Qab (Qab Qas Q8r) Q73
theorem Q4h : Qai Tryz.prog 147 (Zez .i64) := Qan hm Qas Tryz.func147 (Λ := fun _ => Qax) fun args p x h _ => by
 unfold Zez at h
 split at h <;> try (cases h; done)
 split at h <;> try (cases h; done)
 rename_i k' v hk
 subst hk
 cases h
 refine ⟨rfl, rfl, ?_⟩
 rw [Zgj]
 simp
theorem Q4g : Qai Tryz.prog 325 (Zez .u64) := Qan hm Qas Tryz.func325 (Λ := fun _ => Qax) fun args p x h _ => by
 unfold Zez at h
 split at h <;> try (cases h; done)
 split at h <;> try (cases h; done)
 rename_i k' v hk
 subst hk
 cases h
 refine ⟨rfl, rfl, ?_⟩
 rw [Zgi]
 simp
theorem Qzr : ∀ f g, Γ2 f = some g → g.ok Tryz.prog f := Qab (Qab Zfr (Qak Tryz.func147 (by kernel_rfl) (by kernel_rfl) Q4h)) (Qak Tryz.func325 (by kernel_rfl) (by kernel_rfl) Q4g)
theorem Q4x : Qai Tryz.prog 64 (Ze3 .i64) := Qan hm Qzr Tryz.func64 (Λ := fun _ => Qax) fun args p x h _ => by
 unfold Ze3 at h
 split at h <;> try (cases h; done)
 split at h <;> try (cases h; done)
 rename_i k1 a k2 b hk
 obtain ⟨rfl, rfl⟩ := hk
 cases h
 refine ⟨rfl, rfl, ?_⟩
 rw [Zg0]
 unfold Qec
 refine Qaf (fun h => ?_) fun h => Qaf (fun h' => ?_) fun h' => ?_
 · rw [if_pos (of_decide_eq_true h)]
 · rw [if_neg (of_decide_eq_false h), if_pos (of_decide_eq_true h')]
 · rw [if_neg (of_decide_eq_false h), if_neg (of_decide_eq_false h')]
theorem Q4w : Qai Tryz.prog 301 (Ze3 .u64) := Qan hm Qzr Tryz.func301 (Λ := fun _ => Qax) fun args p x h _ => by
 unfold Ze3 at h
 split at h <;> try (cases h; done)
 split at h <;> try (cases h; done)
 rename_i k1 a k2 b hk
 obtain ⟨rfl, rfl⟩ := hk
 cases h
 refine ⟨rfl, rfl, ?_⟩
 rw [Zgz]
 unfold Qec
 refine Qaf (fun h => ?_) fun h => Qaf (fun h' => ?_) fun h' => ?_
 · rw [if_pos (of_decide_eq_true h)]
 · rw [if_neg (of_decide_eq_false h), if_pos (of_decide_eq_true h')]
 · rw [if_neg (of_decide_eq_false h), if_neg (of_decide_eq_false h')]
theorem Zfq : ∀ f g, Γ3 f = some g → g.ok Tryz.prog f := Qab (Qab Qzr (Qak Tryz.func64 (by kernel_rfl) (by kernel_rfl) Q4x)) (Qak Tryz.func301 (by kernel_rfl) (by kernel_rfl) Q4w)
theorem Zbn (x y : Int) (R : SV→Prop) : (Qau Tryz.prog Qbi Qax Tryz.f153 [.v (.int .u64 x),.v (.int .u64 y)] R) = (R (SV.tup [(SV.v (.int .u64 (IntKind.wrap IntKind.u64 (IntKind.wrap IntKind.u64 (IntKind.wrap IntKind.u64 (x / 4294967296 * (y / 4294967296)) + IntKind.wrap IntKind.u64 (IntKind.wrap IntKind.u64 (x / 4294967296 * bits BinOp.and IntKind.u64 y 4294967295) + IntKind.wrap IntKind.u64 (bits BinOp.and IntKind.u64 x 4294967295 * bits BinOp.and IntKind.u64 y 4294967295) / 4294967296) / 4294967296) + IntKind.wrap IntKind.u64 (bits BinOp.and IntKind.u64 (IntKind.wrap IntKind.u64 (IntKind.wrap IntKind.u64 (x / 4294967296 * bits BinOp.and IntKind.u64 y 4294967295) + IntKind.wrap IntKind.u64 (bits BinOp.and IntKind.u64 x 4294967295 * bits BinOp.and IntKind.u64 y 4294967295) / 4294967296)) 4294967295 + IntKind.wrap IntKind.u64 (bits BinOp.and IntKind.u64 x 4294967295 * (y / 4294967296))) / 4294967296)))),(SV.v (.int .u64 (IntKind.wrap IntKind.u64 (x * y))))])):=by kernel_rfl
theorem vcOf (v : Int) (R : SV→Prop) : (Qau Tryz.prog Qbi Qax Tryz.f65 [.v (.int .i64 v)] R) = (sel (decide (v < 0)) (R (SV.agg [(SV.v (.bool true)),(SV.v (.int .u64 (IntKind.wrap IntKind.u64 (0 - IntKind.wrap IntKind.u64 v)))),(SV.v (.int .u64 0))])) (R (SV.agg [(SV.v (.bool false)),(SV.v (.int .u64 (IntKind.wrap IntKind.u64 v))),(SV.v (.int .u64 0))]))):=by kernel_rfl
theorem Zgs (n : Bool) (lo hi : Int) (R : SV→Prop) : (Qau Tryz.prog Qbi Qax Tryz.f77 [exS n lo hi] R) = (R (SV.agg [(SV.v (.bool n)),(SV.v (.int .u64 (bits BinOp.or IntKind.u64 (IntKind.wrap IntKind.u64 (hi * 4294967296)) (lo / 4294967296)))),(SV.v (.int .u64 (hi / 4294967296)))])):=by kernel_rfl
theorem vcUp (n : Bool) (lo hi : Int) (R : SV→Prop) : (Qau Tryz.prog Qbi Qax Tryz.f66 [exS n lo hi] R) = (R (SV.agg [(SV.v (.bool n)),(SV.v (.int .u64 (IntKind.wrap IntKind.u64 (lo * 4294967296)))),(SV.v (.int .u64 (bits BinOp.or IntKind.u64 (IntKind.wrap IntKind.u64 (hi * 4294967296)) (lo / 4294967296))))])):=by kernel_rfl
theorem Zk2 (n : Bool) (lo hi : Int) (f : Bool) (R : SV→Prop) : (Qau Tryz.prog Qbi Qax Tryz.f68 [exS n lo hi,.v (.bool f)] R) = (sel (hi == 0) (sel (decide (lo ≤ 9223372036854775807)) (sel n (R (SV.agg [(SV.v (.int .i64 (IntKind.wrap IntKind.i64 (0 - IntKind.wrap IntKind.i64 lo)))),(SV.v (.bool f))])) (R (SV.agg [(SV.v (.int .i64 (IntKind.wrap IntKind.i64 lo))),(SV.v (.bool f))]))) (sel n (R (SV.agg [(SV.v (.int .i64 (-9223372036854775807))),(SV.v (.bool true))])) (R (SV.agg [(SV.v (.int .i64 9223372036854775807)),(SV.v (.bool true))])))) (sel n (R (SV.agg [(SV.v (.int .i64 (-9223372036854775807))),(SV.v (.bool true))])) (R (SV.agg [(SV.v (.int .i64 9223372036854775807)),(SV.v (.bool true))])))):=by kernel_rfl
theorem Za6 (v : Int) (f : Bool) (R : SV→Prop) : (Qau Tryz.prog Qbi Qax Tryz.f75 [Qcr v f] R) = (sel (v == -9223372036854775808) (R (SV.agg [(SV.v (.int .i64 (-9223372036854775807))),(SV.v (.bool true))])) (R (SV.agg [(SV.v (.int .i64 v)),(SV.v (.bool f))]))):=by kernel_rfl
theorem Za2 (v : Int) (f : Bool) (R : SV→Prop) : (Qau Tryz.prog Qbi Qax Tryz.f297 [Qcr v f] R) = (sel (v == -9223372036854775808) (R (SV.tup [(SV.v (.int .i64 (-9223372036854775807))),(SV.v (.bool true))])) (R (SV.tup [(SV.v (.int .i64 v)),(SV.v (.bool f))]))):=by kernel_rfl
theorem Zfz (v : Int) (R : SV→Prop) : (Qau Tryz.prog Qbi Qax Tryz.f300 [.v (.int .i64 v)] R) = (sel (decide (v < 0)) (R (SV.v (.int .u64 (IntKind.wrap IntKind.u64 (IntKind.wrap IntKind.i64 (0 - v)))))) (R (SV.v (.int .u64 (IntKind.wrap IntKind.u64 v))))):=by kernel_rfl
theorem Zgm (n1 : Bool) (h1 l1 : Int) (n2 : Bool) (h2 l2 : Int) (R : SV→Prop) : (Qau Tryz.prog Qbi Qax Tryz.f327 [wiS n1 h1 l1,wiS n2 h2 l2] R) = (sel (decide (h1 < h2)) (R (SV.v (.bool true))) (sel (h1 == h2) (R (SV.v (.bool (decide (l1 < l2))))) (R (SV.v (.bool false))))):=by kernel_rfl
theorem Zbi (n1 : Bool) (h1 l1 : Int) (R : SV→Prop) : (Qau Tryz.prog Qbi Qax Tryz.f304 [wiS n1 h1 l1] R) = (R (SV.agg [(SV.v (.bool n1)),(SV.v (.int .u64 (h1 / 4294967296))),(SV.v (.int .u64 (bits BinOp.or IntKind.u64 (IntKind.wrap IntKind.u64 (h1 * 4294967296)) (l1 / 4294967296))))])):=by kernel_rfl
theorem Zkq (n1 : Bool) (h1 l1 : Int) (R : SV→Prop) : (Qau Tryz.prog Qbi Qax Tryz.f295 [wiS n1 h1 l1] R) = (R (SV.agg [(SV.v (.bool n1)),(SV.v (.int .u64 (bits BinOp.or IntKind.u64 (IntKind.wrap IntKind.u64 (h1 * 4294967296)) (l1 / 4294967296)))),(SV.v (.int .u64 (IntKind.wrap IntKind.u64 (l1 * 4294967296))))])):=by kernel_rfl
theorem Zf8 (n1 : Bool) (h1 l1 : Int) (f : Bool) (R : SV→Prop) : (Qau Tryz.prog Qbi Qax Tryz.f294 [wiS n1 h1 l1,.v (.bool f)] R) = (sel (h1 != 0) (sel n1 (R (SV.agg [(SV.v (.int .i64 (-9223372036854775807))),(SV.v (.bool true))])) (R (SV.agg [(SV.v (.int .i64 9223372036854775807)),(SV.v (.bool true))]))) (sel (decide (l1 > 9223372036854775807)) (sel n1 (R (SV.agg [(SV.v (.int .i64 (-9223372036854775807))),(SV.v (.bool true))])) (R (SV.agg [(SV.v (.int .i64 9223372036854775807)),(SV.v (.bool true))]))) (sel n1 (R (SV.agg [(SV.v (.int .i64 (IntKind.wrap IntKind.i64 (0 - IntKind.wrap IntKind.i64 l1)))),(SV.v (.bool f))])) (R (SV.agg [(SV.v (.int .i64 (IntKind.wrap IntKind.i64 l1))),(SV.v (.bool f))]))))):=by kernel_rfl
theorem Zbg (v : Int) (R : SV→Prop) : (Qau Tryz.prog Qbi Qax Tryz.f298 [.v (.int .i64 v)] R) = (sel (decide (v > 0)) (R (SV.agg [(SV.v (.int .i64 9223372036854775807)),(SV.v (.bool true))])) (sel (decide (v < 0)) (R (SV.agg [(SV.v (.int .i64 (-9223372036854775807))),(SV.v (.bool true))])) (R (SV.agg [(SV.v (.int .i64 0)),(SV.v (.bool true))])))):=by kernel_rfl
def Q1g : List SV → Option (Option Prop × SV)
 | [.v (.int .u64 x), .v (.int .u64 y)] => some (some (U64 x ∧ U64 y), .tup [.v (.int .u64 (x * y / 18446744073709551616)), .v (.int .u64 (x * y % 18446744073709551616))])
 | _ => none
def sOf : List SV → Option (Option Prop × SV)
 | [.v (.int .i64 v)] => some (some (I64 v), exS (decide (v < 0)) (Qac v) 0)
 | _ => none
def Zcx : List SV → Option (Option Prop × SV)
 | [.agg [.v (.bool n), .v (.int .u64 lo), .v (.int .u64 hi)]] => some (some (U64 lo ∧ U64 hi), exM n (MM lo hi / 4294967296))
 | _ => none
def sUp : List SV → Option (Option Prop × SV)
 | [.agg [.v (.bool n), .v (.int .u64 lo), .v (.int .u64 hi)]] => some (some (U64 lo ∧ U64 hi ∧ MM lo hi < 79228162514264337593543950336), exM n (MM lo hi * 4294967296))
 | _ => none
def Zlu : List SV → Option (Option Prop × SV)
 | [.agg [.v (.bool n), .v (.int .u64 lo), .v (.int .u64 hi)], .v (.bool f)] => some (some (U64 lo ∧ U64 hi), Qcr (Qlv n (MM lo hi)) (Qkc (MM lo hi) f))
 | _ => none
def Q08 : List SV → Option (Option Prop × SV)
 | [.agg [.v (.int .i64 v), .v (.bool f)]] => some (none, Qcr (Qaa v) (Qav v f))
 | _ => none
def Q01 : List SV → Option (Option Prop × SV)
 | [.agg [.v (.int .i64 v), .v (.bool f)]] => some (none, .tup [.v (.int .i64 (Qaa v)), .v (.bool (Qav v f))])
 | _ => none
def Zcj : List SV → Option (Option Prop × SV)
 | [.v (.int .i64 v)] => some (some (I64 v), .v (.int .u64 (Qac v)))
 | _ => none
def Zct : List SV → Option (Option Prop × SV)
 | [.agg [.v (.bool _), .v (.int .u64 h1), .v (.int .u64 l1)], .agg [.v (.bool _), .v (.int .u64 h2), .v (.int .u64 l2)]] => some (some (U64 l1 ∧ U64 l2), .v (.bool (decide (MM l1 h1 < MM l2 h2))))
 | _ => none
def Q1e : List SV → Option (Option Prop × SV)
 | [.agg [.v (.bool n), .v (.int .u64 hi), .v (.int .u64 lo)]] => some (some (U64 lo ∧ U64 hi), wiM n (MM lo hi / 4294967296))
 | _ => none
def Zlp : List SV → Option (Option Prop × SV)
 | [.agg [.v (.bool n), .v (.int .u64 hi), .v (.int .u64 lo)]] => some (some (U64 lo ∧ U64 hi ∧ MM lo hi < 79228162514264337593543950336), wiM n (MM lo hi * 4294967296))
 | _ => none
def Zcl : List SV → Option (Option Prop × SV)
 | [.agg [.v (.bool n), .v (.int .u64 hi), .v (.int .u64 lo)], .v (.bool f)] => some (some (U64 lo ∧ U64 hi), Qcr (Qlv n (MM lo hi)) (Qkc (MM lo hi) f))
 | _ => none
def Qna (a : Int) : Int := if a > 0 then 9223372036854775807 else if a < 0 then -9223372036854775807 else 0
def Q1d : List SV → Option (Option Prop × SV)
 | [.v (.int .i64 v)] => some (none, Qcr (Qna v) true)
 | _ => none
def ΓB : Qb7 := Qah (Qah (Qah (Qah (Qah (Qah (Qah (Qah (Qah (Qah (Qah (Qah (Qah Γ3
 153 (Qaj Q1g)) 65 (Qaj sOf)) 77 (Qaj Zcx)) 66 (Qaj sUp)) 68 (Qaj Zlu)) 75 (Qaj Q08))
 297 (Qaj Q01)) 300 (Qaj Zcj)) 327 (Qaj Zct)) 304 (Qaj Q1e)) 295 (Qaj Zlp)) 294 (Qaj Zcl))
 298 (Qaj Q1d)
theorem Qyu : Qai Tryz.prog 153 Q1g := Qan hm Qas Tryz.func153 (Λ := fun _ => Qax) fun args p x h hp => by
 unfold Q1g at h
 split at h <;> try (cases h; done)
 rename_i x y
 cases h
 obtain ⟨h1, h2⟩ := hp _ rfl
 refine ⟨rfl, rfl, ?_⟩
 rw [Zbn]
 have e1 := Qej h1
 have e2 := Qej h2
 simp only [e1, e2, Qbt]
 rw [Qej (Qb1 _)]
 have := mul64_arith x y h1.1 h1.2 h2.1 h2.2
 rw [← this]
theorem Zeo : Qai Tryz.prog 65 sOf := Qan hm Qas Tryz.func65 (Λ := fun _ => Qax) fun args p x h hp => by
 unfold sOf at h
 split at h <;> try (cases h; done)
 rename_i v
 cases h
 obtain ⟨h1, h2⟩ := hp _ rfl
 refine ⟨rfl, rfl, ?_⟩
 rw [vcOf]
 refine Qaf (fun h => ?_) fun h => ?_
 · have h' := of_decide_eq_true h
   refine Qso h.symm ?_ rfl
   rw [Qbt, Qbt]; unfold Qac; rw [if_pos h']; omega
 · have h' := of_decide_eq_false h
   refine Qso h.symm ?_ rfl
   rw [Qbt]; unfold Qac; rw [if_neg h']; omega
theorem Q4o : Qai Tryz.prog 77 Zcx := Qan hm Qas Tryz.func77 (Λ := fun _ => Qax) fun args p x h hp => by
 unfold Zcx at h
 split at h <;> try (cases h; done)
 cases h
 obtain ⟨h1, h2⟩ := hp _ rfl
 refine ⟨rfl, rfl, ?_⟩
 rw [show ∀ n lo hi, SV.agg [.v (.bool n), .v (.int .u64 lo), .v (.int .u64 hi)] = exS n lo hi from fun _ _ _ => rfl, Zgs]
 refine Qso rfl ?_ ?_
 · rw [Qmb h2 h1]; obtain ⟨_, _⟩ := h1; obtain ⟨_, _⟩ := h2; unfold MM; omega
 · obtain ⟨_, _⟩ := h1; obtain ⟨_, _⟩ := h2; unfold MM; omega
theorem Zek : Qai Tryz.prog 66 sUp := Qan hm Qas Tryz.func66 (Λ := fun _ => Qax) fun args p x h hp => by
 unfold sUp at h
 split at h <;> try (cases h; done)
 cases h
 obtain ⟨h1, h2, h3⟩ := hp _ rfl
 refine ⟨rfl, rfl, ?_⟩
 rw [show ∀ n lo hi, SV.agg [.v (.bool n), .v (.int .u64 lo), .v (.int .u64 hi)] = exS n lo hi from fun _ _ _ => rfl, vcUp]
 refine Qso rfl ?_ ?_
 · rw [Qbt]; obtain ⟨_, _⟩ := h1; obtain ⟨_, _⟩ := h2; unfold MM; omega
 · rw [Qmb h2 h1]; unfold MM at h3; obtain ⟨_, _⟩ := h1; obtain ⟨_, _⟩ := h2; unfold MM; omega
theorem Qyp : Qai Tryz.prog 304 Q1e := Qan hm Qas Tryz.func304 (Λ := fun _ => Qax) fun args p x h hp => by
 unfold Q1e at h
 split at h <;> try (cases h; done)
 cases h
 obtain ⟨h1, h2⟩ := hp _ rfl
 refine ⟨rfl, rfl, ?_⟩
 rw [show ∀ n lo hi, SV.agg [.v (.bool n), .v (.int .u64 hi), .v (.int .u64 lo)] = wiS n hi lo from fun _ _ _ => rfl, Zbi]
 refine Qxc rfl ?_ ?_
 · rw [Qmb h2 h1]; obtain ⟨_, _⟩ := h1; obtain ⟨_, _⟩ := h2; unfold MM; omega
 · obtain ⟨_, _⟩ := h1; obtain ⟨_, _⟩ := h2; unfold MM; omega
theorem Q77 : Qai Tryz.prog 295 Zlp := Qan hm Qas Tryz.func295 (Λ := fun _ => Qax) fun args p x h hp => by
 unfold Zlp at h
 split at h <;> try (cases h; done)
 cases h
 obtain ⟨h1, h2, h3⟩ := hp _ rfl
 refine ⟨rfl, rfl, ?_⟩
 rw [show ∀ n lo hi, SV.agg [.v (.bool n), .v (.int .u64 hi), .v (.int .u64 lo)] = wiS n hi lo from fun _ _ _ => rfl, Zkq]
 refine Qxc rfl ?_ ?_
 · rw [Qbt]; obtain ⟨_, _⟩ := h1; obtain ⟨_, _⟩ := h2; unfold MM; omega
 · rw [Qmb h2 h1]; unfold MM at h3; obtain ⟨_, _⟩ := h1; obtain ⟨_, _⟩ := h2; unfold MM; omega
theorem Qw9 {lo hi : Int} (h1 : U64 lo) (h2 : U64 hi) : (hi = 0 ∧ lo ≤ 9223372036854775807) ↔ MM lo hi ≤ 9223372036854775807 := by
 obtain ⟨_, _⟩ := h1; obtain ⟨_, _⟩ := h2; unfold MM; omega
theorem Q8i : Qai Tryz.prog 68 Zlu := Qan hm Qas Tryz.func68 (Λ := fun _ => Qax) fun args p x h hp => by
 unfold Zlu at h
 split at h <;> try (cases h; done)
 rename_i n lo hi f
 cases h
 obtain ⟨h1, h2⟩ := hp _ rfl
 refine ⟨rfl, rfl, ?_⟩
 rw [show ∀ n lo hi, SV.agg [.v (.bool n), .v (.int .u64 lo), .v (.int .u64 hi)] = exS n lo hi from fun _ _ _ => rfl, Zk2]
 have hs := Qw9 h1 h2
 obtain ⟨a1, a2⟩ := h1
 have big : ∀ b : Bool, n = b → ¬ MM lo hi ≤ 9223372036854775807 → SV.agg [.v (.int .i64 (if b then -9223372036854775807 else 9223372036854775807)), .v (.bool true)] = Qcr (Qlv n (MM lo hi)) (Qkc (MM lo hi) f) := fun b hb e => by
   subst hb
   refine Qbu ?_ ?_
   · unfold Qlv; rw [if_neg e]
   · unfold Qkc; rw [if_neg e]
 have low : hi = 0 → lo ≤ 9223372036854775807 → MM lo hi = lo ∧ MM lo hi ≤ 9223372036854775807 := fun e1 e2 => ⟨by unfold MM; omega, hs.1 ⟨e1, e2⟩⟩
 refine Qaf (fun h => Qaf (fun h' => Qaf (fun h'' => ?_) fun h'' => ?_) fun h' => Qaf (fun h'' => ?_) fun h'' => ?_) fun h => Qaf (fun h'' => ?_) fun h'' => ?_
 · obtain ⟨e1, e2⟩ := low (by simpa using h) (of_decide_eq_true h')
   subst h''
   refine Qbu ?_ ?_
   · unfold Qlv; rw [if_pos e2, if_pos rfl, e1, Qag (n := lo) ⟨by omega, by omega⟩, Qag ⟨by omega, by omega⟩]; omega
   · unfold Qkc; rw [if_pos e2]
 · obtain ⟨e1, e2⟩ := low (by simpa using h) (of_decide_eq_true h')
   subst h''
   refine Qbu ?_ ?_
   · unfold Qlv; rw [if_pos e2, if_neg (by simp), e1, Qag ⟨by omega, by omega⟩]
   · unfold Qkc; rw [if_pos e2]
 · exact big true h'' fun e => of_decide_eq_false h' (hs.2 e).2
 · exact big false h'' fun e => of_decide_eq_false h' (hs.2 e).2
 · exact big true h'' fun e => (by have := (hs.2 e).1; simp [this] at h)
 · exact big false h'' fun e => (by have := (hs.2 e).1; simp [this] at h)
theorem Q37 : Qai Tryz.prog 294 Zcl := Qan hm Qas Tryz.func294 (Λ := fun _ => Qax) fun args p x h hp => by
 unfold Zcl at h
 split at h <;> try (cases h; done)
 rename_i n hi lo f
 cases h
 obtain ⟨h1, h2⟩ := hp _ rfl
 refine ⟨rfl, rfl, ?_⟩
 rw [show ∀ n lo hi, SV.agg [.v (.bool n), .v (.int .u64 hi), .v (.int .u64 lo)] = wiS n hi lo from fun _ _ _ => rfl, Zf8]
 have hs := Qw9 h1 h2
 obtain ⟨a1, a2⟩ := h1
 have big : ∀ b : Bool, n = b → ¬ MM lo hi ≤ 9223372036854775807 → SV.agg [.v (.int .i64 (if b then -9223372036854775807 else 9223372036854775807)), .v (.bool true)] = Qcr (Qlv n (MM lo hi)) (Qkc (MM lo hi) f) := fun b hb e => by
   subst hb
   refine Qbu ?_ ?_
   · unfold Qlv; rw [if_neg e]
   · unfold Qkc; rw [if_neg e]
 have low : hi = 0 → lo ≤ 9223372036854775807 → MM lo hi = lo ∧ MM lo hi ≤ 9223372036854775807 := fun e1 e2 => ⟨by unfold MM; omega, hs.1 ⟨e1, e2⟩⟩
 refine Qaf (fun h => Qaf (fun h'' => ?_) fun h'' => ?_) fun h => Qaf (fun h' => Qaf (fun h'' => ?_) fun h'' => ?_) fun h' => Qaf (fun h'' => ?_) fun h'' => ?_
 · exact big true h'' fun e => (by have := (hs.2 e).1; simp [this] at h)
 · exact big false h'' fun e => (by have := (hs.2 e).1; simp [this] at h)
 · exact big true h'' fun e => (by have := of_decide_eq_true h'; have := (hs.2 e).2; omega)
 · exact big false h'' fun e => (by have := of_decide_eq_true h'; have := (hs.2 e).2; omega)
 · obtain ⟨e1, e2⟩ := low (by simpa using h) (by have := of_decide_eq_false h'; omega)
   subst h''
   refine Qbu ?_ ?_
   · unfold Qlv; rw [if_pos e2, if_pos rfl, e1, Qag (n := lo) ⟨by omega, by omega⟩, Qag ⟨by omega, by omega⟩]; omega
   · unfold Qkc; rw [if_pos e2]
 · obtain ⟨e1, e2⟩ := low (by simpa using h) (by have := of_decide_eq_false h'; omega)
   subst h''
   refine Qbu ?_ ?_
   · unfold Qlv; rw [if_pos e2, if_neg (by simp), e1, Qag ⟨by omega, by omega⟩]
   · unfold Qkc; rw [if_pos e2]
theorem Qye : Qai Tryz.prog 75 Q08 := Qan hm Qas Tryz.func75 (Λ := fun _ => Qax) fun args p x h hp => by
 unfold Q08 at h
 split at h <;> try (cases h; done)
 rename_i v f
 cases h
 refine ⟨rfl, rfl, ?_⟩
 rw [show ∀ v f, SV.agg [.v (.int .i64 v), .v (.bool f)] = Qcr v f from fun _ _ => rfl, Za6]
 refine Qaf (fun h => ?_) fun h => ?_
 · have h := eq_of_beq h
   exact Qbu (by unfold Qaa; rw [if_pos h]) (by unfold Qav; rw [if_pos h])
 · have h : ¬ v = -9223372036854775808 := fun e => by rw [e] at h; exact absurd h (by decide)
   exact Qbu (by unfold Qaa; rw [if_neg h]) (by unfold Qav; rw [if_neg h])
theorem Qx9 : Qai Tryz.prog 297 Q01 := Qan hm Qas Tryz.func297 (Λ := fun _ => Qax) fun args p x h hp => by
 unfold Q01 at h
 split at h <;> try (cases h; done)
 rename_i v f
 cases h
 refine ⟨rfl, rfl, ?_⟩
 rw [show ∀ v f, SV.agg [.v (.int .i64 v), .v (.bool f)] = Qcr v f from fun _ _ => rfl, Za2]
 refine Qaf (fun h => ?_) fun h => ?_
 · have h := eq_of_beq h
   show SV.tup _ = SV.tup _
   unfold Qaa Qav; rw [if_pos h, if_pos h]
 · have h : ¬ v = -9223372036854775808 := fun e => by rw [e] at h; exact absurd h (by decide)
   show SV.tup _ = SV.tup _
   unfold Qaa Qav; rw [if_neg h, if_neg h]
theorem Q32 : Qai Tryz.prog 300 Zcj := Qan hm Qas Tryz.func300 (Λ := fun _ => Qax) fun args p x h hp => by
 unfold Zcj at h
 split at h <;> try (cases h; done)
 rename_i v
 cases h
 obtain ⟨h1, h2⟩ := hp _ rfl
 refine ⟨rfl, rfl, ?_⟩
 rw [Zfz]
 refine Qaf (fun h => ?_) fun h => ?_
 · have h' := of_decide_eq_true h
   refine Qbj ?_
   rw [Qbt, Qrq]; unfold Qac; rw [if_pos h']; split <;> omega
 · have h' := of_decide_eq_false h
   refine Qbj ?_
   rw [Qbt]; unfold Qac; rw [if_neg h']; omega
theorem Q4k : Qai Tryz.prog 327 Zct := Qan hm Qas Tryz.func327 (Λ := fun _ => Qax) fun args p x h hp => by
 unfold Zct at h
 split at h <;> try (cases h; done)
 rename_i n1 hi1 lo1 n2 hi2 lo2
 cases h
 obtain ⟨⟨h1, h2⟩, ⟨h3, h4⟩⟩ := hp _ rfl
 refine ⟨rfl, rfl, ?_⟩
 rw [show ∀ n lo hi, SV.agg [.v (.bool n), .v (.int .u64 hi), .v (.int .u64 lo)] = wiS n hi lo from fun _ _ _ => rfl, show ∀ n lo hi, SV.agg [.v (.bool n), .v (.int .u64 hi), .v (.int .u64 lo)] = wiS n hi lo from fun _ _ _ => rfl, Zgm]
 refine Qaf (fun h => ?_) fun h => Qaf (fun h' => ?_) fun h' => ?_
 · have h := of_decide_eq_true h
   refine Qdo (decide_eq_true ?_).symm
   unfold MM; omega
 · have h' : hi1 = hi2 := eq_of_beq h'
   refine Qdo (decide_eq_decide.2 ?_)
   unfold MM; omega
 · have h := of_decide_eq_false h
   have h' : ¬ hi1 = hi2 := fun e => by rw [e] at h'; simp at h'
   refine Qdo (decide_eq_false ?_).symm
   unfold MM; omega
theorem Qyn : Qai Tryz.prog 298 Q1d := Qan hm Qas Tryz.func298 (Λ := fun _ => Qax) fun args p x h hp => by
 unfold Q1d at h
 split at h <;> try (cases h; done)
 rename_i v
 cases h
 refine ⟨rfl, rfl, ?_⟩
 rw [Zbg]
 refine Qaf (fun h => ?_) fun h => Qaf (fun h' => ?_) fun h' => ?_
 · refine Qbu ?_ rfl; unfold Qna; rw [if_pos (of_decide_eq_true h)]
 · refine Qbu ?_ rfl; unfold Qna; rw [if_neg (of_decide_eq_false h), if_pos (of_decide_eq_true h')]
 · refine Qbu ?_ rfl; unfold Qna; rw [if_neg (of_decide_eq_false h), if_neg (of_decide_eq_false h')]
theorem Qrp : ∀ f g, ΓB f = some g → g.ok Tryz.prog f := Qab (Qab (Qab (Qab (Qab (Qab (Qab (Qab (Qab (Qab (Qab (Qab (Qab Zfq
 (Qak Tryz.func153 (by kernel_rfl) (by kernel_rfl) Qyu)) (Qak Tryz.func65 (by kernel_rfl) (by kernel_rfl) Zeo)) (Qak Tryz.func77 (by kernel_rfl) (by kernel_rfl) Q4o))
 (Qak Tryz.func66 (by kernel_rfl) (by kernel_rfl) Zek)) (Qak Tryz.func68 (by kernel_rfl) (by kernel_rfl) Q8i)) (Qak Tryz.func75 (by kernel_rfl) (by kernel_rfl) Qye))
 (Qak Tryz.func297 (by kernel_rfl) (by kernel_rfl) Qx9)) (Qak Tryz.func300 (by kernel_rfl) (by kernel_rfl) Q32)) (Qak Tryz.func327 (by kernel_rfl) (by kernel_rfl) Q4k))
 (Qak Tryz.func304 (by kernel_rfl) (by kernel_rfl) Qyp)) (Qak Tryz.func295 (by kernel_rfl) (by kernel_rfl) Q77)) (Qak Tryz.func294 (by kernel_rfl) (by kernel_rfl) Q37))
 (Qak Tryz.func298 (by kernel_rfl) (by kernel_rfl) Qyn)
def isI : List SV → Prop
 | [.v (.int .i64 _)] => True
 | _ => False
def Qn8 (l : List SV) : Int := match l with | [.v (.int _ v)] => v | _ => 0
def orL : List (List SV) → Int
 | [] => 0
 | r :: t => if Qn8 r ≠ 0 then Qn8 r else orL t
def sOr : List SV → List Ro → Option (Option Prop × SV)
 | [.sl 0 1 0 n _], [⟨1, n', row⟩] => some (some (Qcc isI (Qal n' row) ∧ n' = n ∧ n < 4611686018427387904), .v (.int .i64 (orL (Qal n row))))
 | _, _ => none
noncomputable def Zj2 (n : Nat) (f : Nat → Int) : Nat → Option LoopSpec := Qb9 Qax Tryz.f113 0 Nat (fun i => i ≤ n ∧ ∀ j, j < i → f j = 0) (fun i => n - i) [(8, fun i => .v (.int .i64 i))] []
def Zhj (f : Nat → Int) : Nat → List SV := fun i => [.v (.int .i64 (f i))]
theorem vcOr (n n' c : Nat) (f : Nat→Int) (R : SV→Prop) : (Qcm Tryz.prog Qbi (Zj2 n f) Tryz.f113 [.sl 0 1 0 n c] (Qbe [⟨1,n',Zhj f⟩]) 64 (fun y _ => R y)) = ((∃ x : Nat,((((x : Nat) ≤ n)∧(∀ j : Nat,(((j : Nat) < x)→(((f j) : Int) = 0))))∧(((SV.v (.int .i64 0)) = (SV.v (.int .i64 ((↑x : Int)))))∧True)))∧(∀ x : Nat,((((x : Nat) ≤ n)∧(∀ j : Nat,(((j : Nat) < x)→(((f j) : Int) = 0))))→(sel (decide ((↑x : Int) < (↑n : Int))) ((((0 : Int) ≤ ((↑x : Int)))∧((((↑x : Int)) : Int) < ((↑n : Int))))∧(sel (f (0 + Int.toNat (↑x : Int)) != 0) (R (SV.v (.int .i64 (f (0 + Int.toNat (↑x : Int)))))) (∃ x' : Nat,(((((x' : Nat) ≤ n)∧(∀ j : Nat,(((j : Nat) < x')→(((f j) : Int) = 0))))∧(((SV.v (.int .i64 (IntKind.wrap IntKind.i64 ((↑x : Int) + 1)))) = (SV.v (.int .i64 ((↑x' : Int)))))∧True))∧(((n - x') : Nat) < (n - x)))))) (R (SV.v (.int .i64 0))))))):=by kernel_rfl
def Qp9 : List SV → Option (Option Prop × SV)
 | [.v (.int .i64 a), .v (.int .i64 b)] => some (some (I64 a ∧ I64 b), exM (!(decide (a < 0) == decide (b < 0))) (Qac a * Qac b))
 | _ => none
def Q05 : List SV → Option (Option Prop × SV)
 | [.v (.int .i64 a), .v (.int .i64 b)] => some (some (I64 a ∧ I64 b), wiM ((!(decide (a < 0) == decide (b < 0))) && a != 0 && b != 0) (Qac a * Qac b))
 | _ => none
def Qt5 : List SV → Option (Option Prop × SV)
 | [.v (.int .i64 v)] => some (some (I64 v), wiS (decide (v < 0)) 0 (Qac v))
 | _ => none
def plZ (n1 : Bool) (m1 : Int) (n2 : Bool) (m2 : Int) : Bool := if n1 = n2 then n1 else if m1 < m2 then n2 else n1 && m1 != m2
def Q1c : List SV → Option (Option Prop × SV)
 | [.agg [.v (.bool n1), .v (.int .u64 h1), .v (.int .u64 l1)], .agg [.v (.bool n2), .v (.int .u64 h2), .v (.int .u64 l2)]] =>
   some (some ((U64 l1 ∧ U64 h1) ∧ (U64 l2 ∧ U64 h2) ∧ MM l1 h1 + MM l2 h2 < 340282366920938463463374607431768211456), wiM (plZ n1 (MM l1 h1) n2 (MM l2 h2)) (plM n1 (MM l1 h1) n2 (MM l2 h2)))
 | _ => none
def Zcn : List SV → Option (Option Prop × SV)
 | [.agg [.v (.bool n1), .v (.int .u64 l1), .v (.int .u64 h1)], .agg [.v (.bool n2), .v (.int .u64 l2), .v (.int .u64 h2)]] =>
   some (some ((U64 l1 ∧ U64 h1) ∧ (U64 l2 ∧ U64 h2) ∧ MM l1 h1 + MM l2 h2 < 340282366920938463463374607431768211456), exM (plN n1 (MM l1 h1) n2 (MM l2 h2)) (plM n1 (MM l1 h1) n2 (MM l2 h2)))
 | _ => none
def Zce : List SV → Option (Option Prop × SV)
 | [.agg [.v (.int .u64 l1), .v (.int .u64 h1)], .agg [.v (.int .u64 l2), .v (.int .u64 h2)]] => some (some ((U64 l1 ∧ U64 h1) ∧ (U64 l2 ∧ U64 h2)), .v (.int .i64 (Qec (MM l1 h1) (MM l2 h2))))
 | _ => none
def Zkf : Qb7 := Qah ΓB 113 (Qcv sOr)
def Zke : Qb7 := Qah Zkf 226 (Qaj Zce)
def ΓC : Qb7 := Qah (Qah (Qah (Qah (Qah Zke 76 (Qaj Qp9)) 152 (Qaj Zcn)) 305 (Qaj Q05)) 296 (Qaj Qt5)) 308 (Qaj Q1c)
theorem Qz6 (a b : Int) (R : SV→Prop) : (Qau Tryz.prog ΓB Qax Tryz.f76 [.v (.int .i64 a),.v (.int .i64 b)] R) = ((I64 a)∧((I64 b)∧(((U64 (Qac a))∧(U64 (Qac b)))∧(R (SV.agg [(SV.v (.bool (!decide (a < 0) == decide (b < 0)))),(SV.v (.int .u64 (Qac a * Qac b % 18446744073709551616))),(SV.v (.int .u64 (Qac a * Qac b / 18446744073709551616)))]))))):=by kernel_rfl
theorem Za4 (a b : Int) (R : SV→Prop) : (Qau Tryz.prog ΓB Qax Tryz.f305 [.v (.int .i64 a),.v (.int .i64 b)] R) = ((I64 a)∧((I64 b)∧(((U64 (Qac a))∧(U64 (Qac b)))∧(sel (!decide (a < 0) == decide (b < 0)) (sel (a != 0) (R (SV.agg [(SV.v (.bool (b != 0))),(SV.v (.int .u64 (Qac a * Qac b / 18446744073709551616))),(SV.v (.int .u64 (Qac a * Qac b % 18446744073709551616)))])) (R (SV.agg [(SV.v (.bool false)),(SV.v (.int .u64 (Qac a * Qac b / 18446744073709551616))),(SV.v (.int .u64 (Qac a * Qac b % 18446744073709551616)))]))) (R (SV.agg [(SV.v (.bool false)),(SV.v (.int .u64 (Qac a * Qac b / 18446744073709551616))),(SV.v (.int .u64 (Qac a * Qac b % 18446744073709551616)))])))))):=by kernel_rfl
theorem Q5x (v : Int) (R : SV→Prop) : (Qau Tryz.prog ΓB Qax Tryz.f296 [.v (.int .i64 v)] R) = ((I64 v)∧(R (SV.agg [(SV.v (.bool (decide (v < 0)))),(SV.v (.int .u64 0)),(SV.v (.int .u64 (Qac v)))]))):=by kernel_rfl
theorem Zbf (n1 : Bool) (h1 l1 : Int) (n2 : Bool) (h2 l2 : Int) (R : SV→Prop) : (Qau Tryz.prog ΓB Qax Tryz.f308 [wiS n1 h1 l1,wiS n2 h2 l2] R) =
(sel (n1 == n2) (((U64 l1)∧((U64 l2)∧(((0 : Int) ≤ 0)∧((0 : Int) ≤ 1))))∧(((U64 h1)∧((U64 h2)∧(((0 : Int) ≤ ((l1 + l2 + 0) / 18446744073709551616))∧((((l1 + l2 + 0) / 18446744073709551616) : Int) ≤ 1))))∧(R (SV.agg [(SV.v (.bool n1)),(SV.v (.int .u64 ((h1 + h2 + (l1 + l2 + 0) / 18446744073709551616) % 18446744073709551616))),(SV.v (.int .u64 ((l1 + l2 + 0) % 18446744073709551616)))])))) (((U64 l1)∧(U64 l2))∧(sel (decide (MM l1 h1 < MM l2 h2)) (((U64 l2)∧((U64 l1)∧(((0 : Int) ≤ 0)∧((0 : Int) ≤ 1))))∧(((U64 h2)∧((U64 h1)∧(((0 : Int) ≤ (bor l2 (l1 + 0)))∧(((bor l2 (l1 + 0)) : Int) ≤ 1))))∧(sel n2 (sel ((h2 - h1 - bor l2 (l1 + 0)) % 18446744073709551616 != 0) (R (SV.agg [(SV.v (.bool true)),(SV.v (.int .u64 ((h2 - h1 - bor l2 (l1 + 0)) % 18446744073709551616))),(SV.v (.int .u64 ((l2 - l1 - 0) % 18446744073709551616)))])) (R (SV.agg [(SV.v (.bool ((l2 - l1 - 0) % 18446744073709551616 != 0))),(SV.v (.int .u64 ((h2 - h1 - bor l2 (l1 + 0)) % 18446744073709551616))),(SV.v (.int .u64 ((l2 - l1 - 0) % 18446744073709551616)))]))) (R (SV.agg [(SV.v (.bool false)),(SV.v (.int .u64 ((h2 - h1 - bor l2 (l1 + 0)) % 18446744073709551616))),(SV.v (.int .u64 ((l2 - l1 - 0) % 18446744073709551616)))]))))) (((U64 l1)∧((U64 l2)∧(((0 : Int) ≤ 0)∧((0 : Int) ≤ 1))))∧(((U64 h1)∧((U64 h2)∧(((0 : Int) ≤ (bor l1 (l2 + 0)))∧(((bor l1 (l2 + 0)) : Int) ≤ 1))))∧(sel n1 (sel ((h1 - h2 - bor l1 (l2 + 0)) % 18446744073709551616 != 0) (R (SV.agg [(SV.v (.bool true)),(SV.v (.int .u64 ((h1 - h2 - bor l1 (l2 + 0)) % 18446744073709551616))),(SV.v (.int .u64 ((l1 - l2 - 0) % 18446744073709551616)))])) (R (SV.agg [(SV.v (.bool ((l1 - l2 - 0) % 18446744073709551616 != 0))),(SV.v (.int .u64 ((h1 - h2 - bor l1 (l2 + 0)) % 18446744073709551616))),(SV.v (.int .u64 ((l1 - l2 - 0) % 18446744073709551616)))]))) (R (SV.agg [(SV.v (.bool false)),(SV.v (.int .u64 ((h1 - h2 - bor l1 (l2 + 0)) % 18446744073709551616))),(SV.v (.int .u64 ((l1 - l2 - 0) % 18446744073709551616)))])))))))) := by kernel_rfl
theorem Zfu (l1 h1 l2 h2 : Int) (R : SV→Prop) : (Qau Tryz.prog Zkf Qax Tryz.f226 [woS l1 h1,woS l2 h2] R) = ((((isI [SV.v (.int .i64 (Qec h1 h2))])∧((isI [SV.v (.int .i64 (Qec l1 l2))])∧True))∧(((2 : Nat) = 2)∧((2 : Nat) < 4611686018427387904)))∧(R (SV.v (.int .i64 (orL [[SV.v (.int .i64 (Qec h1 h2))],[SV.v (.int .i64 (Qec l1 l2))]]))))):=by kernel_rfl
theorem Zgf (n1 : Bool) (l1 h1 : Int) (n2 : Bool) (l2 h2 : Int) (R : SV→Prop) : (Qau Tryz.prog Zke Qax Tryz.f152 [exS n1 l1 h1,exS n2 l2 h2] R) = (sel (n1 == n2) (((U64 l1)∧((U64 l2)∧(((0 : Int) ≤ 0)∧((0 : Int) ≤ 1))))∧(((U64 h1)∧((U64 h2)∧(((0 : Int) ≤ ((l1 + l2 + 0) / 18446744073709551616))∧((((l1 + l2 + 0) / 18446744073709551616) : Int) ≤ 1))))∧(R (SV.agg [(SV.v (.bool n1)),(SV.v (.int .u64 ((l1 + l2 + 0) % 18446744073709551616))),(SV.v (.int .u64 ((h1 + h2 + (l1 + l2 + 0) / 18446744073709551616) % 18446744073709551616)))])))) ((((U64 l1)∧(U64 h1))∧((U64 l2)∧(U64 h2)))∧(sel (decide (Qec (MM l1 h1) (MM l2 h2) < 0)) (((U64 l2)∧((U64 l1)∧(((0 : Int) ≤ 0)∧((0 : Int) ≤ 1))))∧(((U64 h2)∧((U64 h1)∧(((0 : Int) ≤ (bor l2 (l1 + 0)))∧(((bor l2 (l1 + 0)) : Int) ≤ 1))))∧(R (SV.agg [(SV.v (.bool n2)),(SV.v (.int .u64 ((l2 - l1 - 0) % 18446744073709551616))),(SV.v (.int .u64 ((h2 - h1 - bor l2 (l1 + 0)) % 18446744073709551616)))])))) (((U64 l1)∧((U64 l2)∧(((0 : Int) ≤ 0)∧((0 : Int) ≤ 1))))∧(((U64 h1)∧((U64 h2)∧(((0 : Int) ≤ (bor l1 (l2 + 0)))∧(((bor l1 (l2 + 0)) : Int) ≤ 1))))∧(R (SV.agg [(SV.v (.bool n1)),(SV.v (.int .u64 ((l1 - l2 - 0) % 18446744073709551616))),(SV.v (.int .u64 ((h1 - h2 - bor l1 (l2 + 0)) % 18446744073709551616)))]))))))):=by kernel_rfl
theorem Qul {r : List SV} (h : isI r) : r = [.v (.int .i64 (Qn8 r))] := by
 unfold isI at h
 split at h
 · rfl
 · exact h.elim
theorem Qm8 {row : Nat → List SV} : ∀ {i : Nat}, (∀ j, j < i → Qn8 (row j) = 0) → ∀ l, orL (Qal i row ++ l) = orL l
 | 0, _, l => rfl
 | i + 1, h, l => by
   rw [Qfp, List.append_assoc, Qm8 (fun j hj => h j (by omega))]
   simp [orL, h i (by omega)]
theorem Qhj {n i : Nat} (row : Nat → List SV) (h : i < n) : ∃ t, Qal n row = Qal i row ++ row i :: t := by
 refine ⟨(List.range' (i + 1) (n - i - 1)).map row, ?_⟩
 unfold Qal
 rw [show n = i + (1 + (n - i - 1)) by omega, ← List.range'_append_1, List.map_append, ← List.range'_append_1]
 simp [List.range'_succ]
theorem Zen : Qca Tryz.prog 113 sOr := Qbw hm Qas Tryz.func113 (Λ := fun args bs => match args, bs with | [.sl 0 1 0 n _], [⟨1, _, row⟩] => Zj2 n (fun i => Qn8 (row i)) | _, _ => Qax) fun args bs p x h hp => by
 unfold sOr at h
 split at h <;> try (cases h; done)
 rename_i n c n' row
 cases h
 obtain ⟨h1, rfl, h3⟩ := hp _ rfl
 have h1 := okAll_rows.1 h1
 refine ⟨rfl, [⟨1, n', Zhj fun i => Qn8 (row i)⟩], ⟨⟨rfl, rfl, fun i hi => Qul (h1 i hi)⟩, trivial⟩, ?_⟩
 show Qcm _ _ (Zj2 n' fun i => Qn8 (row i)) _ _ _ _ _
 rw [vcOr]
 refine ⟨⟨0, ⟨by omega, fun j hj => by omega⟩, rfl, trivial⟩, fun i hi => ?_⟩
 refine Qaf (fun h => ?_) fun h => ?_
 · have h' : i < n' := by have := of_decide_eq_true h; omega
   refine ⟨⟨by omega, by omega⟩, Qaf (fun h'' => ?_) fun h'' => ?_⟩
   · have h'' : Qn8 (row (0 + Int.toNat (i : Int))) ≠ 0 := by simpa using h''
     simp only [Int.toNat_natCast, Nat.zero_add] at h'' ⊢
     obtain ⟨t, ht⟩ := Qhj row h'
     rw [ht, Qm8 hi.2]
     simp [orL, h'']
   · have h'' : Qn8 (row (0 + Int.toNat (i : Int))) = 0 := by simpa using h''
     simp only [Int.toNat_natCast, Nat.zero_add] at h''
     refine ⟨i + 1, ⟨⟨by omega, fun j hj => ?_⟩, Qbj ?_, trivial⟩, by omega⟩
     · rcases Nat.lt_or_eq_of_le (Nat.le_of_lt_succ hj) with hj | rfl
       · exact hi.2 j hj
       · exact h''
     · rw [Qag ⟨by omega, by omega⟩]; omega
 · have h' : ¬ i < n' := by have := of_decide_eq_false h; omega
   have : i = n' := by omega
   subst this
   have := Qm8 hi.2 []
   rw [List.append_nil] at this
   rw [this]; rfl
theorem Qzq : ∀ f g, Zkf f = some g → g.ok Tryz.prog f := Qab Qrp (Qc0 Tryz.func113 (by kernel_rfl) (by kernel_rfl) Zen)
theorem Zdi (a b : Int) : orL [[.v (.int .i64 a)], [.v (.int .i64 b)]] = if a = 0 then b else a := by
 show (if a ≠ 0 then a else if b ≠ 0 then b else 0) = _
 by_cases ha : a = 0 <;> by_cases hb : b = 0 <;> simp [ha, hb]
theorem Qnu {a b : Int} (h : a < b) : Qec a b = -1 := if_pos h
theorem Qnv {a b : Int} (h : b < a) : Qec a b = 1 := by unfold Qec; rw [if_neg (by omega), if_pos h]
theorem Qq2 (a : Int) : Qec a a = 0 := by unfold Qec; rw [if_neg (by omega), if_neg (by omega)]
theorem Q3d {l1 h1 l2 h2 : Int} (p1 : U64 l1) (p3 : U64 l2) : (if Qec h1 h2 = 0 then Qec l1 l2 else Qec h1 h2) = Qec (MM l1 h1) (MM l2 h2) := by
 obtain ⟨_, _⟩ := p1; obtain ⟨_, _⟩ := p3
 rcases Int.lt_trichotomy h1 h2 with h | h | h
 · rw [Qnu h, if_neg (by decide), Qnu (by unfold MM; omega)]
 · subst h
   rw [Qq2, if_pos rfl]
   rcases Int.lt_trichotomy l1 l2 with h | h | h
   · rw [Qnu h, Qnu (by unfold MM; omega)]
   · subst h; rw [Qq2, Qq2]
   · rw [Qnv h, Qnv (by unfold MM; omega)]
 · rw [Qnv h, if_neg (by decide), Qnv (by unfold MM; omega)]
theorem Q3v : Qai Tryz.prog 226 Zce := Qan hm Qzq Tryz.func226 (Λ := fun _ => Qax) fun args p x h hp => by
 unfold Zce at h
 split at h <;> try (cases h; done)
 rename_i l1 h1 l2 h2
 cases h
 obtain ⟨⟨p1, p2⟩, p3, p4⟩ := hp _ rfl
 refine ⟨rfl, rfl, ?_⟩
 rw [show ∀ a b, SV.agg [.v (.int .u64 a), .v (.int .u64 b)] = woS a b from fun _ _ => rfl, show ∀ a b, SV.agg [.v (.int .u64 a), .v (.int .u64 b)] = woS a b from fun _ _ => rfl, Zfu]
 refine ⟨⟨⟨trivial, trivial, trivial⟩, rfl, by decide⟩, Qbj ?_⟩
 rw [Zdi, Q3d p1 p3]
theorem Qzp : ∀ f g, Zke f = some g → g.ok Tryz.prog f := Qab Qzq (Qak Tryz.func226 (by kernel_rfl) (by kernel_rfl) Q3v)
theorem Qcq {a b : Int} : 0 ≤ Qac a * Qac b := Int.mul_nonneg (Qbk a) (Qbk b)
theorem Qs5 : Qai Tryz.prog 76 Qp9 := Qan hm Qrp Tryz.func76 (Λ := fun _ => Qax) fun args p x h hp => by
 unfold Qp9 at h
 split at h <;> try (cases h; done)
 cases h
 obtain ⟨h1, h2⟩ := hp _ rfl
 refine ⟨rfl, rfl, ?_⟩
 rw [Qz6]
 exact ⟨h1, h2, ⟨Qdh h1, Qdh h2⟩, Qso rfl rfl rfl⟩
theorem Qyc : Qai Tryz.prog 305 Q05 := Qan hm Qrp Tryz.func305 (Λ := fun _ => Qax) fun args p x h hp => by
 unfold Q05 at h
 split at h <;> try (cases h; done)
 cases h
 obtain ⟨h1, h2⟩ := hp _ rfl
 refine ⟨rfl, rfl, ?_⟩
 rw [Za4]
 refine ⟨h1, h2, ⟨Qdh h1, Qdh h2⟩, Qaf (fun h => Qaf (fun h' => ?_) fun h' => ?_) fun h => ?_⟩
 · exact Qxc (by rw [h, h']; rfl) rfl rfl
 · exact Qxc (by rw [h, h']; rfl) rfl rfl
 · exact Qxc (by rw [h]; rfl) rfl rfl
theorem Qu8 : Qai Tryz.prog 296 Qt5 := Qan hm Qrp Tryz.func296 (Λ := fun _ => Qax) fun args p x h hp => by
 unfold Qt5 at h
 split at h <;> try (cases h; done)
 cases h
 have h1 := hp _ rfl
 refine ⟨rfl, rfl, ?_⟩
 rw [Q5x]
 exact ⟨h1, rfl⟩
theorem Qwz (x y : Int) : 0 ≤ bor x y ∧ bor x y ≤ 1 := by unfold bor; split <;> omega
theorem Qst {l1 h1 l2 h2 : Int} (p1 : U64 l1) (p2 : U64 h1) (p3 : U64 l2) (p4 : U64 h2) (hs : MM l1 h1 + MM l2 h2 < 340282366920938463463374607431768211456) :
   (l1 + l2 + 0) % 18446744073709551616 = (MM l1 h1 + MM l2 h2) % 18446744073709551616 ∧ (h1 + h2 + (l1 + l2 + 0) / 18446744073709551616) % 18446744073709551616 = (MM l1 h1 + MM l2 h2) / 18446744073709551616 := by
 obtain ⟨_, _⟩ := p1; obtain ⟨_, _⟩ := p2; obtain ⟨_, _⟩ := p3; obtain ⟨_, _⟩ := p4
 unfold MM at *
 constructor <;> omega
theorem Qjn {l1 h1 l2 h2 : Int} (p1 : U64 l1) (p2 : U64 h1) (p3 : U64 l2) (p4 : U64 h2) (hs : MM l2 h2 ≤ MM l1 h1) :
   (l1 - l2 - 0) % 18446744073709551616 = Qac (MM l1 h1 - MM l2 h2) % 18446744073709551616 ∧ (h1 - h2 - bor l1 (l2 + 0)) % 18446744073709551616 = Qac (MM l1 h1 - MM l2 h2) / 18446744073709551616 := by
 have e : Qac (MM l1 h1 - MM l2 h2) = MM l1 h1 - MM l2 h2 := by unfold Qac; rw [if_neg (by omega)]
 rw [e]
 obtain ⟨_, _⟩ := p1; obtain ⟨_, _⟩ := p2; obtain ⟨_, _⟩ := p3; obtain ⟨_, _⟩ := p4
 unfold MM bor at *
 constructor
 · omega
 · split <;> omega
theorem Qnj (a b : Int) : Qac (a - b) = Qac (b - a) := by unfold Qac; split <;> split <;> omega
theorem Q4d : Qai Tryz.prog 152 Zcn := Qan hm Qzp Tryz.func152 (Λ := fun _ => Qax) fun args p x h hp => by
 unfold Zcn at h
 split at h <;> try (cases h; done)
 rename_i n1 l1 h1 n2 l2 h2
 cases h
 obtain ⟨⟨p1, p2⟩, ⟨p3, p4⟩, hs⟩ := hp _ rfl
 refine ⟨rfl, rfl, ?_⟩
 rw [show ∀ n lo hi, SV.agg [.v (.bool n), .v (.int .u64 lo), .v (.int .u64 hi)] = exS n lo hi from fun _ _ _ => rfl, show ∀ n lo hi, SV.agg [.v (.bool n), .v (.int .u64 lo), .v (.int .u64 hi)] = exS n lo hi from fun _ _ _ => rfl, Zgf]
 have b1 := Qwz l1 (l2 + 0)
 have b2 := Qwz l2 (l1 + 0)
 refine Qaf (fun h => ?_) fun h => ?_
 · have h : n1 = n2 := by simpa using h
   obtain ⟨e1, e2⟩ := Qst p1 p2 p3 p4 hs
   refine ⟨⟨p1, p3, by decide, by decide⟩, ⟨p2, p4, by obtain ⟨_, _⟩ := p1; obtain ⟨_, _⟩ := p3; omega, by obtain ⟨_, _⟩ := p1; obtain ⟨_, _⟩ := p3; omega⟩, Qso ?_ ?_ ?_⟩
   · unfold plN; rw [if_pos h]
   · unfold plM; rw [if_pos h, e1]
   · unfold plM; rw [if_pos h, e2]
 · have h : ¬ n1 = n2 := fun e => by rw [e] at h; simp at h
   refine ⟨⟨⟨p1, p2⟩, p3, p4⟩, Qaf (fun h' => ?_) fun h' => ?_⟩
   · have h' : MM l1 h1 < MM l2 h2 := by
       have h' := of_decide_eq_true h'
       unfold Qec at h'
       by_cases c : MM l1 h1 < MM l2 h2
       · exact c
       · rw [if_neg c] at h'; split at h' <;> omega
     obtain ⟨e1, e2⟩ := Qjn p3 p4 p1 p2 (Int.le_of_lt h')
     refine ⟨⟨p3, p1, by decide, by decide⟩, ⟨p4, p2, b2.1, b2.2⟩, Qso ?_ ?_ ?_⟩
     · unfold plN; rw [if_neg h, if_pos h']
     · unfold plM; rw [if_neg h, e1, Qnj]
     · unfold plM; rw [if_neg h, e2, Qnj]
   · have h' : ¬ MM l1 h1 < MM l2 h2 := fun c => by
       have h' := of_decide_eq_false h'
       unfold Qec at h'
       rw [if_pos c] at h'
       omega
     obtain ⟨e1, e2⟩ := Qjn p1 p2 p3 p4 (by omega)
     refine ⟨⟨p1, p3, by decide, by decide⟩, ⟨p2, p4, b1.1, b1.2⟩, Qso ?_ ?_ ?_⟩
     · unfold plN; rw [if_neg h, if_neg h']
     · unfold plM; rw [if_neg h, e1]
     · unfold plM; rw [if_neg h, e2]
theorem Qmm {n n' : Bool} {lo lo' hi hi' : Int} (h1 : n = n') (h3 : hi = hi') (h2 : lo = lo') : SV.agg [.v (.bool n), .v (.int .u64 hi), .v (.int .u64 lo)] = wiS n' hi' lo' := Qxc h1 h2 h3
theorem Qoj {m : Int} : (m / 18446744073709551616 = 0 ∧ m % 18446744073709551616 = 0) ↔ m = 0 := by omega
theorem Qym : Qai Tryz.prog 308 Q1c := Qan hm Qrp Tryz.func308 (Λ := fun _ => Qax) fun args p x h hp => by
 unfold Q1c at h
 split at h <;> try (cases h; done)
 rename_i n1 h1 l1 n2 h2 l2
 cases h
 obtain ⟨⟨p1, p2⟩, ⟨p3, p4⟩, hs⟩ := hp _ rfl
 refine ⟨rfl, rfl, ?_⟩
 rw [show ∀ n lo hi, SV.agg [.v (.bool n), .v (.int .u64 hi), .v (.int .u64 lo)] = wiS n hi lo from fun _ _ _ => rfl, show ∀ n lo hi, SV.agg [.v (.bool n), .v (.int .u64 hi), .v (.int .u64 lo)] = wiS n hi lo from fun _ _ _ => rfl, Zbf]
 have b1 := Qwz l1 (l2 + 0)
 have b2 := Qwz l2 (l1 + 0)
 refine Qaf (fun h => ?_) fun h => ⟨⟨p1, p3⟩, Qaf (fun h' => ?_) fun h' => ?_⟩
 · have h : n1 = n2 := by simpa using h
   obtain ⟨e1, e2⟩ := Qst p1 p2 p3 p4 hs
   refine ⟨⟨p1, p3, by decide, by decide⟩, ⟨p2, p4, by obtain ⟨_, _⟩ := p1; obtain ⟨_, _⟩ := p3; omega, by obtain ⟨_, _⟩ := p1; obtain ⟨_, _⟩ := p3; omega⟩, Qmm ?_ ?_ ?_⟩
   · unfold plZ; rw [if_pos h]
   · unfold plM; rw [if_pos h, e2]
   · unfold plM; rw [if_pos h, e1]
 · have h : ¬ n1 = n2 := fun e => by rw [e] at h; simp at h
   have h' : MM l1 h1 < MM l2 h2 := of_decide_eq_true h'
   obtain ⟨e1, e2⟩ := Qjn p3 p4 p1 p2 (Int.le_of_lt h')
   have hz := Qoj (m := Qac (MM l2 h2 - MM l1 h1))
   have hz' : Qac (MM l2 h2 - MM l1 h1) ≠ 0 := by unfold Qac; split <;> omega
   have s1 : plZ n1 (MM l1 h1) n2 (MM l2 h2) = n2 := by unfold plZ; rw [if_neg h, if_pos h']
   have s2 : plM n1 (MM l1 h1) n2 (MM l2 h2) = Qac (MM l2 h2 - MM l1 h1) := by unfold plM; rw [if_neg h, Qnj]
   refine ⟨⟨p3, p1, by decide, by decide⟩, ⟨p4, p2, b2.1, b2.2⟩, Qaf (fun g => Qaf (fun g' => ?_) fun g' => ?_) fun g => ?_⟩
   · exact Qmm (by rw [s1, g]) (by rw [s2, e2]) (by rw [s2, e1])
   · refine Qmm ?_ (by rw [s2, e2]) (by rw [s2, e1])
     rw [s1, g, e1]
     have g' : (h2 - h1 - bor l2 (l1 + 0)) % 18446744073709551616 = 0 := by simpa using g'
     rw [e2] at g'
     simp only [bne_iff_ne, ne_eq]
     exact fun e => hz' (hz.1 ⟨g', e⟩)
   · exact Qmm (by rw [s1, g]) (by rw [s2, e2]) (by rw [s2, e1])
 · have h : ¬ n1 = n2 := fun e => by rw [e] at h; simp at h
   have h' : ¬ MM l1 h1 < MM l2 h2 := of_decide_eq_false h'
   obtain ⟨e1, e2⟩ := Qjn p1 p2 p3 p4 (by omega)
   have hz := Qoj (m := Qac (MM l1 h1 - MM l2 h2))
   have hz' : Qac (MM l1 h1 - MM l2 h2) = 0 ↔ MM l1 h1 = MM l2 h2 := by unfold Qac; split <;> omega
   have s1 : plZ n1 (MM l1 h1) n2 (MM l2 h2) = (n1 && MM l1 h1 != MM l2 h2) := by unfold plZ; rw [if_neg h, if_neg h']
   have s2 : plM n1 (MM l1 h1) n2 (MM l2 h2) = Qac (MM l1 h1 - MM l2 h2) := by unfold plM; rw [if_neg h]
   refine ⟨⟨p1, p3, by decide, by decide⟩, ⟨p2, p4, b1.1, b1.2⟩, Qaf (fun g => Qaf (fun g' => ?_) fun g' => ?_) fun g => ?_⟩
   · refine Qmm ?_ (by rw [s2, e2]) (by rw [s2, e1])
     have g' : (h1 - h2 - bor l1 (l2 + 0)) % 18446744073709551616 ≠ 0 := by simpa using g'
     rw [e2] at g'
     rw [s1, g]
     exact (bne_iff_ne.2 fun e => g' (hz.2 (hz'.2 e)).1).symm
   · refine Qmm ?_ (by rw [s2, e2]) (by rw [s2, e1])
     have g' : (h1 - h2 - bor l1 (l2 + 0)) % 18446744073709551616 = 0 := by simpa using g'
     rw [e2] at g'
     rw [s1, g, e1]
     rw [Bool.true_and]
     by_cases c : MM l1 h1 = MM l2 h2
     · have := (hz.2 (hz'.2 c)).2
       rw [this, c, bne_self_eq_false, bne_self_eq_false]
     · have : Qac (MM l1 h1 - MM l2 h2) % 18446744073709551616 ≠ 0 := fun e => c (hz'.1 (hz.1 ⟨g', e⟩))
       rw [bne_iff_ne.2 this, bne_iff_ne.2 c]
   · exact Qmm (by rw [s1, g]; rfl) (by rw [s2, e2]) (by rw [s2, e1])
theorem Qc5 : ∀ f g, ΓC f = some g → g.ok Tryz.prog f := Qab (Qab (Qab (Qab (Qab Qzp (Qak Tryz.func76 (by kernel_rfl) (by kernel_rfl) Qs5))
 (Qak Tryz.func152 (by kernel_rfl) (by kernel_rfl) Q4d)) (Qak Tryz.func305 (by kernel_rfl) (by kernel_rfl) Qyc))
 (Qak Tryz.func296 (by kernel_rfl) (by kernel_rfl) Qu8)) (Qak Tryz.func308 (by kernel_rfl) (by kernel_rfl) Qym)
def Qat (v : Int) : Int := if Int.tmod v 26986075409 > 13493037704 then Int.tmod v 26986075409 - 26986075409 else if Int.tmod v 26986075409 < -13493037704 then Int.tmod v 26986075409 + 26986075409 else Int.tmod v 26986075409
def sOrder : List SV → Option (Option Prop × SV)
 | [.v (.int .i64 a), .v (.int .i64 b), .v (.int .i64 c), .v (.int .i64 d)] => some (some ((I64 a ∧ I64 b) ∧ I64 c ∧ I64 d), .v (.int .i64 (Qec (a * b) (c * d))))
 | _ => none
def sFloor : List SV → Option (Option Prop × SV)
 | [.agg [.v (.int .i64 v), .v (.bool _)]] => some (none, .v (.int .i64 (Qaa v / 4294967296)))
 | _ => none
def Qor : List SV → Option (Option Prop × SV)
 | [.agg [.v (.int .i64 v), .v (.bool _)]] => some (some (I64 v), .v (.int .i64 ((Qaa v + 2147483648) / 4294967296)))
 | _ => none
def Zjn : List SV → Option (Option Prop × SV)
 | [.v (.int .i64 v)] => some (none, Qcr (Qaa v) (Qav v false))
 | _ => none
def Ze1 : List SV → Option (Option Prop × SV)
 | [.v (.int .i64 v)] => some (some (I64 v), Qcr (Qar (v * 4294967296)) (Qcy (v * 4294967296) false))
 | _ => none
def Q9b : List SV → Option (Option Prop × SV)
 | [.agg [.v (.int .i64 v), .v (.bool f)]] => some (some (I64 v), Qcr (-Qaa v) (Qav v f))
 | _ => none
def Zhi : List SV → Option (Option Prop × SV)
 | [.agg [.v (.int .i64 v), .v (.bool f)]] => some (some (I64 v), Qcr (Qac (Qaa v)) (Qav v f))
 | _ => none
def Zc2 : List SV → Option (Option Prop × SV)
 | [.agg [.v (.int .i64 v), .v (.bool _)], .agg [.v (.int .i64 u), .v (.bool _)]] => some (none, .v (.int .i64 (Qec (Qaa v) (Qaa u))))
 | _ => none
def Qxl : List SV → Option (Option Prop × SV)
 | [.agg [.v (.int .i64 v), .v (.bool f)]] => some (some (I64 v), Qcr (Qat (Qaa v)) (Qav v f))
 | _ => none
def Qa2 (a b : Int) : Int := Int.tdiv (a * b) 4294967296
def Ze0 : List SV → Option (Option Prop × SV)
 | [.agg [.v (.int .i64 v), .v (.bool f)], .agg [.v (.int .i64 u), .v (.bool g)]] => some (some (I64 v ∧ I64 u), Qcr (Qar (Qa2 (Qaa v) (Qaa u))) (Qcy (Qa2 (Qaa v) (Qaa u)) (Qav v f || Qav u g)))
 | _ => none
theorem Za9 (v : Int) (f : Bool) (R : SV→Prop) : (Qau Tryz.prog ΓC Qax Tryz.f163 [Qcr v f] R) = (sel (decide (IntKind.wrap IntKind.u32 (Qaa v) ≥ 2147483648)) (R (SV.v (.int .i64 (IntKind.wrap IntKind.i64 (Qaa v / 4294967296 + 1))))) (R (SV.v (.int .i64 (Qaa v / 4294967296))))):=by kernel_rfl
theorem Q5u (v : Int) (f : Bool) (R : SV→Prop) : (Qau Tryz.prog ΓC Qax Tryz.f243 [Qcr v f] R) = (R (SV.v (.int .i64 (IntKind.wrap IntKind.i64 (Qaa v / 4294967296 + bits BinOp.and IntKind.i64 (Qaa v / 2147483648) 1))))):=by kernel_rfl
theorem Zku (v : Int) (R : SV→Prop) : (Qau Tryz.prog ΓC Qax Tryz.f229 [.v (.int .i64 v)] R) = (R (SV.agg [(SV.v (.int .i64 (Qaa v))),(SV.v (.bool (Qav v false)))])):=by kernel_rfl
theorem Zkz (v : Int) (R : SV→Prop) : (Qau Tryz.prog ΓC Qax Tryz.f63 [.v (.int .i64 v)] R) = ((I64 v)∧(((U64 (Qac v))∧((U64 0)∧(((MM (Qac v) 0) : Int) < 79228162514264337593543950336)))∧(((U64 (MM (Qac v) 0 * 4294967296 % 18446744073709551616))∧(U64 (MM (Qac v) 0 * 4294967296 / 18446744073709551616)))∧(R (SV.agg [(SV.v (.int .i64 (Qlv (decide (v < 0)) (MM (MM (Qac v) 0 * 4294967296 % 18446744073709551616) (MM (Qac v) 0 * 4294967296 / 18446744073709551616))))),(SV.v (.bool (Qkc (MM (MM (Qac v) 0 * 4294967296 % 18446744073709551616) (MM (Qac v) 0 * 4294967296 / 18446744073709551616)) false)))]))))):=by kernel_rfl
theorem Zf7 (v : Int) (R : SV→Prop) : (Qau Tryz.prog ΓC Qax Tryz.f218 [.v (.int .i64 v)] R) = ((I64 v)∧(((U64 (Qac v))∧((U64 0)∧(((MM (Qac v) 0) : Int) < 79228162514264337593543950336)))∧(((U64 (MM (Qac v) 0 * 4294967296 % 18446744073709551616))∧(U64 (MM (Qac v) 0 * 4294967296 / 18446744073709551616)))∧(R (SV.agg [(SV.v (.int .i64 (Qlv (decide (v < 0)) (MM (MM (Qac v) 0 * 4294967296 % 18446744073709551616) (MM (Qac v) 0 * 4294967296 / 18446744073709551616))))),(SV.v (.bool (Qkc (MM (MM (Qac v) 0 * 4294967296 % 18446744073709551616) (MM (Qac v) 0 * 4294967296 / 18446744073709551616)) false)))]))))):=by kernel_rfl
theorem Zkv (v : Int) (f : Bool) (R : SV→Prop) : (Qau Tryz.prog ΓC Qax Tryz.f155 [Qcr v f] R) = (R (SV.agg [(SV.v (.int .i64 (IntKind.wrap IntKind.i64 (0 - Qaa v)))),(SV.v (.bool (Qav v f)))])):=by kernel_rfl
theorem Zf3 (v : Int) (f : Bool) (R : SV→Prop) : (Qau Tryz.prog ΓC Qax Tryz.f235 [Qcr v f] R) = (R (SV.agg [(SV.v (.int .i64 (IntKind.wrap IntKind.i64 (0 - Qaa v)))),(SV.v (.bool (Qav v f)))])):=by kernel_rfl
theorem Zgd (v : Int) (f : Bool) (R : SV→Prop) : (Qau Tryz.prog ΓC Qax Tryz.f242 [Qcr v f] R) = (sel (decide (Qaa v < 0)) (R (SV.agg [(SV.v (.int .i64 (IntKind.wrap IntKind.i64 (0 - Qaa v)))),(SV.v (.bool (Qav v f)))])) (R (SV.agg [(SV.v (.int .i64 (Qaa v))),(SV.v (.bool (Qav v f)))]))):=by kernel_rfl
theorem Zk9 (v : Int) (f : Bool) (u : Int) (g : Bool) (R : SV→Prop) : (Qau Tryz.prog ΓC Qax Tryz.f97 [Qcr v f,Qcr u g] R) = (R (SV.v (.int .i64 (Qec (Qaa v) (Qaa u))))):=by kernel_rfl
theorem Zft (v : Int) (f : Bool) (R : SV→Prop) : (Qau Tryz.prog ΓC Qax Tryz.f228 [Qcr v f] R) = (sel (decide (Int.tmod (Qaa v) 26986075409 > 13493037704)) (R (SV.agg [(SV.v (.int .i64 (IntKind.wrap IntKind.i64 (Int.tmod (Qaa v) 26986075409 - 26986075409)))),(SV.v (.bool (Qav v f)))])) (sel (decide (Int.tmod (Qaa v) 26986075409 < -13493037704)) (R (SV.agg [(SV.v (.int .i64 (IntKind.wrap IntKind.i64 (Int.tmod (Qaa v) 26986075409 + 26986075409)))),(SV.v (.bool (Qav v f)))])) (R (SV.agg [(SV.v (.int .i64 (Int.tmod (Qaa v) 26986075409))),(SV.v (.bool (Qav v f)))])))):=by kernel_rfl
theorem Zbc (v : Int) (f : Bool) (R : SV→Prop) : (Qau Tryz.prog ΓC Qax Tryz.f234 [Qcr v f] R) = (sel (decide (Int.tmod (Qaa v) 26986075409 > 13493037704)) (sel (decide (IntKind.wrap IntKind.i64 (Int.tmod (Qaa v) 26986075409 - 26986075409) < -13493037704)) (R (SV.agg [(SV.v (.int .i64 (IntKind.wrap IntKind.i64 (IntKind.wrap IntKind.i64 (Int.tmod (Qaa v) 26986075409 - 26986075409) + 26986075409)))),(SV.v (.bool (Qav v f)))])) (R (SV.agg [(SV.v (.int .i64 (IntKind.wrap IntKind.i64 (Int.tmod (Qaa v) 26986075409 - 26986075409)))),(SV.v (.bool (Qav v f)))]))) (sel (decide (Int.tmod (Qaa v) 26986075409 < -13493037704)) (R (SV.agg [(SV.v (.int .i64 (IntKind.wrap IntKind.i64 (Int.tmod (Qaa v) 26986075409 + 26986075409)))),(SV.v (.bool (Qav v f)))])) (R (SV.agg [(SV.v (.int .i64 (Int.tmod (Qaa v) 26986075409))),(SV.v (.bool (Qav v f)))])))):=by kernel_rfl
theorem Zf4 (v : Int) (f : Bool) (u : Int) (g : Bool) (R : SV→Prop) : (Qau Tryz.prog ΓC Qax Tryz.f236 [Qcr v f,Qcr u g] R) = (((I64 (Qaa v))∧(I64 (Qaa u)))∧(((U64 (Qac (Qaa v) * Qac (Qaa u) % 18446744073709551616))∧(U64 (Qac (Qaa v) * Qac (Qaa u) / 18446744073709551616)))∧(sel (Qav v f) (((U64 (MM (Qac (Qaa v) * Qac (Qaa u) % 18446744073709551616) (Qac (Qaa v) * Qac (Qaa u) / 18446744073709551616) / 4294967296 % 18446744073709551616))∧(U64 (MM (Qac (Qaa v) * Qac (Qaa u) % 18446744073709551616) (Qac (Qaa v) * Qac (Qaa u) / 18446744073709551616) / 4294967296 / 18446744073709551616)))∧(R (SV.agg [(SV.v (.int .i64 (Qlv (!decide (Qaa v < 0) == decide (Qaa u < 0)&&Qaa v != 0&&Qaa u != 0) (MM (MM (Qac (Qaa v) * Qac (Qaa u) % 18446744073709551616) (Qac (Qaa v) * Qac (Qaa u) / 18446744073709551616) / 4294967296 % 18446744073709551616) (MM (Qac (Qaa v) * Qac (Qaa u) % 18446744073709551616) (Qac (Qaa v) * Qac (Qaa u) / 18446744073709551616) / 4294967296 / 18446744073709551616))))),(SV.v (.bool (Qkc (MM (MM (Qac (Qaa v) * Qac (Qaa u) % 18446744073709551616) (Qac (Qaa v) * Qac (Qaa u) / 18446744073709551616) / 4294967296 % 18446744073709551616) (MM (Qac (Qaa v) * Qac (Qaa u) % 18446744073709551616) (Qac (Qaa v) * Qac (Qaa u) / 18446744073709551616) / 4294967296 / 18446744073709551616)) true)))]))) (((U64 (MM (Qac (Qaa v) * Qac (Qaa u) % 18446744073709551616) (Qac (Qaa v) * Qac (Qaa u) / 18446744073709551616) / 4294967296 % 18446744073709551616))∧(U64 (MM (Qac (Qaa v) * Qac (Qaa u) % 18446744073709551616) (Qac (Qaa v) * Qac (Qaa u) / 18446744073709551616) / 4294967296 / 18446744073709551616)))∧(R (SV.agg [(SV.v (.int .i64 (Qlv (!decide (Qaa v < 0) == decide (Qaa u < 0)&&Qaa v != 0&&Qaa u != 0) (MM (MM (Qac (Qaa v) * Qac (Qaa u) % 18446744073709551616) (Qac (Qaa v) * Qac (Qaa u) / 18446744073709551616) / 4294967296 % 18446744073709551616) (MM (Qac (Qaa v) * Qac (Qaa u) % 18446744073709551616) (Qac (Qaa v) * Qac (Qaa u) / 18446744073709551616) / 4294967296 / 18446744073709551616))))),(SV.v (.bool (Qkc (MM (MM (Qac (Qaa v) * Qac (Qaa u) % 18446744073709551616) (Qac (Qaa v) * Qac (Qaa u) / 18446744073709551616) / 4294967296 % 18446744073709551616) (MM (Qac (Qaa v) * Qac (Qaa u) % 18446744073709551616) (Qac (Qaa v) * Qac (Qaa u) / 18446744073709551616) / 4294967296 / 18446744073709551616)) (Qav u g))))])))))):=by kernel_rfl
theorem Qen {a : Int} (h : a < 0) : Qac a = -a := by unfold Qac; rw [if_pos h]
theorem Qd6 {a : Int} (h : ¬ a < 0) : Qac a = a := by unfold Qac; rw [if_neg h]
theorem Qgo (a b : Int) : sv (!(decide (a < 0) == decide (b < 0))) (Qac a * Qac b) = a * b := by
 unfold sv
 by_cases ha : a < 0 <;> by_cases hb : b < 0
 · rw [Qen ha, Qen hb]; simp [ha, hb, Int.neg_mul_neg]
 · rw [Qen ha, Qd6 hb]; simp [ha, hb, Int.neg_mul]
 · rw [Qd6 ha, Qen hb]; simp [ha, hb, Int.mul_neg]
 · rw [Qd6 ha, Qd6 hb]; simp [ha, hb]
theorem Qjp (a b : Int) : sv (!(decide (a < 0) == decide (b < 0)) && a != 0 && b != 0) (Qac a * Qac b) = a * b := by
 by_cases ha : a = 0
 · subst ha; simp [sv, Qac]
 · by_cases hb : b = 0
   · subst hb; simp [sv, Qac]
   · rw [bne_iff_ne.2 ha, bne_iff_ne.2 hb, Bool.and_true, Bool.and_true, Qgo]
theorem Qpx (n : Bool) {m k : Int} (h : 0 ≤ m) : sv n (m / k) = Int.tdiv (sv n m) k := by
 unfold sv
 cases n with
 | false => simp [Int.tdiv_eq_ediv_of_nonneg h]
 | true => simp [Int.neg_tdiv, Int.tdiv_eq_ediv_of_nonneg h]
theorem Qcf {a b : Int} (ha : I64 a) (hb : I64 b) : Qac a * Qac b ≤ 85070591730234615865843651857942052864 := by
 have h1 := Qfu ha
 have h2 := Qfu hb
 have := Int.mul_le_mul h1 h2 (Qbk b) (by decide)
 simpa using this
theorem Ql2 {v : Int} (h : I64 v) : IntKind.i64.wrap (0 - Qaa v) = - Qaa v := by
 have := Qd5 h
 rw [Qag ⟨by omega, by omega⟩]; omega
theorem Q65 (n : Int) : bits .and .i64 n 1 = n % 2 := by
 have h1 : (BitVec.ofInt 64 1).toNat = 2 ^ 1 - 1 := by decide
 have key : (BitVec.ofInt 64 n &&& BitVec.ofInt 64 1).toNat = (n % ((2 ^ 64 : Nat) : Int)).toNat % 2 := by
   rw [BitVec.toNat_and, BitVec.toNat_ofInt, h1, Nat.and_two_pow_sub_one_eq_mod]
 show IntKind.i64.wrap ((BitVec.ofInt 64 n &&& BitVec.ofInt 64 1).toNat : Nat) = n % 2
 rw [key, Qag ⟨by omega, by omega⟩]
 omega
theorem Qyh : Qai Tryz.prog 163 Qor := Qan hm Qc5 Tryz.func163 (Λ := fun _ => Qax) fun args p x h hp => by
 unfold Qor at h
 split at h <;> try (cases h; done)
 cases h
 have h1 := Qd5 (hp _ rfl)
 refine ⟨rfl, rfl, ?_⟩
 rw [show ∀ v f, SV.agg [.v (.int .i64 v), .v (.bool f)] = Qcr v f from fun _ _ => rfl, Za9]
 simp only [Q5d]
 refine Qaf (fun g => Qbj ?_) fun g => Qbj ?_
 · have g := of_decide_eq_true g
   rw [Qag ⟨by omega, by omega⟩]; omega
 · have g := of_decide_eq_false g
   omega
theorem Qu6 : Qai Tryz.prog 243 Qor := Qan hm Qc5 Tryz.func243 (Λ := fun _ => Qax) fun args p x h hp => by
 unfold Qor at h
 split at h <;> try (cases h; done)
 cases h
 have h1 := Qd5 (hp _ rfl)
 refine ⟨rfl, rfl, ?_⟩
 rw [show ∀ v f, SV.agg [.v (.int .i64 v), .v (.bool f)] = Qcr v f from fun _ _ => rfl, Q5u]
 refine Qbj ?_
 rw [Q65, Qag ⟨by omega, by omega⟩]; omega
theorem Qw7 : Qai Tryz.prog 229 Zjn := Qan hm Qc5 Tryz.func229 (Λ := fun _ => Qax) fun args p x h hp => by
 unfold Zjn at h
 split at h <;> try (cases h; done)
 cases h
 refine ⟨rfl, rfl, ?_⟩
 rw [Zku]; rfl
theorem Zaa (lo : Int) : MM lo 0 = lo := by unfold MM; omega
theorem Qxg (v : Int) : sv (decide (v < 0)) (Qac v) = v := by
 unfold sv
 by_cases h : v < 0
 · rw [Qen h]; simp [h]
 · rw [Qd6 h]; simp [h]
theorem Qlz (n : Bool) (m k : Int) : sv n (m * k) = sv n m * k := by unfold sv; cases n <;> simp [Int.neg_mul]
theorem Zhb : U64 0 := ⟨by decide, by decide⟩
theorem Qxa : Qai Tryz.prog 63 Ze1 := Qan hm Qc5 Tryz.func63 (Λ := fun _ => Qax) fun args p x h hp => by
 unfold Ze1 at h
 split at h <;> try (cases h; done)
 cases h
 have h1 := hp _ rfl
 have h2 := Qfu h1
 have h3 := Qbk ‹Int›
 refine ⟨rfl, rfl, ?_⟩
 rw [Zkz]
 simp only [Zaa, Qc9]
 refine ⟨h1, ⟨Qdh h1, Zhb, by omega⟩, ⟨Qb1 _, Qci (by omega) (by omega)⟩, Qbu ?_ ?_⟩
 · rw [Qg3 _ (by omega), Qlz, Qxg]
 · rw [Qg4 (decide (‹Int› < 0)) _ (by omega), Qlz, Qxg]
theorem Qs0 : Qai Tryz.prog 218 Ze1 := Qan hm Qc5 Tryz.func218 (Λ := fun _ => Qax) fun args p x h hp => by
 unfold Ze1 at h
 split at h <;> try (cases h; done)
 cases h
 have h1 := hp _ rfl
 have h2 := Qfu h1
 have h3 := Qbk ‹Int›
 refine ⟨rfl, rfl, ?_⟩
 rw [Zf7]
 simp only [Zaa, Qc9]
 refine ⟨h1, ⟨Qdh h1, Zhb, by omega⟩, ⟨Qb1 _, Qci (by omega) (by omega)⟩, Qbu ?_ ?_⟩
 · rw [Qg3 _ (by omega), Qlz, Qxg]
 · rw [Qg4 (decide (‹Int› < 0)) _ (by omega), Qlz, Qxg]
theorem Qrd : Qai Tryz.prog 155 Q9b := Qan hm Qc5 Tryz.func155 (Λ := fun _ => Qax) fun args p x h hp => by
 unfold Q9b at h
 split at h <;> try (cases h; done)
 cases h
 have h1 := hp _ rfl
 refine ⟨rfl, rfl, ?_⟩
 rw [show ∀ v f, SV.agg [.v (.int .i64 v), .v (.bool f)] = Qcr v f from fun _ _ => rfl, Zkv, Ql2 h1]
 rfl
theorem Qn5 : Qai Tryz.prog 235 Q9b := Qan hm Qc5 Tryz.func235 (Λ := fun _ => Qax) fun args p x h hp => by
 unfold Q9b at h
 split at h <;> try (cases h; done)
 cases h
 have h1 := hp _ rfl
 refine ⟨rfl, rfl, ?_⟩
 rw [show ∀ v f, SV.agg [.v (.int .i64 v), .v (.bool f)] = Qcr v f from fun _ _ => rfl, Zf3, Ql2 h1]
 rfl
theorem Q4b : Qai Tryz.prog 242 Zhi := Qan hm Qc5 Tryz.func242 (Λ := fun _ => Qax) fun args p x h hp => by
 unfold Zhi at h
 split at h <;> try (cases h; done)
 cases h
 have h1 := hp _ rfl
 refine ⟨rfl, rfl, ?_⟩
 rw [show ∀ v f, SV.agg [.v (.int .i64 v), .v (.bool f)] = Qcr v f from fun _ _ => rfl, Zgd, Ql2 h1]
 refine Qaf (fun g => Qbu ?_ rfl) fun g => Qbu ?_ rfl
 · rw [Qen (of_decide_eq_true g)]
 · rw [Qd6 (of_decide_eq_false g)]
theorem Q4v : Qai Tryz.prog 97 Zc2 := Qan hm Qc5 Tryz.func97 (Λ := fun _ => Qax) fun args p x h hp => by
 unfold Zc2 at h
 split at h <;> try (cases h; done)
 rename_i v f u g
 cases h
 refine ⟨rfl, rfl, ?_⟩
 rw [show SV.agg [.v (.int .i64 v), .v (.bool f)] = Qcr v f from rfl, show SV.agg [.v (.int .i64 u), .v (.bool g)] = Qcr u g from rfl, Zk9]
theorem Q0f (v : Int) : -26986075409 < Int.tmod v 26986075409 ∧ Int.tmod v 26986075409 < 26986075409 := by
 have h1 := Int.tmod_lt_of_pos v (show (0 : Int) < 26986075409 by decide)
 have h2 := Int.tmod_lt_of_pos (-v) (show (0 : Int) < 26986075409 by decide)
 rw [Int.neg_tmod] at h2
 omega
theorem Q3t : Qai Tryz.prog 228 Qxl := Qan hm Qc5 Tryz.func228 (Λ := fun _ => Qax) fun args p x h hp => by
 unfold Qxl at h
 split at h <;> try (cases h; done)
 rename_i v f
 cases h
 refine ⟨rfl, rfl, ?_⟩
 rw [show ∀ v f, SV.agg [.v (.int .i64 v), .v (.bool f)] = Qcr v f from fun _ _ => rfl, Zft]
 have ht := Q0f (Qaa v)
 unfold Qat
 generalize Int.tmod (Qaa v) 26986075409 = r at ht ⊢
 refine Qaf (fun h => Qbu ?_ rfl) fun h => Qaf (fun h' => Qbu ?_ rfl) fun h' => Qbu ?_ rfl
 · have h := of_decide_eq_true h
   rw [if_pos h, Qag ⟨by omega, by omega⟩]
 · have h := of_decide_eq_false h
   have h' := of_decide_eq_true h'
   rw [if_neg h, if_pos h', Qag ⟨by omega, by omega⟩]
 · rw [if_neg (of_decide_eq_false h), if_neg (of_decide_eq_false h')]
theorem Qyj : Qai Tryz.prog 234 Qxl := Qan hm Qc5 Tryz.func234 (Λ := fun _ => Qax) fun args p x h hp => by
 unfold Qxl at h
 split at h <;> try (cases h; done)
 rename_i v f
 cases h
 refine ⟨rfl, rfl, ?_⟩
 rw [show ∀ v f, SV.agg [.v (.int .i64 v), .v (.bool f)] = Qcr v f from fun _ _ => rfl, Zbc]
 have ht := Q0f (Qaa v)
 unfold Qat
 generalize Int.tmod (Qaa v) 26986075409 = r at ht ⊢
 refine Qaf (fun h => Qaf (fun h' => ?_) fun h' => Qbu ?_ rfl) fun h => Qaf (fun h' => Qbu ?_ rfl) fun h' => Qbu ?_ rfl
 · have h := of_decide_eq_true h
   have h' := of_decide_eq_true h'
   rw [Qag ⟨by omega, by omega⟩] at h'
   omega
 · have h := of_decide_eq_true h
   rw [if_pos h, Qag ⟨by omega, by omega⟩]
 · have h := of_decide_eq_false h
   have h' := of_decide_eq_true h'
   rw [if_neg h, if_pos h', Qag ⟨by omega, by omega⟩]
 · rw [if_neg (of_decide_eq_false h), if_neg (of_decide_eq_false h')]
theorem Qsy : Qai Tryz.prog 236 Ze0 := Qan hm Qc5 Tryz.func236 (Λ := fun _ => Qax) fun args p x h hp => by
 unfold Ze0 at h
 split at h <;> try (cases h; done)
 rename_i v f u g
 cases h
 obtain ⟨h1, h2⟩ := hp _ rfl
 have h1 := Qb5 h1
 have h2 := Qb5 h2
 refine ⟨rfl, rfl, ?_⟩
 rw [show SV.agg [.v (.int .i64 v), .v (.bool f)] = Qcr v f from rfl, show SV.agg [.v (.int .i64 u), .v (.bool g)] = Qcr u g from rfl, Zf4]
 simp only [Qc9]
 have l1 := Qcf h1 h2
 have n1 := Qcq (a := Qaa v) (b := Qaa u)
 have s1 := Qjp (Qaa v) (Qaa u)
 generalize Qac (Qaa v) * Qac (Qaa u) = m at *
 generalize (!(decide (Qaa v < 0) == decide (Qaa u < 0)) && Qaa v != 0 && Qaa u != 0) = n at *
 have e : sv n (m / 4294967296) = Qa2 (Qaa v) (Qaa u) := by rw [Qpx n n1, s1]; rfl
 refine ⟨⟨h1, h2⟩, ⟨Qb1 _, Qci n1 (by omega)⟩, Qaf (fun hf => ⟨⟨Qb1 _, Qci (by omega) (by omega)⟩, Qbu ?_ ?_⟩) fun hf => ⟨⟨Qb1 _, Qci (by omega) (by omega)⟩, Qbu ?_ ?_⟩⟩
 · rw [Qg3 _ (by omega), e]
 · rw [Qg4 n _ (by omega), e, hf, Bool.true_or]
 · rw [Qg3 _ (by omega), e]
 · rw [Qg4 n _ (by omega), e, hf, Bool.false_or]
def isN : List SV → Prop
 | [.v (.int .i64 _), .v (.bool _)] => True
 | _ => False
def Qcb (l : List SV) : Int := match l with | [.v (.int _ v), _] => v | _ => 0
def Qe5 (l : List SV) : Bool := match l with | [_, .v (.bool f)] => f | _ => false
def Qro : List (List SV) → Bool
 | [] => false
 | r :: t => Qe5 r || Qro t
def Qfj : List (List SV) → Bool
 | [] => false
 | r :: t => Qav (Qcb r) (Qe5 r) || Qfj t
def Qeg (v : Nat → Int) (f : Nat → Bool) : Nat → List SV := fun i => [.v (.int .i64 (v i)), .v (.bool (f i))]
def Qvv : List SV → List Ro → Option (Option Prop × SV)
 | [.sl 0 2 0 n _], [⟨2, n', row⟩] => some (some (Qcc isN (Qal n' row) ∧ n' = n ∧ n < 4611686018427387904), .v (.bool (Qro (Qal n row))))
 | _, _ => none
noncomputable def Qti (n : Nat) (f : Nat → Bool) : Nat → Option LoopSpec := Qb9 Qax Tryz.f78 0 Nat (fun i => i ≤ n ∧ ∀ j, j < i → f j = false) (fun i => n - i) [(7, fun i => .v (.int .i64 i))] []
theorem Zbu (n n' c : Nat) (v : Nat→Int) (f : Nat→Bool) (R : SV→Prop) : (Qcm Tryz.prog Qbi (Qti n f) Tryz.f78 [.sl 0 2 0 n c] (Qbe [⟨2,n',Qeg v f⟩]) 64 (fun y _ => R y)) = ((∃ x : Nat,((((x : Nat) ≤ n)∧(∀ j : Nat,(((j : Nat) < x)→(f j = false))))∧(((SV.v (.int .i64 0)) = (SV.v (.int .i64 ((↑x : Int)))))∧True)))∧(∀ x : Nat,((((x : Nat) ≤ n)∧(∀ j : Nat,(((j : Nat) < x)→(f j = false))))→(sel (decide ((↑x : Int) < (↑n : Int))) ((((0 : Int) ≤ ((↑x : Int)))∧((((↑x : Int)) : Int) < ((↑n : Int))))∧(sel (f (0 + Int.toNat (↑x : Int))) (R (SV.v (.bool true))) (∃ x' : Nat,(((((x' : Nat) ≤ n)∧(∀ j : Nat,(((j : Nat) < x')→(f j = false))))∧(((SV.v (.int .i64 (IntKind.wrap IntKind.i64 ((↑x : Int) + 1)))) = (SV.v (.int .i64 ((↑x' : Int)))))∧True))∧(((n - x') : Nat) < (n - x)))))) (R (SV.v (.bool false))))))):=by kernel_rfl
def Ql5 : List SV → List Ro → Option (Option Prop × SV)
 | [.sl 0 2 0 n _], [⟨2, n', row⟩] => some (some (Qcc isN (Qal n' row) ∧ n' = n ∧ n < 4611686018427387904), .v (.bool (Qfj (Qal n row))))
 | _, _ => none
noncomputable def Qmj (n : Nat) (g : Nat → Bool) : Nat → Option LoopSpec := Qb9 Qax Tryz.f326 0 Nat (fun i => i ≤ n ∧ ∀ j, j < i → g j = false) (fun i => n - i) [(3, fun i => .v (.int .i64 i))] []
theorem Qz8 (n n' c : Nat) (v : Nat→Int) (f g : Nat→Bool) (R : SV→Prop) : (Qcm Tryz.prog ΓC (Qmj n g) Tryz.f326 [.sl 0 2 0 n c] (Qbe [⟨2,n',Qeg v f⟩]) 64 (fun y _ => R y)) = ((∃ x : Nat,((((x : Nat) ≤ n)∧(∀ j : Nat,(((j : Nat) < x)→(g j = false))))∧(((SV.v (.int .i64 0)) = (SV.v (.int .i64 ((↑x : Int)))))∧True)))∧(∀ x : Nat,((((x : Nat) ≤ n)∧(∀ j : Nat,(((j : Nat) < x)→(g j = false))))→(sel (decide ((↑x : Int) < (↑n : Int))) ((((0 : Int) ≤ ((↑x : Int)))∧((((↑x : Int)) : Int) < ((↑n : Int))))∧(sel (Qav (v (0 + Int.toNat (↑x : Int))) (f (0 + Int.toNat (↑x : Int)))) (R (SV.v (.bool true))) (∃ x' : Nat,(((((x' : Nat) ≤ n)∧(∀ j : Nat,(((j : Nat) < x')→(g j = false))))∧(((SV.v (.int .i64 (IntKind.wrap IntKind.i64 ((↑x : Int) + 1)))) = (SV.v (.int .i64 ((↑x' : Int)))))∧True))∧(((n - x') : Nat) < (n - x)))))) (R (SV.v (.bool false))))))):=by kernel_rfl
theorem Qft {r : List SV} (h : isN r) : r = [.v (.int .i64 (Qcb r)), .v (.bool (Qe5 r))] := by
 unfold isN at h
 split at h
 · rfl
 · exact h.elim
theorem Qn0 (a b : List (List SV)) : Qro (a ++ b) = (Qro a || Qro b) := by
 induction a with
 | nil => rfl
 | cons r t ih => simp [Qro, ih, Bool.or_assoc]
theorem Qpi {row : Nat → List SV} : ∀ {i : Nat}, (∀ j, j < i → Qe5 (row j) = false) → Qro (Qal i row) = false
 | 0, _ => rfl
 | i + 1, h => by
   rw [Qfp, Qn0, Qpi fun j hj => h j (by omega)]
   simp [Qro, h i (by omega)]
theorem Q7v {n i : Nat} {row : Nat → List SV} (hi : i < n) (h : Qe5 (row i) = true) : Qro (Qal n row) = true := by
 obtain ⟨t, ht⟩ := Qhj row hi
 rw [ht, Qn0]
 simp [Qro, h]
theorem Qpl : Qca Tryz.prog 78 Qvv := Qbw hm Qas Tryz.func78 (Λ := fun args bs => match args, bs with | [.sl 0 2 0 n _], [⟨2, _, row⟩] => Qti n (fun i => Qe5 (row i)) | _, _ => Qax) fun args bs p x h hp => by
 unfold Qvv at h
 split at h <;> try (cases h; done)
 rename_i n c n' row
 cases h
 obtain ⟨h1, rfl, h3⟩ := hp _ rfl
 have h1 := okAll_rows.1 h1
 refine ⟨rfl, [⟨2, n', Qeg (fun i => Qcb (row i)) fun i => Qe5 (row i)⟩], ⟨⟨rfl, rfl, fun i hi => Qft (h1 i hi)⟩, trivial⟩, ?_⟩
 show Qcm _ _ (Qti n' fun i => Qe5 (row i)) _ _ _ _ _
 rw [Zbu]
 refine ⟨⟨0, ⟨by omega, fun j hj => by omega⟩, rfl, trivial⟩, fun i hi => ?_⟩
 refine Qaf (fun h => ?_) fun h => ?_
 · have h' : i < n' := by have := of_decide_eq_true h; omega
   simp only [Int.toNat_natCast, Nat.zero_add]
   refine ⟨⟨by omega, by omega⟩, Qaf (fun h'' => Qdo (Q7v h' h'').symm) fun h'' => ⟨i + 1, ⟨⟨by omega, fun j hj => ?_⟩, Qbj ?_, trivial⟩, by omega⟩⟩
   · rcases Nat.lt_or_eq_of_le (Nat.le_of_lt_succ hj) with hj | rfl
     · exact hi.2 j hj
     · exact h''
   · rw [Qag ⟨by omega, by omega⟩]; omega
 · have h' : ¬ i < n' := by have := of_decide_eq_false h; omega
   have : i = n' := by omega
   subst this
   exact Qdo (Qpi hi.2).symm
theorem Qjd (a b : List (List SV)) : Qfj (a ++ b) = (Qfj a || Qfj b) := by
 induction a with
 | nil => rfl
 | cons r t ih => simp [Qfj, ih, Bool.or_assoc]
theorem Qph {row : Nat → List SV} : ∀ {i : Nat}, (∀ j, j < i → Qav (Qcb (row j)) (Qe5 (row j)) = false) → Qfj (Qal i row) = false
 | 0, _ => rfl
 | i + 1, h => by
   rw [Qfp, Qjd, Qph fun j hj => h j (by omega)]
   simp [Qfj, h i (by omega)]
theorem Q7u {n i : Nat} {row : Nat → List SV} (hi : i < n) (h : Qav (Qcb (row i)) (Qe5 (row i)) = true) : Qfj (Qal n row) = true := by
 obtain ⟨t, ht⟩ := Qhj row hi
 rw [ht, Qjd]
 simp [Qfj, h]
theorem Qlt : Qca Tryz.prog 326 Ql5 := Qbw hm Qc5 Tryz.func326 (Λ := fun args bs => match args, bs with | [.sl 0 2 0 n _], [⟨2, _, row⟩] => Qmj n (fun i => Qav (Qcb (row i)) (Qe5 (row i))) | _, _ => Qax) fun args bs p x h hp => by
 unfold Ql5 at h
 split at h <;> try (cases h; done)
 rename_i n c n' row
 cases h
 obtain ⟨h1, rfl, h3⟩ := hp _ rfl
 have h1 := okAll_rows.1 h1
 refine ⟨rfl, [⟨2, n', Qeg (fun i => Qcb (row i)) fun i => Qe5 (row i)⟩], ⟨⟨rfl, rfl, fun i hi => Qft (h1 i hi)⟩, trivial⟩, ?_⟩
 show Qcm _ _ (Qmj n' fun i => Qav (Qcb (row i)) (Qe5 (row i))) _ _ _ _ _
 rw [Qz8]
 refine ⟨⟨0, ⟨by omega, fun j hj => by omega⟩, rfl, trivial⟩, fun i hi => ?_⟩
 refine Qaf (fun h => ?_) fun h => ?_
 · have h' : i < n' := by have := of_decide_eq_true h; omega
   simp only [Int.toNat_natCast, Nat.zero_add]
   refine ⟨⟨by omega, by omega⟩, Qaf (fun h'' => Qdo (Q7u h' h'').symm) fun h'' => ⟨i + 1, ⟨⟨by omega, fun j hj => ?_⟩, Qbj ?_, trivial⟩, by omega⟩⟩
   · rcases Nat.lt_or_eq_of_le (Nat.le_of_lt_succ hj) with hj | rfl
     · exact hi.2 j hj
     · exact h''
   · rw [Qag ⟨by omega, by omega⟩]; omega
 · have h' : ¬ i < n' := by have := of_decide_eq_false h; omega
   have : i = n' := by omega
   subst this
   exact Qdo (Qph hi.2).symm
def Qc1 (x : Int) : Int := if x = 0 then 0 else ((Nat.log2 x.toNat : Nat) : Int) + 1
def Qvu : List SV → Option (Option Prop × SV)
 | [.v (.int .u64 x)] => some (some (U64 x), .v (.int .i64 (Qc1 x)))
 | _ => none
def Zcv : List SV → Option (Option Prop × SV)
 | [.v (.int .u64 x)] => some (some (U64 x), .v (.int .i64 (64 - Qc1 x)))
 | _ => none
def Q1k : List SV → Option (Option Prop × SV)
 | [.v (.int .u64 hi), .v (.int .u64 lo), .v (.int .u64 y)] => some (some (U64 hi ∧ U64 lo ∧ U64 y ∧ hi < y), .tup [.v (.int .u64 (MM lo hi / y)), .v (.int .u64 (MM lo hi % y))])
 | _ => none
def ΓX0 : Qb7 := Qah Qbi 223 (Qaj Qvu)
def ΓX1 : Qb7 := Qah Qbi 148 (Qaj Zcv)
structure QR where
 q : Int
 r : Int
structure invQ (a b u l : Int) (x : QR) : Prop where
 q0 : 0 ≤ x.q
 q1 : x.q ≤ 4294967297
 r0 : 0 ≤ x.r
 r1 : x.r < 4294967296
 sum : x.q * a + x.r = u
 le : (u * 4294967296 + l) / (a * 4294967296 + b) ≤ x.q
noncomputable def Zfe (a b u l u' l' : Int) : Nat → Option LoopSpec := Qb9 (Qb9 Qax Tryz.f67 0 QR (invQ a b u l) (fun x => x.q.toNat) [(15, fun x => .v (.int .u64 x.q)), (16, fun x => .v (.int .u64 x.r))] [])
 Tryz.f67 2 QR (invQ a b u' l') (fun x => x.q.toNat) [(18, fun x => .v (.int .u64 x.q)), (16, fun x => .v (.int .u64 x.r))] []
def tab8 : List UInt8 := (Array.toList (ByteArray.data { data := List.toArray (List.append (List.append [0, 1, 2, 2, 3, 3, 3, 3, 4, 4, 4, 4, 4, 4, 4, 4, 5, 5, 5, 5, 5, 5, 5, 5, 5, 5, 5, 5, 5, 5, 5, 5, 6, 6, 6, 6, 6, 6, 6, 6, 6, 6, 6, 6, 6, 6, 6, 6, 6, 6, 6, 6, 6, 6, 6, 6, 6, 6, 6, 6, 6, 6, 6, 6] [7, 7, 7, 7, 7, 7, 7, 7, 7, 7, 7, 7, 7, 7, 7, 7, 7, 7, 7, 7, 7, 7, 7, 7, 7, 7, 7, 7, 7, 7, 7, 7, 7, 7, 7, 7, 7, 7, 7, 7, 7, 7, 7, 7, 7, 7, 7, 7, 7, 7, 7, 7, 7, 7, 7, 7, 7, 7, 7, 7, 7, 7, 7, 7]) (List.append [8, 8, 8, 8, 8, 8, 8, 8, 8, 8, 8, 8, 8, 8, 8, 8, 8, 8, 8, 8, 8, 8, 8, 8, 8, 8, 8, 8, 8, 8, 8, 8, 8, 8, 8, 8, 8, 8, 8, 8, 8, 8, 8, 8, 8, 8, 8, 8, 8, 8, 8, 8, 8, 8, 8, 8, 8, 8, 8, 8, 8, 8, 8, 8] [8, 8, 8, 8, 8, 8, 8, 8, 8, 8, 8, 8, 8, 8, 8, 8, 8, 8, 8, 8, 8, 8, 8, 8, 8, 8, 8, 8, 8, 8, 8, 8, 8, 8, 8, 8, 8, 8, 8, 8, 8, 8, 8, 8, 8, 8, 8, 8, 8, 8, 8, 8, 8, 8, 8, 8, 8, 8, 8, 8, 8, 8, 8, 8])) }))
theorem Zbp (x : Int) (R : SV→Prop) : (Qau Tryz.prog Qbi Qax Tryz.f223 [.v (.int .u64 x)] R) =
(sel (decide (x ≥ 4294967296)) (sel (decide (x / 4294967296 ≥ 65536)) (sel (decide (x / 4294967296 / 65536 ≥ 256)) ((((0 : Int) ≤ (IntKind.wrap IntKind.u8 (x / 4294967296 / 65536 / 256)))∧(((IntKind.wrap IntKind.u8 (x / 4294967296 / 65536 / 256)) : Int) < 256))∧(R (SV.v (.int .i64 (IntKind.wrap IntKind.i64 (56 + IntKind.wrap IntKind.i64 (↑(UInt8.toNat (List.getD tab8 (Int.toNat (IntKind.wrap IntKind.u8 (x / 4294967296 / 65536 / 256))) 0)) : Int))))))) ((((0 : Int) ≤ (IntKind.wrap IntKind.u8 (x / 4294967296 / 65536)))∧(((IntKind.wrap IntKind.u8 (x / 4294967296 / 65536)) : Int) < 256))∧(R (SV.v (.int .i64 (IntKind.wrap IntKind.i64 (48 + IntKind.wrap IntKind.i64 (↑(UInt8.toNat (List.getD tab8 (Int.toNat (IntKind.wrap IntKind.u8 (x / 4294967296 / 65536))) 0)) : Int)))))))) (sel (decide (x / 4294967296 ≥ 256)) ((((0 : Int) ≤ (IntKind.wrap IntKind.u8 (x / 4294967296 / 256)))∧(((IntKind.wrap IntKind.u8 (x / 4294967296 / 256)) : Int) < 256))∧(R (SV.v (.int .i64 (IntKind.wrap IntKind.i64 (40 + IntKind.wrap IntKind.i64 (↑(UInt8.toNat (List.getD tab8 (Int.toNat (IntKind.wrap IntKind.u8 (x / 4294967296 / 256))) 0)) : Int))))))) ((((0 : Int) ≤ (IntKind.wrap IntKind.u8 (x / 4294967296)))∧(((IntKind.wrap IntKind.u8 (x / 4294967296)) : Int) < 256))∧(R (SV.v (.int .i64 (IntKind.wrap IntKind.i64 (32 + IntKind.wrap IntKind.i64 (↑(UInt8.toNat (List.getD tab8 (Int.toNat (IntKind.wrap IntKind.u8 (x / 4294967296))) 0)) : Int))))))))) (sel (decide (x ≥ 65536)) (sel (decide (x / 65536 ≥ 256)) ((((0 : Int) ≤ (IntKind.wrap IntKind.u8 (x / 65536 / 256)))∧(((IntKind.wrap IntKind.u8 (x / 65536 / 256)) : Int) < 256))∧(R (SV.v (.int .i64 (IntKind.wrap IntKind.i64 (24 + IntKind.wrap IntKind.i64 (↑(UInt8.toNat (List.getD tab8 (Int.toNat (IntKind.wrap IntKind.u8 (x / 65536 / 256))) 0)) : Int))))))) ((((0 : Int) ≤ (IntKind.wrap IntKind.u8 (x / 65536)))∧(((IntKind.wrap IntKind.u8 (x / 65536)) : Int) < 256))∧(R (SV.v (.int .i64 (IntKind.wrap IntKind.i64 (16 + IntKind.wrap IntKind.i64 (↑(UInt8.toNat (List.getD tab8 (Int.toNat (IntKind.wrap IntKind.u8 (x / 65536))) 0)) : Int)))))))) (sel (decide (x ≥ 256)) ((((0 : Int) ≤ (IntKind.wrap IntKind.u8 (x / 256)))∧(((IntKind.wrap IntKind.u8 (x / 256)) : Int) < 256))∧(R (SV.v (.int .i64 (IntKind.wrap IntKind.i64 (8 + IntKind.wrap IntKind.i64 (↑(UInt8.toNat (List.getD tab8 (Int.toNat (IntKind.wrap IntKind.u8 (x / 256))) 0)) : Int))))))) ((((0 : Int) ≤ (IntKind.wrap IntKind.u8 x))∧(((IntKind.wrap IntKind.u8 x) : Int) < 256))∧(R (SV.v (.int .i64 (IntKind.wrap IntKind.i64 (0 + IntKind.wrap IntKind.i64 (↑(UInt8.toNat (List.getD tab8 (Int.toNat (IntKind.wrap IntKind.u8 x)) 0)) : Int)))))))))) := by kernel_rfl
theorem Zgo (x : Int) (R : SV→Prop) : (Qau Tryz.prog ΓX0 Qax Tryz.f148 [.v (.int .u64 x)] R) = ((U64 x)∧(R (SV.v (.int .i64 (IntKind.wrap IntKind.i64 (64 - Qc1 x)))))):=by kernel_rfl
@[reducible] noncomputable def Qbv (hi : Int) (lo : Int) (y : Int) := (IntKind.wrap IntKind.u64 (bits BinOp.or IntKind.u64 (IntKind.wrap IntKind.u64 (hi * 2 ^ min (Int.toNat (IntKind.wrap IntKind.u64 (64 - Qc1 y))) 64)) (lo / 2 ^ min (Int.toNat (IntKind.wrap IntKind.u64 (64 - IntKind.wrap IntKind.u64 (64 - Qc1 y)))) 64) * 4294967296) + IntKind.wrap IntKind.u64 (lo * 2 ^ min (Int.toNat (IntKind.wrap IntKind.u64 (64 - Qc1 y))) 64) / 4294967296)
@[reducible] noncomputable def Qaq (y : Int) := (y * 2 ^ min (Int.toNat (IntKind.wrap IntKind.u64 (64 - Qc1 y))) 64)
@[reducible] noncomputable def Qcu (lo : Int) (y : Int) := (IntKind.wrap IntKind.u64 (lo * 2 ^ min (Int.toNat (IntKind.wrap IntKind.u64 (64 - Qc1 y))) 64))
@[reducible] noncomputable def Qmn (hi : Int) (lo : Int) (y : Int) := (Int.tdiv (bits BinOp.or IntKind.u64 (IntKind.wrap IntKind.u64 (hi * 2 ^ min (Int.toNat (IntKind.wrap IntKind.u64 (64 - Qc1 y))) 64)) (lo / 2 ^ min (Int.toNat (IntKind.wrap IntKind.u64 (64 - IntKind.wrap IntKind.u64 (64 - Qc1 y)))) 64)) (IntKind.wrap IntKind.u64 (Qaq y) / 4294967296))
theorem Zby (hi lo y a b u l u' l' : Int) (R : SV→Prop) : (Qau Tryz.prog ΓX1 (Zfe a b u l u' l') Tryz.f67 [.v (.int .u64 hi),.v (.int .u64 lo),.v (.int .u64 y)] R) =
(sel (y == 0) False (sel (decide (y ≤ hi)) False (sel (hi == 0) (((y : Int) ≠ 0)∧(((y : Int) ≠ 0)∧(R (SV.tup [(SV.v (.int .u64 (IntKind.wrap IntKind.u64 (Int.tdiv lo y)))),(SV.v (.int .u64 (Int.tmod lo y)))])))) ((U64 y)∧(((0 : Int) ≤ (IntKind.wrap IntKind.u64 (64 - Qc1 y)))∧(((0 : Int) ≤ (IntKind.wrap IntKind.u64 (64 - Qc1 y)))∧(((0 : Int) ≤ (IntKind.wrap IntKind.u64 (64 - IntKind.wrap IntKind.u64 (64 - Qc1 y))))∧(((0 : Int) ≤ (IntKind.wrap IntKind.u64 (64 - Qc1 y)))∧((((IntKind.wrap IntKind.u64 (Qaq y) / 4294967296) : Int) ≠ 0)∧((∃ x : QR,((invQ a b u l x)∧((((SV.v (.int .u64 (IntKind.wrap IntKind.u64 (Qmn hi lo y)))) = (SV.v (.int .u64 (QR.q x))))∧((SV.v (.int .u64 (IntKind.wrap IntKind.u64 (bits BinOp.or IntKind.u64 (IntKind.wrap IntKind.u64 (hi * 2 ^ min (Int.toNat (IntKind.wrap IntKind.u64 (64 - Qc1 y))) 64)) (lo / 2 ^ min (Int.toNat (IntKind.wrap IntKind.u64 (64 - IntKind.wrap IntKind.u64 (64 - Qc1 y)))) 64) - IntKind.wrap IntKind.u64 (IntKind.wrap IntKind.u64 (Qmn hi lo y) * (IntKind.wrap IntKind.u64 (Qaq y) / 4294967296)))))) = (SV.v (.int .u64 (QR.r x)))))∧True)))∧(∀ x : QR,((invQ a b u l x)→(sel (decide (QR.q x ≥ 4294967296)) (sel (decide (IntKind.wrap IntKind.u64 (QR.r x + IntKind.wrap IntKind.u64 (Qaq y) / 4294967296) ≥ 4294967296)) ((((IntKind.wrap IntKind.u64 (Qaq y) / 4294967296) : Int) ≠ 0)∧((∃ x_1 : QR,((invQ a b u' l' x_1)∧((((SV.v (.int .u64 (IntKind.wrap IntKind.u64 (Int.tdiv (IntKind.wrap IntKind.u64 (IntKind.wrap IntKind.u64 (Qbv hi lo y) - IntKind.wrap IntKind.u64 (IntKind.wrap IntKind.u64 (QR.q x - 1) * IntKind.wrap IntKind.u64 (Qaq y)))) (IntKind.wrap IntKind.u64 (Qaq y) / 4294967296))))) = (SV.v (.int .u64 (QR.q x_1))))∧((SV.v (.int .u64 (IntKind.wrap IntKind.u64 (IntKind.wrap IntKind.u64 (IntKind.wrap IntKind.u64 (Qbv hi lo y) - IntKind.wrap IntKind.u64 (IntKind.wrap IntKind.u64 (QR.q x - 1) * IntKind.wrap IntKind.u64 (Qaq y))) - IntKind.wrap IntKind.u64 (IntKind.wrap IntKind.u64 (Int.tdiv (IntKind.wrap IntKind.u64 (IntKind.wrap IntKind.u64 (Qbv hi lo y) - IntKind.wrap IntKind.u64 (IntKind.wrap IntKind.u64 (QR.q x - 1) * IntKind.wrap IntKind.u64 (Qaq y)))) (IntKind.wrap IntKind.u64 (Qaq y) / 4294967296)) * (IntKind.wrap IntKind.u64 (Qaq y) / 4294967296)))))) = (SV.v (.int .u64 (QR.r x_1)))))∧True)))∧(∀ x_1 : QR,((invQ a b u' l' x_1)→(sel (decide (QR.q x_1 ≥ 4294967296)) (sel (decide (IntKind.wrap IntKind.u64 (QR.r x_1 + IntKind.wrap IntKind.u64 (Qaq y) / 4294967296) ≥ 4294967296)) (((0 : Int) ≤ (IntKind.wrap IntKind.u64 (64 - Qc1 y)))∧(R (SV.tup [(SV.v (.int .u64 (IntKind.wrap IntKind.u64 (IntKind.wrap IntKind.u64 (IntKind.wrap IntKind.u64 (QR.q x - 1) * 4294967296) + IntKind.wrap IntKind.u64 (QR.q x_1 - 1))))),(SV.v (.int .u64 (IntKind.wrap IntKind.u64 (IntKind.wrap IntKind.u64 (IntKind.wrap IntKind.u64 (IntKind.wrap IntKind.u64 (IntKind.wrap IntKind.u64 (Qbv hi lo y) - IntKind.wrap IntKind.u64 (IntKind.wrap IntKind.u64 (QR.q x - 1) * IntKind.wrap IntKind.u64 (Qaq y))) * 4294967296) + bits BinOp.and IntKind.u64 (Qcu lo y) 4294967295) - IntKind.wrap IntKind.u64 (IntKind.wrap IntKind.u64 (QR.q x_1 - 1) * IntKind.wrap IntKind.u64 (Qaq y))) / 2 ^ min (Int.toNat (IntKind.wrap IntKind.u64 (64 - Qc1 y))) 64)))]))) (∃ x' : QR,(((invQ a b u' l' x')∧((((SV.v (.int .u64 (IntKind.wrap IntKind.u64 (QR.q x_1 - 1)))) = (SV.v (.int .u64 (QR.q x'))))∧((SV.v (.int .u64 (IntKind.wrap IntKind.u64 (QR.r x_1 + IntKind.wrap IntKind.u64 (Qaq y) / 4294967296)))) = (SV.v (.int .u64 (QR.r x')))))∧True))∧(((Int.toNat (QR.q x')) : Nat) < (Int.toNat (QR.q x_1)))))) (sel (decide (IntKind.wrap IntKind.u64 (QR.q x_1 * bits BinOp.and IntKind.u64 (IntKind.wrap IntKind.u64 (Qaq y)) 4294967295) > IntKind.wrap IntKind.u64 (IntKind.wrap IntKind.u64 (4294967296 * QR.r x_1) + bits BinOp.and IntKind.u64 (Qcu lo y) 4294967295))) (sel (decide (IntKind.wrap IntKind.u64 (QR.r x_1 + IntKind.wrap IntKind.u64 (Qaq y) / 4294967296) ≥ 4294967296)) (((0 : Int) ≤ (IntKind.wrap IntKind.u64 (64 - Qc1 y)))∧(R (SV.tup [(SV.v (.int .u64 (IntKind.wrap IntKind.u64 (IntKind.wrap IntKind.u64 (IntKind.wrap IntKind.u64 (QR.q x - 1) * 4294967296) + IntKind.wrap IntKind.u64 (QR.q x_1 - 1))))),(SV.v (.int .u64 (IntKind.wrap IntKind.u64 (IntKind.wrap IntKind.u64 (IntKind.wrap IntKind.u64 (IntKind.wrap IntKind.u64 (IntKind.wrap IntKind.u64 (Qbv hi lo y) - IntKind.wrap IntKind.u64 (IntKind.wrap IntKind.u64 (QR.q x - 1) * IntKind.wrap IntKind.u64 (Qaq y))) * 4294967296) + bits BinOp.and IntKind.u64 (Qcu lo y) 4294967295) - IntKind.wrap IntKind.u64 (IntKind.wrap IntKind.u64 (QR.q x_1 - 1) * IntKind.wrap IntKind.u64 (Qaq y))) / 2 ^ min (Int.toNat (IntKind.wrap IntKind.u64 (64 - Qc1 y))) 64)))]))) (∃ x' : QR,(((invQ a b u' l' x')∧((((SV.v (.int .u64 (IntKind.wrap IntKind.u64 (QR.q x_1 - 1)))) = (SV.v (.int .u64 (QR.q x'))))∧((SV.v (.int .u64 (IntKind.wrap IntKind.u64 (QR.r x_1 + IntKind.wrap IntKind.u64 (Qaq y) / 4294967296)))) = (SV.v (.int .u64 (QR.r x')))))∧True))∧(((Int.toNat (QR.q x')) : Nat) < (Int.toNat (QR.q x_1)))))) (((0 : Int) ≤ (IntKind.wrap IntKind.u64 (64 - Qc1 y)))∧(R (SV.tup [(SV.v (.int .u64 (IntKind.wrap IntKind.u64 (IntKind.wrap IntKind.u64 (IntKind.wrap IntKind.u64 (QR.q x - 1) * 4294967296) + QR.q x_1)))),(SV.v (.int .u64 (IntKind.wrap IntKind.u64 (IntKind.wrap IntKind.u64 (IntKind.wrap IntKind.u64 (IntKind.wrap IntKind.u64 (IntKind.wrap IntKind.u64 (Qbv hi lo y) - IntKind.wrap IntKind.u64 (IntKind.wrap IntKind.u64 (QR.q x - 1) * IntKind.wrap IntKind.u64 (Qaq y))) * 4294967296) + bits BinOp.and IntKind.u64 (Qcu lo y) 4294967295) - IntKind.wrap IntKind.u64 (QR.q x_1 * IntKind.wrap IntKind.u64 (Qaq y))) / 2 ^ min (Int.toNat (IntKind.wrap IntKind.u64 (64 - Qc1 y))) 64)))]))))))))) (∃ x' : QR,(((invQ a b u l x')∧((((SV.v (.int .u64 (IntKind.wrap IntKind.u64 (QR.q x - 1)))) = (SV.v (.int .u64 (QR.q x'))))∧((SV.v (.int .u64 (IntKind.wrap IntKind.u64 (QR.r x + IntKind.wrap IntKind.u64 (Qaq y) / 4294967296)))) = (SV.v (.int .u64 (QR.r x')))))∧True))∧(((Int.toNat (QR.q x')) : Nat) < (Int.toNat (QR.q x)))))) (sel (decide (IntKind.wrap IntKind.u64 (QR.q x * bits BinOp.and IntKind.u64 (IntKind.wrap IntKind.u64 (Qaq y)) 4294967295) > IntKind.wrap IntKind.u64 (IntKind.wrap IntKind.u64 (4294967296 * QR.r x) + IntKind.wrap IntKind.u64 (lo * 2 ^ min (Int.toNat (IntKind.wrap IntKind.u64 (64 - Qc1 y))) 64) / 4294967296))) (sel (decide (IntKind.wrap IntKind.u64 (QR.r x + IntKind.wrap IntKind.u64 (Qaq y) / 4294967296) ≥ 4294967296)) ((((IntKind.wrap IntKind.u64 (Qaq y) / 4294967296) : Int) ≠ 0)∧((∃ x_1 : QR,((invQ a b u' l' x_1)∧((((SV.v (.int .u64 (IntKind.wrap IntKind.u64 (Int.tdiv (IntKind.wrap IntKind.u64 (IntKind.wrap IntKind.u64 (Qbv hi lo y) - IntKind.wrap IntKind.u64 (IntKind.wrap IntKind.u64 (QR.q x - 1) * IntKind.wrap IntKind.u64 (Qaq y)))) (IntKind.wrap IntKind.u64 (Qaq y) / 4294967296))))) = (SV.v (.int .u64 (QR.q x_1))))∧((SV.v (.int .u64 (IntKind.wrap IntKind.u64 (IntKind.wrap IntKind.u64 (IntKind.wrap IntKind.u64 (Qbv hi lo y) - IntKind.wrap IntKind.u64 (IntKind.wrap IntKind.u64 (QR.q x - 1) * IntKind.wrap IntKind.u64 (Qaq y))) - IntKind.wrap IntKind.u64 (IntKind.wrap IntKind.u64 (Int.tdiv (IntKind.wrap IntKind.u64 (IntKind.wrap IntKind.u64 (Qbv hi lo y) - IntKind.wrap IntKind.u64 (IntKind.wrap IntKind.u64 (QR.q x - 1) * IntKind.wrap IntKind.u64 (Qaq y)))) (IntKind.wrap IntKind.u64 (Qaq y) / 4294967296)) * (IntKind.wrap IntKind.u64 (Qaq y) / 4294967296)))))) = (SV.v (.int .u64 (QR.r x_1)))))∧True)))∧(∀ x_1 : QR,((invQ a b u' l' x_1)→(sel (decide (QR.q x_1 ≥ 4294967296)) (sel (decide (IntKind.wrap IntKind.u64 (QR.r x_1 + IntKind.wrap IntKind.u64 (Qaq y) / 4294967296) ≥ 4294967296)) (((0 : Int) ≤ (IntKind.wrap IntKind.u64 (64 - Qc1 y)))∧(R (SV.tup [(SV.v (.int .u64 (IntKind.wrap IntKind.u64 (IntKind.wrap IntKind.u64 (IntKind.wrap IntKind.u64 (QR.q x - 1) * 4294967296) + IntKind.wrap IntKind.u64 (QR.q x_1 - 1))))),(SV.v (.int .u64 (IntKind.wrap IntKind.u64 (IntKind.wrap IntKind.u64 (IntKind.wrap IntKind.u64 (IntKind.wrap IntKind.u64 (IntKind.wrap IntKind.u64 (Qbv hi lo y) - IntKind.wrap IntKind.u64 (IntKind.wrap IntKind.u64 (QR.q x - 1) * IntKind.wrap IntKind.u64 (Qaq y))) * 4294967296) + bits BinOp.and IntKind.u64 (Qcu lo y) 4294967295) - IntKind.wrap IntKind.u64 (IntKind.wrap IntKind.u64 (QR.q x_1 - 1) * IntKind.wrap IntKind.u64 (Qaq y))) / 2 ^ min (Int.toNat (IntKind.wrap IntKind.u64 (64 - Qc1 y))) 64)))]))) (∃ x' : QR,(((invQ a b u' l' x')∧((((SV.v (.int .u64 (IntKind.wrap IntKind.u64 (QR.q x_1 - 1)))) = (SV.v (.int .u64 (QR.q x'))))∧((SV.v (.int .u64 (IntKind.wrap IntKind.u64 (QR.r x_1 + IntKind.wrap IntKind.u64 (Qaq y) / 4294967296)))) = (SV.v (.int .u64 (QR.r x')))))∧True))∧(((Int.toNat (QR.q x')) : Nat) < (Int.toNat (QR.q x_1)))))) (sel (decide (IntKind.wrap IntKind.u64 (QR.q x_1 * bits BinOp.and IntKind.u64 (IntKind.wrap IntKind.u64 (Qaq y)) 4294967295) > IntKind.wrap IntKind.u64 (IntKind.wrap IntKind.u64 (4294967296 * QR.r x_1) + bits BinOp.and IntKind.u64 (Qcu lo y) 4294967295))) (sel (decide (IntKind.wrap IntKind.u64 (QR.r x_1 + IntKind.wrap IntKind.u64 (Qaq y) / 4294967296) ≥ 4294967296)) (((0 : Int) ≤ (IntKind.wrap IntKind.u64 (64 - Qc1 y)))∧(R (SV.tup [(SV.v (.int .u64 (IntKind.wrap IntKind.u64 (IntKind.wrap IntKind.u64 (IntKind.wrap IntKind.u64 (QR.q x - 1) * 4294967296) + IntKind.wrap IntKind.u64 (QR.q x_1 - 1))))),(SV.v (.int .u64 (IntKind.wrap IntKind.u64 (IntKind.wrap IntKind.u64 (IntKind.wrap IntKind.u64 (IntKind.wrap IntKind.u64 (IntKind.wrap IntKind.u64 (Qbv hi lo y) - IntKind.wrap IntKind.u64 (IntKind.wrap IntKind.u64 (QR.q x - 1) * IntKind.wrap IntKind.u64 (Qaq y))) * 4294967296) + bits BinOp.and IntKind.u64 (Qcu lo y) 4294967295) - IntKind.wrap IntKind.u64 (IntKind.wrap IntKind.u64 (QR.q x_1 - 1) * IntKind.wrap IntKind.u64 (Qaq y))) / 2 ^ min (Int.toNat (IntKind.wrap IntKind.u64 (64 - Qc1 y))) 64)))]))) (∃ x' : QR,(((invQ a b u' l' x')∧((((SV.v (.int .u64 (IntKind.wrap IntKind.u64 (QR.q x_1 - 1)))) = (SV.v (.int .u64 (QR.q x'))))∧((SV.v (.int .u64 (IntKind.wrap IntKind.u64 (QR.r x_1 + IntKind.wrap IntKind.u64 (Qaq y) / 4294967296)))) = (SV.v (.int .u64 (QR.r x')))))∧True))∧(((Int.toNat (QR.q x')) : Nat) < (Int.toNat (QR.q x_1)))))) (((0 : Int) ≤ (IntKind.wrap IntKind.u64 (64 - Qc1 y)))∧(R (SV.tup [(SV.v (.int .u64 (IntKind.wrap IntKind.u64 (IntKind.wrap IntKind.u64 (IntKind.wrap IntKind.u64 (QR.q x - 1) * 4294967296) + QR.q x_1)))),(SV.v (.int .u64 (IntKind.wrap IntKind.u64 (IntKind.wrap IntKind.u64 (IntKind.wrap IntKind.u64 (IntKind.wrap IntKind.u64 (IntKind.wrap IntKind.u64 (Qbv hi lo y) - IntKind.wrap IntKind.u64 (IntKind.wrap IntKind.u64 (QR.q x - 1) * IntKind.wrap IntKind.u64 (Qaq y))) * 4294967296) + bits BinOp.and IntKind.u64 (Qcu lo y) 4294967295) - IntKind.wrap IntKind.u64 (QR.q x_1 * IntKind.wrap IntKind.u64 (Qaq y))) / 2 ^ min (Int.toNat (IntKind.wrap IntKind.u64 (64 - Qc1 y))) 64)))]))))))))) (∃ x' : QR,(((invQ a b u l x')∧((((SV.v (.int .u64 (IntKind.wrap IntKind.u64 (QR.q x - 1)))) = (SV.v (.int .u64 (QR.q x'))))∧((SV.v (.int .u64 (IntKind.wrap IntKind.u64 (QR.r x + IntKind.wrap IntKind.u64 (Qaq y) / 4294967296)))) = (SV.v (.int .u64 (QR.r x')))))∧True))∧(((Int.toNat (QR.q x')) : Nat) < (Int.toNat (QR.q x)))))) ((((IntKind.wrap IntKind.u64 (Qaq y) / 4294967296) : Int) ≠ 0)∧((∃ x_1 : QR,((invQ a b u' l' x_1)∧((((SV.v (.int .u64 (IntKind.wrap IntKind.u64 (Int.tdiv (IntKind.wrap IntKind.u64 (IntKind.wrap IntKind.u64 (Qbv hi lo y) - IntKind.wrap IntKind.u64 (QR.q x * IntKind.wrap IntKind.u64 (Qaq y)))) (IntKind.wrap IntKind.u64 (Qaq y) / 4294967296))))) = (SV.v (.int .u64 (QR.q x_1))))∧((SV.v (.int .u64 (IntKind.wrap IntKind.u64 (IntKind.wrap IntKind.u64 (IntKind.wrap IntKind.u64 (Qbv hi lo y) - IntKind.wrap IntKind.u64 (QR.q x * IntKind.wrap IntKind.u64 (Qaq y))) - IntKind.wrap IntKind.u64 (IntKind.wrap IntKind.u64 (Int.tdiv (IntKind.wrap IntKind.u64 (IntKind.wrap IntKind.u64 (Qbv hi lo y) - IntKind.wrap IntKind.u64 (QR.q x * IntKind.wrap IntKind.u64 (Qaq y)))) (IntKind.wrap IntKind.u64 (Qaq y) / 4294967296)) * (IntKind.wrap IntKind.u64 (Qaq y) / 4294967296)))))) = (SV.v (.int .u64 (QR.r x_1)))))∧True)))∧(∀ x_1 : QR,((invQ a b u' l' x_1)→(sel (decide (QR.q x_1 ≥ 4294967296)) (sel (decide (IntKind.wrap IntKind.u64 (QR.r x_1 + IntKind.wrap IntKind.u64 (Qaq y) / 4294967296) ≥ 4294967296)) (((0 : Int) ≤ (IntKind.wrap IntKind.u64 (64 - Qc1 y)))∧(R (SV.tup [(SV.v (.int .u64 (IntKind.wrap IntKind.u64 (IntKind.wrap IntKind.u64 (QR.q x * 4294967296) + IntKind.wrap IntKind.u64 (QR.q x_1 - 1))))),(SV.v (.int .u64 (IntKind.wrap IntKind.u64 (IntKind.wrap IntKind.u64 (IntKind.wrap IntKind.u64 (IntKind.wrap IntKind.u64 (IntKind.wrap IntKind.u64 (Qbv hi lo y) - IntKind.wrap IntKind.u64 (QR.q x * IntKind.wrap IntKind.u64 (Qaq y))) * 4294967296) + bits BinOp.and IntKind.u64 (Qcu lo y) 4294967295) - IntKind.wrap IntKind.u64 (IntKind.wrap IntKind.u64 (QR.q x_1 - 1) * IntKind.wrap IntKind.u64 (Qaq y))) / 2 ^ min (Int.toNat (IntKind.wrap IntKind.u64 (64 - Qc1 y))) 64)))]))) (∃ x' : QR,(((invQ a b u' l' x')∧((((SV.v (.int .u64 (IntKind.wrap IntKind.u64 (QR.q x_1 - 1)))) = (SV.v (.int .u64 (QR.q x'))))∧((SV.v (.int .u64 (IntKind.wrap IntKind.u64 (QR.r x_1 + IntKind.wrap IntKind.u64 (Qaq y) / 4294967296)))) = (SV.v (.int .u64 (QR.r x')))))∧True))∧(((Int.toNat (QR.q x')) : Nat) < (Int.toNat (QR.q x_1)))))) (sel (decide (IntKind.wrap IntKind.u64 (QR.q x_1 * bits BinOp.and IntKind.u64 (IntKind.wrap IntKind.u64 (Qaq y)) 4294967295) > IntKind.wrap IntKind.u64 (IntKind.wrap IntKind.u64 (4294967296 * QR.r x_1) + bits BinOp.and IntKind.u64 (Qcu lo y) 4294967295))) (sel (decide (IntKind.wrap IntKind.u64 (QR.r x_1 + IntKind.wrap IntKind.u64 (Qaq y) / 4294967296) ≥ 4294967296)) (((0 : Int) ≤ (IntKind.wrap IntKind.u64 (64 - Qc1 y)))∧(R (SV.tup [(SV.v (.int .u64 (IntKind.wrap IntKind.u64 (IntKind.wrap IntKind.u64 (QR.q x * 4294967296) + IntKind.wrap IntKind.u64 (QR.q x_1 - 1))))),(SV.v (.int .u64 (IntKind.wrap IntKind.u64 (IntKind.wrap IntKind.u64 (IntKind.wrap IntKind.u64 (IntKind.wrap IntKind.u64 (IntKind.wrap IntKind.u64 (Qbv hi lo y) - IntKind.wrap IntKind.u64 (QR.q x * IntKind.wrap IntKind.u64 (Qaq y))) * 4294967296) + bits BinOp.and IntKind.u64 (Qcu lo y) 4294967295) - IntKind.wrap IntKind.u64 (IntKind.wrap IntKind.u64 (QR.q x_1 - 1) * IntKind.wrap IntKind.u64 (Qaq y))) / 2 ^ min (Int.toNat (IntKind.wrap IntKind.u64 (64 - Qc1 y))) 64)))]))) (∃ x' : QR,(((invQ a b u' l' x')∧((((SV.v (.int .u64 (IntKind.wrap IntKind.u64 (QR.q x_1 - 1)))) = (SV.v (.int .u64 (QR.q x'))))∧((SV.v (.int .u64 (IntKind.wrap IntKind.u64 (QR.r x_1 + IntKind.wrap IntKind.u64 (Qaq y) / 4294967296)))) = (SV.v (.int .u64 (QR.r x')))))∧True))∧(((Int.toNat (QR.q x')) : Nat) < (Int.toNat (QR.q x_1)))))) (((0 : Int) ≤ (IntKind.wrap IntKind.u64 (64 - Qc1 y)))∧(R (SV.tup [(SV.v (.int .u64 (IntKind.wrap IntKind.u64 (IntKind.wrap IntKind.u64 (QR.q x * 4294967296) + QR.q x_1)))),(SV.v (.int .u64 (IntKind.wrap IntKind.u64 (IntKind.wrap IntKind.u64 (IntKind.wrap IntKind.u64 (IntKind.wrap IntKind.u64 (IntKind.wrap IntKind.u64 (Qbv hi lo y) - IntKind.wrap IntKind.u64 (QR.q x * IntKind.wrap IntKind.u64 (Qaq y))) * 4294967296) + bits BinOp.and IntKind.u64 (Qcu lo y) 4294967295) - IntKind.wrap IntKind.u64 (QR.q x_1 * IntKind.wrap IntKind.u64 (Qaq y))) / 2 ^ min (Int.toNat (IntKind.wrap IntKind.u64 (64 - Qc1 y))) 64)))]))))))))))))))))))))))) := by kernel_rfl
theorem Zdn {x : Int} {n : Nat} (h0 : 2 ^ n ≤ x) (h1 : x < 2 ^ (n + 1)) : Qc1 x = n + 1 := by
 have hx : 0 < x := Int.lt_of_lt_of_le (by exact_mod_cast Nat.two_pow_pos n) h0
 unfold Qc1
 rw [if_neg (by omega)]
 have e : Nat.log2 x.toNat = n := by
   rw [Nat.log2_eq_iff (by omega)]
   constructor
   · have : ((2 ^ n : Nat) : Int) ≤ x := by exact_mod_cast h0
     omega
   · have : x < ((2 ^ (n + 1) : Nat) : Int) := by exact_mod_cast h1
     omega
 rw [e]
theorem Qnh {x : Int} (h : 0 < x) : ∃ n : Nat, Qc1 x = n + 1 ∧ 2 ^ n ≤ x ∧ x < 2 ^ (n + 1) := by
 refine ⟨Nat.log2 x.toNat, ?_, ?_, ?_⟩
 · unfold Qc1; rw [if_neg (by omega)]
 · have h1 := Nat.log2_self_le (n := x.toNat) (by omega)
   have : ((2 ^ Nat.log2 x.toNat : Nat) : Int) ≤ (x.toNat : Int) := by exact_mod_cast h1
   rw [Int.toNat_of_nonneg (by omega)] at this
   exact_mod_cast this
 · have h1 := Nat.lt_log2_self (n := x.toNat)
   have : (x.toNat : Int) < ((2 ^ (Nat.log2 x.toNat + 1) : Nat) : Int) := by exact_mod_cast h1
   rw [Int.toNat_of_nonneg (by omega)] at this
   exact_mod_cast this
theorem Qkw {x : Int} (k : Nat) (h : 2 ^ k ≤ x) : Qc1 x = k + Qc1 (x / 2 ^ k) := by
 have hk : (0 : Int) < 2 ^ k := by exact_mod_cast Nat.two_pow_pos k
 have h1 : 0 < x / 2 ^ k := Int.lt_of_lt_of_le (by decide : (0 : Int) < 1) (Int.le_ediv_of_mul_le hk (by omega))
 obtain ⟨n, e, l1, l2⟩ := Qnh h1
 rw [e, Zdn (n := n + k)]
 · omega
 · rw [Int.pow_add]
   have := Int.mul_le_of_le_ediv hk l1
   exact this
 · have := Int.lt_mul_of_ediv_lt hk l2
   rw [show n + k + 1 = (n + 1) + k by omega, Int.pow_add]
   exact this
theorem Q6i : ∀ k : Fin 256, ((UInt8.toNat (tab8.getD k.val 0) : Nat) : Int) = Qc1 (k.val : Int) := by decide +kernel
theorem Zb5 {x : Int} (h0 : 0 ≤ x) (h1 : x < 256) : ((UInt8.toNat (tab8.getD x.toNat 0) : Nat) : Int) = Qc1 x := by
 have := Q6i ⟨x.toNat, by omega⟩
 simp only [Int.toNat_of_nonneg h0] at this
 exact this
theorem Zid {x : Int} (h0 : 0 ≤ x) (h1 : x < 256) : 0 ≤ Qc1 x ∧ Qc1 x ≤ 8 := by
 by_cases hx : x = 0
 · subst hx; exact ⟨by decide, by decide⟩
 · obtain ⟨n, e, l1, _⟩ := Qnh (x := x) (by omega)
   refine ⟨by omega, ?_⟩
   rcases Nat.lt_or_ge n 8 with h | h
   · omega
   · exfalso
     have : (2 : Int) ^ 8 ≤ 2 ^ n := by exact_mod_cast Nat.pow_le_pow_right (by decide) h
     omega
theorem Qpk : Qai Tryz.prog 223 Qvu := Qan hm Qas Tryz.func223 (Λ := fun _ => Qax) fun args p x h hp => by
 unfold Qvu at h
 split at h <;> try (cases h; done)
 rename_i x
 cases h
 obtain ⟨h1, h2⟩ := hp _ rfl
 refine ⟨rfl, rfl, ?_⟩
 refine Eq.mpr (Zbp x _) ?_
 have key : ∀ (k : Int) (z : Int), 0 ≤ k → k ≤ 56 → 0 ≤ z → z < 256 → Qc1 x = k + Qc1 z → ((0 : Int) ≤ IntKind.u8.wrap z ∧ IntKind.u8.wrap z < 256) ∧ SV.v (Value.int .i64 (IntKind.i64.wrap (k + IntKind.i64.wrap ((UInt8.toNat (List.getD tab8 (Int.toNat (IntKind.u8.wrap z)) 0) : Nat) : Int)))) = SV.v (Value.int .i64 (Qc1 x)) := by
   intro k z k0 k1 z0 z1 e
   have ez : IntKind.u8.wrap z = z := by rw [Qtr]; omega
   have hl := Zid z0 z1
   rw [ez, Zb5 z0 z1, Qag (n := Qc1 z) ⟨by omega, by omega⟩, Qag ⟨by omega, by omega⟩, e]
   exact ⟨⟨z0, z1⟩, rfl⟩
 have s8 : ∀ z : Int, 256 ≤ z → Qc1 z = 8 + Qc1 (z / 256) := fun z h => Qkw 8 h
 have s16 : ∀ z : Int, 65536 ≤ z → Qc1 z = 16 + Qc1 (z / 65536) := fun z h => Qkw 16 h
 have s32 : ∀ z : Int, 4294967296 ≤ z → Qc1 z = 32 + Qc1 (z / 4294967296) := fun z h => Qkw 32 h
 refine Qaf (fun g => ?_) fun g => ?_
 · have g := of_decide_eq_true g
   have e := s32 x g
   refine Qaf (fun g1 => ?_) fun g1 => ?_
   · have g1 := of_decide_eq_true g1
     have e1 := s16 _ g1
     refine Qaf (fun g2 => ?_) fun g2 => ?_
     · have e2 := s8 _ (of_decide_eq_true g2)
       exact key _ _ (by omega) (by omega) (by omega) (by omega) (by omega)
     · have g2 := of_decide_eq_false g2
       exact key _ _ (by omega) (by omega) (by omega) (by omega) (by omega)
   · have g1 := of_decide_eq_false g1
     refine Qaf (fun g2 => ?_) fun g2 => ?_
     · have e2 := s8 _ (of_decide_eq_true g2)
       exact key _ _ (by omega) (by omega) (by omega) (by omega) (by omega)
     · have g2 := of_decide_eq_false g2
       exact key _ _ (by omega) (by omega) (by omega) (by omega) (by omega)
 · have g := of_decide_eq_false g
   refine Qaf (fun g1 => ?_) fun g1 => ?_
   · have g1 := of_decide_eq_true g1
     have e1 := s16 _ g1
     refine Qaf (fun g2 => ?_) fun g2 => ?_
     · have e2 := s8 _ (of_decide_eq_true g2)
       exact key _ _ (by omega) (by omega) (by omega) (by omega) (by omega)
     · have g2 := of_decide_eq_false g2
       exact key _ _ (by omega) (by omega) (by omega) (by omega) (by omega)
   · have g1 := of_decide_eq_false g1
     refine Qaf (fun g2 => ?_) fun g2 => ?_
     · have e2 := s8 _ (of_decide_eq_true g2)
       exact key _ _ (by omega) (by omega) (by omega) (by omega) (by omega)
     · have g2 := of_decide_eq_false g2
       exact key _ _ (by omega) (by omega) (by omega) (by omega) (by omega)
theorem Qug {x : Int} (h : U64 x) : 0 ≤ Qc1 x ∧ Qc1 x ≤ 64 := by
 obtain ⟨h0, h1⟩ := h
 by_cases hx : x = 0
 · subst hx; exact ⟨by decide, by decide⟩
 · obtain ⟨n, e, l1, _⟩ := Qnh (x := x) (by omega)
   refine ⟨by omega, ?_⟩
   rcases Nat.lt_or_ge n 64 with h | h
   · omega
   · exfalso
     have : (2 : Int) ^ 64 ≤ 2 ^ n := by exact_mod_cast Nat.pow_le_pow_right (by decide) h
     omega
theorem Zal : ∀ f g, ΓX0 f = some g → g.ok Tryz.prog f := Qab Qas (Qak Tryz.func223 (by kernel_rfl) (by kernel_rfl) Qpk)
theorem Q4m : Qai Tryz.prog 148 Zcv := Qan hm Zal Tryz.func148 (Λ := fun _ => Qax) fun args p x h hp => by
 unfold Zcv at h
 split at h <;> try (cases h; done)
 rename_i x
 cases h
 have hx := hp _ rfl
 refine ⟨rfl, rfl, ?_⟩
 refine Eq.mpr (Zgo x _) ?_
 have := Qug hx
 refine ⟨hx, Qbj ?_⟩
 rw [Qag ⟨by omega, by omega⟩]
theorem Zak : ∀ f g, ΓX1 f = some g → g.ok Tryz.prog f := Qab Qas (Qak Tryz.func148 (by kernel_rfl) (by kernel_rfl) Q4m)
section
variable {a b u l : Int}
structure dig (a b u l : Int) : Prop where
 a0 : 2147483648 ≤ a
 a1 : a < 4294967296
 b0 : 0 ≤ b
 b1 : b < 4294967296
 l0 : 0 ≤ l
 l1 : l < 4294967296
 u0 : 0 ≤ u
 u1 : u < a * 4294967296 + b
def Qrm (a b u l : Int) : Int := (u * 4294967296 + l) / (a * 4294967296 + b)
theorem Qpb (h : dig a b u l) : 0 ≤ Qrm a b u l ∧ Qrm a b u l < 4294967296 := by
 obtain ⟨a0, a1, b0, b1, l0, l1, u0, u1⟩ := h
 exact ⟨Int.ediv_nonneg (by omega) (by omega), Int.ediv_lt_of_lt_mul (by omega) (by omega)⟩
theorem Qnq (h : dig a b u l) : invQ a b u l ⟨u / a, u - u / a * a⟩ := by
 obtain ⟨a0, a1, b0, b1, l0, l1, u0, u1⟩ := h
 have e : u - u / a * a = u % a := by rw [Int.emod_def, Int.mul_comm]
 have r0 : 0 ≤ u % a := Int.emod_nonneg _ (by omega)
 have r1 : u % a < a := Int.emod_lt_of_pos _ (by omega)
 refine ⟨Int.ediv_nonneg u0 (by omega), ?_, ?_, ?_, ?_, ?_⟩
 · have : u / a < 4294967298 := Int.ediv_lt_of_lt_mul (by omega) (by omega)
   show u / a ≤ 4294967297
   omega
 · show 0 ≤ u - u / a * a
   omega
 · show u - u / a * a < 4294967296
   omega
 · show u / a * a + (u - u / a * a) = u
   omega
 · show _ ≤ u / a
   have hlt : (u * 4294967296 + l) / (a * 4294967296 + b) < u / a + 1 := by
     refine Int.ediv_lt_of_lt_mul (by omega) ?_
     generalize hq : u / a = q at *
     have q0 : 0 ≤ q := by rw [← hq]; exact Int.ediv_nonneg u0 (by omega)
     have e1 : (q + 1) * (a * 4294967296 + b) = (q * a) * 4294967296 + a * 4294967296 + (q + 1) * b := by
       rw [Int.mul_add, ← Int.mul_assoc, Int.add_mul q 1 a, Int.add_mul (q * a)]; omega
     have e2 : 0 ≤ (q + 1) * b := Int.mul_nonneg (by omega) b0
     rw [e1]
     omega
   omega
theorem Qur {x : QR} (h : dig a b u l) (hi : invQ a b u l x) (hq : 4294967296 ≤ x.q ∨ 4294967296 * x.r + l < x.q * b) : Qrm a b u l ≤ x.q - 1 := by
 have hd := Qpb h
 obtain ⟨a0, a1, b0, b1, l0, l1, u0, u1⟩ := h
 rcases hq with hq | hq
 · omega
 · have : Qrm a b u l < x.q := by
     refine Int.ediv_lt_of_lt_mul (by omega) ?_
     have hs := hi.sum
     have e1 : x.q * (a * 4294967296 + b) = (x.q * a) * 4294967296 + x.q * b := by rw [Int.mul_add, ← Int.mul_assoc]
     rw [e1]
     omega
   omega
theorem Zd4 {x : QR} (h : dig a b u l) (hi : invQ a b u l x) (hq : x.q * b ≤ 4294967296 * x.r + l) : x.q = Qrm a b u l := by
 obtain ⟨a0, a1, b0, b1, l0, l1, u0, u1⟩ := h
 have : x.q ≤ Qrm a b u l := by
   refine Int.le_ediv_of_mul_le (by omega) ?_
   have hs := hi.sum
   have e1 : x.q * (a * 4294967296 + b) = (x.q * a) * 4294967296 + x.q * b := by rw [Int.mul_add, ← Int.mul_assoc]
   rw [e1]
   omega
 have := hi.le
 exact Int.le_antisymm (by assumption) (by assumption)
theorem Zd3 {x : QR} (h : dig a b u l) (hi : invQ a b u l x) (hq : 4294967296 ≤ x.q ∨ 4294967296 * x.r + l < x.q * b) (hr : 4294967296 ≤ x.r + a) : x.q - 1 = Qrm a b u l := by
 have h1 := Qur h hi hq
 have hd := Qpb h
 obtain ⟨a0, a1, b0, b1, l0, l1, u0, u1⟩ := h
 have : x.q - 1 ≤ Qrm a b u l := by
   refine Int.le_ediv_of_mul_le (by omega) ?_
   have hs := hi.sum
   have hq1 := hi.q1
   have e1 : (x.q - 1) * (a * 4294967296 + b) = (x.q * a) * 4294967296 - a * 4294967296 + (x.q - 1) * b := by rw [Int.mul_add, ← Int.mul_assoc, Int.sub_mul x.q 1 a, Int.sub_mul (x.q * a)]; omega
   have e2 : (x.q - 1) * b ≤ 4294967296 * b := Int.mul_le_mul_of_nonneg_right (by omega) b0
   rw [e1]
   omega
 omega
theorem Q7d {x : QR} (h : dig a b u l) (hi : invQ a b u l x) (hq : 4294967296 ≤ x.q ∨ 4294967296 * x.r + l < x.q * b) (hr : x.r + a < 4294967296) : invQ a b u l ⟨x.q - 1, x.r + a⟩ := by
 have h1 := Qur h hi hq
 have hd := Qpb h
 obtain ⟨a0, a1, b0, b1, l0, l1, u0, u1⟩ := h
 obtain ⟨i1, i2, i3, i4, i5, i6⟩ := hi
 refine ⟨?_, ?_, ?_, ?_, ?_, h1⟩
 · show 0 ≤ x.q - 1
   omega
 · show x.q - 1 ≤ _
   omega
 · show 0 ≤ x.r + a
   omega
 · exact hr
 · show (x.q - 1) * a + (x.r + a) = u
   rw [Int.sub_mul]; omega
theorem Qwr (h : dig a b u l) : IntKind.u64.wrap (Int.tdiv u a) = u / a ∧ IntKind.u64.wrap (u - IntKind.u64.wrap (IntKind.u64.wrap (Int.tdiv u a) * a)) = u - u / a * a := by
 have hs := Qnq h
 have q0 : 0 ≤ u / a := hs.q0
 have q1 : u / a ≤ 4294967297 := hs.q1
 have r0 : 0 ≤ u - u / a * a := hs.r0
 obtain ⟨a0, a1, b0, b1, l0, l1, u0, u1⟩ := h
 have p0 : 0 ≤ u / a * a := Int.mul_nonneg q0 (by omega)
 rw [Int.tdiv_eq_ediv_of_nonneg u0, Qdb (n := u / a) ⟨q0, by omega⟩]
 refine ⟨rfl, ?_⟩
 rw [Qdb (n := u / a * a) ⟨p0, by omega⟩, Qdb ⟨r0, by omega⟩]
theorem Qwq {x : QR} (h : dig a b u l) (hx : invQ a b u l x) {A1 A2 A3 : Prop} (h1 : IntKind.u64.wrap (x.q - 1) = Qrm a b u l → A1) (h2 : IntKind.u64.wrap (x.q - 1) = Qrm a b u l → A2) (h3 : x.q = Qrm a b u l → A3) :
   sel (decide (x.q ≥ 4294967296)) (sel (decide (IntKind.u64.wrap (x.r + a) ≥ 4294967296)) A1
     (∃ x' : QR, (invQ a b u l x' ∧ (SV.v (Value.int .u64 (IntKind.u64.wrap (x.q - 1))) = SV.v (Value.int .u64 x'.q) ∧ SV.v (Value.int .u64 (IntKind.u64.wrap (x.r + a))) = SV.v (Value.int .u64 x'.r)) ∧ True) ∧ Int.toNat x'.q < Int.toNat x.q))
   (sel (decide (IntKind.u64.wrap (x.q * b) > IntKind.u64.wrap (IntKind.u64.wrap (4294967296 * x.r) + l))) (sel (decide (IntKind.u64.wrap (x.r + a) ≥ 4294967296)) A2
     (∃ x' : QR, (invQ a b u l x' ∧ (SV.v (Value.int .u64 (IntKind.u64.wrap (x.q - 1))) = SV.v (Value.int .u64 x'.q) ∧ SV.v (Value.int .u64 (IntKind.u64.wrap (x.r + a))) = SV.v (Value.int .u64 x'.r)) ∧ True) ∧ Int.toNat x'.q < Int.toNat x.q)) A3) := by
 have hd := Qpb h
 have hbig := Qur h hx
 have hout := Zd3 h hx
 have hnext := Q7d h hx
 have hend := Zd4 h hx
 obtain ⟨a0, a1, b0, b1, l0, l1, u0, u1⟩ := h
 have x0 := hx.q0
 have x1 := hx.q1
 have x2 := hx.r0
 have x3 := hx.r1
 have er : IntKind.u64.wrap (x.r + a) = x.r + a := Qdb ⟨by omega, by omega⟩
 have eq : Qrm a b u l ≤ x.q - 1 → IntKind.u64.wrap (x.q - 1) = x.q - 1 := fun hh => Qdb ⟨by omega, by omega⟩
 rw [er]
 refine Qaf (fun g => ?_) fun g => ?_
 · have g := of_decide_eq_true g
   have e := eq (hbig (Or.inl g))
   refine Qaf (fun g1 => ?_) fun g1 => ?_
   · exact h1 (e.trans (hout (Or.inl g) (of_decide_eq_true g1)))
   · have := hbig (Or.inl g)
     have g1 := of_decide_eq_false g1
     exact ⟨_, ⟨hnext (Or.inl g) (by omega), ⟨by rw [e], rfl⟩, trivial⟩, by show Int.toNat (x.q - 1) < _; omega⟩
 · have g := of_decide_eq_false g
   have p0 : 0 ≤ x.q * b := Int.mul_nonneg x0 b0
   have p1 : x.q * b ≤ 4294967295 * b := Int.mul_le_mul_of_nonneg_right (by omega) b0
   have e1 : IntKind.u64.wrap (x.q * b) = x.q * b := Qdb ⟨p0, by omega⟩
   have e2 : IntKind.u64.wrap (4294967296 * x.r) = 4294967296 * x.r := Qdb ⟨by omega, by omega⟩
   have e3 : IntKind.u64.wrap (4294967296 * x.r + l) = 4294967296 * x.r + l := Qdb ⟨by omega, by omega⟩
   rw [e1, e2, e3]
   refine Qaf (fun g0 => ?_) fun g0 => ?_
   · have g0 : 4294967296 ≤ x.q ∨ 4294967296 * x.r + l < x.q * b := Or.inr (of_decide_eq_true g0)
     have e := eq (hbig g0)
     refine Qaf (fun g1 => ?_) fun g1 => ?_
     · exact h2 (e.trans (hout g0 (of_decide_eq_true g1)))
     · have := hbig g0
       have g1 := of_decide_eq_false g1
       exact ⟨_, ⟨hnext g0 (by omega), ⟨by rw [e], rfl⟩, trivial⟩, by show Int.toNat (x.q - 1) < _; omega⟩
   · have g0 := of_decide_eq_false g0
     exact h3 (hend (by omega))
end
theorem Q26 {m y q r t : Int} (ht : 0 < t) (hy : 0 < y) (he : m * t = q * (y * t) + r) (h0 : 0 ≤ r) (h1 : r < y * t) : m / y = q ∧ r / t = m % y := by
 have e1 : r = (m - q * y) * t := by rw [Int.sub_mul, Int.mul_assoc]; omega
 have e2 : 0 ≤ m - q * y := by
   rcases Int.lt_or_le (m - q * y) 0 with h | h
   · have := Int.mul_neg_of_neg_of_pos h ht
     omega
   · exact h
 have e3 : m - q * y < y := by
   rw [e1] at h1
   exact Int.lt_of_mul_lt_mul_right h1 (Int.le_of_lt ht)
 have e4 : r / t = m - q * y := by rw [e1]; exact Int.mul_ediv_cancel _ (by omega)
 have e5 : m / y = q := by
   have : m = q * y + (m - q * y) := by omega
   rw [this, Int.add_comm, Int.add_mul_ediv_right _ _ (by omega), Int.ediv_eq_zero_of_lt e2 e3]; omega
 refine ⟨e5, ?_⟩
 rw [e4, Int.emod_def, e5, Int.mul_comm y q]
theorem Q87 {c d : Int} {s : Nat} (hc : 0 ≤ c) (hd : 0 ≤ d) (hd1 : d < 2 ^ s) (hc1 : c * 2 ^ s < 18446744073709551616) (hd2 : d < 18446744073709551616) : bits .or .u64 (c * 2 ^ s) d = c * 2 ^ s + d := by
 have t0 : (0 : Int) < 2 ^ s := by exact_mod_cast Nat.two_pow_pos s
 have h0 : 0 ≤ c * 2 ^ s := Int.mul_nonneg hc (by omega)
 rw [u64_or (c * 2 ^ s) d h0 hc1 hd hd2]
 obtain ⟨n, rfl⟩ := Int.eq_ofNat_of_zero_le hc
 obtain ⟨m, rfl⟩ := Int.eq_ofNat_of_zero_le hd
 have e : ((n : Int) * 2 ^ s) = ((2 ^ s * n : Nat) : Int) := by rw [Int.natCast_mul, Int.natCast_pow, Int.mul_comm]; rfl
 rw [e, Int.toNat_natCast, Int.toNat_natCast]
 have hm : m < 2 ^ s := by exact_mod_cast hd1
 rw [← Nat.two_pow_add_eq_or_of_lt hm]
 rfl
theorem Qy1 : Qai Tryz.prog 67 Q1k := Qan hm Zak Tryz.func67 (Λ := fun args => match args with
   | [.v (.int .u64 hi), .v (.int .u64 lo), .v (.int .u64 y)] =>
     let t : Int := 2 ^ (64 - Qc1 y).toNat
     let w := MM lo hi * t
     let u := w / 18446744073709551616
     let l := w % 18446744073709551616
     Zfe (y * t / 4294967296) (y * t % 4294967296) u (l / 4294967296) ((u * 4294967296 + l / 4294967296) % (y * t)) (l % 4294967296)
   | _ => Qax) fun args p x h hp => by
 unfold Q1k at h
 split at h <;> try (cases h; done)
 rename_i hi lo y
 cases h
 obtain ⟨h1, h2, h3, h4⟩ := hp _ rfl
 refine ⟨rfl, rfl, ?_⟩
 refine Eq.mpr (Zby hi lo y _ _ _ _ _ _ _) ?_
 repeat (first | unfold Qmn | unfold Qcu | unfold Qaq | unfold Qbv)
 refine ?_
 have y0 : 0 < y := by obtain ⟨_, _⟩ := h1; omega
 refine Qaf (fun g => ?_) fun g => ?_
 · exfalso; simp at g; omega
 refine Qaf (fun g' => ?_) fun _ => ?_
 · exfalso; simp at g'; omega
 refine Qaf (fun g => ?_) fun g => ?_
 · have g : hi = 0 := by simpa using g
   subst g
   refine ⟨by omega, by omega, ?_⟩
   have q0 : 0 ≤ lo / y := Int.ediv_nonneg h2.1 h3.1
   have q1 : lo / y ≤ lo := Int.ediv_le_self _ h2.1
   have e : MM lo 0 = lo := by unfold MM; omega
   rw [e, Int.tdiv_eq_ediv_of_nonneg h2.1, Int.tmod_eq_emod_of_nonneg h2.1, Qdb ⟨q0, by have := h2.2; omega⟩]
 · clear g
   obtain ⟨n, el, l1, l2⟩ := Qnh y0
   have n64 : n ≤ 63 := by have := Qug h3; omega
   obtain ⟨s, hs⟩ : ∃ s : Nat, n + s = 63 := ⟨63 - n, by omega⟩
   have es : (64 - Qc1 y) = (s : Int) := by omega
   have ew : IntKind.u64.wrap (s : Int) = s := Qdb ⟨by omega, by omega⟩
   have ew2 : IntKind.u64.wrap (64 - s : Int) = 64 - s := Qdb ⟨by omega, by omega⟩
   have et : min (Int.toNat (s : Int)) 64 = s := by simp; omega
   have et2 : min (Int.toNat (64 - s : Int)) 64 = 64 - s := by omega
   have et3 : Int.toNat (s : Int) = s := by simp
   rw [es]
   have et : min s 64 = s := by omega
   simp only [ew, ew2, et, et2, et3]
   have t0 : (0 : Int) < 2 ^ s := by exact_mod_cast Nat.two_pow_pos s
   have T0 : (0 : Int) < 2 ^ (64 - s) := by exact_mod_cast Nat.two_pow_pos (64 - s)
   have tT : (2 : Int) ^ (64 - s) * 2 ^ s = 18446744073709551616 := by rw [← Int.pow_add, show 64 - s + s = 64 by omega]; rfl
   have nt : (2 : Int) ^ n * 2 ^ s = 9223372036854775808 := by rw [← Int.pow_add, hs]; rfl
   have v0 : 9223372036854775808 ≤ y * 2 ^ s := by rw [← nt]; exact Int.mul_le_mul_of_nonneg_right l1 (by omega)
   have v1 : y * 2 ^ s < 18446744073709551616 := by
     have : y * 2 ^ s < 2 ^ (n + 1) * 2 ^ s := Int.mul_lt_mul_of_pos_right l2 t0
     have e : (2 : Int) ^ (n + 1) * 2 ^ s = 2 * (2 ^ n * 2 ^ s) := by rw [Int.pow_succ, Int.mul_comm (2 ^ n) 2, Int.mul_assoc]
     rw [e, nt] at this
     omega
   have hv : hi * 2 ^ s < y * 2 ^ s := Int.mul_lt_mul_of_pos_right h4 t0
   have h0 : 0 ≤ hi * 2 ^ s := Int.mul_nonneg h1.1 (by omega)
   have d0 : 0 ≤ lo / 2 ^ (64 - s) := Int.ediv_nonneg h2.1 (by omega)
   have d1 : lo / 2 ^ (64 - s) < 2 ^ s := Int.ediv_lt_of_lt_mul T0 (by rw [Int.mul_comm, tT]; exact h2.2)
   have eu : bits .or .u64 (IntKind.u64.wrap (hi * 2 ^ s)) (lo / 2 ^ (64 - s)) = MM lo hi * 2 ^ s / 18446744073709551616 := by
     rw [Qdb ⟨h0, by omega⟩, Q87 h1.1 d0 d1 (by omega) (by have : lo / 2 ^ (64 - s) ≤ lo := Int.ediv_le_self _ h2.1; have := h2.2; omega)]
     have e1 : MM lo hi * 2 ^ s = lo * 2 ^ s + (hi * 2 ^ s) * 18446744073709551616 := by
       unfold MM
       rw [Int.add_mul, Int.mul_assoc, Int.mul_comm 18446744073709551616, ← Int.mul_assoc]; omega
     rw [e1, Int.add_mul_ediv_right _ _ (by decide)]
     have e2 : lo * 2 ^ s / 18446744073709551616 = lo / 2 ^ (64 - s) := by rw [← tT, Int.mul_ediv_mul_of_pos_left _ _ t0]
     omega
   have elo : IntKind.u64.wrap (lo * 2 ^ s) = MM lo hi * 2 ^ s % 18446744073709551616 := by
     have e1 : MM lo hi * 2 ^ s = lo * 2 ^ s + (hi * 2 ^ s) * 18446744073709551616 := by
       unfold MM
       rw [Int.add_mul, Int.mul_assoc, Int.mul_comm 18446744073709551616, ← Int.mul_assoc]; omega
     rw [e1, Int.add_mul_emod_self_right, Qbt]
   have ev : IntKind.u64.wrap (y * 2 ^ s) = y * 2 ^ s := Qdb ⟨by omega, v1⟩
   rw [eu, elo, ev]
   have w0 : 0 ≤ MM lo hi * 2 ^ s := Int.mul_nonneg (Qj8 h2 h1) (by omega)
   have wv : MM lo hi * 2 ^ s < y * 2 ^ s * 18446744073709551616 := by
     have e : y * 2 ^ s * 18446744073709551616 = (y * 18446744073709551616) * 2 ^ s := by rw [Int.mul_right_comm]
     rw [e]
     refine Int.mul_lt_mul_of_pos_right ?_ t0
     unfold MM; have := h2.2; omega
   have hfin : ∀ q r, MM lo hi * 2 ^ s = q * (y * 2 ^ s) + r → 0 ≤ r → r < y * 2 ^ s → MM lo hi / y = q ∧ r / 2 ^ s = MM lo hi % y := fun q r e r0 r1 => Q26 t0 y0 e r0 r1
   generalize y * 2 ^ s = v at *
   generalize MM lo hi * 2 ^ s = w at *
   have ul : U64 (w % 18446744073709551616) := Qb1 w
   rw [Qej ⟨by omega, v1⟩, Qej ul]
   have hw : w = w / 18446744073709551616 * 18446744073709551616 + w % 18446744073709551616 := by omega
   generalize hu : w / 18446744073709551616 = u at *
   generalize hl : w % 18446744073709551616 = l at *
   have uv : u < v := by omega
   have u0 : 0 ≤ u := by omega
   have hd1 : dig (v / 4294967296) (v % 4294967296) u (l / 4294967296) := ⟨by omega, by omega, by omega, by omega, by omega, by obtain ⟨_, _⟩ := ul; omega, by omega, by omega⟩
   have hva : v / 4294967296 * 4294967296 + v % 4294967296 = v := by omega
   have hst1 := Qnq hd1
   have hdl1 := Qpb hd1
   have hQ1 : Qrm (v / 4294967296) (v % 4294967296) u (l / 4294967296) = (u * 4294967296 + l / 4294967296) / v := by unfold Qrm; rw [hva]
   have hm0 : 0 ≤ (u * 4294967296 + l / 4294967296) % v := Int.emod_nonneg _ (by omega)
   have hm1 : (u * 4294967296 + l / 4294967296) % v < v := Int.emod_lt_of_pos _ (by omega)
   have hm2 : (u * 4294967296 + l / 4294967296) % v = (u * 4294967296 + l / 4294967296) - (u * 4294967296 + l / 4294967296) / v * v := by rw [Int.emod_def, Int.mul_comm v]
   generalize hu' : (u * 4294967296 + l / 4294967296) % v = u' at *
   have hd2 : dig (v / 4294967296) (v % 4294967296) u' (l % 4294967296) := ⟨by omega, by omega, by omega, by omega, by omega, by omega, by omega, by omega⟩
   have hst2 := Qnq hd2
   have hdl2 := Qpb hd2
   have hQ2 : Qrm (v / 4294967296) (v % 4294967296) u' (l % 4294967296) = (u' * 4294967296 + l % 4294967296) / v := by unfold Qrm; rw [hva]
   have ei1 := Qwr hd1
   have ei2 := Qwr hd2
   refine ⟨h3, by omega, by omega, by omega, by omega, by omega, ⟨_, hst1, ⟨Qbj ei1.1, Qbj ei1.2⟩, trivial⟩, fun x hx => ?_⟩
   have eu' : ∀ q, q = Qrm (v / 4294967296) (v % 4294967296) u (l / 4294967296) → IntKind.u64.wrap (IntKind.u64.wrap (IntKind.u64.wrap (u * 4294967296) + l / 4294967296) - IntKind.u64.wrap (q * v)) = u' := by
     intro q hq
     rw [hq, hQ1, hm2, Qbt, Qbt, Qbt, Qbt]
     rw [hm2] at hm0 hm1
     generalize (u * 4294967296 + l / 4294967296) / v * v = P at *
     omega
   have hr0 : 0 ≤ (u' * 4294967296 + l % 4294967296) % v := Int.emod_nonneg _ (by omega)
   have hr1 : (u' * 4294967296 + l % 4294967296) % v < v := Int.emod_lt_of_pos _ (by omega)
   have hr2 : (u' * 4294967296 + l % 4294967296) % v = (u' * 4294967296 + l % 4294967296) - (u' * 4294967296 + l % 4294967296) / v * v := by rw [Int.emod_def, Int.mul_comm v]
   have er' : ∀ q, q = Qrm (v / 4294967296) (v % 4294967296) u' (l % 4294967296) → IntKind.u64.wrap (IntKind.u64.wrap (IntKind.u64.wrap (u' * 4294967296) + l % 4294967296) - IntKind.u64.wrap (q * v)) = (u' * 4294967296 + l % 4294967296) % v := by
     intro q hq
     rw [hq, hQ2, hr2, Qbt, Qbt, Qbt, Qbt]
     rw [hr2] at hr0 hr1
     generalize (u' * 4294967296 + l % 4294967296) / v * v = P at *
     omega
   rw [hQ1] at hdl1
   rw [hQ2] at hdl2
   have hf := hfin ((u * 4294967296 + l / 4294967296) / v * 4294967296 + (u' * 4294967296 + l % 4294967296) / v) ((u' * 4294967296 + l % 4294967296) % v) (by
     rw [Int.add_mul, Int.mul_right_comm, hr2, hw]
     generalize (u' * 4294967296 + l % 4294967296) / v * v = P at *
     generalize (u * 4294967296 + l / 4294967296) / v * v = P' at *
     omega) hr0 hr1
   refine Qwq hd1 hx (fun e => ?_) (fun e => ?_) (fun e => ?_)
   all_goals
     rw [eu' _ e]
     refine ⟨by omega, ⟨_, hst2, ⟨Qbj ei2.1, Qbj ei2.2⟩, trivial⟩, fun x' hx' => ?_⟩
     refine Qwq hd2 hx' (fun e' => ?_) (fun e' => ?_) (fun e' => ?_)
     all_goals
       rw [er' _ e', e, e', hQ1, hQ2]
       refine ⟨by omega, ?_⟩
       rw [Qdb (n := (u * 4294967296 + l / 4294967296) / v * 4294967296) ⟨by omega, by omega⟩, Qdb ⟨by omega, by omega⟩, hf.1, hf.2]
def Q6w (a b : Int) : Int := Int.tdiv (a * 4294967296) b
def Qc4 (a b : Int) : Int := if b = 0 then Qna a else Qar (Q6w a b)
def Qjg (a b : Int) : Bool := if b = 0 then true else Qcy (Q6w a b) false
def Qos : List SV → Option (Option Prop × SV)
 | [.v (.int .i64 a), .v (.int .i64 b)] => some (some (I64 a ∧ I64 b), Qcr (Qc4 a b) (Qjg a b))
 | _ => none
def Zcp : List SV → Option (Option Prop × SV)
 | [.agg [.v (.bool n), .v (.int .u64 hi), .v (.int .u64 lo)], .v (.int .u64 d)] => some (some (U64 lo ∧ U64 hi ∧ 0 < d ∧ d ≤ 9223372036854775808), wiM n (MM lo hi / d))
 | _ => none
def Ze2 : List SV → Option (Option Prop × SV)
 | [.agg [.v (.int .i64 v), .v (.bool f)], .agg [.v (.int .i64 u), .v (.bool g)]] => some (some (I64 v ∧ I64 u), Qcr (Qc4 (Qaa v) (Qaa u)) (Qjg (Qaa v) (Qaa u) || (Qav v f || Qav u g)))
 | _ => none
def ovQ (m d : Int) (k : Nat) : Int := m / 2 ^ k / d
def ovR (m d : Int) (k : Nat) : Int := m / 2 ^ k % d
noncomputable def Q8x (n : Bool) (m d : Int) : Nat → Option LoopSpec := Qb9 Qax Tryz.f299 0 Nat (fun k => k ≤ 128) (fun k => k) [(6, fun k => .v (.int .u64 (ovR m d k))), (7, fun k => .v (.int .i64 ((k : Int) - 1)))]
 [(104, fun k => Qep 372 [.v (.bool n), .v (.int .u64 (ovQ m d k / 18446744073709551616)), .v (.int .u64 (ovQ m d k % 18446744073709551616))])]
def Zj4 : Qb7 := Qah ΓC 67 (Qaj Q1k)
def ΓY1 : Qb7 := Qah ΓC 299 (Qaj Zcp)
theorem Zgh (n : Bool) (hi lo d : Int) (m d' : Int) (R : SV→Prop) : (Qau Tryz.prog Qbi (Q8x n m d') Tryz.f299 [wiS n hi lo,.v (.int .u64 d)] R) =
((∃ x : Nat,((Nat.le x 128)∧((((SV.v (.int .u64 0)) = (SV.v (.int .u64 (ovR m d' x))))∧((SV.v (.int .i64 127)) = (SV.v (.int .i64 ((↑x : Int) - 1)))))∧(((1 : Nat) = 1)∧(((1 : Nat) ≤ 1)∧(∀ i : Nat,(((i : Nat) < 1)→([(SV.v (.bool n)),(SV.v (.int .u64 0)),(SV.v (.int .u64 0))] = [(SV.v (.bool n)),(SV.v (.int .u64 (ovQ m d' x / 18446744073709551616))),(SV.v (.int .u64 (ovQ m d' x % 18446744073709551616)))]))))))))∧(∀ x : Nat,((Nat.le x 128)→(sel (decide ((↑x : Int) - 1 ≥ 0)) (((0 : Int) ≤ (IntKind.wrap IntKind.u64 ((↑x : Int) - 1)))∧(sel (decide ((↑x : Int) - 1 ≥ 64)) (((0 : Int) ≤ (IntKind.wrap IntKind.u64 (IntKind.wrap IntKind.i64 ((↑x : Int) - 1 - 64))))∧(sel (decide (bits BinOp.or IntKind.u64 (IntKind.wrap IntKind.u64 (ovR m d' x * 2)) (bits BinOp.and IntKind.u64 (hi / 2 ^ min (Int.toNat (IntKind.wrap IntKind.u64 (IntKind.wrap IntKind.i64 ((↑x : Int) - 1 - 64)))) 64) 1) ≥ d)) (∃ x' : Nat,(((Nat.le x' 128)∧((((SV.v (.int .u64 (IntKind.wrap IntKind.u64 (bits BinOp.or IntKind.u64 (IntKind.wrap IntKind.u64 (ovR m d' x * 2)) (bits BinOp.and IntKind.u64 (hi / 2 ^ min (Int.toNat (IntKind.wrap IntKind.u64 (IntKind.wrap IntKind.i64 ((↑x : Int) - 1 - 64)))) 64) 1) - d)))) = (SV.v (.int .u64 (ovR m d' x'))))∧((SV.v (.int .i64 (IntKind.wrap IntKind.i64 ((↑x : Int) - 1 - 1)))) = (SV.v (.int .i64 ((↑x' : Int) - 1)))))∧(((1 : Nat) = 1)∧(((1 : Nat) ≤ 1)∧(∀ i : Nat,(((i : Nat) < 1)→([(SV.v (.bool n)),(SV.v (.int .u64 (bits BinOp.or IntKind.u64 (IntKind.wrap IntKind.u64 (ovQ m d' x / 18446744073709551616 * 2)) (ovQ m d' x % 18446744073709551616 / 9223372036854775808)))),(SV.v (.int .u64 (bits BinOp.or IntKind.u64 (IntKind.wrap IntKind.u64 (ovQ m d' x % 18446744073709551616 * 2)) 1)))] = [(SV.v (.bool n)),(SV.v (.int .u64 (ovQ m d' x' / 18446744073709551616))),(SV.v (.int .u64 (ovQ m d' x' % 18446744073709551616)))])))))))∧((x' : Nat) < x))) (∃ x' : Nat,(((Nat.le x' 128)∧((((SV.v (.int .u64 (bits BinOp.or IntKind.u64 (IntKind.wrap IntKind.u64 (ovR m d' x * 2)) (bits BinOp.and IntKind.u64 (hi / 2 ^ min (Int.toNat (IntKind.wrap IntKind.u64 (IntKind.wrap IntKind.i64 ((↑x : Int) - 1 - 64)))) 64) 1)))) = (SV.v (.int .u64 (ovR m d' x'))))∧((SV.v (.int .i64 (IntKind.wrap IntKind.i64 ((↑x : Int) - 1 - 1)))) = (SV.v (.int .i64 ((↑x' : Int) - 1)))))∧(((1 : Nat) = 1)∧(((1 : Nat) ≤ 1)∧(∀ i : Nat,(((i : Nat) < 1)→([(SV.v (.bool n)),(SV.v (.int .u64 (bits BinOp.or IntKind.u64 (IntKind.wrap IntKind.u64 (ovQ m d' x / 18446744073709551616 * 2)) (ovQ m d' x % 18446744073709551616 / 9223372036854775808)))),(SV.v (.int .u64 (IntKind.wrap IntKind.u64 (ovQ m d' x % 18446744073709551616 * 2))))] = [(SV.v (.bool n)),(SV.v (.int .u64 (ovQ m d' x' / 18446744073709551616))),(SV.v (.int .u64 (ovQ m d' x' % 18446744073709551616)))])))))))∧((x' : Nat) < x))))) (sel (decide (bits BinOp.or IntKind.u64 (IntKind.wrap IntKind.u64 (ovR m d' x * 2)) (bits BinOp.and IntKind.u64 (lo / 2 ^ min (Int.toNat (IntKind.wrap IntKind.u64 ((↑x : Int) - 1))) 64) 1) ≥ d)) (∃ x' : Nat,(((Nat.le x' 128)∧((((SV.v (.int .u64 (IntKind.wrap IntKind.u64 (bits BinOp.or IntKind.u64 (IntKind.wrap IntKind.u64 (ovR m d' x * 2)) (bits BinOp.and IntKind.u64 (lo / 2 ^ min (Int.toNat (IntKind.wrap IntKind.u64 ((↑x : Int) - 1))) 64) 1) - d)))) = (SV.v (.int .u64 (ovR m d' x'))))∧((SV.v (.int .i64 (IntKind.wrap IntKind.i64 ((↑x : Int) - 1 - 1)))) = (SV.v (.int .i64 ((↑x' : Int) - 1)))))∧(((1 : Nat) = 1)∧(((1 : Nat) ≤ 1)∧(∀ i : Nat,(((i : Nat) < 1)→([(SV.v (.bool n)),(SV.v (.int .u64 (bits BinOp.or IntKind.u64 (IntKind.wrap IntKind.u64 (ovQ m d' x / 18446744073709551616 * 2)) (ovQ m d' x % 18446744073709551616 / 9223372036854775808)))),(SV.v (.int .u64 (bits BinOp.or IntKind.u64 (IntKind.wrap IntKind.u64 (ovQ m d' x % 18446744073709551616 * 2)) 1)))] = [(SV.v (.bool n)),(SV.v (.int .u64 (ovQ m d' x' / 18446744073709551616))),(SV.v (.int .u64 (ovQ m d' x' % 18446744073709551616)))])))))))∧((x' : Nat) < x))) (∃ x' : Nat,(((Nat.le x' 128)∧((((SV.v (.int .u64 (bits BinOp.or IntKind.u64 (IntKind.wrap IntKind.u64 (ovR m d' x * 2)) (bits BinOp.and IntKind.u64 (lo / 2 ^ min (Int.toNat (IntKind.wrap IntKind.u64 ((↑x : Int) - 1))) 64) 1)))) = (SV.v (.int .u64 (ovR m d' x'))))∧((SV.v (.int .i64 (IntKind.wrap IntKind.i64 ((↑x : Int) - 1 - 1)))) = (SV.v (.int .i64 ((↑x' : Int) - 1)))))∧(((1 : Nat) = 1)∧(((1 : Nat) ≤ 1)∧(∀ i : Nat,(((i : Nat) < 1)→([(SV.v (.bool n)),(SV.v (.int .u64 (bits BinOp.or IntKind.u64 (IntKind.wrap IntKind.u64 (ovQ m d' x / 18446744073709551616 * 2)) (ovQ m d' x % 18446744073709551616 / 9223372036854775808)))),(SV.v (.int .u64 (IntKind.wrap IntKind.u64 (ovQ m d' x % 18446744073709551616 * 2))))] = [(SV.v (.bool n)),(SV.v (.int .u64 (ovQ m d' x' / 18446744073709551616))),(SV.v (.int .u64 (ovQ m d' x' % 18446744073709551616)))])))))))∧((x' : Nat) < x)))))) (R (SV.agg [(SV.v (.bool n)),(SV.v (.int .u64 (ovQ m d' x / 18446744073709551616))),(SV.v (.int .u64 (ovQ m d' x % 18446744073709551616)))])))))) := by kernel_rfl
theorem Zbb (a b : Int) (R : SV→Prop) : (Qau Tryz.prog Zj4 Qax Tryz.f9 [.v (.int .i64 a),.v (.int .i64 b)] R) =
(sel (b == 0) (R (SV.agg [(SV.v (.int .i64 (IntKind.wrap IntKind.i64 (Qec a 0 * 9223372036854775807)))),(SV.v (.bool true))])) ((I64 a)∧(((U64 (Qac a))∧((U64 0)∧(((MM (Qac a) 0) : Int) < 79228162514264337593543950336)))∧((I64 b)∧((((Qac b) : Int) ≠ 0)∧((((Qac b) : Int) ≠ 0)∧(((U64 (Int.tmod (MM (Qac a) 0 * 4294967296 / 18446744073709551616) (Qac b)))∧((U64 (MM (Qac a) 0 * 4294967296 % 18446744073709551616))∧((U64 (Qac b))∧(((Int.tmod (MM (Qac a) 0 * 4294967296 / 18446744073709551616) (Qac b)) : Int) < (Qac b)))))∧(((U64 (MM (MM (Qac a) 0 * 4294967296 % 18446744073709551616) (Int.tmod (MM (Qac a) 0 * 4294967296 / 18446744073709551616) (Qac b)) / Qac b))∧(U64 (IntKind.wrap IntKind.u64 (Int.tdiv (MM (Qac a) 0 * 4294967296 / 18446744073709551616) (Qac b)))))∧(R (SV.agg [(SV.v (.int .i64 (Qlv (!decide (a < 0) == decide (b < 0)) (MM (MM (MM (Qac a) 0 * 4294967296 % 18446744073709551616) (Int.tmod (MM (Qac a) 0 * 4294967296 / 18446744073709551616) (Qac b)) / Qac b) (IntKind.wrap IntKind.u64 (Int.tdiv (MM (Qac a) 0 * 4294967296 / 18446744073709551616) (Qac b))))))),(SV.v (.bool (Qkc (MM (MM (MM (Qac a) 0 * 4294967296 % 18446744073709551616) (Int.tmod (MM (Qac a) 0 * 4294967296 / 18446744073709551616) (Qac b)) / Qac b) (IntKind.wrap IntKind.u64 (Int.tdiv (MM (Qac a) 0 * 4294967296 / 18446744073709551616) (Qac b)))) false)))])))))))))) := by kernel_rfl
theorem Q5v (a b : Int) (R : SV→Prop) : (Qau Tryz.prog ΓY1 Qax Tryz.f220 [.v (.int .i64 a),.v (.int .i64 b)] R) = (sel (b == 0) (R (SV.agg [(SV.v (.int .i64 (Qna a))),(SV.v (.bool true))])) ((I64 a)∧(((U64 (Qac a))∧((U64 0)∧(((MM (Qac a) 0) : Int) < 79228162514264337593543950336)))∧((I64 b)∧(((U64 (MM (Qac a) 0 * 4294967296 % 18446744073709551616))∧((U64 (MM (Qac a) 0 * 4294967296 / 18446744073709551616))∧(((0 : Int) < (Qac b))∧(((Qac b) : Int) ≤ 9223372036854775808))))∧(((U64 (MM (MM (Qac a) 0 * 4294967296 % 18446744073709551616) (MM (Qac a) 0 * 4294967296 / 18446744073709551616) / Qac b % 18446744073709551616))∧(U64 (MM (MM (Qac a) 0 * 4294967296 % 18446744073709551616) (MM (Qac a) 0 * 4294967296 / 18446744073709551616) / Qac b / 18446744073709551616)))∧(R (SV.agg [(SV.v (.int .i64 (Qlv (!decide (a < 0) == decide (b < 0)) (MM (MM (MM (Qac a) 0 * 4294967296 % 18446744073709551616) (MM (Qac a) 0 * 4294967296 / 18446744073709551616) / Qac b % 18446744073709551616) (MM (MM (Qac a) 0 * 4294967296 % 18446744073709551616) (MM (Qac a) 0 * 4294967296 / 18446744073709551616) / Qac b / 18446744073709551616))))),(SV.v (.bool (Qkc (MM (MM (MM (Qac a) 0 * 4294967296 % 18446744073709551616) (MM (Qac a) 0 * 4294967296 / 18446744073709551616) / Qac b % 18446744073709551616) (MM (MM (Qac a) 0 * 4294967296 % 18446744073709551616) (MM (Qac a) 0 * 4294967296 / 18446744073709551616) / Qac b / 18446744073709551616)) false)))])))))))):=by kernel_rfl
def Zfg : Qb7 := Qah (Qah (Qah ΓC 9 (Qaj Qos)) 220 (Qaj Qos)) 78 (Qcv Qvv)
theorem Zk6 (v : Int) (f : Bool) (u : Int) (g : Bool) (R : SV→Prop) : (Qau Tryz.prog Zfg Qax Tryz.f156 [Qcr v f,Qcr u g] R) = (((I64 (Qaa v))∧(I64 (Qaa u)))∧(sel (Qjg (Qaa v) (Qaa u)) (R (SV.agg [(SV.v (.int .i64 (Qc4 (Qaa v) (Qaa u)))),(SV.v (.bool true))])) ((((isN [SV.v (.int .i64 (Qaa v)),SV.v (.bool (Qav v f))])∧((isN [SV.v (.int .i64 (Qaa u)),SV.v (.bool (Qav u g))])∧True))∧(((2 : Nat) = 2)∧((2 : Nat) < 4611686018427387904)))∧(R (SV.agg [(SV.v (.int .i64 (Qc4 (Qaa v) (Qaa u)))),(SV.v (.bool (Qro [[SV.v (.int .i64 (Qaa v)),SV.v (.bool (Qav v f))],[SV.v (.int .i64 (Qaa u)),SV.v (.bool (Qav u g))]])))]))))):=by kernel_rfl
theorem Zga (v : Int) (f : Bool) (u : Int) (g : Bool) (R : SV→Prop) : (Qau Tryz.prog Zfg Qax Tryz.f219 [Qcr v f,Qcr u g] R) = (sel (Qaa u == 0) (R (SV.agg [(SV.v (.int .i64 (Qna (Qaa v)))),(SV.v (.bool true))])) (((I64 (Qaa v))∧(I64 (Qaa u)))∧(sel (Qjg (Qaa v) (Qaa u)) (R (SV.agg [(SV.v (.int .i64 (Qc4 (Qaa v) (Qaa u)))),(SV.v (.bool true))])) (sel (Qav v f) (R (SV.agg [(SV.v (.int .i64 (Qc4 (Qaa v) (Qaa u)))),(SV.v (.bool true))])) (R (SV.agg [(SV.v (.int .i64 (Qc4 (Qaa v) (Qaa u)))),(SV.v (.bool (Qav u g)))])))))):=by kernel_rfl
theorem Zkw (v : Int) (f : Bool) (u : Int) (g : Bool) (R : SV→Prop) : (Qau Tryz.prog Zfg Qax Tryz.f16 [Qcr v f,Qcr u g] R) = (((I64 (Qaa v))∧(I64 (Qaa u)))∧(((U64 (Qac (Qaa v) * Qac (Qaa u) % 18446744073709551616))∧(U64 (Qac (Qaa v) * Qac (Qaa u) / 18446744073709551616)))∧((((isN [SV.v (.int .i64 (Qaa v)),SV.v (.bool (Qav v f))])∧((isN [SV.v (.int .i64 (Qaa u)),SV.v (.bool (Qav u g))])∧True))∧(((2 : Nat) = 2)∧((2 : Nat) < 4611686018427387904)))∧(((U64 (MM (Qac (Qaa v) * Qac (Qaa u) % 18446744073709551616) (Qac (Qaa v) * Qac (Qaa u) / 18446744073709551616) / 4294967296 % 18446744073709551616))∧(U64 (MM (Qac (Qaa v) * Qac (Qaa u) % 18446744073709551616) (Qac (Qaa v) * Qac (Qaa u) / 18446744073709551616) / 4294967296 / 18446744073709551616)))∧(R (SV.agg [(SV.v (.int .i64 (Qlv (!decide (Qaa v < 0) == decide (Qaa u < 0)) (MM (MM (Qac (Qaa v) * Qac (Qaa u) % 18446744073709551616) (Qac (Qaa v) * Qac (Qaa u) / 18446744073709551616) / 4294967296 % 18446744073709551616) (MM (Qac (Qaa v) * Qac (Qaa u) % 18446744073709551616) (Qac (Qaa v) * Qac (Qaa u) / 18446744073709551616) / 4294967296 / 18446744073709551616))))),(SV.v (.bool (Qkc (MM (MM (Qac (Qaa v) * Qac (Qaa u) % 18446744073709551616) (Qac (Qaa v) * Qac (Qaa u) / 18446744073709551616) / 4294967296 % 18446744073709551616) (MM (Qac (Qaa v) * Qac (Qaa u) % 18446744073709551616) (Qac (Qaa v) * Qac (Qaa u) / 18446744073709551616) / 4294967296 / 18446744073709551616)) (Qro [[SV.v (.int .i64 (Qaa v)),SV.v (.bool (Qav v f))],[SV.v (.int .i64 (Qaa u)),SV.v (.bool (Qav u g))]]))))])))))):=by kernel_rfl
theorem Zlc (v : Int) (f : Bool) (R : SV→Prop) : (Qau Tryz.prog Zfg Qax Tryz.f98 [Qcr v f] R) = (R (SV.agg [(SV.v (.int .i64 (max (Qaa v) (IntKind.wrap IntKind.i64 (0 - Qaa v))))),(SV.v (.bool (Qav v f)))])):=by kernel_rfl
theorem Q3n {x : Int} (h : U64 x) : bits .and .u64 x 1 = x % 2 := by
 obtain ⟨h1, h2⟩ := h
 rw [u64_and x 1 h1 h2 (by decide) (by decide)]
 have : x.toNat &&& (1 : Int).toNat = x.toNat % 2 := Nat.and_two_pow_sub_one_eq_mod x.toNat 1
 rw [this]; omega
theorem Q2d {c b : Int} (hc : 0 ≤ c) (hc1 : c < 9223372036854775808) (h0 : 0 ≤ b) (h1 : b ≤ 1) : bits .or .u64 (IntKind.u64.wrap (c * 2)) b = 2 * c + b := by
 have h := Q87 (c := c) (d := b) (s := 1) hc h0 (by omega) (by omega) (by omega)
 rw [Qdb ⟨by omega, by omega⟩]
 have e : c * 2 ^ 1 = c * 2 := by omega
 rw [e] at h
 omega
theorem Zdh {c b : Int} (h0 : 0 ≤ b) (h1 : b ≤ 1) : bits .or .u64 (IntKind.u64.wrap (c * 2)) b = (2 * c) % 18446744073709551616 + b := by
 rw [Qbt]
 have e : c * 2 % 18446744073709551616 = (c % 9223372036854775808) * 2 := by omega
 have h := Q2d (c := c % 9223372036854775808) (b := b) (by omega) (by omega) h0 h1
 rw [Qdb ⟨by omega, by omega⟩] at h
 rw [e, h]
 omega
theorem Qjs (k : Nat) : (0 : Int) < 2 ^ k := by exact_mod_cast Nat.two_pow_pos k
theorem Q2z (m : Int) (k : Nat) : m / 2 ^ k = 2 * (m / 2 ^ (k + 1)) + m / 2 ^ k % 2 := by
 have e : m / 2 ^ (k + 1) = m / 2 ^ k / 2 := by rw [Int.pow_succ, Int.ediv_ediv_of_nonneg (Int.le_of_lt (Qjs k))]
 rw [e]; omega
theorem Q9w {x d q r : Int} (hd : 0 < d) (h : x = d * q + r) (h0 : 0 ≤ r) (h1 : r < d) : x / d = q ∧ x % d = r := by
 subst h
 rw [Int.add_comm, Int.add_mul_ediv_left _ _ (by omega), Int.add_mul_emod_self_left, Int.ediv_eq_zero_of_lt h0 h1, Int.emod_eq_of_lt h0 h1]
 exact ⟨by omega, rfl⟩
theorem ov_r {m d : Int} (k : Nat) (hd : 0 < d) : 0 ≤ ovR m d k ∧ ovR m d k < d := ⟨Int.emod_nonneg _ (by omega), Int.emod_lt_of_pos _ hd⟩
theorem Zdf {m d : Int} (k : Nat) (hd : 0 < d) : (d ≤ 2 * ovR m d (k + 1) + m / 2 ^ k % 2 → ovQ m d k = 2 * ovQ m d (k + 1) + 1 ∧ ovR m d k = 2 * ovR m d (k + 1) + m / 2 ^ k % 2 - d) ∧
   (2 * ovR m d (k + 1) + m / 2 ^ k % 2 < d → ovQ m d k = 2 * ovQ m d (k + 1) ∧ ovR m d k = 2 * ovR m d (k + 1) + m / 2 ^ k % 2) := by
 have h := Q2z m k
 have b0 : 0 ≤ m / 2 ^ k % 2 ∧ m / 2 ^ k % 2 ≤ 1 := by omega
 unfold ovQ ovR
 generalize m / 2 ^ k % 2 = b at *
 rw [h]
 generalize m / 2 ^ (k + 1) = P at *
 have h1 := Int.mul_ediv_add_emod P d
 have r0 : 0 ≤ P % d := Int.emod_nonneg _ (by omega)
 have r1 : P % d < d := Int.emod_lt_of_pos _ hd
 generalize P / d = q at *
 generalize P % d = r at *
 have e : d * (2 * q) = 2 * (d * q) := by rw [← Int.mul_assoc, Int.mul_comm d 2, Int.mul_assoc]
 constructor
 · intro g
   exact Q9w hd (by rw [Int.mul_add, e]; omega) (by omega) (by omega)
 · intro g
   exact Q9w hd (by rw [e]; omega) (by omega) (by omega)
theorem ov_q {m d : Int} (k : Nat) (hk : 1 ≤ k) (hm : 0 ≤ m) (hm1 : m < 340282366920938463463374607431768211456) (hd : 0 < d) : 0 ≤ ovQ m d k ∧ ovQ m d k < 170141183460469231731687303715884105728 := by
 have h1 : 0 ≤ m / 2 ^ k := Int.ediv_nonneg hm (Int.le_of_lt (Qjs k))
 have h2 : m / 2 ^ k ≤ m / 2 := by
   obtain ⟨j, rfl⟩ : ∃ j, k = j + 1 := ⟨k - 1, by omega⟩
   have e : m / 2 ^ (j + 1) = m / 2 / 2 ^ j := by rw [Int.pow_succ, Int.mul_comm, Int.ediv_ediv_of_nonneg (by decide)]
   rw [e]
   exact Int.ediv_le_self _ (by omega)
 refine ⟨Int.ediv_nonneg h1 (by omega), ?_⟩
 have := Int.ediv_le_self d h1
 unfold ovQ
 omega
theorem Qzu {n : Bool} {a b a' b' : Int} (h1 : a = a') (h2 : b = b') : [SV.v (.bool n), .v (.int .u64 a), .v (.int .u64 b)] = [SV.v (.bool n), .v (.int .u64 a'), .v (.int .u64 b')] := by rw [h1, h2]
theorem Qv9 (n : Bool) {m d : Int} {x : Nat} (hx : 1 ≤ x) (hx2 : x ≤ 128) (hm : 0 ≤ m) (hm1 : m < 340282366920938463463374607431768211456) (hd : 0 < d) (hd1 : d ≤ 9223372036854775808) {b : Int} (hb : b = m / 2 ^ (x - 1) % 2) :
   sel (decide (bits BinOp.or IntKind.u64 (IntKind.wrap IntKind.u64 (ovR m d x * 2)) b ≥ d))
     (∃ x' : Nat, (((Nat.le x' 128) ∧ ((((SV.v (Value.int IntKind.u64 (IntKind.wrap IntKind.u64 (bits BinOp.or IntKind.u64 (IntKind.wrap IntKind.u64 (ovR m d x * 2)) b - d)))) = (SV.v (Value.int IntKind.u64 (ovR m d x')))) ∧ ((SV.v (Value.int IntKind.i64 (IntKind.wrap IntKind.i64 ((x : Int) - 1 - 1)))) = (SV.v (Value.int IntKind.i64 ((x' : Int) - 1))))) ∧ (((1 : Nat) = 1) ∧ (((1 : Nat) ≤ 1) ∧ (∀ i : Nat, (((i : Nat) < 1) → ([(SV.v (Value.bool n)), (SV.v (Value.int IntKind.u64 (bits BinOp.or IntKind.u64 (IntKind.wrap IntKind.u64 (ovQ m d x / 18446744073709551616 * 2)) (ovQ m d x % 18446744073709551616 / 9223372036854775808)))), (SV.v (Value.int IntKind.u64 (bits BinOp.or IntKind.u64 (IntKind.wrap IntKind.u64 (ovQ m d x % 18446744073709551616 * 2)) 1)))] = [(SV.v (Value.bool n)), (SV.v (Value.int IntKind.u64 (ovQ m d x' / 18446744073709551616))), (SV.v (Value.int IntKind.u64 (ovQ m d x' % 18446744073709551616)))]))))))) ∧ ((x' : Nat) < x)))
     (∃ x' : Nat, (((Nat.le x' 128) ∧ ((((SV.v (Value.int IntKind.u64 (bits BinOp.or IntKind.u64 (IntKind.wrap IntKind.u64 (ovR m d x * 2)) b))) = (SV.v (Value.int IntKind.u64 (ovR m d x')))) ∧ ((SV.v (Value.int IntKind.i64 (IntKind.wrap IntKind.i64 ((x : Int) - 1 - 1)))) = (SV.v (Value.int IntKind.i64 ((x' : Int) - 1))))) ∧ (((1 : Nat) = 1) ∧ (((1 : Nat) ≤ 1) ∧ (∀ i : Nat, (((i : Nat) < 1) → ([(SV.v (Value.bool n)), (SV.v (Value.int IntKind.u64 (bits BinOp.or IntKind.u64 (IntKind.wrap IntKind.u64 (ovQ m d x / 18446744073709551616 * 2)) (ovQ m d x % 18446744073709551616 / 9223372036854775808)))), (SV.v (Value.int IntKind.u64 (IntKind.wrap IntKind.u64 (ovQ m d x % 18446744073709551616 * 2))))] = [(SV.v (Value.bool n)), (SV.v (Value.int IntKind.u64 (ovQ m d x' / 18446744073709551616))), (SV.v (Value.int IntKind.u64 (ovQ m d x' % 18446744073709551616)))]))))))) ∧ ((x' : Nat) < x))) := by
 obtain ⟨k, rfl⟩ : ∃ k, x = k + 1 := ⟨x - 1, by omega⟩
 have hs := Zdf (m := m) k hd
 rw [Nat.add_sub_cancel] at hb
 rw [← hb] at hs
 have b0 : 0 ≤ b ∧ b ≤ 1 := by omega
 have hr := ov_r (m := m) (k + 1) hd
 have hq := ov_q (k + 1) hx hm hm1 hd
 have e1 : bits .or .u64 (IntKind.u64.wrap (ovR m d (k + 1) * 2)) b = 2 * ovR m d (k + 1) + b := Q2d hr.1 (by omega) b0.1 b0.2
 have e2 : bits .or .u64 (IntKind.u64.wrap (ovQ m d (k + 1) / 18446744073709551616 * 2)) (ovQ m d (k + 1) % 18446744073709551616 / 9223372036854775808) = 2 * (ovQ m d (k + 1) / 18446744073709551616) + ovQ m d (k + 1) % 18446744073709551616 / 9223372036854775808 :=
   Q2d (by omega) (by omega) (by omega) (by omega)
 have e3 : bits .or .u64 (IntKind.u64.wrap (ovQ m d (k + 1) % 18446744073709551616 * 2)) 1 = (2 * (ovQ m d (k + 1) % 18446744073709551616)) % 18446744073709551616 + 1 := Zdh (by decide) (by decide)
 have e4 : IntKind.u64.wrap (ovQ m d (k + 1) % 18446744073709551616 * 2) = (2 * (ovQ m d (k + 1) % 18446744073709551616)) % 18446744073709551616 := by rw [Qbt]; omega
 have e5 : IntKind.i64.wrap (((k + 1 : Nat) : Int) - 1 - 1) = (k : Int) - 1 := by rw [Qag ⟨by omega, by omega⟩]; omega
 rw [e1, e2, e3, e4, e5]
 refine Qaf (fun g => ?_) fun g => ?_
 · have g := of_decide_eq_true g
   obtain ⟨f1, f2⟩ := hs.1 g
   refine ⟨k, ⟨Nat.le_of_succ_le hx2, ⟨Qbj ?_, rfl⟩, rfl, Nat.le_refl _, fun i _ => Qzu ?_ ?_⟩, Nat.lt_succ_self k⟩
   · rw [f2, Qdb ⟨by omega, by omega⟩]
   · rw [f1]; omega
   · rw [f1]; omega
 · have g := of_decide_eq_false g
   obtain ⟨f1, f2⟩ := hs.2 (by omega)
   refine ⟨k, ⟨Nat.le_of_succ_le hx2, ⟨Qbj f2.symm, rfl⟩, rfl, Nat.le_refl _, fun i _ => Qzu ?_ ?_⟩, Nat.lt_succ_self k⟩
   · rw [f1]; omega
   · rw [f1]; omega
theorem Q4f : Qai Tryz.prog 299 Zcp := Qan hm Qas Tryz.func299 (Λ := fun args => match args with | [.agg [.v (.bool n), .v (.int .u64 hi), .v (.int .u64 lo)], .v (.int .u64 d)] => Q8x n (MM lo hi) d | _ => Qax) fun args p x h hp => by
 unfold Zcp at h
 split at h <;> try (cases h; done)
 rename_i n hi lo d
 cases h
 obtain ⟨h1, h2, h3, h4⟩ := hp _ rfl
 refine ⟨rfl, rfl, ?_⟩
 refine Eq.mpr (Zgh n hi lo d _ _ _) ?_
 have m0 := Qj8 h1 h2
 have m1 := Zep h1 h2
 have hM : MM lo hi = lo + hi * 18446744073709551616 := by unfold MM; omega
 refine ⟨⟨128, ⟨Nat.le_refl _, ⟨Qbj ?_, rfl⟩, rfl, Nat.le_refl _, fun i _ => Qzu ?_ ?_⟩⟩, fun x hx => ?_⟩
 · have e : MM lo hi / 2 ^ 128 = 0 := Int.ediv_eq_zero_of_lt m0 m1
   unfold ovR; rw [e]; simp
 · have e : MM lo hi / 2 ^ 128 = 0 := Int.ediv_eq_zero_of_lt m0 m1
   unfold ovQ; rw [e]; simp
 · have e : MM lo hi / 2 ^ 128 = 0 := Int.ediv_eq_zero_of_lt m0 m1
   unfold ovQ; rw [e]; simp
 · have hx : x ≤ 128 := hx
   refine Qaf (fun g => ?_) fun g => ?_
   · have g := of_decide_eq_true g
     have e1 : IntKind.u64.wrap ((x : Int) - 1) = (x : Int) - 1 := Qdb ⟨by omega, by omega⟩
     rw [e1]
     refine ⟨by omega, Qaf (fun g' => ?_) fun g' => ?_⟩
     · have g' := of_decide_eq_true g'
       have e2 : IntKind.i64.wrap ((x : Int) - 1 - 64) = ((x - 65 : Nat) : Int) := by rw [Qag ⟨by omega, by omega⟩]; omega
       have e3 : IntKind.u64.wrap ((x - 65 : Nat) : Int) = ((x - 65 : Nat) : Int) := Qdb ⟨by omega, by omega⟩
       rw [e2, e3, Int.toNat_natCast, Nat.min_eq_left (by omega)]
       have hu : U64 (hi / 2 ^ (x - 65)) := ⟨Int.ediv_nonneg h2.1 (Int.le_of_lt (Qjs _)), by have := Int.ediv_le_self (2 ^ (x - 65)) h2.1; have := h2.2; omega⟩
       rw [Q3n hu]
       refine ⟨by omega, Qv9 n (by omega) hx m0 m1 h3 h4 ?_⟩
       have e4 : MM lo hi / 2 ^ (x - 1) = hi / 2 ^ (x - 65) := by
         rw [show x - 1 = 64 + (x - 65) by omega, Int.pow_add, ← Int.ediv_ediv_of_nonneg (by decide)]
         have : MM lo hi / 2 ^ 64 = hi := Zmi h1
         rw [this]
       rw [e4]
     · have g' := of_decide_eq_false g'
       have e3 : Int.toNat ((x : Int) - 1) = x - 1 := by omega
       rw [e3, Nat.min_eq_left (by omega)]
       have hu : U64 (lo / 2 ^ (x - 1)) := ⟨Int.ediv_nonneg h1.1 (Int.le_of_lt (Qjs _)), by have := Int.ediv_le_self (2 ^ (x - 1)) h1.1; have := h1.2; omega⟩
       rw [Q3n hu]
       refine Qv9 n (by omega) hx m0 m1 h3 h4 ?_
       have e4 : MM lo hi = lo + (hi * 2 ^ (64 - x) * 2) * 2 ^ (x - 1) := by
         have : (2 : Int) ^ (64 - x) * 2 * 2 ^ (x - 1) = 18446744073709551616 := by
           rw [← Int.pow_succ, ← Int.pow_add, show 64 - x + 1 + (x - 1) = 64 by omega]
           rfl
         rw [hM, ← this]
         simp only [Int.mul_assoc]
       rw [e4, Int.add_mul_ediv_right _ _ (Int.ne_of_gt (Qjs _)), Int.add_mul_emod_self_right]
   · have g := of_decide_eq_false g
     have e : x = 0 := by omega
     subst e
     unfold ovQ
     have e : MM lo hi / 2 ^ 0 = MM lo hi := by rw [Int.pow_zero, Int.ediv_one]
     rw [e]
     rfl
theorem Q2g (a : Int) : IntKind.i64.wrap (Qec a 0 * 9223372036854775807) = Qna a := by
 unfold Qna Qec
 by_cases h : a < 0
 · rw [if_pos h, if_neg (by omega), if_pos h]; rfl
 · by_cases h' : 0 < a
   · rw [if_neg h, if_pos h', if_pos h']; rfl
   · rw [if_neg h, if_neg h', if_neg (by omega), if_neg h]; rfl
theorem Q1y (a b : Int) : sv (!(decide (a < 0) == decide (b < 0))) (Qac a * 4294967296 / Qac b) = Q6w a b := by
 unfold Q6w
 have h : 0 ≤ Qac a * 4294967296 := by have := Qbk a; omega
 rw [← Int.tdiv_eq_ediv_of_nonneg h]
 unfold sv
 by_cases ha : a < 0 <;> by_cases hb : b < 0
 · rw [Qen ha, Qen hb]; simp [ha, hb, Int.neg_tdiv, Int.tdiv_neg, Int.neg_mul]
 · rw [Qen ha, Qd6 hb]; simp [ha, hb, Int.neg_tdiv, Int.neg_mul]
 · rw [Qd6 ha, Qen hb]; simp [ha, hb, Int.tdiv_neg]
 · rw [Qd6 ha, Qd6 hb]; simp [ha, hb]
theorem Qzf : ∀ f g, Zj4 f = some g → g.ok Tryz.prog f := Qab Qc5 (Qak Tryz.func67 (by kernel_rfl) (by kernel_rfl) Qy1)
theorem Q6f {X d : Int} (h0 : 0 ≤ X) (hd : 0 < d) : MM (MM (X % 18446744073709551616) (X / 18446744073709551616 % d) / d) (X / 18446744073709551616 / d) = X / d ∧ U64 (MM (X % 18446744073709551616) (X / 18446744073709551616 % d) / d) := by
 have q0 : 0 ≤ X / 18446744073709551616 := by omega
 have hr0 : 0 ≤ X / 18446744073709551616 % d := Int.emod_nonneg _ (by omega)
 have hr1 : X / 18446744073709551616 % d < d := Int.emod_lt_of_pos _ hd
 have hq := Int.mul_ediv_add_emod (X / 18446744073709551616) d
 have hX : X = X / 18446744073709551616 * 18446744073709551616 + X % 18446744073709551616 := by omega
 have hl : 0 ≤ X % 18446744073709551616 ∧ X % 18446744073709551616 < 18446744073709551616 := by omega
 generalize X / 18446744073709551616 = Y at *
 generalize X % 18446744073709551616 = l at *
 generalize Y / d = q at *
 generalize Y % d = r at *
 have e : MM l r = r * 18446744073709551616 + l := by unfold MM; omega
 rw [e]
 refine ⟨?_, Int.ediv_nonneg (by omega) (by omega), Int.ediv_lt_of_lt_mul hd (by omega)⟩
 have e2 : X = (r * 18446744073709551616 + l) + d * (q * 18446744073709551616) := by rw [← Int.mul_assoc]; omega
 rw [e2, Int.add_mul_ediv_left _ _ (by omega)]
 unfold MM; omega
theorem Qlb : Qai Tryz.prog 9 Qos := Qan hm Qzf Tryz.func9 (Λ := fun _ => Qax) fun args p x h hp => by
 unfold Qos at h
 split at h <;> try (cases h; done)
 rename_i a b
 cases h
 obtain ⟨h1, h2⟩ := hp _ rfl
 refine ⟨rfl, rfl, ?_⟩
 refine Eq.mpr (Zbb a b _) ?_
 refine Qaf (fun g => ?_) fun g => ?_
 · have g : b = 0 := by simpa using g
   unfold Qc4 Qjg
   rw [if_pos g, if_pos g, Q2g]; rfl
 · have g : b ≠ 0 := by simpa using g
   unfold Qc4 Qjg
   rw [if_neg g, if_neg g]
   have ua := Qdh h1
   have ub := Qdh h2
   have la := Qfu h1
   have hb : 0 < Qac b := by unfold Qac; split <;> omega
   have hs := Q1y a b
   rw [Zaa]
   obtain ⟨ua0, ua1⟩ := ua
   generalize hX : Qac a * 4294967296 = X at *
   have X0 : 0 ≤ X := by omega
   have hY0 : 0 ≤ X / 18446744073709551616 := by omega
   obtain ⟨t1, t2⟩ := Q6f X0 hb
   rw [Int.tdiv_eq_ediv_of_nonneg hY0, Int.tmod_eq_emod_of_nonneg hY0]
   have hr0 : 0 ≤ X / 18446744073709551616 % Qac b := Int.emod_nonneg _ (by omega)
   have hr1 : X / 18446744073709551616 % Qac b < Qac b := Int.emod_lt_of_pos _ hb
   have hq0 : 0 ≤ X / 18446744073709551616 / Qac b := Int.ediv_nonneg hY0 ub.1
   have hq1 : X / 18446744073709551616 / Qac b ≤ X / 18446744073709551616 := Int.ediv_le_self _ hY0
   have uq : U64 (X / 18446744073709551616 / Qac b) := ⟨hq0, by omega⟩
   rw [Qdb uq, t1]
   have x0 : 0 ≤ X / Qac b := Int.ediv_nonneg X0 ub.1
   refine ⟨h1, ⟨⟨ua0, ua1⟩, ⟨by omega, by omega⟩, by omega⟩, h2, by omega, by omega, ⟨⟨hr0, by have := ub.2; omega⟩, Qb1 _, ub, hr1⟩, ⟨t2, uq⟩, ?_⟩
   rw [Qg3 _ x0, Qg4 (!(decide (a < 0) == decide (b < 0))) _ x0, hs]; rfl
theorem Zaj : ∀ f g, ΓY1 f = some g → g.ok Tryz.prog f := Qab Qc5 (Qak Tryz.func299 (by kernel_rfl) (by kernel_rfl) Q4f)
theorem Qn4 : Qai Tryz.prog 220 Qos := Qan hm Zaj Tryz.func220 (Λ := fun _ => Qax) fun args p x h hp => by
 unfold Qos at h
 split at h <;> try (cases h; done)
 rename_i a b
 cases h
 obtain ⟨h1, h2⟩ := hp _ rfl
 refine ⟨rfl, rfl, ?_⟩
 refine Eq.mpr (Q5v a b _) ?_
 refine Qaf (fun g => ?_) fun g => ?_
 · have g : b = 0 := by simpa using g
   unfold Qc4 Qjg
   rw [if_pos g, if_pos g]; rfl
 · have g : b ≠ 0 := by simpa using g
   unfold Qc4 Qjg
   rw [if_neg g, if_neg g]
   have ua := Qdh h1
   have ub := Qdh h2
   have la := Qfu h1
   have lb := Qfu h2
   have hb : 0 < Qac b := by unfold Qac; split <;> omega
   have hs := Q1y a b
   obtain ⟨ua0, ua1⟩ := ua
   rw [Zaa, Qc9, Qc9]
   generalize hX : Qac a * 4294967296 = X at *
   have X0 : 0 ≤ X := by omega
   have x0 : 0 ≤ X / Qac b := Int.ediv_nonneg X0 ub.1
   have x1 : X / Qac b ≤ X := Int.ediv_le_self _ X0
   refine ⟨h1, ⟨⟨ua0, ua1⟩, ⟨by omega, by omega⟩, by omega⟩, h2, ⟨Qb1 _, Qci X0 (by omega), hb, lb⟩, ⟨Qb1 _, Qci x0 (by omega)⟩, ?_⟩
   rw [Qg3 _ x0, Qg4 (!(decide (a < 0) == decide (b < 0))) _ x0, hs]; rfl
theorem Qpq : ∀ f g, Zfg f = some g → g.ok Tryz.prog f := Qab (Qab (Qab Qc5 (Qak Tryz.func9 (by kernel_rfl) (by kernel_rfl) Qlb)) (Qak Tryz.func220 (by kernel_rfl) (by kernel_rfl) Qn4)) (Qc0 Tryz.func78 (by kernel_rfl) (by kernel_rfl) Qpl)
theorem Qxb : Qai Tryz.prog 156 Ze2 := Qan hm Qpq Tryz.func156 (Λ := fun _ => Qax) fun args p x h hp => by
 unfold Ze2 at h
 split at h <;> try (cases h; done)
 rename_i v f u g
 cases h
 obtain ⟨h1, h2⟩ := hp _ rfl
 refine ⟨rfl, rfl, ?_⟩
 refine Eq.mpr (Zk6 v f u g _) ?_
 refine ⟨⟨Qb5 h1, Qb5 h2⟩, Qaf (fun hf => Qbu rfl ?_) fun hf => ⟨⟨⟨trivial, trivial, trivial⟩, rfl, by decide⟩, Qbu rfl ?_⟩⟩
 · rw [hf, Bool.true_or]
 · rw [hf, Bool.false_or]; simp [Qro, Qe5]
theorem Qs1 : Qai Tryz.prog 219 Ze2 := Qan hm Qpq Tryz.func219 (Λ := fun _ => Qax) fun args p x h hp => by
 unfold Ze2 at h
 split at h <;> try (cases h; done)
 rename_i v f u g
 cases h
 obtain ⟨h1, h2⟩ := hp _ rfl
 refine ⟨rfl, rfl, ?_⟩
 refine Eq.mpr (Zga v f u g _) ?_
 refine Qaf (fun hz => ?_) fun hz => ?_
 · have hz : Qaa u = 0 := by simpa using hz
   unfold Qc4 Qjg
   rw [if_pos hz, if_pos hz, Bool.true_or]; rfl
 · refine ⟨⟨Qb5 h1, Qb5 h2⟩, Qaf (fun hf => Qbu rfl ?_) fun hf => Qaf (fun hg => Qbu rfl ?_) fun hg => Qbu rfl ?_⟩
   · rw [hf, Bool.true_or]
   · rw [hg, Bool.true_or, Bool.or_true]
   · rw [hf, hg, Bool.false_or, Bool.false_or]
theorem Qw8 : Qai Tryz.prog 16 Ze0 := Qan hm Qpq Tryz.func16 (Λ := fun _ => Qax) fun args p x h hp => by
 unfold Ze0 at h
 split at h <;> try (cases h; done)
 rename_i v f u g
 cases h
 obtain ⟨h1, h2⟩ := hp _ rfl
 have h1 := Qb5 h1
 have h2 := Qb5 h2
 refine ⟨rfl, rfl, ?_⟩
 refine Eq.mpr (Zkw v f u g _) ?_
 rw [Qc9, Qc9]
 have l1 := Qcf h1 h2
 have n1 := Qcq (a := Qaa v) (b := Qaa u)
 have s1 := Qgo (Qaa v) (Qaa u)
 generalize Qac (Qaa v) * Qac (Qaa u) = m at *
 have e : sv (!(decide (Qaa v < 0) == decide (Qaa u < 0))) (m / 4294967296) = Qa2 (Qaa v) (Qaa u) := by rw [Qpx _ n1, s1]; rfl
 refine ⟨⟨h1, h2⟩, ⟨Qb1 _, Qci n1 (by omega)⟩, ⟨⟨trivial, trivial, trivial⟩, rfl, by decide⟩, ⟨Qb1 _, Qci (by omega) (by omega)⟩, Qbu ?_ ?_⟩
 · rw [Qg3 _ (by omega), e]
 · rw [Qg4 (!(decide (Qaa v < 0) == decide (Qaa u < 0))) _ (by omega), e]
   simp [Qro, Qe5]
theorem Q8s : Qai Tryz.prog 98 Zhi := Qan hm Qpq Tryz.func98 (Λ := fun _ => Qax) fun args p x h hp => by
 unfold Zhi at h
 split at h <;> try (cases h; done)
 rename_i v f
 cases h
 have h1 := hp _ rfl
 refine ⟨rfl, rfl, ?_⟩
 refine Eq.mpr (Zlc v f _) ?_
 refine Qbu ?_ rfl
 rw [Ql2 h1]
 unfold Qac; split <;> omega
def nrB (e n : Nat) (v : Nat → Int) (f : Nat → Bool) : Blk := { elem := e, size := 2, rw := false, lock := false, lit := false, flat := true, n, row := Qeg v f, ext := 0 }
def Zjr (S : Blk) : Bool := S.flat && !S.rw && !S.dead && Nat.beq S.size 2 && Nat.beq S.ext 0 && !S.whole
def iB (n : Nat) (g : Nat → Int) : Blk := { elem := 2, size := 1, rw := true, lock := false, lit := false, flat := true, n, row := fun i => [.v (.int .i64 (g i))] }
def Qp8 (args : List SV) (bs : List Blk) : Option Eff := match args, bs with
 | [.sl 0 2 0 n _], [S] => bif Zjr S then some (.det (some (Qcc isN (Qal n S.row) ∧ S.n = n ∧ n < 1099511627776)) (.tup [.sl 1000 1 0 n n, .v (.bool (Qfj (Qal n S.row)))]) [(1000, iB n fun i => Qaa (Qcb (S.row i)))]) else none
 | _, _ => none
def Qsn (o a : Int) : List (List SV) → Int
 | [] => a
 | r :: t => Qsn o (if Qec (Qn8 r) a * o < 0 then Qn8 r else a) t
def Zlx : List SV → List Ro → Option (Option Prop × SV)
 | [.v (.int .i64 o), .v (.int .i64 a), .sl 0 1 0 n _], [⟨1, n', row⟩] => some (some (Qcc isI (Qal n' row) ∧ n' = n ∧ n < 1099511627776 ∧ -1 ≤ o ∧ o ≤ 1), .v (.int .i64 (Qsn o a (Qal n row))))
 | _, _ => none
def Qo7 (o a : Int) : List (List SV) → Int
 | [] => a
 | r :: t => Qo7 o (if Qec (Qaa (Qcb r)) a * o < 0 then Qaa (Qcb r) else a) t
def Qfh (o : Int) : List (List SV) → Int
 | [] => 0
 | r :: t => Qo7 o (Qaa (Qcb r)) t
def Zcr : List SV → List Ro → Option (Option Prop × SV)
 | [.v (.int .i64 o), .sl 0 2 0 n _], [⟨2, n', row⟩] => some (some (Qcc isN (Qal n' row) ∧ n' = n ∧ n < 1099511627776 ∧ -1 ≤ o ∧ o ≤ 1), Qcr (Qfh o (Qal n row)) (Qfj (Qal n row)))
 | _, _ => none
def Qe1 (o : Int) : List SV → List Ro → Option (Option Prop × SV)
 | [.sl 0 2 0 n _], [⟨2, n', row⟩] => some (some (Qcc isN (Qal n' row) ∧ n' = n ∧ n < 1099511627776), Qcr (Qfh o (Qal n row)) (Qfj (Qal n row)))
 | _, _ => none
def Qkz : List SV → Prop
 | [.v (.int .i64 a), .v (.bool _)] => I64 a
 | _ => False
def Qgg : List (List SV) → Int
 | [] => 0
 | r :: t => Qaa (Qcb r) + Qgg t
def Q9a : List SV → List Ro → Option (Option Prop × SV)
 | [.sl 0 2 0 n _], [⟨2, n', row⟩] => some (some (Qcc Qkz (Qal n' row) ∧ n' = n ∧ n < 1099511627776), Qcr (Qar (Qgg (Qal n row))) (Qcy (Qgg (Qal n row)) (Qfj (Qal n row))))
 | _, _ => none
noncomputable def Qvi (n : Nat) (g : Nat → Int) (fl : Nat → Bool) : Nat → Option LoopSpec := Qx6 (Qb9 Qax Tryz.f151 0 Nat (fun k => k ≤ n) (fun k => n - k) [(13, fun k => .v (.int .i64 k)), (5, fun k => .v (.bool (fl k)))] [(96, fun k => iB n fun i => if i < k then g i else 0)]) 6 [(10, fun _ => 96)]
theorem Q5n (e n c : Nat) (v g : Nat→Int) (f fl : Nat→Bool) (b : Bool) : (Qcm Tryz.prog ΓC (Qvi n g fl) Tryz.f151 [.sl 0 2 0 n c] (Qa1 [nrB e n v f]) 64 (fun y h' => Qj9 [nrB e n v f] (.det none (.tup [.sl 1000 1 0 n n,.v (.bool b)]) [(1000,iB n g)]) y h')) =
((((0 : Int) ≤ ((↑n : Int)))∧(((((↑n : Int)) : Int) ≤ ((↑n : Int)))∧(((8 * (↑n : Int)) : Int) ≤ 140737488355328)))∧((∃ x : Nat,((Nat.le x n)∧((((SV.v (.int .i64 0)) = (SV.v (.int .i64 ((↑x : Int)))))∧((SV.v (.bool false)) = (SV.v (.bool (fl x)))))∧((((Int.toNat (↑n : Int)) : Nat) = n)∧(((n : Nat) ≤ (Int.toNat (↑n : Int)))∧(∀ i : Nat,(((i : Nat) < n)→([(SV.v (.int .i64 0))] = [(SV.v (.int .i64 (if i < x then g i else 0)))]))))))))∧(∀ x : Nat,((Nat.le x n)→(sel (decide ((↑x : Int) < (↑n : Int))) ((((0 : Int) ≤ ((↑x : Int)))∧((((↑x : Int)) : Int) < ((↑n : Int))))∧(sel (fl x) ((((0 : Int) ≤ ((↑x : Int)))∧((((↑x : Int)) : Int) < ((↑(Int.toNat (↑n : Int)) : Int))))∧(∃ x' : Nat,(((Nat.le x' n)∧((((SV.v (.int .i64 (IntKind.wrap IntKind.i64 ((↑x : Int) + 1)))) = (SV.v (.int .i64 ((↑x' : Int)))))∧((SV.v (.bool true)) = (SV.v (.bool (fl x')))))∧(((n : Nat) = n)∧(((n : Nat) ≤ n)∧(∀ i : Nat,(((i : Nat) < n)→([(SV.v (.int .i64 (bop (Nat.beq i (0 + Int.toNat (↑x : Int))) (Qaa (v (0 + Int.toNat (↑x : Int)))) (if i < x then g i else 0))))] = [(SV.v (.int .i64 (if i < x' then g i else 0)))])))))))∧(((n - x') : Nat) < (n - x))))) ((((0 : Int) ≤ ((↑x : Int)))∧((((↑x : Int)) : Int) < ((↑(Int.toNat (↑n : Int)) : Int))))∧(∃ x' : Nat,(((Nat.le x' n)∧((((SV.v (.int .i64 (IntKind.wrap IntKind.i64 ((↑x : Int) + 1)))) = (SV.v (.int .i64 ((↑x' : Int)))))∧((SV.v (.bool (Qav (v (0 + Int.toNat (↑x : Int))) (f (0 + Int.toNat (↑x : Int)))))) = (SV.v (.bool (fl x')))))∧(((n : Nat) = n)∧(((n : Nat) ≤ n)∧(∀ i : Nat,(((i : Nat) < n)→([(SV.v (.int .i64 (bop (Nat.beq i (0 + Int.toNat (↑x : Int))) (Qaa (v (0 + Int.toNat (↑x : Int)))) (if i < x then g i else 0))))] = [(SV.v (.int .i64 (if i < x' then g i else 0)))])))))))∧(((n - x') : Nat) < (n - x))))))) ((((SV.sl 96 1 0 (Int.toNat (↑n : Int)) (Int.toNat (↑n : Int))) = (SV.sl 96 1 0 n n))∧((SV.v (.bool (fl x))) = (SV.v (.bool b))))∧(((n : Nat) = n)∧(((n : Nat) ≤ n)∧(∀ i : Nat,(((i : Nat) < n)→([(SV.v (.int .i64 (if i < x then g i else 0)))] = [(SV.v (.int .i64 (g i)))]))))))))))) := by kernel_rfl
structure KI where
 k : Nat
 a : Int
noncomputable def Zae (n : Nat) (o a : Int) (row : Nat → List SV) : Nat → Option LoopSpec := Qb9 Qax Tryz.f291 0 KI (fun x => x.k ≤ n ∧ Qsn o x.a (Qal (n - x.k) fun i => row (x.k + i)) = Qsn o a (Qal n row)) (fun x => n - x.k) [(11, fun x => .v (.int .i64 x.k)), (1, fun x => .v (.int .i64 x.a))] []
theorem Zk4 (o a : Int) (n n' c : Nat) (g : Nat→Int) (R : SV→Prop) : (Qcm Tryz.prog ΓC (Zae n o a fun i => [.v (.int .i64 (g i))]) Tryz.f291 [.v (.int .i64 o),.v (.int .i64 a),.sl 0 1 0 n c] (Qbe [⟨1,n',fun i => [.v (.int .i64 (g i))]⟩]) 64 (fun y _ => R y)) =
((∃ x : KI,(((((KI.k x) : Nat) ≤ n)∧(((Qsn o (KI.a x) (Qal (n - KI.k x) fun i => [SV.v (.int .i64 (g (KI.k x + i)))])) : Int) = (Qsn o a (Qal n fun i => [SV.v (.int .i64 (g i))]))))∧((((SV.v (.int .i64 0)) = (SV.v (.int .i64 ((↑(KI.k x) : Int)))))∧((SV.v (.int .i64 a)) = (SV.v (.int .i64 (KI.a x)))))∧True)))∧(∀ x : KI,(((((KI.k x) : Nat) ≤ n)∧(((Qsn o (KI.a x) (Qal (n - KI.k x) fun i => [SV.v (.int .i64 (g (KI.k x + i)))])) : Int) = (Qsn o a (Qal n fun i => [SV.v (.int .i64 (g i))]))))→(sel (decide ((↑(KI.k x) : Int) < (↑n : Int))) ((((0 : Int) ≤ ((↑(KI.k x) : Int)))∧((((↑(KI.k x) : Int)) : Int) < ((↑n : Int))))∧(sel (decide (IntKind.wrap IntKind.i64 (Qec (g (0 + Int.toNat (↑(KI.k x) : Int))) (KI.a x) * o) < 0)) (∃ x' : KI,((((((KI.k x') : Nat) ≤ n)∧(((Qsn o (KI.a x') (Qal (n - KI.k x') fun i => [SV.v (.int .i64 (g (KI.k x' + i)))])) : Int) = (Qsn o a (Qal n fun i => [SV.v (.int .i64 (g i))]))))∧((((SV.v (.int .i64 (IntKind.wrap IntKind.i64 ((↑(KI.k x) : Int) + 1)))) = (SV.v (.int .i64 ((↑(KI.k x') : Int)))))∧((SV.v (.int .i64 (g (0 + Int.toNat (↑(KI.k x) : Int))))) = (SV.v (.int .i64 (KI.a x')))))∧True))∧(((n - KI.k x') : Nat) < (n - KI.k x)))) (∃ x' : KI,((((((KI.k x') : Nat) ≤ n)∧(((Qsn o (KI.a x') (Qal (n - KI.k x') fun i => [SV.v (.int .i64 (g (KI.k x' + i)))])) : Int) = (Qsn o a (Qal n fun i => [SV.v (.int .i64 (g i))]))))∧((((SV.v (.int .i64 (IntKind.wrap IntKind.i64 ((↑(KI.k x) : Int) + 1)))) = (SV.v (.int .i64 ((↑(KI.k x') : Int)))))∧((SV.v (.int .i64 (KI.a x))) = (SV.v (.int .i64 (KI.a x')))))∧True))∧(((n - KI.k x') : Nat) < (n - KI.k x)))))) (R (SV.v (.int .i64 (KI.a x)))))))) := by kernel_rfl
def ΓZ0 : Qb7 := Qah (Qah ΓC 151 (Qgv false Qp8)) 291 (Qcv Zlx)
theorem Zgk (o : Int) (n n' c : Nat) (v : Nat→Int) (f : Nat→Bool) (R : SV→Prop) : (Qcm Tryz.prog ΓZ0 Qax Tryz.f213 [.v (.int .i64 o),.sl 0 2 0 n c] (Qbe [⟨2,n',Qeg v f⟩]) 64 (fun y _ => R y)) =
(sel ((↑n : Int) == 0) (R (SV.agg [(SV.v (.int .i64 0)),(SV.v (.bool false))])) (((Qcc isN (Qal n fun y => [SV.v (.int .i64 (v (0 + y))),SV.v (.bool (f (0 + y)))]))∧(((n : Nat) = n)∧((n : Nat) < 1099511627776)))∧((((0 : Int) ≤ 0)∧((0 : Int) < ((↑n : Int))))∧((((0 : Int) ≤ 1)∧(((1 : Int) ≤ (Option.getD none (↑n : Int)))∧((((Option.getD none (↑n : Int)) : Int) ≤ ((↑n : Int)))∧((n : Nat) ≤ n))))∧(((Qcc isI (Qal (Int.toNat (Option.getD none (↑n : Int)) - 1) fun y => [SV.v (.int .i64 ((fun i => Qaa (Qcb [SV.v (.int .i64 (v (0 + i))),SV.v (.bool (f (0 + i)))])) (1 + y)))]))∧((((Int.toNat (Option.getD none (↑n : Int)) - 1) : Nat) = (Int.toNat (Option.getD none (↑n : Int)) - 1))∧((((Int.toNat (Option.getD none (↑n : Int)) - 1) : Nat) < 1099511627776)∧((((-1) : Int) ≤ o)∧((o : Int) ≤ 1)))))∧(R (SV.agg [(SV.v (.int .i64 (Qsn o (Qaa (Qcb [SV.v (.int .i64 (v 0)),SV.v (.bool (f 0))])) (Qal (Int.toNat (Option.getD none (↑n : Int)) - 1) fun y => [SV.v (.int .i64 ((fun i => Qaa (Qcb [SV.v (.int .i64 (v (0 + i))),SV.v (.bool (f (0 + i)))])) (1 + y)))])))),(SV.v (.bool (Qfj (Qal n fun y => [SV.v (.int .i64 (v (0 + y))),SV.v (.bool (f (0 + y)))]))))]))))))) := by kernel_rfl
noncomputable def Zjd (n : Nat) (fn : Func) (o : Int) (row : Nat → List SV) : Nat → Option LoopSpec := Qb9 Qax fn 0 KI (fun x => (1 ≤ x.k ∧ x.k ≤ n) ∧ Qo7 o x.a (Qal (n - x.k) fun i => row (x.k + i)) = Qfh o (Qal n row)) (fun x => n - x.k) [(5, fun x => .v (.int .i64 x.k)), (3, fun x => .v (.int .i64 x.a))] []
def Zff : Qb7 := Qah (Qah ΓC 213 (Qcv Zcr)) 326 (Qcv Ql5)
theorem Zf5 (o : Int) (n n' c : Nat) (v : Nat→Int) (f : Nat→Bool) (R : SV→Prop) : (Qcm Tryz.prog Zff (Zjd n Tryz.f307 o (Qeg v f)) Tryz.f307 [.sl 0 2 0 n c] (Qbe [⟨2,n',Qeg v f⟩]) 64 (fun y _ => R y)) =
(sel ((↑n : Int) == 0) (R (SV.agg [(SV.v (.int .i64 0)),(SV.v (.bool false))])) ((((0 : Int) ≤ 0)∧((0 : Int) < ((↑n : Int))))∧((∃ x : KI,(((((1 : Nat) ≤ (KI.k x))∧(((KI.k x) : Nat) ≤ n))∧(((Qo7 o (KI.a x) (Qal (n - KI.k x) fun i => [SV.v (.int .i64 (v (KI.k x + i))),SV.v (.bool (f (KI.k x + i)))])) : Int) = (Qfh o (Qal n fun i => [SV.v (.int .i64 (v i)),SV.v (.bool (f i))]))))∧((((SV.v (.int .i64 1)) = (SV.v (.int .i64 ((↑(KI.k x) : Int)))))∧((SV.v (.int .i64 (Qaa (v 0)))) = (SV.v (.int .i64 (KI.a x)))))∧True)))∧(∀ x : KI,(((((1 : Nat) ≤ (KI.k x))∧(((KI.k x) : Nat) ≤ n))∧(((Qo7 o (KI.a x) (Qal (n - KI.k x) fun i => [SV.v (.int .i64 (v (KI.k x + i))),SV.v (.bool (f (KI.k x + i)))])) : Int) = (Qfh o (Qal n fun i => [SV.v (.int .i64 (v i)),SV.v (.bool (f i))]))))→(sel (decide ((↑(KI.k x) : Int) < (↑n : Int))) ((((0 : Int) ≤ ((↑(KI.k x) : Int)))∧((((↑(KI.k x) : Int)) : Int) < ((↑n : Int))))∧(sel (decide (Qaa (v (0 + Int.toNat (↑(KI.k x) : Int))) < KI.a x)) (∃ x' : KI,((((((1 : Nat) ≤ (KI.k x'))∧(((KI.k x') : Nat) ≤ n))∧(((Qo7 o (KI.a x') (Qal (n - KI.k x') fun i => [SV.v (.int .i64 (v (KI.k x' + i))),SV.v (.bool (f (KI.k x' + i)))])) : Int) = (Qfh o (Qal n fun i => [SV.v (.int .i64 (v i)),SV.v (.bool (f i))]))))∧((((SV.v (.int .i64 (IntKind.wrap IntKind.i64 ((↑(KI.k x) : Int) + 1)))) = (SV.v (.int .i64 ((↑(KI.k x') : Int)))))∧((SV.v (.int .i64 (Qaa (v (0 + Int.toNat (↑(KI.k x) : Int)))))) = (SV.v (.int .i64 (KI.a x')))))∧True))∧(((n - KI.k x') : Nat) < (n - KI.k x)))) (∃ x' : KI,((((((1 : Nat) ≤ (KI.k x'))∧(((KI.k x') : Nat) ≤ n))∧(((Qo7 o (KI.a x') (Qal (n - KI.k x') fun i => [SV.v (.int .i64 (v (KI.k x' + i))),SV.v (.bool (f (KI.k x' + i)))])) : Int) = (Qfh o (Qal n fun i => [SV.v (.int .i64 (v i)),SV.v (.bool (f i))]))))∧((((SV.v (.int .i64 (IntKind.wrap IntKind.i64 ((↑(KI.k x) : Int) + 1)))) = (SV.v (.int .i64 ((↑(KI.k x') : Int)))))∧((SV.v (.int .i64 (KI.a x))) = (SV.v (.int .i64 (KI.a x')))))∧True))∧(((n - KI.k x') : Nat) < (n - KI.k x)))))) (((Qcc isN (Qal n fun y => [SV.v (.int .i64 (v (0 + y))),SV.v (.bool (f (0 + y)))]))∧(((n : Nat) = n)∧((n : Nat) < 4611686018427387904)))∧(R (SV.agg [(SV.v (.int .i64 (KI.a x))),(SV.v (.bool (Qfj (Qal n fun y => [SV.v (.int .i64 (v (0 + y))),SV.v (.bool (f (0 + y)))]))))]))))))))) := by kernel_rfl
theorem Zf6 (o : Int) (n n' c : Nat) (v : Nat→Int) (f : Nat→Bool) (R : SV→Prop) : (Qcm Tryz.prog Zff (Zjd n Tryz.f306 o (Qeg v f)) Tryz.f306 [.sl 0 2 0 n c] (Qbe [⟨2,n',Qeg v f⟩]) 64 (fun y _ => R y)) =
(sel ((↑n : Int) == 0) (R (SV.agg [(SV.v (.int .i64 0)),(SV.v (.bool false))])) ((((0 : Int) ≤ 0)∧((0 : Int) < ((↑n : Int))))∧((∃ x : KI,(((((1 : Nat) ≤ (KI.k x))∧(((KI.k x) : Nat) ≤ n))∧(((Qo7 o (KI.a x) (Qal (n - KI.k x) fun i => [SV.v (.int .i64 (v (KI.k x + i))),SV.v (.bool (f (KI.k x + i)))])) : Int) = (Qfh o (Qal n fun i => [SV.v (.int .i64 (v i)),SV.v (.bool (f i))]))))∧((((SV.v (.int .i64 1)) = (SV.v (.int .i64 ((↑(KI.k x) : Int)))))∧((SV.v (.int .i64 (Qaa (v 0)))) = (SV.v (.int .i64 (KI.a x)))))∧True)))∧(∀ x : KI,(((((1 : Nat) ≤ (KI.k x))∧(((KI.k x) : Nat) ≤ n))∧(((Qo7 o (KI.a x) (Qal (n - KI.k x) fun i => [SV.v (.int .i64 (v (KI.k x + i))),SV.v (.bool (f (KI.k x + i)))])) : Int) = (Qfh o (Qal n fun i => [SV.v (.int .i64 (v i)),SV.v (.bool (f i))]))))→(sel (decide ((↑(KI.k x) : Int) < (↑n : Int))) ((((0 : Int) ≤ ((↑(KI.k x) : Int)))∧((((↑(KI.k x) : Int)) : Int) < ((↑n : Int))))∧(sel (decide (Qaa (v (0 + Int.toNat (↑(KI.k x) : Int))) > KI.a x)) (∃ x' : KI,((((((1 : Nat) ≤ (KI.k x'))∧(((KI.k x') : Nat) ≤ n))∧(((Qo7 o (KI.a x') (Qal (n - KI.k x') fun i => [SV.v (.int .i64 (v (KI.k x' + i))),SV.v (.bool (f (KI.k x' + i)))])) : Int) = (Qfh o (Qal n fun i => [SV.v (.int .i64 (v i)),SV.v (.bool (f i))]))))∧((((SV.v (.int .i64 (IntKind.wrap IntKind.i64 ((↑(KI.k x) : Int) + 1)))) = (SV.v (.int .i64 ((↑(KI.k x') : Int)))))∧((SV.v (.int .i64 (Qaa (v (0 + Int.toNat (↑(KI.k x) : Int)))))) = (SV.v (.int .i64 (KI.a x')))))∧True))∧(((n - KI.k x') : Nat) < (n - KI.k x)))) (∃ x' : KI,((((((1 : Nat) ≤ (KI.k x'))∧(((KI.k x') : Nat) ≤ n))∧(((Qo7 o (KI.a x') (Qal (n - KI.k x') fun i => [SV.v (.int .i64 (v (KI.k x' + i))),SV.v (.bool (f (KI.k x' + i)))])) : Int) = (Qfh o (Qal n fun i => [SV.v (.int .i64 (v i)),SV.v (.bool (f i))]))))∧((((SV.v (.int .i64 (IntKind.wrap IntKind.i64 ((↑(KI.k x) : Int) + 1)))) = (SV.v (.int .i64 ((↑(KI.k x') : Int)))))∧((SV.v (.int .i64 (KI.a x))) = (SV.v (.int .i64 (KI.a x')))))∧True))∧(((n - KI.k x') : Nat) < (n - KI.k x)))))) (((Qcc isN (Qal n fun y => [SV.v (.int .i64 (v (0 + y))),SV.v (.bool (f (0 + y)))]))∧(((n : Nat) = n)∧((n : Nat) < 4611686018427387904)))∧(R (SV.agg [(SV.v (.int .i64 (KI.a x))),(SV.v (.bool (Qfj (Qal n fun y => [SV.v (.int .i64 (v (0 + y))),SV.v (.bool (f (0 + y)))]))))]))))))))) := by kernel_rfl
theorem Zkx (n n' c : Nat) (v : Nat→Int) (f : Nat→Bool) (R : SV→Prop) : (Qcm Tryz.prog Zff Qax Tryz.f224 [.sl 0 2 0 n c] (Qbe [⟨2,n',Qeg v f⟩]) 64 (fun y _ => R y)) = (((Qcc isN (Qal n fun y => [SV.v (.int .i64 (v (0 + y))),SV.v (.bool (f (0 + y)))]))∧(((n : Nat) = n)∧(((n : Nat) < 1099511627776)∧((((-1) : Int) ≤ 1)∧((1 : Int) ≤ 1)))))∧(R (SV.agg [(SV.v (.int .i64 (Qfh 1 (Qal n fun y => [SV.v (.int .i64 (v (0 + y))),SV.v (.bool (f (0 + y)))])))),(SV.v (.bool (Qfj (Qal n fun y => [SV.v (.int .i64 (v (0 + y))),SV.v (.bool (f (0 + y)))]))))]))):=by kernel_rfl
theorem Zky (n n' c : Nat) (v : Nat→Int) (f : Nat→Bool) (R : SV→Prop) : (Qcm Tryz.prog Zff Qax Tryz.f142 [.sl 0 2 0 n c] (Qbe [⟨2,n',Qeg v f⟩]) 64 (fun y _ => R y)) = (((Qcc isN (Qal n fun y => [SV.v (.int .i64 (v (0 + y))),SV.v (.bool (f (0 + y)))]))∧(((n : Nat) = n)∧(((n : Nat) < 1099511627776)∧((((-1) : Int) ≤ (-1))∧(((-1) : Int) ≤ 1)))))∧(R (SV.agg [(SV.v (.int .i64 (Qfh (-1) (Qal n fun y => [SV.v (.int .i64 (v (0 + y))),SV.v (.bool (f (0 + y)))])))),(SV.v (.bool (Qfj (Qal n fun y => [SV.v (.int .i64 (v (0 + y))),SV.v (.bool (f (0 + y)))]))))]))):=by kernel_rfl
structure KE where
 k : Nat
 n : Bool
 m : Int
structure invS (n : Nat) (row : Nat → List SV) (x : KE) : Prop where
 le : x.k ≤ n
 m0 : 0 ≤ x.m
 m1 : x.m ≤ 9223372036854775808 * (x.k : Int)
 sum : sv x.n x.m = Qgg (Qal x.k row)
noncomputable def Zfc (n : Nat) (row : Nat → List SV) : Nat → Option LoopSpec := Qb9 Qax Tryz.f74 0 KE (invS n row) (fun x => n - x.k) [(15, fun x => .v (.int .i64 x.k))] [(128, fun x => Qep 144 [.v (.bool x.n), .v (.int .u64 (x.m % 18446744073709551616)), .v (.int .u64 (x.m / 18446744073709551616))])]
noncomputable def Q8v (n : Nat) (row : Nat → List SV) : Nat → Option LoopSpec := Qb9 Qax Tryz.f303 0 KE (invS n row) (fun x => n - x.k) [(4, fun x => .v (.int .i64 x.k))] [(80, fun x => Qep 372 [.v (.bool x.n), .v (.int .u64 (x.m / 18446744073709551616)), .v (.int .u64 (x.m % 18446744073709551616))])]
def Zj3 : Qb7 := Qah (Qah ΓC 151 (Qgv false Qp8)) 326 (Qcv Ql5)
theorem Zkl (n n' c : Nat) (v : Nat→Int) (f : Nat→Bool) (R : SV→Prop) : (Qcm Tryz.prog Zj3 (Zfc n (Qeg v f)) Tryz.f74 [.sl 0 2 0 n c] (Qbe [⟨2,n',Qeg v f⟩]) 64 (fun y _ => R y)) =
(((Qcc isN (Qal n fun y => [SV.v (.int .i64 (v (0 + y))),SV.v (.bool (f (0 + y)))]))∧(((n : Nat) = n)∧((n : Nat) < 1099511627776)))∧((∃ x : KE,((invS n (fun i => [SV.v (.int .i64 (v i)),SV.v (.bool (f i))]) x)∧(((SV.v (.int .i64 0)) = (SV.v (.int .i64 ((↑(KE.k x) : Int)))))∧(((1 : Nat) = 1)∧(((1 : Nat) ≤ 1)∧(∀ i : Nat,(((i : Nat) < 1)→([(SV.v (.bool false)),(SV.v (.int .u64 0)),(SV.v (.int .u64 0))] = [(SV.v (.bool (KE.n x))),(SV.v (.int .u64 (KE.m x % 18446744073709551616))),(SV.v (.int .u64 (KE.m x / 18446744073709551616)))]))))))))∧(∀ x : KE,((invS n (fun i => [SV.v (.int .i64 (v i)),SV.v (.bool (f i))]) x)→(sel (decide ((↑(KE.k x) : Int) < (↑n : Int))) ((((0 : Int) ≤ ((↑(KE.k x) : Int)))∧((((↑(KE.k x) : Int)) : Int) < ((↑n : Int))))∧((I64 (Qaa (Qcb [SV.v (.int .i64 (v (0 + (0 + Int.toNat (↑(KE.k x) : Int))))),SV.v (.bool (f (0 + (0 + Int.toNat (↑(KE.k x) : Int)))))])))∧((((U64 (KE.m x % 18446744073709551616))∧(U64 (KE.m x / 18446744073709551616)))∧(((U64 (Qac (Qaa (Qcb [SV.v (.int .i64 (v (0 + (0 + Int.toNat (↑(KE.k x) : Int))))),SV.v (.bool (f (0 + (0 + Int.toNat (↑(KE.k x) : Int)))))]))))∧(U64 0))∧(((MM (KE.m x % 18446744073709551616) (KE.m x / 18446744073709551616) + MM (Qac (Qaa (Qcb [SV.v (.int .i64 (v (0 + (0 + Int.toNat (↑(KE.k x) : Int))))),SV.v (.bool (f (0 + (0 + Int.toNat (↑(KE.k x) : Int)))))]))) 0) : Int) < 340282366920938463463374607431768211456)))∧(∃ x' : KE,(((invS n (fun i => [SV.v (.int .i64 (v i)),SV.v (.bool (f i))]) x')∧(((SV.v (.int .i64 (IntKind.wrap IntKind.i64 ((↑(KE.k x) : Int) + 1)))) = (SV.v (.int .i64 ((↑(KE.k x') : Int)))))∧(((1 : Nat) = 1)∧(((1 : Nat) ≤ 1)∧(∀ i : Nat,(((i : Nat) < 1)→([(SV.v (.bool (plN (KE.n x) (MM (KE.m x % 18446744073709551616) (KE.m x / 18446744073709551616)) (decide (Qaa (Qcb [SV.v (.int .i64 (v (0 + (0 + Int.toNat (↑(KE.k x) : Int))))),SV.v (.bool (f (0 + (0 + Int.toNat (↑(KE.k x) : Int)))))]) < 0)) (MM (Qac (Qaa (Qcb [SV.v (.int .i64 (v (0 + (0 + Int.toNat (↑(KE.k x) : Int))))),SV.v (.bool (f (0 + (0 + Int.toNat (↑(KE.k x) : Int)))))]))) 0)))),(SV.v (.int .u64 (plM (KE.n x) (MM (KE.m x % 18446744073709551616) (KE.m x / 18446744073709551616)) (decide (Qaa (Qcb [SV.v (.int .i64 (v (0 + (0 + Int.toNat (↑(KE.k x) : Int))))),SV.v (.bool (f (0 + (0 + Int.toNat (↑(KE.k x) : Int)))))]) < 0)) (MM (Qac (Qaa (Qcb [SV.v (.int .i64 (v (0 + (0 + Int.toNat (↑(KE.k x) : Int))))),SV.v (.bool (f (0 + (0 + Int.toNat (↑(KE.k x) : Int)))))]))) 0) % 18446744073709551616))),(SV.v (.int .u64 (plM (KE.n x) (MM (KE.m x % 18446744073709551616) (KE.m x / 18446744073709551616)) (decide (Qaa (Qcb [SV.v (.int .i64 (v (0 + (0 + Int.toNat (↑(KE.k x) : Int))))),SV.v (.bool (f (0 + (0 + Int.toNat (↑(KE.k x) : Int)))))]) < 0)) (MM (Qac (Qaa (Qcb [SV.v (.int .i64 (v (0 + (0 + Int.toNat (↑(KE.k x) : Int))))),SV.v (.bool (f (0 + (0 + Int.toNat (↑(KE.k x) : Int)))))]))) 0) / 18446744073709551616)))] = [(SV.v (.bool (KE.n x'))),(SV.v (.int .u64 (KE.m x' % 18446744073709551616))),(SV.v (.int .u64 (KE.m x' / 18446744073709551616)))])))))))∧(((n - KE.k x') : Nat) < (n - KE.k x))))))) (((U64 (KE.m x % 18446744073709551616))∧(U64 (KE.m x / 18446744073709551616)))∧(R (SV.agg [(SV.v (.int .i64 (Qlv (KE.n x) (MM (KE.m x % 18446744073709551616) (KE.m x / 18446744073709551616))))),(SV.v (.bool (Qkc (MM (KE.m x % 18446744073709551616) (KE.m x / 18446744073709551616)) (Qfj (Qal n fun y => [SV.v (.int .i64 (v (0 + y))),SV.v (.bool (f (0 + y)))])))))])))))))) := by kernel_rfl
theorem Zf1 (n n' c : Nat) (v : Nat→Int) (f : Nat→Bool) (R : SV→Prop) : (Qcm Tryz.prog Zj3 (Q8v n (Qeg v f)) Tryz.f303 [.sl 0 2 0 n c] (Qbe [⟨2,n',Qeg v f⟩]) 64 (fun y _ => R y)) =
((∃ x : KE,((invS n (fun i => [SV.v (.int .i64 (v i)),SV.v (.bool (f i))]) x)∧(((SV.v (.int .i64 0)) = (SV.v (.int .i64 ((↑(KE.k x) : Int)))))∧(((1 : Nat) = 1)∧(((1 : Nat) ≤ 1)∧(∀ i : Nat,(((i : Nat) < 1)→([(SV.v (.bool false)),(SV.v (.int .u64 0)),(SV.v (.int .u64 0))] = [(SV.v (.bool (KE.n x))),(SV.v (.int .u64 (KE.m x / 18446744073709551616))),(SV.v (.int .u64 (KE.m x % 18446744073709551616)))]))))))))∧(∀ x : KE,((invS n (fun i => [SV.v (.int .i64 (v i)),SV.v (.bool (f i))]) x)→(sel (decide ((↑(KE.k x) : Int) < (↑n : Int))) ((((0 : Int) ≤ ((↑(KE.k x) : Int)))∧((((↑(KE.k x) : Int)) : Int) < ((↑n : Int))))∧((I64 (Qaa (v (0 + Int.toNat (↑(KE.k x) : Int)))))∧((((U64 (KE.m x % 18446744073709551616))∧(U64 (KE.m x / 18446744073709551616)))∧(((U64 (Qac (Qaa (v (0 + Int.toNat (↑(KE.k x) : Int))))))∧(U64 0))∧(((MM (KE.m x % 18446744073709551616) (KE.m x / 18446744073709551616) + MM (Qac (Qaa (v (0 + Int.toNat (↑(KE.k x) : Int))))) 0) : Int) < 340282366920938463463374607431768211456)))∧(∃ x' : KE,(((invS n (fun i => [SV.v (.int .i64 (v i)),SV.v (.bool (f i))]) x')∧(((SV.v (.int .i64 (IntKind.wrap IntKind.i64 ((↑(KE.k x) : Int) + 1)))) = (SV.v (.int .i64 ((↑(KE.k x') : Int)))))∧(((1 : Nat) = 1)∧(((1 : Nat) ≤ 1)∧(∀ i : Nat,(((i : Nat) < 1)→([(SV.v (.bool (plZ (KE.n x) (MM (KE.m x % 18446744073709551616) (KE.m x / 18446744073709551616)) (decide (Qaa (v (0 + Int.toNat (↑(KE.k x) : Int))) < 0)) (MM (Qac (Qaa (v (0 + Int.toNat (↑(KE.k x) : Int))))) 0)))),(SV.v (.int .u64 (plM (KE.n x) (MM (KE.m x % 18446744073709551616) (KE.m x / 18446744073709551616)) (decide (Qaa (v (0 + Int.toNat (↑(KE.k x) : Int))) < 0)) (MM (Qac (Qaa (v (0 + Int.toNat (↑(KE.k x) : Int))))) 0) / 18446744073709551616))),(SV.v (.int .u64 (plM (KE.n x) (MM (KE.m x % 18446744073709551616) (KE.m x / 18446744073709551616)) (decide (Qaa (v (0 + Int.toNat (↑(KE.k x) : Int))) < 0)) (MM (Qac (Qaa (v (0 + Int.toNat (↑(KE.k x) : Int))))) 0) % 18446744073709551616)))] = [(SV.v (.bool (KE.n x'))),(SV.v (.int .u64 (KE.m x' / 18446744073709551616))),(SV.v (.int .u64 (KE.m x' % 18446744073709551616)))])))))))∧(((n - KE.k x') : Nat) < (n - KE.k x))))))) (((Qcc isN (Qal n fun y => [SV.v (.int .i64 (v (0 + y))),SV.v (.bool (f (0 + y)))]))∧(((n : Nat) = n)∧((n : Nat) < 4611686018427387904)))∧(((U64 (KE.m x % 18446744073709551616))∧(U64 (KE.m x / 18446744073709551616)))∧(R (SV.agg [(SV.v (.int .i64 (Qlv (KE.n x) (MM (KE.m x % 18446744073709551616) (KE.m x / 18446744073709551616))))),(SV.v (.bool (Qkc (MM (KE.m x % 18446744073709551616) (KE.m x / 18446744073709551616)) (Qfj (Qal n fun y => [SV.v (.int .i64 (v (0 + y))),SV.v (.bool (f (0 + y)))])))))])))))))) := by kernel_rfl
theorem Qef (n : Nat) (row : Nat → List SV) : Qal (n + 1) row = row 0 :: Qal n fun i => row (i + 1) := by
 refine List.ext_getElem? fun i => ?_
 cases i with
 | zero => rw [Qgb]; simp
 | succ i => rw [Qgb, List.getElem?_cons_succ, Qgb]; simp
theorem Qi4 {n k : Nat} (h : k < n) (row : Nat → List SV) : (Qal (n - k) fun i => row (k + i)) = row k :: Qal (n - (k + 1)) fun i => row (k + 1 + i) := by
 rw [show n - k = (n - (k + 1)) + 1 by omega, Qef]
 congr 1
 exact Qdy fun i _ => by rw [show k + (i + 1) = k + 1 + i by omega]
theorem Qi3 (row : Nat → List SV) : Qal 0 row = [] := rfl
theorem Q6o {S : Blk} {m : Nat} (hS : Zjr S = true) (h1 : S.n = m) (h2 : ∀ i, i < m → isN (S.row i)) : BlkSame S (nrB S.elem m (fun i => Qcb (S.row i)) fun i => Qe5 (S.row i)) := by
 simp only [Zjr, Bool.and_eq_true, Bool.not_eq_true'] at hS
 obtain ⟨⟨⟨⟨⟨a1, a2⟩, a3⟩, a4⟩, a5⟩, a6⟩ := hS
 exact ⟨Nat.eq_of_beq_eq_true a4, a2, a1, h1, Nat.eq_of_beq_eq_true a5, a3, rfl, a6, fun i hi => Qft (h2 i (by omega))⟩
theorem Qn3 : Qex Tryz.prog 151 Qp8 := Qd7 hm Qc5 Tryz.func151 (Λ := fun args bs => match args, bs with | [.sl 0 2 0 n _], [S] => Qvi n (fun i => Qaa (Qcb (S.row i))) (fun k => Qfj (Qal k S.row)) | _, _ => Qax) fun args bs e hs hp => by
 unfold Qp8 at hs
 split at hs <;> try (cases hs; done)
 rename_i n c S
 cases hS : Zjr S with
 | false => rw [hS] at hs; cases hs
 | true =>
   rw [hS] at hs
   cases hs
   obtain ⟨p1, p2, p3⟩ := hp _ rfl
   have p1 := okAll_rows.1 p1
   refine ⟨[nrB S.elem n (fun i => Qcb (S.row i)) fun i => Qe5 (S.row i)], ⟨Q6o hS p2 p1, trivial⟩, ?_⟩
   refine Eq.mpr (Q5n S.elem n c (fun i => Qcb (S.row i)) (fun i => Qaa (Qcb (S.row i))) (fun i => Qe5 (S.row i)) (fun k => Qfj (Qal k S.row)) (Qfj (Qal n S.row))) ?_
   refine ⟨⟨by omega, by omega, by omega⟩, ⟨0, ⟨Nat.zero_le _, ⟨rfl, rfl⟩, by simp, by simp, fun i hi => by rw [if_neg (by omega)]⟩⟩, fun x hx => ?_⟩
   have hx : x ≤ n := hx
   have hsucc : Qfj (Qal (x + 1) S.row) = (Qfj (Qal x S.row) || Qav (Qcb (S.row x)) (Qe5 (S.row x))) := by rw [Qfp, Qjd]; simp [Qfj]
   refine Qaf (fun g => ?_) fun g => ?_
   · have g := of_decide_eq_true g
     have e1 : IntKind.i64.wrap ((x : Int) + 1) = ((x + 1 : Nat) : Int) := by rw [Qag ⟨by omega, by omega⟩]; omega
     have row : ∀ i, i < n → [SV.v (Value.int .i64 (bop (Nat.beq i (0 + Int.toNat (x : Int))) (Qaa (Qcb (S.row (0 + Int.toNat (x : Int))))) (if i < x then Qaa (Qcb (S.row i)) else 0)))] = [SV.v (Value.int .i64 (if i < x + 1 then Qaa (Qcb (S.row i)) else 0))] := by
       intro i hi
       rw [Int.toNat_natCast, Nat.zero_add]
       have b1 : ∀ (a b : Int), bop true a b = a := fun _ _ => rfl
       have b2 : ∀ (a b : Int), bop false a b = b := fun _ _ => rfl
       by_cases h : i = x
       · subst h
         have hb : Nat.beq i i = true := Nat.beq_eq ▸ rfl
         rw [hb, b1, if_pos (by omega)]
       · have hb : Nat.beq i x = false := by
           cases hb : Nat.beq i x with
           | false => rfl
           | true => exact absurd (Nat.eq_of_beq_eq_true hb) h
         rw [hb, b2]
         by_cases h' : i < x
         · rw [if_pos h', if_pos (by omega)]
         · rw [if_neg h', if_neg (by omega)]
     refine ⟨⟨by omega, by omega⟩, Qaf (fun hf => ?_) fun hf => ?_⟩
     · exact ⟨⟨by omega, by simp; omega⟩, x + 1, ⟨Nat.succ_le_of_lt (by omega), ⟨Qbj e1, Qdo (by rw [hsucc, hf]; rfl)⟩, rfl, Nat.le_refl _, row⟩, by omega⟩
     · refine ⟨⟨by omega, by simp; omega⟩, x + 1, ⟨Nat.succ_le_of_lt (by omega), ⟨Qbj e1, Qdo ?_⟩, rfl, Nat.le_refl _, row⟩, by omega⟩
       rw [hsucc, hf, Int.toNat_natCast, Nat.zero_add, Bool.false_or]
   · have g := of_decide_eq_false g
     have e : x = n := by omega
     subst e
     refine ⟨⟨by simp, rfl⟩, rfl, Nat.le_refl _, fun i hi => by rw [if_pos hi]⟩
theorem Q8l : Qca Tryz.prog 291 Zlx := Qbw hm Qc5 Tryz.func291 (Λ := fun args bs => match args, bs with | [.v (.int .i64 o), .v (.int .i64 a), .sl 0 1 0 n _], [⟨1, _, row⟩] => Zae n o a (fun i => [.v (.int .i64 (Qn8 (row i)))]) | _, _ => Qax) fun args bs p x h hp => by
 unfold Zlx at h
 split at h <;> try (cases h; done)
 rename_i o a n c n' row
 cases h
 obtain ⟨h1, rfl, h3, h4⟩ := hp _ rfl
 have h1 := okAll_rows.1 h1
 refine ⟨rfl, [⟨1, n', fun i => [.v (.int .i64 (Qn8 (row i)))]⟩], ⟨⟨rfl, rfl, fun i hi => Qul (h1 i hi)⟩, trivial⟩, ?_⟩
 show Qcm _ _ (Zae n' o a fun i => [.v (.int .i64 (Qn8 (row i)))]) _ _ _ _ _
 refine Eq.mpr (Zk4 o a n' n' c (fun i => Qn8 (row i)) _) ?_
 have hrow : Qal n' row = Qal n' fun i => [SV.v (Value.int .i64 (Qn8 (row i)))] := Qdy fun i hi => Qul (h1 i hi)
 rw [hrow]
 refine ⟨⟨⟨0, a⟩, ⟨Nat.zero_le _, by simp⟩, ⟨rfl, rfl⟩, trivial⟩, fun x ⟨x1, x2⟩ => ?_⟩
 refine Qaf (fun g => ?_) fun g => ?_
 · have g := of_decide_eq_true g
   have e1 : IntKind.i64.wrap ((x.k : Int) + 1) = ((x.k + 1 : Nat) : Int) := by rw [Qag ⟨by omega, by omega⟩]; omega
   have hd := Qi4 (n := n') (k := x.k) (by omega) fun i => [SV.v (Value.int .i64 (Qn8 (row i)))]
   have hc : ∀ z, -1 ≤ Qec z x.a ∧ Qec z x.a ≤ 1 := fun z => by unfold Qec; split <;> (try split) <;> omega
   have hw : ∀ z, IntKind.i64.wrap (Qec z x.a * o) = Qec z x.a * o := fun z => by
     have hz := hc z
     have h5 : Qec z x.a * o = o ∨ Qec z x.a * o = 0 ∨ Qec z x.a * o = -o := by
       have : Qec z x.a = 1 ∨ Qec z x.a = 0 ∨ Qec z x.a = -1 := by omega
       rcases this with e | e | e <;> rw [e] <;> omega
     exact Qag ⟨by omega, by omega⟩
   rw [hd] at x2
   rw [e1, Int.toNat_natCast, Nat.zero_add, hw]
   have x2' : Qsn o (if Qec (Qn8 (row x.k)) x.a * o < 0 then Qn8 (row x.k) else x.a) (Qal (n' - (x.k + 1)) fun i => [SV.v (Value.int .i64 (Qn8 (row (x.k + 1 + i))))]) = Qsn o a (Qal n' fun i => [SV.v (Value.int .i64 (Qn8 (row i)))]) := x2
   refine ⟨⟨by omega, by omega⟩, Qaf (fun hf => ?_) fun hf => ?_⟩
   · rw [if_pos (of_decide_eq_true hf)] at x2'
     exact ⟨⟨x.k + 1, Qn8 (row x.k)⟩, ⟨⟨by show x.k + 1 ≤ n'; omega, x2'⟩, ⟨rfl, rfl⟩, trivial⟩, by show n' - (x.k + 1) < _; omega⟩
   · rw [if_neg (of_decide_eq_false hf)] at x2'
     exact ⟨⟨x.k + 1, x.a⟩, ⟨⟨by show x.k + 1 ≤ n'; omega, x2'⟩, ⟨rfl, rfl⟩, trivial⟩, by show n' - (x.k + 1) < _; omega⟩
 · have g := of_decide_eq_false g
   have e : x.k = n' := by omega
   rw [e, Nat.sub_self, Qi3] at x2
   exact Qbj x2
theorem Zai : ∀ f g, ΓZ0 f = some g → g.ok Tryz.prog f := Qab (Qab Qc5 (Qhu Tryz.func151 (by kernel_rfl) (by kernel_rfl) Qn3)) (Qc0 Tryz.func291 (by kernel_rfl) (by kernel_rfl) Q8l)
theorem Q9q (o : Int) (g : Nat → List SV) : ∀ (m : Nat) (k : Nat) (a : Int), Qsn o a (Qal m fun i => [SV.v (Value.int .i64 (Qaa (Qcb (g (k + i)))))]) = Qo7 o a (Qal m fun i => g (k + i))
 | 0, _, _ => rfl
 | m + 1, k, a => by
   rw [Qef, Qef]
   show Qsn o (if Qec (Qaa (Qcb (g (k + 0)))) a * o < 0 then Qaa (Qcb (g (k + 0))) else a) _ = Qo7 o (if Qec (Qaa (Qcb (g (k + 0)))) a * o < 0 then Qaa (Qcb (g (k + 0))) else a) _
   have := Q9q o g m (k + 1) (if Qec (Qaa (Qcb (g (k + 0)))) a * o < 0 then Qaa (Qcb (g (k + 0))) else a)
   have e : ∀ i, k + 1 + i = k + (i + 1) := fun i => by omega
   simp only [e] at this
   exact this
theorem Qgp {n : Nat} {row : Nat → List SV} (h : ∀ i, i < n → isN (row i)) : Qal n row = Qal n fun i => [SV.v (Value.int .i64 (Qcb (row i))), SV.v (Value.bool (Qe5 (row i)))] := Qdy fun i hi => Qft (h i hi)
theorem Qi5 (n : Nat) (v : Nat → Int) (f : Nat → Bool) : Qcc isN (Qal n fun i => [SV.v (Value.int .i64 (v i)), SV.v (Value.bool (f i))]) := okAll_rows.2 fun _ _ => trivial
theorem Zdk (n : Nat) (v : Nat → Int) : Qcc isI (Qal n fun i => [SV.v (Value.int .i64 (v i))]) := okAll_rows.2 fun _ _ => trivial
theorem Q4i : Qca Tryz.prog 213 Zcr := Qbw hm Zai Tryz.func213 (Λ := fun _ _ => Qax) fun args bs p x h hp => by
 unfold Zcr at h
 split at h <;> try (cases h; done)
 rename_i o n c n' row
 cases h
 obtain ⟨h1, rfl, h3, h4⟩ := hp _ rfl
 have h1 := okAll_rows.1 h1
 refine ⟨rfl, [⟨2, n', Qeg (fun i => Qcb (row i)) fun i => Qe5 (row i)⟩], ⟨⟨rfl, rfl, fun i hi => Qft (h1 i hi)⟩, trivial⟩, ?_⟩
 refine Eq.mpr (Zgk o n' n' c (fun i => Qcb (row i)) (fun i => Qe5 (row i)) _) ?_
 rw [Qgp h1]
 refine Qaf (fun g => ?_) fun g => ?_
 · have g : n' = 0 := by simpa using g
   subst g
   rfl
 · have g : n' ≠ 0 := by simpa using g
   obtain ⟨m, rfl⟩ : ∃ m, n' = m + 1 := ⟨n' - 1, by omega⟩
   simp only [Option.getD_none, Int.toNat_natCast, Nat.zero_add, Nat.add_sub_cancel]
   refine ⟨⟨Qi5 _ _ _, by trivial, h3⟩, ⟨by omega, by omega⟩, ⟨by omega, by omega, by omega, Nat.le_refl _⟩, ⟨Zdk _ _, by trivial, by omega, h4⟩, Qbu ?_ rfl⟩
   rw [Qef]
   show _ = Qo7 o (Qaa (Qcb (row 0))) _
   have := Q9q o (fun i => [SV.v (Value.int .i64 (Qcb (row i))), SV.v (Value.bool (Qe5 (row i)))]) m 1 (Qaa (Qcb (row 0)))
   have e : ∀ i, 1 + i = i + 1 := fun i => by omega
   simp only [e] at this ⊢
   exact this
theorem Qpp : ∀ f g, Zff f = some g → g.ok Tryz.prog f := Qab (Qab Qc5 (Qc0 Tryz.func213 (by kernel_rfl) (by kernel_rfl) Q4i)) (Qc0 Tryz.func326 (by kernel_rfl) (by kernel_rfl) Qlt)
theorem Q8d : Qca Tryz.prog 224 (Qe1 1) := Qbw hm Qpp Tryz.func224 (Λ := fun _ _ => Qax) fun args bs p x h hp => by
 unfold Qe1 at h
 split at h <;> try (cases h; done)
 rename_i n c n' row
 cases h
 obtain ⟨h1, rfl, h3⟩ := hp _ rfl
 have h1 := okAll_rows.1 h1
 refine ⟨rfl, [⟨2, n', Qeg (fun i => Qcb (row i)) fun i => Qe5 (row i)⟩], ⟨⟨rfl, rfl, fun i hi => Qft (h1 i hi)⟩, trivial⟩, ?_⟩
 refine Eq.mpr (Zkx n' n' c (fun i => Qcb (row i)) (fun i => Qe5 (row i)) _) ?_
 rw [Qgp h1]
 exact ⟨⟨Qi5 _ _ _, rfl, h3, by decide, by decide⟩, Qbu (by simp only [Nat.zero_add]) (by simp only [Nat.zero_add])⟩
theorem Q8e : Qca Tryz.prog 142 (Qe1 (-1)) := Qbw hm Qpp Tryz.func142 (Λ := fun _ _ => Qax) fun args bs p x h hp => by
 unfold Qe1 at h
 split at h <;> try (cases h; done)
 rename_i n c n' row
 cases h
 obtain ⟨h1, rfl, h3⟩ := hp _ rfl
 have h1 := okAll_rows.1 h1
 refine ⟨rfl, [⟨2, n', Qeg (fun i => Qcb (row i)) fun i => Qe5 (row i)⟩], ⟨⟨rfl, rfl, fun i hi => Qft (h1 i hi)⟩, trivial⟩, ?_⟩
 refine Eq.mpr (Zky n' n' c (fun i => Qcb (row i)) (fun i => Qe5 (row i)) _) ?_
 rw [Qgp h1]
 exact ⟨⟨Qi5 _ _ _, rfl, h3, by decide, by decide⟩, Qbu (by simp only [Nat.zero_add]) (by simp only [Nat.zero_add])⟩
theorem Q9z (a b : Int) : (Qec a b * 1 < 0) ↔ a < b := by unfold Qec; split <;> (try split) <;> omega
theorem Q3e (a b : Int) : (Qec a b * -1 < 0) ↔ b < a := by unfold Qec; split <;> (try split) <;> omega
theorem Q35 : Qca Tryz.prog 307 (Qe1 1) := Qbw hm Qpp Tryz.func307 (Λ := fun args bs => match args, bs with | [.sl 0 2 0 n _], [⟨2, _, row⟩] => Zjd n Tryz.f307 1 (Qeg (fun i => Qcb (row i)) fun i => Qe5 (row i)) | _, _ => Qax) fun args bs p x h hp => by
 unfold Qe1 at h
 split at h <;> try (cases h; done)
 rename_i n c n' row
 cases h
 obtain ⟨h1, rfl, h3⟩ := hp _ rfl
 have h1 := okAll_rows.1 h1
 refine ⟨rfl, [⟨2, n', Qeg (fun i => Qcb (row i)) fun i => Qe5 (row i)⟩], ⟨⟨rfl, rfl, fun i hi => Qft (h1 i hi)⟩, trivial⟩, ?_⟩
 refine Eq.mpr (Zf5 1 n' n' c (fun i => Qcb (row i)) (fun i => Qe5 (row i)) _) ?_
 rw [Qgp h1]
 refine Qaf (fun g => ?_) fun g => ?_
 · have g : n' = 0 := by simpa using g
   subst g
   rfl
 · have g : n' ≠ 0 := by simpa using g
   refine ⟨⟨by omega, by omega⟩, ⟨⟨1, Qaa (Qcb (row 0))⟩, ⟨⟨Nat.le_refl 1, by show 1 ≤ n'; omega⟩, ?_⟩, ⟨rfl, rfl⟩, trivial⟩, fun x ⟨⟨x1, x2⟩, x3⟩ => ?_⟩
   · obtain ⟨m, rfl⟩ : ∃ m, n' = m + 1 := ⟨n' - 1, by omega⟩
     rw [Qef m]
     show Qo7 1 (Qaa (Qcb (row 0))) (Qal m fun i => _) = Qo7 1 (Qaa (Qcb (row 0))) _
     have e : ∀ i, 1 + i = i + 1 := fun i => by omega
     simp only [e]
   · refine Qaf (fun g => ?_) fun g => ?_
     · have g := of_decide_eq_true g
       have e1 : IntKind.i64.wrap ((x.k : Int) + 1) = ((x.k + 1 : Nat) : Int) := by rw [Qag ⟨by omega, by omega⟩]; omega
       have hd := Qi4 (n := n') (k := x.k) (by omega) fun i => [SV.v (Value.int .i64 (Qcb (row i))), SV.v (Value.bool (Qe5 (row i)))]
       rw [hd] at x3
       rw [e1, Int.toNat_natCast, Nat.zero_add]
       have x3' : Qo7 1 (if Qec (Qaa (Qcb (row x.k))) x.a * 1 < 0 then Qaa (Qcb (row x.k)) else x.a) (Qal (n' - (x.k + 1)) fun i => [SV.v (Value.int .i64 (Qcb (row (x.k + 1 + i)))), SV.v (Value.bool (Qe5 (row (x.k + 1 + i))))]) = Qfh 1 (Qal n' fun i => [SV.v (Value.int .i64 (Qcb (row i))), SV.v (Value.bool (Qe5 (row i)))]) := x3
       simp only [Q9z] at x3'
       refine ⟨⟨by omega, by omega⟩, Qaf (fun hf => ?_) fun hf => ?_⟩
       · rw [if_pos (of_decide_eq_true hf)] at x3'
         exact ⟨⟨x.k + 1, Qaa (Qcb (row x.k))⟩, ⟨⟨⟨by show 1 ≤ x.k + 1; omega, by show x.k + 1 ≤ n'; omega⟩, x3'⟩, ⟨rfl, rfl⟩, trivial⟩, by show n' - (x.k + 1) < _; omega⟩
       · rw [if_neg (of_decide_eq_false hf)] at x3'
         exact ⟨⟨x.k + 1, x.a⟩, ⟨⟨⟨by show 1 ≤ x.k + 1; omega, by show x.k + 1 ≤ n'; omega⟩, x3'⟩, ⟨rfl, rfl⟩, trivial⟩, by show n' - (x.k + 1) < _; omega⟩
     · have g := of_decide_eq_false g
       have e : x.k = n' := by omega
       rw [e, Nat.sub_self, Qi3] at x3
       exact ⟨⟨Qi5 _ _ _, rfl, by omega⟩, Qbu x3 (by simp only [Nat.zero_add])⟩
theorem Q36 : Qca Tryz.prog 306 (Qe1 (-1)) := Qbw hm Qpp Tryz.func306 (Λ := fun args bs => match args, bs with | [.sl 0 2 0 n _], [⟨2, _, row⟩] => Zjd n Tryz.f306 (-1) (Qeg (fun i => Qcb (row i)) fun i => Qe5 (row i)) | _, _ => Qax) fun args bs p x h hp => by
 unfold Qe1 at h
 split at h <;> try (cases h; done)
 rename_i n c n' row
 cases h
 obtain ⟨h1, rfl, h3⟩ := hp _ rfl
 have h1 := okAll_rows.1 h1
 refine ⟨rfl, [⟨2, n', Qeg (fun i => Qcb (row i)) fun i => Qe5 (row i)⟩], ⟨⟨rfl, rfl, fun i hi => Qft (h1 i hi)⟩, trivial⟩, ?_⟩
 refine Eq.mpr (Zf6 (-1) n' n' c (fun i => Qcb (row i)) (fun i => Qe5 (row i)) _) ?_
 rw [Qgp h1]
 refine Qaf (fun g => ?_) fun g => ?_
 · have g : n' = 0 := by simpa using g
   subst g
   rfl
 · have g : n' ≠ 0 := by simpa using g
   refine ⟨⟨by omega, by omega⟩, ⟨⟨1, Qaa (Qcb (row 0))⟩, ⟨⟨Nat.le_refl 1, by show 1 ≤ n'; omega⟩, ?_⟩, ⟨rfl, rfl⟩, trivial⟩, fun x ⟨⟨x1, x2⟩, x3⟩ => ?_⟩
   · obtain ⟨m, rfl⟩ : ∃ m, n' = m + 1 := ⟨n' - 1, by omega⟩
     rw [Qef m]
     show Qo7 (-1) (Qaa (Qcb (row 0))) (Qal m fun i => _) = Qo7 (-1) (Qaa (Qcb (row 0))) _
     have e : ∀ i, 1 + i = i + 1 := fun i => by omega
     simp only [e]
   · refine Qaf (fun g => ?_) fun g => ?_
     · have g := of_decide_eq_true g
       have e1 : IntKind.i64.wrap ((x.k : Int) + 1) = ((x.k + 1 : Nat) : Int) := by rw [Qag ⟨by omega, by omega⟩]; omega
       have hd := Qi4 (n := n') (k := x.k) (by omega) fun i => [SV.v (Value.int .i64 (Qcb (row i))), SV.v (Value.bool (Qe5 (row i)))]
       rw [hd] at x3
       rw [e1, Int.toNat_natCast, Nat.zero_add]
       have x3' : Qo7 (-1) (if Qec (Qaa (Qcb (row x.k))) x.a * -1 < 0 then Qaa (Qcb (row x.k)) else x.a) (Qal (n' - (x.k + 1)) fun i => [SV.v (Value.int .i64 (Qcb (row (x.k + 1 + i)))), SV.v (Value.bool (Qe5 (row (x.k + 1 + i))))]) = Qfh (-1) (Qal n' fun i => [SV.v (Value.int .i64 (Qcb (row i))), SV.v (Value.bool (Qe5 (row i)))]) := x3
       simp only [Q3e] at x3'
       refine ⟨⟨by omega, by omega⟩, Qaf (fun hf => ?_) fun hf => ?_⟩
       · rw [if_pos (of_decide_eq_true hf)] at x3'
         exact ⟨⟨x.k + 1, Qaa (Qcb (row x.k))⟩, ⟨⟨⟨by show 1 ≤ x.k + 1; omega, by show x.k + 1 ≤ n'; omega⟩, x3'⟩, ⟨rfl, rfl⟩, trivial⟩, by show n' - (x.k + 1) < _; omega⟩
       · rw [if_neg (of_decide_eq_false hf)] at x3'
         exact ⟨⟨x.k + 1, x.a⟩, ⟨⟨⟨by show 1 ≤ x.k + 1; omega, by show x.k + 1 ≤ n'; omega⟩, x3'⟩, ⟨rfl, rfl⟩, trivial⟩, by show n' - (x.k + 1) < _; omega⟩
     · have g := of_decide_eq_false g
       have e : x.k = n' := by omega
       rw [e, Nat.sub_self, Qi3] at x3
       exact ⟨⟨Qi5 _ _ _, rfl, by omega⟩, Qbu x3 (by simp only [Nat.zero_add])⟩
theorem Qmf {r : List SV} (h : Qkz r) : isN r ∧ I64 (Qcb r) := by
 unfold Qkz at h
 split at h
 · exact ⟨trivial, h⟩
 · exact h.elim
theorem Qtx (a b : List (List SV)) : Qgg (a ++ b) = Qgg a + Qgg b := by
 induction a with
 | nil => simp [Qgg]
 | cons r t ih => simp only [List.cons_append, Qgg, ih]; omega
theorem Q0i (n : Nat) (row : Nat → List SV) : Qgg (Qal (n + 1) row) = Qgg (Qal n row) + Qaa (Qcb (row n)) := by
 rw [Qfp, Qtx]; simp [Qgg]
theorem Zhz (n1 : Bool) (m1 : Int) (n2 : Bool) (m2 : Int) : sv (plZ n1 m1 n2 m2) (plM n1 m1 n2 m2) = sv n1 m1 + sv n2 m2 := by
 unfold plZ plM
 by_cases hn : n1 = n2
 · subst hn
   rw [if_pos rfl, if_pos rfl]
   unfold sv; cases n1 <;> simp <;> omega
 · rw [if_neg hn, if_neg hn]
   by_cases hm : m1 < m2
   · rw [if_pos hm]
     unfold sv Qac
     cases n1 <;> cases n2 <;> simp_all <;> (repeat' split) <;> omega
   · rw [if_neg hm]
     unfold sv Qac
     by_cases he : m1 = m2
     · subst he
       cases n1 <;> cases n2 <;> simp_all <;> omega
     · cases n1 <;> cases n2 <;> simp_all <;> (repeat' split) <;> omega
theorem Zh0 {n1 n2 : Bool} {m1 m2 : Int} (h1 : 0 ≤ m1) (h2 : 0 ≤ m2) : plM n1 m1 n2 m2 ≤ m1 + m2 := by unfold plM Qac; split <;> (try split) <;> omega
theorem Qsd {n : Nat} {row : Nat → List SV} {x : KE} (h : invS n row x) (hx : x.k < n) (hv : I64 (Qaa (Qcb (row x.k)))) {b : Bool} (hb : sv b (plM x.n x.m (decide (Qaa (Qcb (row x.k)) < 0)) (Qac (Qaa (Qcb (row x.k))))) = sv x.n x.m + Qaa (Qcb (row x.k))) : invS n row ⟨x.k + 1, b, plM x.n x.m (decide (Qaa (Qcb (row x.k)) < 0)) (Qac (Qaa (Qcb (row x.k))))⟩ := by
 have i0 := Qbk (Qaa (Qcb (row x.k)))
 have i1 := Qfu hv
 refine ⟨hx, Qxv h.m0 i0, ?_, ?_⟩
 · have := Zh0 (n1 := x.n) (n2 := decide (Qaa (Qcb (row x.k)) < 0)) h.m0 i0
   have := h.m1
   show plM _ _ _ _ ≤ 9223372036854775808 * ((x.k + 1 : Nat) : Int)
   omega
 · show sv b _ = Qgg (Qal (x.k + 1) row)
   rw [hb, Q0i, h.sum]
theorem Q3y : ∀ f g, Zj3 f = some g → g.ok Tryz.prog f := Qab (Qab Qc5 (Qhu Tryz.func151 (by kernel_rfl) (by kernel_rfl) Qn3)) (Qc0 Tryz.func326 (by kernel_rfl) (by kernel_rfl) Qlt)
theorem Qrb : Qca Tryz.prog 74 Q9a := Qbw hm Q3y Tryz.func74 (Λ := fun args bs => match args, bs with | [.sl 0 2 0 n _], [⟨2, _, row⟩] => Zfc n (Qeg (fun i => Qcb (row i)) fun i => Qe5 (row i)) | _, _ => Qax) fun args bs p x h hp => by
 unfold Q9a at h
 split at h <;> try (cases h; done)
 rename_i n c n' row
 cases h
 obtain ⟨h0, rfl, h3⟩ := hp _ rfl
 have h0 := okAll_rows.1 h0
 have h1 : ∀ i, i < n' → isN (row i) := fun i hi => (Qmf (h0 i hi)).1
 have hv : ∀ i, i < n' → I64 (Qcb (row i)) := fun i hi => (Qmf (h0 i hi)).2
 refine ⟨rfl, [⟨2, n', Qeg (fun i => Qcb (row i)) fun i => Qe5 (row i)⟩], ⟨⟨rfl, rfl, fun i hi => Qft (h1 i hi)⟩, trivial⟩, ?_⟩
 refine Eq.mpr (Zkl n' n' c (fun i => Qcb (row i)) (fun i => Qe5 (row i)) _) ?_
 rw [Qgp h1]
 refine ⟨⟨Qi5 _ _ _, rfl, h3⟩, ⟨⟨0, false, 0⟩, ⟨Nat.zero_le _, by decide, by show (0 : Int) ≤ _; simp, rfl⟩, rfl, rfl, Nat.le_refl _, fun i hi => rfl⟩, fun x hx => ?_⟩
 have x1 := hx.le
 have x2 := hx.m0
 have x3 := hx.m1
 refine Qaf (fun g => ?_) fun g => ?_
 · have g := of_decide_eq_true g
   have e1 : IntKind.i64.wrap ((x.k : Int) + 1) = ((x.k + 1 : Nat) : Int) := by rw [Qag ⟨by omega, by omega⟩]; omega
   rw [e1, Int.toNat_natCast, Nat.zero_add, Nat.zero_add, Qc9, Zaa]
   have vv : I64 (Qaa (Qcb (row x.k))) := Qb5 (hv x.k (by omega))
   have hs := Zdd x.n x.m (decide (Qaa (Qcb (row x.k)) < 0)) (Qac (Qaa (Qcb (row x.k))))
   rw [Qxg] at hs
   have hle := Qfu vv
   exact ⟨⟨by omega, by omega⟩, vv, ⟨⟨Qb1 _, Qci x2 (by omega)⟩, ⟨Qdh vv, by decide, by decide⟩, by show x.m + Qac (Qaa (Qcb (row x.k))) < _; omega⟩, ⟨_, ⟨Qsd hx (by omega) vv hs, rfl, rfl, Nat.le_refl _, fun i hi => rfl⟩, by show n' - (x.k + 1) < _; omega⟩⟩
 · have g := of_decide_eq_false g
   have e : x.k = n' := by omega
   have hs := hx.sum
   rw [e] at hs
   have hs' : sv x.n x.m = Qgg (Qal n' fun i => [SV.v (Value.int .i64 (Qcb (row i))), SV.v (Value.bool (Qe5 (row i)))]) := hs
   rw [Qc9]
   refine ⟨⟨Qb1 _, Qci x2 (by omega)⟩, Qbu ?_ ?_⟩
   · rw [Qg3 _ x2, hs']
   · rw [Qg4 x.n _ x2, hs']; simp only [Nat.zero_add]
theorem Qsw : Qca Tryz.prog 303 Q9a := Qbw hm Q3y Tryz.func303 (Λ := fun args bs => match args, bs with | [.sl 0 2 0 n _], [⟨2, _, row⟩] => Q8v n (Qeg (fun i => Qcb (row i)) fun i => Qe5 (row i)) | _, _ => Qax) fun args bs p x h hp => by
 unfold Q9a at h
 split at h <;> try (cases h; done)
 rename_i n c n' row
 cases h
 obtain ⟨h0, rfl, h3⟩ := hp _ rfl
 have h0 := okAll_rows.1 h0
 have h1 : ∀ i, i < n' → isN (row i) := fun i hi => (Qmf (h0 i hi)).1
 have hv : ∀ i, i < n' → I64 (Qcb (row i)) := fun i hi => (Qmf (h0 i hi)).2
 refine ⟨rfl, [⟨2, n', Qeg (fun i => Qcb (row i)) fun i => Qe5 (row i)⟩], ⟨⟨rfl, rfl, fun i hi => Qft (h1 i hi)⟩, trivial⟩, ?_⟩
 refine Eq.mpr (Zf1 n' n' c (fun i => Qcb (row i)) (fun i => Qe5 (row i)) _) ?_
 rw [Qgp h1]
 refine ⟨⟨⟨0, false, 0⟩, ⟨Nat.zero_le _, by decide, by show (0 : Int) ≤ _; simp, rfl⟩, rfl, rfl, Nat.le_refl _, fun i hi => rfl⟩, fun x hx => ?_⟩
 have x1 := hx.le
 have x2 := hx.m0
 have x3 := hx.m1
 refine Qaf (fun g => ?_) fun g => ?_
 · have g := of_decide_eq_true g
   have e1 : IntKind.i64.wrap ((x.k : Int) + 1) = ((x.k + 1 : Nat) : Int) := by rw [Qag ⟨by omega, by omega⟩]; omega
   rw [e1, Int.toNat_natCast, Nat.zero_add, Qc9, Zaa]
   have vv : I64 (Qaa (Qcb (row x.k))) := Qb5 (hv x.k (by omega))
   have hs := Zhz x.n x.m (decide (Qaa (Qcb (row x.k)) < 0)) (Qac (Qaa (Qcb (row x.k))))
   rw [Qxg] at hs
   have hle := Qfu vv
   exact ⟨⟨by omega, by omega⟩, vv, ⟨⟨Qb1 _, Qci x2 (by omega)⟩, ⟨Qdh vv, by decide, by decide⟩, by show x.m + Qac (Qaa (Qcb (row x.k))) < _; omega⟩, ⟨_, ⟨Qsd hx (by omega) vv hs, rfl, rfl, Nat.le_refl _, fun i hi => rfl⟩, by show n' - (x.k + 1) < _; omega⟩⟩
 · have g := of_decide_eq_false g
   have e : x.k = n' := by omega
   have hs := hx.sum
   rw [e] at hs
   have hs' : sv x.n x.m = Qgg (Qal n' fun i => [SV.v (Value.int .i64 (Qcb (row i))), SV.v (Value.bool (Qe5 (row i)))]) := hs
   rw [Qc9]
   refine ⟨⟨Qi5 _ _ _, rfl, by omega⟩, ⟨Qb1 _, Qci x2 (by omega)⟩, Qbu ?_ ?_⟩
   · rw [Qg3 _ x2, hs']
   · rw [Qg4 x.n _ x2, hs']; simp only [Nat.zero_add]
def Ze4 : List SV → Option (Option Prop × SV)
 | [.agg [.v (.int .i64 v), .v (.bool f)], .agg [.v (.int .i64 u), .v (.bool g)]] => some (some (I64 v ∧ I64 u), Qcr (Qar (Qaa v + Qaa u)) (Qcy (Qaa v + Qaa u) (Qav v f || Qav u g)))
 | _ => none
def sSub : List SV → Option (Option Prop × SV)
 | [.agg [.v (.int .i64 v), .v (.bool f)], .agg [.v (.int .i64 u), .v (.bool g)]] => some (some (I64 v ∧ I64 u), Qcr (Qar (Qaa v - Qaa u)) (Qcy (Qaa v - Qaa u) (Qav v f || Qav u g)))
 | _ => none
def Qme (a b : Int) : Int := if b < a then b else a
def Qoe (a b : Int) : Int := if a < b then b else a
def Qm1 : List SV → Option (Option Prop × SV)
 | [.agg [.v (.int .i64 v), .v (.bool f)], .agg [.v (.int .i64 l), .v (.bool g)], .agg [.v (.int .i64 h), .v (.bool k)]] => some (some (I64 v ∧ I64 l ∧ I64 h), Qcr (Qoe (Qaa l) (Qme (Qaa v) (Qaa h))) (Qav l g || (Qav v f || Qav h k)))
 | _ => none
def Zet : Qb7 := Qah (Qah (Qah (Qah (Qah (Qah (Qah (Qah ΓC 74 (Qcv Q9a)) 303 (Qcv Q9a)) 224 (Qcv (Qe1 1))) 307 (Qcv (Qe1 1))) 142 (Qcv (Qe1 (-1)))) 306 (Qcv (Qe1 (-1)))) 155 (Qaj Q9b)) 235 (Qaj Q9b)
theorem Zlb (v : Int) (f : Bool) (u : Int) (g : Bool) (R : SV→Prop) : (Qau Tryz.prog Zet Qax Tryz.f205 [Qcr v f,Qcr u g] R) = ((((Qkz [SV.v (.int .i64 v),SV.v (.bool f)])∧((Qkz [SV.v (.int .i64 u),SV.v (.bool g)])∧True))∧(((2 : Nat) = 2)∧((2 : Nat) < 1099511627776)))∧(R (SV.agg [(SV.v (.int .i64 (Qar (Qgg [[SV.v (.int .i64 v),SV.v (.bool f)],[SV.v (.int .i64 u),SV.v (.bool g)]])))),(SV.v (.bool (Qcy (Qgg [[SV.v (.int .i64 v),SV.v (.bool f)],[SV.v (.int .i64 u),SV.v (.bool g)]]) (Qfj [[SV.v (.int .i64 v),SV.v (.bool f)],[SV.v (.int .i64 u),SV.v (.bool g)]]))))]))):=by kernel_rfl
theorem Zgc (v : Int) (f : Bool) (u : Int) (g : Bool) (R : SV→Prop) : (Qau Tryz.prog Zet Qax Tryz.f233 [Qcr v f,Qcr u g] R) = ((((Qkz [SV.v (.int .i64 v),SV.v (.bool f)])∧((Qkz [SV.v (.int .i64 u),SV.v (.bool g)])∧True))∧(((2 : Nat) = 2)∧((2 : Nat) < 1099511627776)))∧(R (SV.agg [(SV.v (.int .i64 (Qar (Qgg [[SV.v (.int .i64 v),SV.v (.bool f)],[SV.v (.int .i64 u),SV.v (.bool g)]])))),(SV.v (.bool (Qcy (Qgg [[SV.v (.int .i64 v),SV.v (.bool f)],[SV.v (.int .i64 u),SV.v (.bool g)]]) (Qfj [[SV.v (.int .i64 v),SV.v (.bool f)],[SV.v (.int .i64 u),SV.v (.bool g)]]))))]))):=by kernel_rfl
theorem Zkm (v : Int) (f : Bool) (u : Int) (g : Bool) (R : SV→Prop) : (Qau Tryz.prog Zet Qax Tryz.f95 [Qcr v f,Qcr u g] R) = ((I64 u)∧((((Qkz [SV.v (.int .i64 v),SV.v (.bool f)])∧((Qkz [SV.v (.int .i64 (-Qaa u)),SV.v (.bool (Qav u g))])∧True))∧(((2 : Nat) = 2)∧((2 : Nat) < 1099511627776)))∧(R (SV.agg [(SV.v (.int .i64 (Qar (Qgg [[SV.v (.int .i64 v),SV.v (.bool f)],[SV.v (.int .i64 (-Qaa u)),SV.v (.bool (Qav u g))]])))),(SV.v (.bool (Qcy (Qgg [[SV.v (.int .i64 v),SV.v (.bool f)],[SV.v (.int .i64 (-Qaa u)),SV.v (.bool (Qav u g))]]) (Qfj [[SV.v (.int .i64 v),SV.v (.bool f)],[SV.v (.int .i64 (-Qaa u)),SV.v (.bool (Qav u g))]]))))])))):=by kernel_rfl
theorem Zb0 (v : Int) (f : Bool) (u : Int) (g : Bool) (h : Int) (k : Bool) (R : SV→Prop) : (Qau Tryz.prog Zet Qax Tryz.f150 [Qcr v f,Qcr u g,Qcr h k] R) = ((((isN [SV.v (.int .i64 v),SV.v (.bool f)])∧((isN [SV.v (.int .i64 h),SV.v (.bool k)])∧True))∧(((2 : Nat) = 2)∧((2 : Nat) < 1099511627776)))∧((((isN [SV.v (.int .i64 u),SV.v (.bool g)])∧((isN [SV.v (.int .i64 (Qfh 1 [[SV.v (.int .i64 v),SV.v (.bool f)],[SV.v (.int .i64 h),SV.v (.bool k)]])),SV.v (.bool (Qfj [[SV.v (.int .i64 v),SV.v (.bool f)],[SV.v (.int .i64 h),SV.v (.bool k)]]))])∧True))∧(((2 : Nat) = 2)∧((2 : Nat) < 1099511627776)))∧(R (SV.agg [(SV.v (.int .i64 (Qfh (-1) [[SV.v (.int .i64 u),SV.v (.bool g)],[SV.v (.int .i64 (Qfh 1 [[SV.v (.int .i64 v),SV.v (.bool f)],[SV.v (.int .i64 h),SV.v (.bool k)]])),SV.v (.bool (Qfj [[SV.v (.int .i64 v),SV.v (.bool f)],[SV.v (.int .i64 h),SV.v (.bool k)]]))]]))),(SV.v (.bool (Qfj [[SV.v (.int .i64 u),SV.v (.bool g)],[SV.v (.int .i64 (Qfh 1 [[SV.v (.int .i64 v),SV.v (.bool f)],[SV.v (.int .i64 h),SV.v (.bool k)]])),SV.v (.bool (Qfj [[SV.v (.int .i64 v),SV.v (.bool f)],[SV.v (.int .i64 h),SV.v (.bool k)]]))]])))])))):=by kernel_rfl
theorem Q5y (v : Int) (f : Bool) (u : Int) (g : Bool) (h : Int) (k : Bool) (R : SV→Prop) : (Qau Tryz.prog Zet Qax Tryz.f237 [Qcr v f,Qcr u g,Qcr h k] R) = ((((isN [SV.v (.int .i64 v),SV.v (.bool f)])∧((isN [SV.v (.int .i64 h),SV.v (.bool k)])∧True))∧(((2 : Nat) = 2)∧((2 : Nat) < 1099511627776)))∧((((isN [SV.v (.int .i64 u),SV.v (.bool g)])∧((isN [SV.v (.int .i64 (Qfh 1 [[SV.v (.int .i64 v),SV.v (.bool f)],[SV.v (.int .i64 h),SV.v (.bool k)]])),SV.v (.bool (Qfj [[SV.v (.int .i64 v),SV.v (.bool f)],[SV.v (.int .i64 h),SV.v (.bool k)]]))])∧True))∧(((2 : Nat) = 2)∧((2 : Nat) < 1099511627776)))∧(R (SV.agg [(SV.v (.int .i64 (Qfh (-1) [[SV.v (.int .i64 u),SV.v (.bool g)],[SV.v (.int .i64 (Qfh 1 [[SV.v (.int .i64 v),SV.v (.bool f)],[SV.v (.int .i64 h),SV.v (.bool k)]])),SV.v (.bool (Qfj [[SV.v (.int .i64 v),SV.v (.bool f)],[SV.v (.int .i64 h),SV.v (.bool k)]]))]]))),(SV.v (.bool (Qfj [[SV.v (.int .i64 u),SV.v (.bool g)],[SV.v (.int .i64 (Qfh 1 [[SV.v (.int .i64 v),SV.v (.bool f)],[SV.v (.int .i64 h),SV.v (.bool k)]])),SV.v (.bool (Qfj [[SV.v (.int .i64 v),SV.v (.bool f)],[SV.v (.int .i64 h),SV.v (.bool k)]]))]])))])))):=by kernel_rfl
theorem Qmk : ∀ f g, Zet f = some g → g.ok Tryz.prog f := Qab (Qab (Qab (Qab (Qab (Qab (Qab (Qab Qc5 (Qc0 Tryz.func74 (by kernel_rfl) (by kernel_rfl) Qrb)) (Qc0 Tryz.func303 (by kernel_rfl) (by kernel_rfl) Qsw))
 (Qc0 Tryz.func224 (by kernel_rfl) (by kernel_rfl) Q8d)) (Qc0 Tryz.func307 (by kernel_rfl) (by kernel_rfl) Q35)) (Qc0 Tryz.func142 (by kernel_rfl) (by kernel_rfl) Q8e)) (Qc0 Tryz.func306 (by kernel_rfl) (by kernel_rfl) Q36))
 (Qak Tryz.func155 (by kernel_rfl) (by kernel_rfl) Qrd)) (Qak Tryz.func235 (by kernel_rfl) (by kernel_rfl) Qn5)
theorem Zle (v u : Int) (f g : Bool) : Qgg [[SV.v (Value.int .i64 v), SV.v (Value.bool f)], [SV.v (Value.int .i64 u), SV.v (Value.bool g)]] = Qaa v + Qaa u := by simp [Qgg, Qcb]
theorem Zej (v u : Int) (f g : Bool) : Qfj [[SV.v (Value.int .i64 v), SV.v (Value.bool f)], [SV.v (Value.int .i64 u), SV.v (Value.bool g)]] = (Qav v f || Qav u g) := by simp [Qfj, Qcb, Qe5]
theorem Q62 (o v u : Int) (f g : Bool) : Qfh o [[SV.v (Value.int .i64 v), SV.v (Value.bool f)], [SV.v (Value.int .i64 u), SV.v (Value.bool g)]] = if Qec (Qaa u) (Qaa v) * o < 0 then Qaa u else Qaa v := rfl
theorem Q9k (a b : Int) : (if Qec b a * 1 < 0 then b else a) = Qme a b := by unfold Qme; simp only [Q9z]
theorem Q9l (a b : Int) : (if Qec b a * -1 < 0 then b else a) = Qoe a b := by unfold Qoe; simp only [Q3e]
theorem Q86 {v : Int} (h : I64 v) : Qaa (-Qaa v) = -Qaa v ∧ I64 (-Qaa v) := by
 have := Qd5 h
 exact ⟨Qby (by omega), by omega, by omega⟩
theorem Zhh {v : Int} (h : I64 v) (f : Bool) : Qav (-Qaa v) f = f := by
 have := Qd5 h
 exact Qb8 (by omega)
theorem Q9j {a b l h : Int} (h1 : l ≤ a ∧ a ≤ h) (h2 : l ≤ b ∧ b ≤ h) : l ≤ Qme a b ∧ Qme a b ≤ h := by unfold Qme; split <;> omega
theorem Q8q : Qai Tryz.prog 205 Ze4 := Qan hm Qmk Tryz.func205 (Λ := fun _ => Qax) fun args p x h hp => by
 unfold Ze4 at h
 split at h <;> try (cases h; done)
 rename_i v f u g
 cases h
 obtain ⟨h1, h2⟩ := hp _ rfl
 refine ⟨rfl, rfl, ?_⟩
 refine Eq.mpr (Zlb v f u g _) ?_
 rw [Zle, Zej]
 exact ⟨⟨⟨h1, h2, trivial⟩, rfl, by decide⟩, rfl⟩
theorem Q72 : Qai Tryz.prog 95 sSub := Qan hm Qmk Tryz.func95 (Λ := fun _ => Qax) fun args p x h hp => by
 unfold sSub at h
 split at h <;> try (cases h; done)
 rename_i v f u g
 cases h
 obtain ⟨h1, h2⟩ := hp _ rfl
 refine ⟨rfl, rfl, ?_⟩
 refine Eq.mpr (Zkm v f u g _) ?_
 rw [Zle, Zej, (Q86 h2).1, Zhh h2]
 exact ⟨h2, ⟨⟨h1, (Q86 h2).2, trivial⟩, rfl, by decide⟩, rfl⟩
theorem Qpm : Qai Tryz.prog 150 Qm1 := Qan hm Qmk Tryz.func150 (Λ := fun _ => Qax) fun args p x h hp => by
 unfold Qm1 at h
 split at h <;> try (cases h; done)
 rename_i v f l g h k
 cases h
 obtain ⟨h1, h2, h3⟩ := hp _ rfl
 refine ⟨rfl, rfl, ?_⟩
 refine Eq.mpr (Zb0 v f l g h k _) ?_
 rw [Q62, Q62, Zej, Zej, Q9k]
 have hm := Q9j (Qd5 h1) (Qd5 h3)
 rw [Qby hm.1, Qb8 hm.1, Q9l]
 exact ⟨⟨⟨trivial, trivial, trivial⟩, rfl, by decide⟩, ⟨⟨trivial, trivial, trivial⟩, rfl, by decide⟩, rfl⟩
theorem Q4a : Qai Tryz.prog 233 Ze4 := Qan hm Qmk Tryz.func233 (Λ := fun _ => Qax) fun args p x h hp => by
 unfold Ze4 at h
 split at h <;> try (cases h; done)
 rename_i v f u g
 cases h
 obtain ⟨h1, h2⟩ := hp _ rfl
 refine ⟨rfl, rfl, ?_⟩
 refine Eq.mpr (Zgc v f u g _) ?_
 rw [Zle, Zej]
 exact ⟨⟨⟨h1, h2, trivial⟩, rfl, by decide⟩, rfl⟩
theorem Qu9 : Qai Tryz.prog 237 Qm1 := Qan hm Qmk Tryz.func237 (Λ := fun _ => Qax) fun args p x h hp => by
 unfold Qm1 at h
 split at h <;> try (cases h; done)
 rename_i v f l g h k
 cases h
 obtain ⟨h1, h2, h3⟩ := hp _ rfl
 refine ⟨rfl, rfl, ?_⟩
 refine Eq.mpr (Q5y v f l g h k _) ?_
 rw [Q62, Q62, Zej, Zej, Q9k]
 have hm := Q9j (Qd5 h1) (Qd5 h3)
 rw [Qby hm.1, Qb8 hm.1, Q9l]
 exact ⟨⟨⟨trivial, trivial, trivial⟩, rfl, by decide⟩, ⟨⟨trivial, trivial, trivial⟩, rfl, by decide⟩, rfl⟩
end Go.Proofs.YteekigmbopdfjaaGreat
end
section
namespace Go.Proofs.YteekigmbopdfjaaGreat
open Go.SE
def rt : Nat → Int → Int → Int
 | 0, r, _ => r
 | k + 1, r, m => if (r + 2 ^ k) * (r + 2 ^ k) ≤ m then rt k (r + 2 ^ k) m else rt k r m
def isq (m : Int) : Int := rt 64 0 m
theorem Qtz {a b : Int} (h0 : 0 ≤ a) (h : a ≤ b) : a * a ≤ b * b := Int.mul_le_mul h h h0 (by omega)
theorem Zlh {a b : Int} (h0 : 0 ≤ a) (h : a < b) : a * a < b * b := by
 have h1 := Qtz (a := a + 1) (b := b) (by omega) (by omega)
 have e : (a + 1) * (a + 1) = a * a + 2 * a + 1 := by rw [Int.add_mul, Int.mul_add]; omega
 omega
theorem Ql1 {a b : Int} (h0 : 0 ≤ b) (h : a * a < b * b) : a < b := by
 rcases Int.lt_or_le a b with h1 | h1
 · exact h1
 · have := Qtz h0 h1; omega
theorem Qvp {a b : Int} (h0 : 0 ≤ b) (h : a * a ≤ b * b) : a ≤ b := by
 rcases Int.lt_or_le b a with h1 | h1
 · have := Zlh h0 h1; omega
 · exact h1
theorem Qtu (k : Nat) : (0 : Int) < 2 ^ k := by exact_mod_cast Nat.two_pow_pos k
theorem Zc6 : ∀ (k : Nat) (r m : Int), 0 ≤ r → r * r ≤ m → m < (r + 2 ^ k) * (r + 2 ^ k) → r ≤ rt k r m ∧ rt k r m < r + 2 ^ k ∧ rt k r m * rt k r m ≤ m ∧ m < (rt k r m + 1) * (rt k r m + 1)
 | 0, r, m, _, h1, h2 => by
   rw [Int.pow_zero] at h2
   exact ⟨Int.le_refl _, by rw [Int.pow_zero]; show r < r + 1; omega, h1, h2⟩
 | k + 1, r, m, h0, h1, h2 => by
   have hp := Qtu k
   have e : r + 2 ^ (k + 1) = r + 2 ^ k + 2 ^ k := by rw [Int.pow_succ]; omega
   unfold rt
   by_cases h : (r + 2 ^ k) * (r + 2 ^ k) ≤ m
   · rw [if_pos h]
     obtain ⟨a, b, c, d⟩ := Zc6 k (r + 2 ^ k) m (by omega) h (by rw [← e]; exact h2)
     exact ⟨by omega, by omega, c, d⟩
   · rw [if_neg h]
     obtain ⟨a, b, c, d⟩ := Zc6 k r m h0 h1 (by omega)
     exact ⟨a, by omega, c, d⟩
theorem Qlk {m : Int} (h0 : 0 ≤ m) (h1 : m < 340282366920938463463374607431768211456) : 0 ≤ isq m ∧ isq m < 18446744073709551616 ∧ isq m * isq m ≤ m ∧ m < (isq m + 1) * (isq m + 1) := by
 have := Zc6 64 0 m (Int.le_refl _) (by simpa using h0) (by show m < (0 + 2 ^ 64) * (0 + 2 ^ 64); exact Int.lt_of_lt_of_le h1 (by decide))
 obtain ⟨a, b, c, d⟩ := this
 exact ⟨a, by have e : (0 : Int) + 2 ^ 64 = 18446744073709551616 := by decide
              rw [e] at b; exact b, c, d⟩
theorem isq_eq {m r : Int} (h0 : 0 ≤ m) (h1 : m < 340282366920938463463374607431768211456) (hr : 0 ≤ r) (h2 : r * r ≤ m) (h3 : m < (r + 1) * (r + 1)) : r = isq m := by
 obtain ⟨a, b, c, d⟩ := Qlk h0 h1
 have x := Ql1 (a := isq m) (b := r + 1) (by omega) (by omega)
 have y := Ql1 (a := r) (b := isq m + 1) (by omega) (by omega)
 omega
theorem Qoz {m r : Int} (h0 : 0 ≤ m) (h1 : m < 340282366920938463463374607431768211456) (hr : isq m ≤ r) (h : r * r ≤ m) : r = isq m := by
 obtain ⟨a, b, c, d⟩ := Qlk h0 h1
 have := Ql1 (a := r) (b := isq m + 1) (by omega) (by omega)
 omega
theorem Que {m r : Int} (h0 : 0 ≤ m) (h1 : m < 340282366920938463463374607431768211456) (hr : 0 < r) : isq m ≤ (r + m / r) / 2 := by
 obtain ⟨a, b, c, d⟩ := Qlk h0 h1
 have hq : m < (m / r + 1) * r := Int.lt_ediv_add_one_mul_self m hr
 generalize m / r = q at *
 generalize isq m = s at *
 rcases Int.lt_or_le (r + q) (2 * s) with h | h
 · exfalso
   have e1 : (q + 1) * r ≤ (2 * s - r) * r := Int.mul_le_mul_of_nonneg_right (by omega) (by omega)
   have e2 : 0 ≤ (s - r) * (s - r) := by
     rcases Int.le_total 0 (s - r) with h | h
     · exact Int.mul_nonneg h h
     · have := Int.mul_nonneg (show 0 ≤ -(s - r) by omega) (show 0 ≤ -(s - r) by omega); rw [Int.neg_mul_neg] at this; exact this
   have e3 : (s - r) * (s - r) = s * s - 2 * s * r + r * r := by rw [Int.sub_mul, Int.mul_sub, Int.mul_sub, Int.mul_comm r s, Int.mul_assoc 2 s r]; omega
   have e4 : (2 * s - r) * r = 2 * s * r - r * r := Int.sub_mul _ _ _
   omega
 · omega
theorem Q6s {m : Int} {L h : Nat} (h0 : 0 ≤ m) (h1 : m < 2 ^ L) (h2 : L ≤ 2 * h) (h3 : m < 340282366920938463463374607431768211456) : isq m ≤ 2 ^ h := by
 obtain ⟨a, b, c, d⟩ := Qlk h0 h3
 have e : (2 : Int) ^ L ≤ 2 ^ h * 2 ^ h := by
   rw [← Int.pow_add]
   exact_mod_cast Nat.pow_le_pow_right (by decide) (by omega)
 have := Ql1 (a := isq m) (b := 2 ^ h) (Int.le_of_lt (Qtu h)) (by omega)
 omega
end Go.Proofs.YteekigmbopdfjaaGreat
end
