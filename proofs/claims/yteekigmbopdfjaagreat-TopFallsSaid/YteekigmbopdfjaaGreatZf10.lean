/-
 What the proof uses, part 10.
-/
import Derived.Test.YteekigmbopdfjaaGreatRows
import Derived.ProofKit
import Derived.Test.YteekigmbopdfjaaGreatZf9
set_option maxRecDepth 100000
set_option linter.unusedSimpArgs false
set_option linter.unusedVariables false

section
namespace Go.Proofs.YteekigmbopdfjaaGreat
open Go.ChangeShapes Go.WideShapes Go.ChangeAt Go.RowKit
theorem Tryz.own : ownKnob Tryz.prog.godebug = none := by kernel_rfl
theorem Tryz.laidOut : laidOutB Tryz.prog = true := by kernel_rfl
section
variable {H : Type} {enc : TypeId × Value → H}
theorem Qjv {P : Program} (hl : laidOutB P = true) {W W' : World} (hb : Below W.heap.size W W') :
   ∀ {ts : List TypeId} {vs : List Value} {ds : List (DataW H)} {ps : List MemPlace}, (∀ t ∈ ts, P.readableRec t = true ∧ t < P.types.size) → DataW.TrodAll enc P W 0 (fun _ => true) true ts vs ds ps →
     (∀ x ∈ ps, x.block < W.heap.size) → DataW.TrodAll enc P W' 0 (fun b => decide (b < W.heap.size)) true ts vs ds ps
 | [], [], [], _, _, h, _ => h
 | [], [], _ :: _, _, _, h, _ => h.elim
 | [], _ :: _, _, _, _, h, _ => h.elim
 | _ :: _, [], _, _, _, h, _ => h.elim
 | _ :: _, _ :: _, [], _, _, h, _ => h.elim
 | t :: ts, v :: vs, d :: ds, ps, ht, h, hlt => by
   obtain ⟨p, q, h1, h2, rfl⟩ := h
   have hd := ht t (List.mem_cons_self ..)
   exact ⟨p, q, Below.trod hl hd.1 hd.2 h1 hb fun x hx => hlt x (List.mem_append_left _ hx), Qjv hl hb (fun t' h' => ht t' (List.mem_cons_of_mem _ h')) h2 fun x hx => hlt x (List.mem_append_right _ hx), rfl⟩
theorem Qm0 {P : Program} {W : World} {b : Nat} {sp : Nat → Bool} {hd : Bool} : ∀ {ts : List TypeId} {vs : List Value} {ds : List (DataW H)} {ps : List MemPlace}, DataW.TrodAll enc P W b sp hd ts vs ds ps → ds.length = ts.length
 | [], [], [], _, _ => rfl
 | [], [], _ :: _, _, h => h.elim
 | [], _ :: _, _, _, h => h.elim
 | _ :: _, [], _, _, h => h.elim
 | _ :: _, _ :: _, [], _, h => h.elim
 | _ :: _, _ :: _, _ :: _, _, ⟨_, _, _, h2, _⟩ => by simp [Qm0 h2]
theorem Q2t {f : FuncId} {fn : Func} {s : ChangeSpec} {apart fresh handsOn : Bool} (hn : s.vars = []) (hr : fn.resultTypes = #[4])
   (hts : (fn.params.toList.all fun t => Tryz.prog.readableRec t && decide (t < Tryz.prog.types.size)) = true)
   (hspec : ∀ ds : List (DataW H), ds.length = fn.params.size → s.fn H ds = { results := [.lit (.bool true)], args := ds })
   (hc : ∀ (W : World) (base : Nat) (args : Array Value) (ds : List (DataW H)) (ps : List MemPlace), (∀ (j : Nat) t v, fn.params[j]? = some t → args[j]? = some v → Value.okWide Tryz.prog W .any base t v) →
     DataW.TrodAll enc Tryz.prog W 0 (fun _ => true) true fn.params.toList args.toList ds ps → Calls Tryz.prog f args W fun e W' => e = .returned (.bool true) ∧ Below W.heap.size W W')
   (W : World) (base : Nat) (args : Array Value) (ds gs : List (DataW H)) (before : List MemPlace)
   (hval : ∀ (j : Nat) t v, fn.params[j]? = some t → args[j]? = some v → Value.okWide Tryz.prog W .any base t v)
   (hW : DataW.Whole enc Tryz.prog fn.params.toList s.vars apart W args.toList ds gs before) :
   Calls Tryz.prog f args W fun e W' => ∃ v, e = .returned v ∧ s.post enc Tryz.prog fn apart fresh handsOn false W args v W' := by
 have hW' := hW
 obtain ⟨p, q, hA, hV, rfl, hfz, hnd⟩ := hW
 rw [hn] at hV
 obtain ⟨rfl, rfl⟩ := trodVars_none hV
 have hlen : ds.length = fn.params.size := by rw [Qm0 hA, Array.length_toList]
 have hlt : ∀ x ∈ p, x.block < W.heap.size := fun x hx => by simpa using hW'.lt x (by simpa using hx)
 refine (hc W base args ds p hval hA).mono fun e W' ⟨he, hb⟩ => ⟨.bool true, he, ds, [], p ++ [], [], p, [], hW', ?_, ?_, ?_, hb.frame _, fun h => by cases h⟩
 · rw [hr, List.append_nil, hspec ds hlen]
   exact trodAll_mk1 (shut_bool Tryz.underlying4 true)
 · rw [List.append_nil, hspec ds hlen]
   refine Qjv Tryz.laidOut hb (fun t ht => ?_) hA hlt
   have := List.all_eq_true.1 hts t ht
   simp only [Bool.and_eq_true, decide_eq_true_eq] at this
   exact this
 · rw [hn, List.append_nil, hspec ds hlen]
   exact rfl
theorem Qhn {n : Int} (hw : (Lit.int .i64 n).wf = true) : I64 n := by
 simp only [Lit.wf, Bool.and_eq_true, decide_eq_true_eq] at hw
 have e1 : IntKind.i64.min = -9223372036854775808 := by kernel_rfl
 have e2 : IntKind.i64.max = 9223372036854775807 := by kernel_rfl
 rw [e1, e2] at hw
 exact ⟨by omega, by omega⟩
theorem Q64 {W : World} {b0 base : Nat} {r : Reach} {sp : Nat → Bool} {hd : Bool} {t : TypeId} {v : Value} {d : DataW H} {p : List MemPlace} (ht : Tryz.prog.underlying t = some (.int .i64)) (hv : Value.okWide Tryz.prog W r b0 t v) (h : DataW.Trod enc Tryz.prog W base sp hd t v d p) :
   ∃ n : Int, v = .int .i64 n ∧ I64 n := by
 obtain ⟨n, rfl, _, _, hw⟩ := open_int ht hv h
 exact ⟨n, rfl, Qhn hw⟩
end
end Go.Proofs.YteekigmbopdfjaaGreat
end
section
namespace Go.Proofs.YteekigmbopdfjaaGreat
open Go.SE Go.RowKit
theorem hm : Tryz.prog.follows .mixedOrders = true := by kernel_rfl
theorem Qss {f : FuncId} {fn : Func} {e : Array Value → Sem Value} (hf : Tryz.prog.funcs[f]? = some fn) (hname : (fn.name == "runtime.NumGoroutine") = false) (hb : fn.body.isNone = true) (hn : Extern.findNext fn = none) (he : Extern.find fn = some e)
   {spec : List SV → Option (Option Prop × SV)} (hs : ∀ args p x, spec args = some (p, x) → (∀ q, p = some q → q) → Qgg args = true ∧ Qez x = true ∧ ∀ w, (e (Qkp args).toArray).run Tryz.prog w = .ok (Q58 x) w) : (Qaj spec).ok Tryz.prog f := by
 intro args h base ef hef δ w vals ha hr hp _
 simp only [Qaj] at hef
 cases hsp : spec args with
 | none => rw [hsp] at hef; cases hef
 | some px =>
   obtain ⟨p, x⟩ := px
   rw [hsp] at hef
   cases hef
   obtain ⟨h1, h2, h3⟩ := hs args p x hsp hp
   have hv := (Qeb _ _ h1).1 ha
   subst hv
   rw [run_callFunc_extern hf hname hb hn he, h3 w]
   exact ⟨x, [], δ, ⟨rfl, rfl⟩, (Qfr _ _ h2).2 rfl, Upd.same hr⟩
def Q1q : List SV → Option (Option Prop × SV)
 | [.v (.int .u64 x), .v (.int .u64 y), .v (.int .u64 c)] => some (some (U64 x ∧ U64 y ∧ 0 ≤ c ∧ c ≤ 1), .tup [.v (.int .u64 ((x + y + c) % 18446744073709551616)), .v (.int .u64 ((x + y + c) / 18446744073709551616))])
 | _ => none
def Q1c : List SV → Option (Option Prop × SV)
 | [.v (.int .u64 x), .v (.int .u64 y), .v (.int .u64 b)] => some (some (U64 x ∧ U64 y ∧ 0 ≤ b ∧ b ≤ 1), .tup [.v (.int .u64 ((x - y - b) % 18446744073709551616)), .v (.int .u64 (bor x (y + b)))])
 | _ => none
theorem Q8m : (Qaj Q1q).ok Tryz.prog 225 := by
 refine Qss Tryz.func225 (by kernel_rfl) (by kernel_rfl) (by kernel_rfl) (e := add64Entry) (by kernel_rfl) ?_
 intro args p x h hp
 unfold Q1q at h
 split at h
 · cases h
   obtain ⟨h1, h2, h3, h4⟩ := hp _ rfl
   exact ⟨rfl, rfl, fun w => run_add64 _ _ _ h1.1 h2.1 h3 h4 w⟩
 · cases h
def Qkr : Array Value → Sem Value := fun args => do
 let (x, y, b) ← Extern.MathBitsCarry.three "Sub64" args
 pure (Extern.MathBitsCarry.pair ((x + Extern.MathBitsCarry.m64 - y - b) % Extern.MathBitsCarry.m64) (if x < y + b then 1 else 0))
theorem Q1t {P : Program} (x y b : Int) (hx : U64 x) (hy : U64 y) (hb0 : 0 ≤ b) (hb : b ≤ 1) (w : World) :
   (Qkr #[.int .u64 x, .int .u64 y, .int .u64 b]).run P w = .ok (.tuple #[.int .u64 ((x - y - b) % 18446744073709551616), .int .u64 (bor x (y + b))]) w := by
 have key : ∀ k : Nat, k ≤ 1 → (Qkr #[.int .u64 x, .int .u64 y, .int .u64 (k : Int)]).run P w =
     .ok (Extern.MathBitsCarry.pair ((x.toNat + Extern.MathBitsCarry.m64 - y.toNat - k) % Extern.MathBitsCarry.m64) (if x.toNat < y.toNat + k then 1 else 0)) w := by
   intro k hk
   have : k = 0 ∨ k = 1 := by omega
   rcases this with rfl | rfl <;> rfl
 obtain ⟨k, rfl⟩ := Int.eq_ofNat_of_zero_le hb0
 rw [key k (by omega)]
 obtain ⟨hx0, hx1⟩ := hx
 obtain ⟨hy0, hy1⟩ := hy
 obtain ⟨X, rfl⟩ := Int.eq_ofNat_of_zero_le hx0
 obtain ⟨Y, rfl⟩ := Int.eq_ofNat_of_zero_le hy0
 simp only [Extern.MathBitsCarry.pair, Extern.MathBitsCarry.m64, Int.toNat_natCast, bor]
 have e1 : (Int.ofNat ((X + 2 ^ 64 - Y - k) % 2 ^ 64)) = ((X : Int) - Y - k) % 18446744073709551616 := by
   show (((X + 2 ^ 64 - Y - k) % 2 ^ 64 : Nat) : Int) = _
   omega
 have e2 : Int.ofNat (if X < Y + k then 1 else 0) = if (X : Int) < Y + k then 1 else 0 := by
   by_cases h : X < Y + k
   · rw [if_pos h, if_pos (by omega)]; rfl
   · rw [if_neg h, if_neg (by omega)]; rfl
 rw [e1, e2]
theorem Q7v : (Qaj Q1c).ok Tryz.prog 227 := by
 refine Qss Tryz.func227 (by kernel_rfl) (by kernel_rfl) (by kernel_rfl) (e := Qkr) (by kernel_rfl) ?_
 intro args p x h hp
 unfold Q1c at h
 split at h
 · cases h
   obtain ⟨h1, h2, h3, h4⟩ := hp _ rfl
   exact ⟨rfl, rfl, fun w => Q1t _ _ _ h1 h2 h3 h4 w⟩
 · cases h
def Zer (k : IntKind) : List SV → Option (Option Prop × SV)
 | [.v (.int k' _)] => if k' = k then some (none, .v (.bool false)) else none
 | _ => none
def Zev (k : IntKind) : List SV → Option (Option Prop × SV)
 | [.v (.int k1 x), .v (.int k2 y)] => if k1 = k ∧ k2 = k then some (none, .v (.int .i64 (Qeo x y))) else none
 | _ => none
def Γ1 : Qb8 := Qah (Qah Qbr 225 (Qaj Q1q)) 227 (Qaj Q1c)
def Γ2 : Qb8 := Qah (Qah Γ1 147 (Qaj (Zer .i64))) 325 (Qaj (Zer .u64))
def Γ3 : Qb8 := Qah (Qah Γ2 64 (Qaj (Zev .i64))) 301 (Qaj (Zev .u64))
def Qax : Nat → Option LoopSpec := fun _ => none
theorem Zgg (x : Int) (R : SV→Prop) : (Qav Tryz.prog Qbr Qax Tryz.f147 [.v (.int .i64 x)] R) = (R (SV.v (.bool (x != x)))):=by kernel_rfl
theorem Zgf (x : Int) (R : SV→Prop) : (Qav Tryz.prog Qbr Qax Tryz.f325 [.v (.int .u64 x)] R) = (R (SV.v (.bool (x != x)))):=by kernel_rfl
theorem Zgu (x y : Int) (R : SV→Prop) : (Qav Tryz.prog Γ2 Qax Tryz.f64 [.v (.int .i64 x),.v (.int .i64 y)] R) = (sel (decide (x < y)) (R (SV.v (.int .i64 (-1)))) (sel (decide (x > y)) (R (SV.v (.int .i64 1))) (R (SV.v (.int .i64 0))))):=by kernel_rfl
theorem Zgt (x y : Int) (R : SV→Prop) : (Qav Tryz.prog Γ2 Qax Tryz.f301 [.v (.int .u64 x),.v (.int .u64 y)] R) = (sel (decide (x < y)) (R (SV.v (.int .i64 (-1)))) (sel (decide (x > y)) (R (SV.v (.int .i64 1))) (R (SV.v (.int .i64 0))))):=by kernel_rfl
theorem Zfm : ∀ f g, Γ1 f = some g → g.ok Tryz.prog f := Qab (Qab Qa0 Q8m) Q7v
theorem Q4j : Qai Tryz.prog 147 (Zer .i64) := Qao hm Qa0 Tryz.func147 (Λ := fun _ => Qax) fun args p x h _ => by
 unfold Zer at h
 split at h <;> try (cases h; done)
 split at h <;> try (cases h; done)
 rename_i k' v hk
 subst hk
 cases h
 refine ⟨rfl, rfl, ?_⟩
 rw [Zgg]
 simp
theorem Q4i : Qai Tryz.prog 325 (Zer .u64) := Qao hm Qa0 Tryz.func325 (Λ := fun _ => Qax) fun args p x h _ => by
 unfold Zer at h
 split at h <;> try (cases h; done)
 split at h <;> try (cases h; done)
 rename_i k' v hk
 subst hk
 cases h
 refine ⟨rfl, rfl, ?_⟩
 rw [Zgf]
 simp
theorem Qzy : ∀ f g, Γ2 f = some g → g.ok Tryz.prog f := Qab (Qab Zfm (Qal Tryz.func147 (by kernel_rfl) (by kernel_rfl) Q4j)) (Qal Tryz.func325 (by kernel_rfl) (by kernel_rfl) Q4i)
theorem Q4y : Qai Tryz.prog 64 (Zev .i64) := Qao hm Qzy Tryz.func64 (Λ := fun _ => Qax) fun args p x h _ => by
 unfold Zev at h
 split at h <;> try (cases h; done)
 split at h <;> try (cases h; done)
 rename_i k1 a k2 b hk
 obtain ⟨rfl, rfl⟩ := hk
 cases h
 refine ⟨rfl, rfl, ?_⟩
 rw [Zgu]
 unfold Qeo
 refine Qad (fun h => ?_) fun h => Qad (fun h' => ?_) fun h' => ?_
 · rw [if_pos (of_decide_eq_true h)]
 · rw [if_neg (of_decide_eq_false h), if_pos (of_decide_eq_true h')]
 · rw [if_neg (of_decide_eq_false h), if_neg (of_decide_eq_false h')]
theorem Q4x : Qai Tryz.prog 301 (Zev .u64) := Qao hm Qzy Tryz.func301 (Λ := fun _ => Qax) fun args p x h _ => by
 unfold Zev at h
 split at h <;> try (cases h; done)
 split at h <;> try (cases h; done)
 rename_i k1 a k2 b hk
 obtain ⟨rfl, rfl⟩ := hk
 cases h
 refine ⟨rfl, rfl, ?_⟩
 rw [Zgt]
 unfold Qeo
 refine Qad (fun h => ?_) fun h => Qad (fun h' => ?_) fun h' => ?_
 · rw [if_pos (of_decide_eq_true h)]
 · rw [if_neg (of_decide_eq_false h), if_pos (of_decide_eq_true h')]
 · rw [if_neg (of_decide_eq_false h), if_neg (of_decide_eq_false h')]
theorem Zfl : ∀ f g, Γ3 f = some g → g.ok Tryz.prog f := Qab (Qab Qzy (Qal Tryz.func64 (by kernel_rfl) (by kernel_rfl) Q4y)) (Qal Tryz.func301 (by kernel_rfl) (by kernel_rfl) Q4x)
theorem Zbo (x y : Int) (R : SV→Prop) : (Qav Tryz.prog Qbr Qax Tryz.f153 [.v (.int .u64 x),.v (.int .u64 y)] R) = (R (SV.tup [(SV.v (.int .u64 (IntKind.wrap IntKind.u64 (IntKind.wrap IntKind.u64 (IntKind.wrap IntKind.u64 (x / 4294967296 * (y / 4294967296)) + IntKind.wrap IntKind.u64 (IntKind.wrap IntKind.u64 (x / 4294967296 * bits BinOp.and IntKind.u64 y 4294967295) + IntKind.wrap IntKind.u64 (bits BinOp.and IntKind.u64 x 4294967295 * bits BinOp.and IntKind.u64 y 4294967295) / 4294967296) / 4294967296) + IntKind.wrap IntKind.u64 (bits BinOp.and IntKind.u64 (IntKind.wrap IntKind.u64 (IntKind.wrap IntKind.u64 (x / 4294967296 * bits BinOp.and IntKind.u64 y 4294967295) + IntKind.wrap IntKind.u64 (bits BinOp.and IntKind.u64 x 4294967295 * bits BinOp.and IntKind.u64 y 4294967295) / 4294967296)) 4294967295 + IntKind.wrap IntKind.u64 (bits BinOp.and IntKind.u64 x 4294967295 * (y / 4294967296))) / 4294967296)))),(SV.v (.int .u64 (IntKind.wrap IntKind.u64 (x * y))))])):=by kernel_rfl
theorem vcOf (v : Int) (R : SV→Prop) : (Qav Tryz.prog Qbr Qax Tryz.f65 [.v (.int .i64 v)] R) = (sel (decide (v < 0)) (R (SV.agg [(SV.v (.bool true)),(SV.v (.int .u64 (IntKind.wrap IntKind.u64 (0 - IntKind.wrap IntKind.u64 v)))),(SV.v (.int .u64 0))])) (R (SV.agg [(SV.v (.bool false)),(SV.v (.int .u64 (IntKind.wrap IntKind.u64 v))),(SV.v (.int .u64 0))]))):=by kernel_rfl
theorem Zgp (n : Bool) (lo hi : Int) (R : SV→Prop) : (Qav Tryz.prog Qbr Qax Tryz.f77 [exS n lo hi] R) = (R (SV.agg [(SV.v (.bool n)),(SV.v (.int .u64 (bits BinOp.or IntKind.u64 (IntKind.wrap IntKind.u64 (hi * 4294967296)) (lo / 4294967296)))),(SV.v (.int .u64 (hi / 4294967296)))])):=by kernel_rfl
theorem vcUp (n : Bool) (lo hi : Int) (R : SV→Prop) : (Qav Tryz.prog Qbr Qax Tryz.f66 [exS n lo hi] R) = (R (SV.agg [(SV.v (.bool n)),(SV.v (.int .u64 (IntKind.wrap IntKind.u64 (lo * 4294967296)))),(SV.v (.int .u64 (bits BinOp.or IntKind.u64 (IntKind.wrap IntKind.u64 (hi * 4294967296)) (lo / 4294967296))))])):=by kernel_rfl
theorem Zk6 (n : Bool) (lo hi : Int) (f : Bool) (R : SV→Prop) : (Qav Tryz.prog Qbr Qax Tryz.f68 [exS n lo hi,.v (.bool f)] R) = (sel (hi == 0) (sel (decide (lo ≤ 9223372036854775807)) (sel n (R (SV.agg [(SV.v (.int .i64 (IntKind.wrap IntKind.i64 (0 - IntKind.wrap IntKind.i64 lo)))),(SV.v (.bool f))])) (R (SV.agg [(SV.v (.int .i64 (IntKind.wrap IntKind.i64 lo))),(SV.v (.bool f))]))) (sel n (R (SV.agg [(SV.v (.int .i64 (-9223372036854775807))),(SV.v (.bool true))])) (R (SV.agg [(SV.v (.int .i64 9223372036854775807)),(SV.v (.bool true))])))) (sel n (R (SV.agg [(SV.v (.int .i64 (-9223372036854775807))),(SV.v (.bool true))])) (R (SV.agg [(SV.v (.int .i64 9223372036854775807)),(SV.v (.bool true))])))):=by kernel_rfl
theorem Za7 (v : Int) (f : Bool) (R : SV→Prop) : (Qav Tryz.prog Qbr Qax Tryz.f75 [Qcy v f] R) = (sel (v == -9223372036854775808) (R (SV.agg [(SV.v (.int .i64 (-9223372036854775807))),(SV.v (.bool true))])) (R (SV.agg [(SV.v (.int .i64 v)),(SV.v (.bool f))]))):=by kernel_rfl
theorem Za3 (v : Int) (f : Bool) (R : SV→Prop) : (Qav Tryz.prog Qbr Qax Tryz.f297 [Qcy v f] R) = (sel (v == -9223372036854775808) (R (SV.tup [(SV.v (.int .i64 (-9223372036854775807))),(SV.v (.bool true))])) (R (SV.tup [(SV.v (.int .i64 v)),(SV.v (.bool f))]))):=by kernel_rfl
theorem Zfv (v : Int) (R : SV→Prop) : (Qav Tryz.prog Qbr Qax Tryz.f300 [.v (.int .i64 v)] R) = (sel (decide (v < 0)) (R (SV.v (.int .u64 (IntKind.wrap IntKind.u64 (IntKind.wrap IntKind.i64 (0 - v)))))) (R (SV.v (.int .u64 (IntKind.wrap IntKind.u64 v))))):=by kernel_rfl
theorem Zgl (n1 : Bool) (h1 l1 : Int) (n2 : Bool) (h2 l2 : Int) (R : SV→Prop) : (Qav Tryz.prog Qbr Qax Tryz.f327 [wiS n1 h1 l1,wiS n2 h2 l2] R) = (sel (decide (h1 < h2)) (R (SV.v (.bool true))) (sel (h1 == h2) (R (SV.v (.bool (decide (l1 < l2))))) (R (SV.v (.bool false))))):=by kernel_rfl
theorem Zbj (n1 : Bool) (h1 l1 : Int) (R : SV→Prop) : (Qav Tryz.prog Qbr Qax Tryz.f304 [wiS n1 h1 l1] R) = (R (SV.agg [(SV.v (.bool n1)),(SV.v (.int .u64 (h1 / 4294967296))),(SV.v (.int .u64 (bits BinOp.or IntKind.u64 (IntKind.wrap IntKind.u64 (h1 * 4294967296)) (l1 / 4294967296))))])):=by kernel_rfl
theorem Zkq (n1 : Bool) (h1 l1 : Int) (R : SV→Prop) : (Qav Tryz.prog Qbr Qax Tryz.f295 [wiS n1 h1 l1] R) = (R (SV.agg [(SV.v (.bool n1)),(SV.v (.int .u64 (bits BinOp.or IntKind.u64 (IntKind.wrap IntKind.u64 (h1 * 4294967296)) (l1 / 4294967296)))),(SV.v (.int .u64 (IntKind.wrap IntKind.u64 (l1 * 4294967296))))])):=by kernel_rfl
theorem Zf5 (n1 : Bool) (h1 l1 : Int) (f : Bool) (R : SV→Prop) : (Qav Tryz.prog Qbr Qax Tryz.f294 [wiS n1 h1 l1,.v (.bool f)] R) = (sel (h1 != 0) (sel n1 (R (SV.agg [(SV.v (.int .i64 (-9223372036854775807))),(SV.v (.bool true))])) (R (SV.agg [(SV.v (.int .i64 9223372036854775807)),(SV.v (.bool true))]))) (sel (decide (l1 > 9223372036854775807)) (sel n1 (R (SV.agg [(SV.v (.int .i64 (-9223372036854775807))),(SV.v (.bool true))])) (R (SV.agg [(SV.v (.int .i64 9223372036854775807)),(SV.v (.bool true))]))) (sel n1 (R (SV.agg [(SV.v (.int .i64 (IntKind.wrap IntKind.i64 (0 - IntKind.wrap IntKind.i64 l1)))),(SV.v (.bool f))])) (R (SV.agg [(SV.v (.int .i64 (IntKind.wrap IntKind.i64 l1))),(SV.v (.bool f))]))))):=by kernel_rfl
theorem Zbh (v : Int) (R : SV→Prop) : (Qav Tryz.prog Qbr Qax Tryz.f298 [.v (.int .i64 v)] R) = (sel (decide (v > 0)) (R (SV.agg [(SV.v (.int .i64 9223372036854775807)),(SV.v (.bool true))])) (sel (decide (v < 0)) (R (SV.agg [(SV.v (.int .i64 (-9223372036854775807))),(SV.v (.bool true))])) (R (SV.agg [(SV.v (.int .i64 0)),(SV.v (.bool true))])))):=by kernel_rfl
def Q1m : List SV → Option (Option Prop × SV)
 | [.v (.int .u64 x), .v (.int .u64 y)] => some (some (U64 x ∧ U64 y), .tup [.v (.int .u64 (x * y / 18446744073709551616)), .v (.int .u64 (x * y % 18446744073709551616))])
 | _ => none
def sOf : List SV → Option (Option Prop × SV)
 | [.v (.int .i64 v)] => some (some (I64 v), exS (decide (v < 0)) (Qag v) 0)
 | _ => none
def Zcs : List SV → Option (Option Prop × SV)
 | [.agg [.v (.bool n), .v (.int .u64 lo), .v (.int .u64 hi)]] => some (some (U64 lo ∧ U64 hi), exM n (MM lo hi / 4294967296))
 | _ => none
def sUp : List SV → Option (Option Prop × SV)
 | [.agg [.v (.bool n), .v (.int .u64 lo), .v (.int .u64 hi)]] => some (some (U64 lo ∧ U64 hi ∧ MM lo hi < 79228162514264337593543950336), exM n (MM lo hi * 4294967296))
 | _ => none
def Zlw : List SV → Option (Option Prop × SV)
 | [.agg [.v (.bool n), .v (.int .u64 lo), .v (.int .u64 hi)], .v (.bool f)] => some (some (U64 lo ∧ U64 hi), Qcy (Ql3 n (MM lo hi)) (Qkn (MM lo hi) f))
 | _ => none
def Q1e : List SV → Option (Option Prop × SV)
 | [.agg [.v (.int .i64 v), .v (.bool f)]] => some (none, Qcy (Qaa v) (Qat v f))
 | _ => none
def Q07 : List SV → Option (Option Prop × SV)
 | [.agg [.v (.int .i64 v), .v (.bool f)]] => some (none, .tup [.v (.int .i64 (Qaa v)), .v (.bool (Qat v f))])
 | _ => none
def Zcc : List SV → Option (Option Prop × SV)
 | [.v (.int .i64 v)] => some (some (I64 v), .v (.int .u64 (Qag v)))
 | _ => none
def Zco : List SV → Option (Option Prop × SV)
 | [.agg [.v (.bool _), .v (.int .u64 h1), .v (.int .u64 l1)], .agg [.v (.bool _), .v (.int .u64 h2), .v (.int .u64 l2)]] => some (some (U64 l1 ∧ U64 l2), .v (.bool (decide (MM l1 h1 < MM l2 h2))))
 | _ => none
def Q1k : List SV → Option (Option Prop × SV)
 | [.agg [.v (.bool n), .v (.int .u64 hi), .v (.int .u64 lo)]] => some (some (U64 lo ∧ U64 hi), wiM n (MM lo hi / 4294967296))
 | _ => none
def Zlq : List SV → Option (Option Prop × SV)
 | [.agg [.v (.bool n), .v (.int .u64 hi), .v (.int .u64 lo)]] => some (some (U64 lo ∧ U64 hi ∧ MM lo hi < 79228162514264337593543950336), wiM n (MM lo hi * 4294967296))
 | _ => none
def Zce : List SV → Option (Option Prop × SV)
 | [.agg [.v (.bool n), .v (.int .u64 hi), .v (.int .u64 lo)], .v (.bool f)] => some (some (U64 lo ∧ U64 hi), Qcy (Ql3 n (MM lo hi)) (Qkn (MM lo hi) f))
 | _ => none
def Qni (a : Int) : Int := if a > 0 then 9223372036854775807 else if a < 0 then -9223372036854775807 else 0
def Q1j : List SV → Option (Option Prop × SV)
 | [.v (.int .i64 v)] => some (none, Qcy (Qni v) true)
 | _ => none
def ΓB : Qb8 := Qah (Qah (Qah (Qah (Qah (Qah (Qah (Qah (Qah (Qah (Qah (Qah (Qah Γ3
 153 (Qaj Q1m)) 65 (Qaj sOf)) 77 (Qaj Zcs)) 66 (Qaj sUp)) 68 (Qaj Zlw)) 75 (Qaj Q1e))
 297 (Qaj Q07)) 300 (Qaj Zcc)) 327 (Qaj Zco)) 304 (Qaj Q1k)) 295 (Qaj Zlq)) 294 (Qaj Zce))
 298 (Qaj Q1j)
theorem Qy6 : Qai Tryz.prog 153 Q1m := Qao hm Qa0 Tryz.func153 (Λ := fun _ => Qax) fun args p x h hp => by
 unfold Q1m at h
 split at h <;> try (cases h; done)
 rename_i x y
 cases h
 obtain ⟨h1, h2⟩ := hp _ rfl
 refine ⟨rfl, rfl, ?_⟩
 rw [Zbo]
 have e1 := Qeq h1
 have e2 := Qeq h2
 simp only [e1, e2, Qbx]
 rw [Qeq (Qb7 _)]
 have := mul64_arith x y h1.1 h1.2 h2.1 h2.2
 rw [← this]
theorem Zef : Qai Tryz.prog 65 sOf := Qao hm Qa0 Tryz.func65 (Λ := fun _ => Qax) fun args p x h hp => by
 unfold sOf at h
 split at h <;> try (cases h; done)
 rename_i v
 cases h
 obtain ⟨h1, h2⟩ := hp _ rfl
 refine ⟨rfl, rfl, ?_⟩
 rw [vcOf]
 refine Qad (fun h => ?_) fun h => ?_
 · have h' := of_decide_eq_true h
   refine Qsu h.symm ?_ rfl
   rw [Qbx, Qbx]; unfold Qag; rw [if_pos h']; omega
 · have h' := of_decide_eq_false h
   refine Qsu h.symm ?_ rfl
   rw [Qbx]; unfold Qag; rw [if_neg h']; omega
theorem Q4s : Qai Tryz.prog 77 Zcs := Qao hm Qa0 Tryz.func77 (Λ := fun _ => Qax) fun args p x h hp => by
 unfold Zcs at h
 split at h <;> try (cases h; done)
 cases h
 obtain ⟨h1, h2⟩ := hp _ rfl
 refine ⟨rfl, rfl, ?_⟩
 rw [show ∀ n lo hi, SV.agg [.v (.bool n), .v (.int .u64 lo), .v (.int .u64 hi)] = exS n lo hi from fun _ _ _ => rfl, Zgp]
 refine Qsu rfl ?_ ?_
 · rw [Qmk h2 h1]; obtain ⟨_, _⟩ := h1; obtain ⟨_, _⟩ := h2; unfold MM; omega
 · obtain ⟨_, _⟩ := h1; obtain ⟨_, _⟩ := h2; unfold MM; omega
theorem Zea : Qai Tryz.prog 66 sUp := Qao hm Qa0 Tryz.func66 (Λ := fun _ => Qax) fun args p x h hp => by
 unfold sUp at h
 split at h <;> try (cases h; done)
 cases h
 obtain ⟨h1, h2, h3⟩ := hp _ rfl
 refine ⟨rfl, rfl, ?_⟩
 rw [show ∀ n lo hi, SV.agg [.v (.bool n), .v (.int .u64 lo), .v (.int .u64 hi)] = exS n lo hi from fun _ _ _ => rfl, vcUp]
 refine Qsu rfl ?_ ?_
 · rw [Qbx]; obtain ⟨_, _⟩ := h1; obtain ⟨_, _⟩ := h2; unfold MM; omega
 · rw [Qmk h2 h1]; unfold MM at h3; obtain ⟨_, _⟩ := h1; obtain ⟨_, _⟩ := h2; unfold MM; omega
theorem Qy1 : Qai Tryz.prog 304 Q1k := Qao hm Qa0 Tryz.func304 (Λ := fun _ => Qax) fun args p x h hp => by
 unfold Q1k at h
 split at h <;> try (cases h; done)
 cases h
 obtain ⟨h1, h2⟩ := hp _ rfl
 refine ⟨rfl, rfl, ?_⟩
 rw [show ∀ n lo hi, SV.agg [.v (.bool n), .v (.int .u64 hi), .v (.int .u64 lo)] = wiS n hi lo from fun _ _ _ => rfl, Zbj]
 refine Qxm rfl ?_ ?_
 · rw [Qmk h2 h1]; obtain ⟨_, _⟩ := h1; obtain ⟨_, _⟩ := h2; unfold MM; omega
 · obtain ⟨_, _⟩ := h1; obtain ⟨_, _⟩ := h2; unfold MM; omega
theorem Q7z : Qai Tryz.prog 295 Zlq := Qao hm Qa0 Tryz.func295 (Λ := fun _ => Qax) fun args p x h hp => by
 unfold Zlq at h
 split at h <;> try (cases h; done)
 cases h
 obtain ⟨h1, h2, h3⟩ := hp _ rfl
 refine ⟨rfl, rfl, ?_⟩
 rw [show ∀ n lo hi, SV.agg [.v (.bool n), .v (.int .u64 hi), .v (.int .u64 lo)] = wiS n hi lo from fun _ _ _ => rfl, Zkq]
 refine Qxm rfl ?_ ?_
 · rw [Qbx]; obtain ⟨_, _⟩ := h1; obtain ⟨_, _⟩ := h2; unfold MM; omega
 · rw [Qmk h2 h1]; unfold MM at h3; obtain ⟨_, _⟩ := h1; obtain ⟨_, _⟩ := h2; unfold MM; omega
theorem Qxj {lo hi : Int} (h1 : U64 lo) (h2 : U64 hi) : (hi = 0 ∧ lo ≤ 9223372036854775807) ↔ MM lo hi ≤ 9223372036854775807 := by
 obtain ⟨_, _⟩ := h1; obtain ⟨_, _⟩ := h2; unfold MM; omega
theorem Q8d : Qai Tryz.prog 68 Zlw := Qao hm Qa0 Tryz.func68 (Λ := fun _ => Qax) fun args p x h hp => by
 unfold Zlw at h
 split at h <;> try (cases h; done)
 rename_i n lo hi f
 cases h
 obtain ⟨h1, h2⟩ := hp _ rfl
 refine ⟨rfl, rfl, ?_⟩
 rw [show ∀ n lo hi, SV.agg [.v (.bool n), .v (.int .u64 lo), .v (.int .u64 hi)] = exS n lo hi from fun _ _ _ => rfl, Zk6]
 have hs := Qxj h1 h2
 obtain ⟨a1, a2⟩ := h1
 have big : ∀ b : Bool, n = b → ¬ MM lo hi ≤ 9223372036854775807 → SV.agg [.v (.int .i64 (if b then -9223372036854775807 else 9223372036854775807)), .v (.bool true)] = Qcy (Ql3 n (MM lo hi)) (Qkn (MM lo hi) f) := fun b hb e => by
   subst hb
   refine Qbz ?_ ?_
   · unfold Ql3; rw [if_neg e]
   · unfold Qkn; rw [if_neg e]
 have low : hi = 0 → lo ≤ 9223372036854775807 → MM lo hi = lo ∧ MM lo hi ≤ 9223372036854775807 := fun e1 e2 => ⟨by unfold MM; omega, hs.1 ⟨e1, e2⟩⟩
 refine Qad (fun h => Qad (fun h' => Qad (fun h'' => ?_) fun h'' => ?_) fun h' => Qad (fun h'' => ?_) fun h'' => ?_) fun h => Qad (fun h'' => ?_) fun h'' => ?_
 · obtain ⟨e1, e2⟩ := low (by simpa using h) (of_decide_eq_true h')
   subst h''
   refine Qbz ?_ ?_
   · unfold Ql3; rw [if_pos e2, if_pos rfl, e1, Qaf (n := lo) ⟨by omega, by omega⟩, Qaf ⟨by omega, by omega⟩]; omega
   · unfold Qkn; rw [if_pos e2]
 · obtain ⟨e1, e2⟩ := low (by simpa using h) (of_decide_eq_true h')
   subst h''
   refine Qbz ?_ ?_
   · unfold Ql3; rw [if_pos e2, if_neg (by simp), e1, Qaf ⟨by omega, by omega⟩]
   · unfold Qkn; rw [if_pos e2]
 · exact big true h'' fun e => of_decide_eq_false h' (hs.2 e).2
 · exact big false h'' fun e => of_decide_eq_false h' (hs.2 e).2
 · exact big true h'' fun e => (by have := (hs.2 e).1; simp [this] at h)
 · exact big false h'' fun e => (by have := (hs.2 e).1; simp [this] at h)
theorem Q39 : Qai Tryz.prog 294 Zce := Qao hm Qa0 Tryz.func294 (Λ := fun _ => Qax) fun args p x h hp => by
 unfold Zce at h
 split at h <;> try (cases h; done)
 rename_i n hi lo f
 cases h
 obtain ⟨h1, h2⟩ := hp _ rfl
 refine ⟨rfl, rfl, ?_⟩
 rw [show ∀ n lo hi, SV.agg [.v (.bool n), .v (.int .u64 hi), .v (.int .u64 lo)] = wiS n hi lo from fun _ _ _ => rfl, Zf5]
 have hs := Qxj h1 h2
 obtain ⟨a1, a2⟩ := h1
 have big : ∀ b : Bool, n = b → ¬ MM lo hi ≤ 9223372036854775807 → SV.agg [.v (.int .i64 (if b then -9223372036854775807 else 9223372036854775807)), .v (.bool true)] = Qcy (Ql3 n (MM lo hi)) (Qkn (MM lo hi) f) := fun b hb e => by
   subst hb
   refine Qbz ?_ ?_
   · unfold Ql3; rw [if_neg e]
   · unfold Qkn; rw [if_neg e]
 have low : hi = 0 → lo ≤ 9223372036854775807 → MM lo hi = lo ∧ MM lo hi ≤ 9223372036854775807 := fun e1 e2 => ⟨by unfold MM; omega, hs.1 ⟨e1, e2⟩⟩
 refine Qad (fun h => Qad (fun h'' => ?_) fun h'' => ?_) fun h => Qad (fun h' => Qad (fun h'' => ?_) fun h'' => ?_) fun h' => Qad (fun h'' => ?_) fun h'' => ?_
 · exact big true h'' fun e => (by have := (hs.2 e).1; simp [this] at h)
 · exact big false h'' fun e => (by have := (hs.2 e).1; simp [this] at h)
 · exact big true h'' fun e => (by have := of_decide_eq_true h'; have := (hs.2 e).2; omega)
 · exact big false h'' fun e => (by have := of_decide_eq_true h'; have := (hs.2 e).2; omega)
 · obtain ⟨e1, e2⟩ := low (by simpa using h) (by have := of_decide_eq_false h'; omega)
   subst h''
   refine Qbz ?_ ?_
   · unfold Ql3; rw [if_pos e2, if_pos rfl, e1, Qaf (n := lo) ⟨by omega, by omega⟩, Qaf ⟨by omega, by omega⟩]; omega
   · unfold Qkn; rw [if_pos e2]
 · obtain ⟨e1, e2⟩ := low (by simpa using h) (by have := of_decide_eq_false h'; omega)
   subst h''
   refine Qbz ?_ ?_
   · unfold Ql3; rw [if_pos e2, if_neg (by simp), e1, Qaf ⟨by omega, by omega⟩]
   · unfold Qkn; rw [if_pos e2]
theorem Qyq : Qai Tryz.prog 75 Q1e := Qao hm Qa0 Tryz.func75 (Λ := fun _ => Qax) fun args p x h hp => by
 unfold Q1e at h
 split at h <;> try (cases h; done)
 rename_i v f
 cases h
 refine ⟨rfl, rfl, ?_⟩
 rw [show ∀ v f, SV.agg [.v (.int .i64 v), .v (.bool f)] = Qcy v f from fun _ _ => rfl, Za7]
 refine Qad (fun h => ?_) fun h => ?_
 · have h := eq_of_beq h
   exact Qbz (by unfold Qaa; rw [if_pos h]) (by unfold Qat; rw [if_pos h])
 · have h : ¬ v = -9223372036854775808 := fun e => by rw [e] at h; exact absurd h (by decide)
   exact Qbz (by unfold Qaa; rw [if_neg h]) (by unfold Qat; rw [if_neg h])
theorem Qyl : Qai Tryz.prog 297 Q07 := Qao hm Qa0 Tryz.func297 (Λ := fun _ => Qax) fun args p x h hp => by
 unfold Q07 at h
 split at h <;> try (cases h; done)
 rename_i v f
 cases h
 refine ⟨rfl, rfl, ?_⟩
 rw [show ∀ v f, SV.agg [.v (.int .i64 v), .v (.bool f)] = Qcy v f from fun _ _ => rfl, Za3]
 refine Qad (fun h => ?_) fun h => ?_
 · have h := eq_of_beq h
   show SV.tup _ = SV.tup _
   unfold Qaa Qat; rw [if_pos h, if_pos h]
 · have h : ¬ v = -9223372036854775808 := fun e => by rw [e] at h; exact absurd h (by decide)
   show SV.tup _ = SV.tup _
   unfold Qaa Qat; rw [if_neg h, if_neg h]
theorem Q33 : Qai Tryz.prog 300 Zcc := Qao hm Qa0 Tryz.func300 (Λ := fun _ => Qax) fun args p x h hp => by
 unfold Zcc at h
 split at h <;> try (cases h; done)
 rename_i v
 cases h
 obtain ⟨h1, h2⟩ := hp _ rfl
 refine ⟨rfl, rfl, ?_⟩
 rw [Zfv]
 refine Qad (fun h => ?_) fun h => ?_
 · have h' := of_decide_eq_true h
   refine Qbh ?_
   rw [Qbx, Qr0]; unfold Qag; rw [if_pos h']; split <;> omega
 · have h' := of_decide_eq_false h
   refine Qbh ?_
   rw [Qbx]; unfold Qag; rw [if_neg h']; omega
theorem Q4o : Qai Tryz.prog 327 Zco := Qao hm Qa0 Tryz.func327 (Λ := fun _ => Qax) fun args p x h hp => by
 unfold Zco at h
 split at h <;> try (cases h; done)
 rename_i n1 hi1 lo1 n2 hi2 lo2
 cases h
 obtain ⟨⟨h1, h2⟩, ⟨h3, h4⟩⟩ := hp _ rfl
 refine ⟨rfl, rfl, ?_⟩
 rw [show ∀ n lo hi, SV.agg [.v (.bool n), .v (.int .u64 hi), .v (.int .u64 lo)] = wiS n hi lo from fun _ _ _ => rfl, show ∀ n lo hi, SV.agg [.v (.bool n), .v (.int .u64 hi), .v (.int .u64 lo)] = wiS n hi lo from fun _ _ _ => rfl, Zgl]
 refine Qad (fun h => ?_) fun h => Qad (fun h' => ?_) fun h' => ?_
 · have h := of_decide_eq_true h
   refine Qdy (decide_eq_true ?_).symm
   unfold MM; omega
 · have h' : hi1 = hi2 := eq_of_beq h'
   refine Qdy (decide_eq_decide.2 ?_)
   unfold MM; omega
 · have h := of_decide_eq_false h
   have h' : ¬ hi1 = hi2 := fun e => by rw [e] at h'; simp at h'
   refine Qdy (decide_eq_false ?_).symm
   unfold MM; omega
theorem Qyz : Qai Tryz.prog 298 Q1j := Qao hm Qa0 Tryz.func298 (Λ := fun _ => Qax) fun args p x h hp => by
 unfold Q1j at h
 split at h <;> try (cases h; done)
 rename_i v
 cases h
 refine ⟨rfl, rfl, ?_⟩
 rw [Zbh]
 refine Qad (fun h => ?_) fun h => Qad (fun h' => ?_) fun h' => ?_
 · refine Qbz ?_ rfl; unfold Qni; rw [if_pos (of_decide_eq_true h)]
 · refine Qbz ?_ rfl; unfold Qni; rw [if_neg (of_decide_eq_false h), if_pos (of_decide_eq_true h')]
 · refine Qbz ?_ rfl; unfold Qni; rw [if_neg (of_decide_eq_false h), if_neg (of_decide_eq_false h')]
theorem Qrz : ∀ f g, ΓB f = some g → g.ok Tryz.prog f := Qab (Qab (Qab (Qab (Qab (Qab (Qab (Qab (Qab (Qab (Qab (Qab (Qab Zfl
 (Qal Tryz.func153 (by kernel_rfl) (by kernel_rfl) Qy6)) (Qal Tryz.func65 (by kernel_rfl) (by kernel_rfl) Zef)) (Qal Tryz.func77 (by kernel_rfl) (by kernel_rfl) Q4s))
 (Qal Tryz.func66 (by kernel_rfl) (by kernel_rfl) Zea)) (Qal Tryz.func68 (by kernel_rfl) (by kernel_rfl) Q8d)) (Qal Tryz.func75 (by kernel_rfl) (by kernel_rfl) Qyq))
 (Qal Tryz.func297 (by kernel_rfl) (by kernel_rfl) Qyl)) (Qal Tryz.func300 (by kernel_rfl) (by kernel_rfl) Q33)) (Qal Tryz.func327 (by kernel_rfl) (by kernel_rfl) Q4o))
 (Qal Tryz.func304 (by kernel_rfl) (by kernel_rfl) Qy1)) (Qal Tryz.func295 (by kernel_rfl) (by kernel_rfl) Q7z)) (Qal Tryz.func294 (by kernel_rfl) (by kernel_rfl) Q39))
 (Qal Tryz.func298 (by kernel_rfl) (by kernel_rfl) Qyz)
def isI : List SV → Prop
 | [.v (.int .i64 _)] => True
 | _ => False
def Qog (l : List SV) : Int := match l with | [.v (.int _ v)] => v | _ => 0
def orL : List (List SV) → Int
 | [] => 0
 | r :: t => if Qog r ≠ 0 then Qog r else orL t
def sOr : List SV → List Ro → Option (Option Prop × SV)
 | [.sl 0 1 0 n _], [⟨1, n', row⟩] => some (some (Qb5 isI (Qak n' row) ∧ n' = n ∧ n < 4611686018427387904), .v (.int .i64 (orL (Qak n row))))
 | _, _ => none
noncomputable def Zj2 (n : Nat) (f : Nat → Int) : Nat → Option LoopSpec := Qcp Qax Tryz.f113 0 Nat (fun i => i ≤ n ∧ ∀ j, j < i → f j = 0) (fun i => n - i) [(8, fun i => .v (.int .i64 i))] []
def Zhh (f : Nat → Int) : Nat → List SV := fun i => [.v (.int .i64 (f i))]
theorem vcOr (n n' c : Nat) (f : Nat→Int) (R : SV→Prop) : (Qcu Tryz.prog Qbr (Zj2 n f) Tryz.f113 [.sl 0 1 0 n c] (Qbm [⟨1,n',Zhh f⟩]) 64 (fun y _ => R y)) = ((∃ x : Nat,((((x : Nat) ≤ n)∧(∀ j : Nat,(((j : Nat) < x)→(((f j) : Int) = 0))))∧(((SV.v (.int .i64 0)) = (SV.v (.int .i64 ((↑x : Int)))))∧True)))∧(∀ x : Nat,((((x : Nat) ≤ n)∧(∀ j : Nat,(((j : Nat) < x)→(((f j) : Int) = 0))))→(sel (decide ((↑x : Int) < (↑n : Int))) ((((0 : Int) ≤ ((↑x : Int)))∧((((↑x : Int)) : Int) < ((↑n : Int))))∧(sel (f (0 + Int.toNat (↑x : Int)) != 0) (R (SV.v (.int .i64 (f (0 + Int.toNat (↑x : Int)))))) (∃ x' : Nat,(((((x' : Nat) ≤ n)∧(∀ j : Nat,(((j : Nat) < x')→(((f j) : Int) = 0))))∧(((SV.v (.int .i64 (IntKind.wrap IntKind.i64 ((↑x : Int) + 1)))) = (SV.v (.int .i64 ((↑x' : Int)))))∧True))∧(((n - x') : Nat) < (n - x)))))) (R (SV.v (.int .i64 0))))))):=by kernel_rfl
def Qqm : List SV → Option (Option Prop × SV)
 | [.v (.int .i64 a), .v (.int .i64 b)] => some (some (I64 a ∧ I64 b), exM (!(decide (a < 0) == decide (b < 0))) (Qag a * Qag b))
 | _ => none
def Q1b : List SV → Option (Option Prop × SV)
 | [.v (.int .i64 a), .v (.int .i64 b)] => some (some (I64 a ∧ I64 b), wiM ((!(decide (a < 0) == decide (b < 0))) && a != 0 && b != 0) (Qag a * Qag b))
 | _ => none
def Quh : List SV → Option (Option Prop × SV)
 | [.v (.int .i64 v)] => some (some (I64 v), wiS (decide (v < 0)) 0 (Qag v))
 | _ => none
def plZ (n1 : Bool) (m1 : Int) (n2 : Bool) (m2 : Int) : Bool := if n1 = n2 then n1 else if m1 < m2 then n2 else n1 && m1 != m2
def Q1i : List SV → Option (Option Prop × SV)
 | [.agg [.v (.bool n1), .v (.int .u64 h1), .v (.int .u64 l1)], .agg [.v (.bool n2), .v (.int .u64 h2), .v (.int .u64 l2)]] =>
   some (some ((U64 l1 ∧ U64 h1) ∧ (U64 l2 ∧ U64 h2) ∧ MM l1 h1 + MM l2 h2 < 340282366920938463463374607431768211456), wiM (plZ n1 (MM l1 h1) n2 (MM l2 h2)) (plM n1 (MM l1 h1) n2 (MM l2 h2)))
 | _ => none
def Zcg : List SV → Option (Option Prop × SV)
 | [.agg [.v (.bool n1), .v (.int .u64 l1), .v (.int .u64 h1)], .agg [.v (.bool n2), .v (.int .u64 l2), .v (.int .u64 h2)]] =>
   some (some ((U64 l1 ∧ U64 h1) ∧ (U64 l2 ∧ U64 h2) ∧ MM l1 h1 + MM l2 h2 < 340282366920938463463374607431768211456), exM (plN n1 (MM l1 h1) n2 (MM l2 h2)) (plM n1 (MM l1 h1) n2 (MM l2 h2)))
 | _ => none
def Zb7 : List SV → Option (Option Prop × SV)
 | [.agg [.v (.int .u64 l1), .v (.int .u64 h1)], .agg [.v (.int .u64 l2), .v (.int .u64 h2)]] => some (some ((U64 l1 ∧ U64 h1) ∧ (U64 l2 ∧ U64 h2)), .v (.int .i64 (Qeo (MM l1 h1) (MM l2 h2))))
 | _ => none
def Zkh : Qb8 := Qah ΓB 113 (Qc7 sOr)
def Zkg : Qb8 := Qah Zkh 226 (Qaj Zb7)
def ΓC : Qb8 := Qah (Qah (Qah (Qah (Qah Zkg 76 (Qaj Qqm)) 152 (Qaj Zcg)) 305 (Qaj Q1b)) 296 (Qaj Quh)) 308 (Qaj Q1i)
theorem Q0c (a b : Int) (R : SV→Prop) : (Qav Tryz.prog ΓB Qax Tryz.f76 [.v (.int .i64 a),.v (.int .i64 b)] R) = ((I64 a)∧((I64 b)∧(((U64 (Qag a))∧(U64 (Qag b)))∧(R (SV.agg [(SV.v (.bool (!decide (a < 0) == decide (b < 0)))),(SV.v (.int .u64 (Qag a * Qag b % 18446744073709551616))),(SV.v (.int .u64 (Qag a * Qag b / 18446744073709551616)))]))))):=by kernel_rfl
theorem Za5 (a b : Int) (R : SV→Prop) : (Qav Tryz.prog ΓB Qax Tryz.f305 [.v (.int .i64 a),.v (.int .i64 b)] R) = ((I64 a)∧((I64 b)∧(((U64 (Qag a))∧(U64 (Qag b)))∧(sel (!decide (a < 0) == decide (b < 0)) (sel (a != 0) (R (SV.agg [(SV.v (.bool (b != 0))),(SV.v (.int .u64 (Qag a * Qag b / 18446744073709551616))),(SV.v (.int .u64 (Qag a * Qag b % 18446744073709551616)))])) (R (SV.agg [(SV.v (.bool false)),(SV.v (.int .u64 (Qag a * Qag b / 18446744073709551616))),(SV.v (.int .u64 (Qag a * Qag b % 18446744073709551616)))]))) (R (SV.agg [(SV.v (.bool false)),(SV.v (.int .u64 (Qag a * Qag b / 18446744073709551616))),(SV.v (.int .u64 (Qag a * Qag b % 18446744073709551616)))])))))):=by kernel_rfl
theorem Q5t (v : Int) (R : SV→Prop) : (Qav Tryz.prog ΓB Qax Tryz.f296 [.v (.int .i64 v)] R) = ((I64 v)∧(R (SV.agg [(SV.v (.bool (decide (v < 0)))),(SV.v (.int .u64 0)),(SV.v (.int .u64 (Qag v)))]))):=by kernel_rfl
theorem Zbg (n1 : Bool) (h1 l1 : Int) (n2 : Bool) (h2 l2 : Int) (R : SV→Prop) : (Qav Tryz.prog ΓB Qax Tryz.f308 [wiS n1 h1 l1,wiS n2 h2 l2] R) =
(sel (n1 == n2) (((U64 l1)∧((U64 l2)∧(((0 : Int) ≤ 0)∧((0 : Int) ≤ 1))))∧(((U64 h1)∧((U64 h2)∧(((0 : Int) ≤ ((l1 + l2 + 0) / 18446744073709551616))∧((((l1 + l2 + 0) / 18446744073709551616) : Int) ≤ 1))))∧(R (SV.agg [(SV.v (.bool n1)),(SV.v (.int .u64 ((h1 + h2 + (l1 + l2 + 0) / 18446744073709551616) % 18446744073709551616))),(SV.v (.int .u64 ((l1 + l2 + 0) % 18446744073709551616)))])))) (((U64 l1)∧(U64 l2))∧(sel (decide (MM l1 h1 < MM l2 h2)) (((U64 l2)∧((U64 l1)∧(((0 : Int) ≤ 0)∧((0 : Int) ≤ 1))))∧(((U64 h2)∧((U64 h1)∧(((0 : Int) ≤ (bor l2 (l1 + 0)))∧(((bor l2 (l1 + 0)) : Int) ≤ 1))))∧(sel n2 (sel ((h2 - h1 - bor l2 (l1 + 0)) % 18446744073709551616 != 0) (R (SV.agg [(SV.v (.bool true)),(SV.v (.int .u64 ((h2 - h1 - bor l2 (l1 + 0)) % 18446744073709551616))),(SV.v (.int .u64 ((l2 - l1 - 0) % 18446744073709551616)))])) (R (SV.agg [(SV.v (.bool ((l2 - l1 - 0) % 18446744073709551616 != 0))),(SV.v (.int .u64 ((h2 - h1 - bor l2 (l1 + 0)) % 18446744073709551616))),(SV.v (.int .u64 ((l2 - l1 - 0) % 18446744073709551616)))]))) (R (SV.agg [(SV.v (.bool false)),(SV.v (.int .u64 ((h2 - h1 - bor l2 (l1 + 0)) % 18446744073709551616))),(SV.v (.int .u64 ((l2 - l1 - 0) % 18446744073709551616)))]))))) (((U64 l1)∧((U64 l2)∧(((0 : Int) ≤ 0)∧((0 : Int) ≤ 1))))∧(((U64 h1)∧((U64 h2)∧(((0 : Int) ≤ (bor l1 (l2 + 0)))∧(((bor l1 (l2 + 0)) : Int) ≤ 1))))∧(sel n1 (sel ((h1 - h2 - bor l1 (l2 + 0)) % 18446744073709551616 != 0) (R (SV.agg [(SV.v (.bool true)),(SV.v (.int .u64 ((h1 - h2 - bor l1 (l2 + 0)) % 18446744073709551616))),(SV.v (.int .u64 ((l1 - l2 - 0) % 18446744073709551616)))])) (R (SV.agg [(SV.v (.bool ((l1 - l2 - 0) % 18446744073709551616 != 0))),(SV.v (.int .u64 ((h1 - h2 - bor l1 (l2 + 0)) % 18446744073709551616))),(SV.v (.int .u64 ((l1 - l2 - 0) % 18446744073709551616)))]))) (R (SV.agg [(SV.v (.bool false)),(SV.v (.int .u64 ((h1 - h2 - bor l1 (l2 + 0)) % 18446744073709551616))),(SV.v (.int .u64 ((l1 - l2 - 0) % 18446744073709551616)))])))))))) := by kernel_rfl
theorem Zfq (l1 h1 l2 h2 : Int) (R : SV→Prop) : (Qav Tryz.prog Zkh Qax Tryz.f226 [woS l1 h1,woS l2 h2] R) = ((((isI [SV.v (.int .i64 (Qeo h1 h2))])∧((isI [SV.v (.int .i64 (Qeo l1 l2))])∧True))∧(((2 : Nat) = 2)∧((2 : Nat) < 4611686018427387904)))∧(R (SV.v (.int .i64 (orL [[SV.v (.int .i64 (Qeo h1 h2))],[SV.v (.int .i64 (Qeo l1 l2))]]))))):=by kernel_rfl
theorem Zgd (n1 : Bool) (l1 h1 : Int) (n2 : Bool) (l2 h2 : Int) (R : SV→Prop) : (Qav Tryz.prog Zkg Qax Tryz.f152 [exS n1 l1 h1,exS n2 l2 h2] R) = (sel (n1 == n2) (((U64 l1)∧((U64 l2)∧(((0 : Int) ≤ 0)∧((0 : Int) ≤ 1))))∧(((U64 h1)∧((U64 h2)∧(((0 : Int) ≤ ((l1 + l2 + 0) / 18446744073709551616))∧((((l1 + l2 + 0) / 18446744073709551616) : Int) ≤ 1))))∧(R (SV.agg [(SV.v (.bool n1)),(SV.v (.int .u64 ((l1 + l2 + 0) % 18446744073709551616))),(SV.v (.int .u64 ((h1 + h2 + (l1 + l2 + 0) / 18446744073709551616) % 18446744073709551616)))])))) ((((U64 l1)∧(U64 h1))∧((U64 l2)∧(U64 h2)))∧(sel (decide (Qeo (MM l1 h1) (MM l2 h2) < 0)) (((U64 l2)∧((U64 l1)∧(((0 : Int) ≤ 0)∧((0 : Int) ≤ 1))))∧(((U64 h2)∧((U64 h1)∧(((0 : Int) ≤ (bor l2 (l1 + 0)))∧(((bor l2 (l1 + 0)) : Int) ≤ 1))))∧(R (SV.agg [(SV.v (.bool n2)),(SV.v (.int .u64 ((l2 - l1 - 0) % 18446744073709551616))),(SV.v (.int .u64 ((h2 - h1 - bor l2 (l1 + 0)) % 18446744073709551616)))])))) (((U64 l1)∧((U64 l2)∧(((0 : Int) ≤ 0)∧((0 : Int) ≤ 1))))∧(((U64 h1)∧((U64 h2)∧(((0 : Int) ≤ (bor l1 (l2 + 0)))∧(((bor l1 (l2 + 0)) : Int) ≤ 1))))∧(R (SV.agg [(SV.v (.bool n1)),(SV.v (.int .u64 ((l1 - l2 - 0) % 18446744073709551616))),(SV.v (.int .u64 ((h1 - h2 - bor l1 (l2 + 0)) % 18446744073709551616)))]))))))):=by kernel_rfl
theorem Qux {r : List SV} (h : isI r) : r = [.v (.int .i64 (Qog r))] := by
 unfold isI at h
 split at h
 · rfl
 · exact h.elim
theorem Qng {row : Nat → List SV} : ∀ {i : Nat}, (∀ j, j < i → Qog (row j) = 0) → ∀ l, orL (Qak i row ++ l) = orL l
 | 0, _, l => rfl
 | i + 1, h, l => by
   rw [Qft, List.append_assoc, Qng (fun j hj => h j (by omega))]
   simp [orL, h i (by omega)]
theorem Qhv {n i : Nat} (row : Nat → List SV) (h : i < n) : ∃ t, Qak n row = Qak i row ++ row i :: t := by
 refine ⟨(List.range' (i + 1) (n - i - 1)).map row, ?_⟩
 unfold Qak
 rw [show n = i + (1 + (n - i - 1)) by omega, ← List.range'_append_1, List.map_append, ← List.range'_append_1]
 simp [List.range'_succ]
theorem Zed : Qcg Tryz.prog 113 sOr := Qb4 hm Qa0 Tryz.func113 (Λ := fun args bs => match args, bs with | [.sl 0 1 0 n _], [⟨1, _, row⟩] => Zj2 n (fun i => Qog (row i)) | _, _ => Qax) fun args bs p x h hp => by
 unfold sOr at h
 split at h <;> try (cases h; done)
 rename_i n c n' row
 cases h
 obtain ⟨h1, rfl, h3⟩ := hp _ rfl
 have h1 := okAll_rows.1 h1
 refine ⟨rfl, [⟨1, n', Zhh fun i => Qog (row i)⟩], ⟨⟨rfl, rfl, fun i hi => Qux (h1 i hi)⟩, trivial⟩, ?_⟩
 show Qcu _ _ (Zj2 n' fun i => Qog (row i)) _ _ _ _ _
 rw [vcOr]
 refine ⟨⟨0, ⟨by omega, fun j hj => by omega⟩, rfl, trivial⟩, fun i hi => ?_⟩
 refine Qad (fun h => ?_) fun h => ?_
 · have h' : i < n' := by have := of_decide_eq_true h; omega
   refine ⟨⟨by omega, by omega⟩, Qad (fun h'' => ?_) fun h'' => ?_⟩
   · have h'' : Qog (row (0 + Int.toNat (i : Int))) ≠ 0 := by simpa using h''
     simp only [Int.toNat_natCast, Nat.zero_add] at h'' ⊢
     obtain ⟨t, ht⟩ := Qhv row h'
     rw [ht, Qng hi.2]
     simp [orL, h'']
   · have h'' : Qog (row (0 + Int.toNat (i : Int))) = 0 := by simpa using h''
     simp only [Int.toNat_natCast, Nat.zero_add] at h''
     refine ⟨i + 1, ⟨⟨by omega, fun j hj => ?_⟩, Qbh ?_, trivial⟩, by omega⟩
     · rcases Nat.lt_or_eq_of_le (Nat.le_of_lt_succ hj) with hj | rfl
       · exact hi.2 j hj
       · exact h''
     · rw [Qaf ⟨by omega, by omega⟩]; omega
 · have h' : ¬ i < n' := by have := of_decide_eq_false h; omega
   have : i = n' := by omega
   subst this
   have := Qng hi.2 []
   rw [List.append_nil] at this
   rw [this]; rfl
theorem Qzx : ∀ f g, Zkh f = some g → g.ok Tryz.prog f := Qab Qrz (Qdc Tryz.func113 (by kernel_rfl) (by kernel_rfl) Zed)
theorem Zc9 (a b : Int) : orL [[.v (.int .i64 a)], [.v (.int .i64 b)]] = if a = 0 then b else a := by
 show (if a ≠ 0 then a else if b ≠ 0 then b else 0) = _
 by_cases ha : a = 0 <;> by_cases hb : b = 0 <;> simp [ha, hb]
theorem Qn2 {a b : Int} (h : a < b) : Qeo a b = -1 := if_pos h
theorem Qn3 {a b : Int} (h : b < a) : Qeo a b = 1 := by unfold Qeo; rw [if_neg (by omega), if_pos h]
theorem Qrf (a : Int) : Qeo a a = 0 := by unfold Qeo; rw [if_neg (by omega), if_neg (by omega)]
theorem Q3d {l1 h1 l2 h2 : Int} (p1 : U64 l1) (p3 : U64 l2) : (if Qeo h1 h2 = 0 then Qeo l1 l2 else Qeo h1 h2) = Qeo (MM l1 h1) (MM l2 h2) := by
 obtain ⟨_, _⟩ := p1; obtain ⟨_, _⟩ := p3
 rcases Int.lt_trichotomy h1 h2 with h | h | h
 · rw [Qn2 h, if_neg (by decide), Qn2 (by unfold MM; omega)]
 · subst h
   rw [Qrf, if_pos rfl]
   rcases Int.lt_trichotomy l1 l2 with h | h | h
   · rw [Qn2 h, Qn2 (by unfold MM; omega)]
   · subst h; rw [Qrf, Qrf]
   · rw [Qn3 h, Qn3 (by unfold MM; omega)]
 · rw [Qn3 h, if_neg (by decide), Qn3 (by unfold MM; omega)]
theorem Q3w : Qai Tryz.prog 226 Zb7 := Qao hm Qzx Tryz.func226 (Λ := fun _ => Qax) fun args p x h hp => by
 unfold Zb7 at h
 split at h <;> try (cases h; done)
 rename_i l1 h1 l2 h2
 cases h
 obtain ⟨⟨p1, p2⟩, p3, p4⟩ := hp _ rfl
 refine ⟨rfl, rfl, ?_⟩
 rw [show ∀ a b, SV.agg [.v (.int .u64 a), .v (.int .u64 b)] = woS a b from fun _ _ => rfl, show ∀ a b, SV.agg [.v (.int .u64 a), .v (.int .u64 b)] = woS a b from fun _ _ => rfl, Zfq]
 refine ⟨⟨⟨trivial, trivial, trivial⟩, rfl, by decide⟩, Qbh ?_⟩
 rw [Zc9, Q3d p1 p3]
theorem Qzw : ∀ f g, Zkg f = some g → g.ok Tryz.prog f := Qab Qzx (Qal Tryz.func226 (by kernel_rfl) (by kernel_rfl) Q3w)
theorem Qcx {a b : Int} : 0 ≤ Qag a * Qag b := Int.mul_nonneg (Qb2 a) (Qb2 b)
theorem Qtb : Qai Tryz.prog 76 Qqm := Qao hm Qrz Tryz.func76 (Λ := fun _ => Qax) fun args p x h hp => by
 unfold Qqm at h
 split at h <;> try (cases h; done)
 cases h
 obtain ⟨h1, h2⟩ := hp _ rfl
 refine ⟨rfl, rfl, ?_⟩
 rw [Q0c]
 exact ⟨h1, h2, ⟨Qds h1, Qds h2⟩, Qsu rfl rfl rfl⟩
theorem Qyo : Qai Tryz.prog 305 Q1b := Qao hm Qrz Tryz.func305 (Λ := fun _ => Qax) fun args p x h hp => by
 unfold Q1b at h
 split at h <;> try (cases h; done)
 cases h
 obtain ⟨h1, h2⟩ := hp _ rfl
 refine ⟨rfl, rfl, ?_⟩
 rw [Za5]
 refine ⟨h1, h2, ⟨Qds h1, Qds h2⟩, Qad (fun h => Qad (fun h' => ?_) fun h' => ?_) fun h => ?_⟩
 · exact Qxm (by rw [h, h']; rfl) rfl rfl
 · exact Qxm (by rw [h, h']; rfl) rfl rfl
 · exact Qxm (by rw [h]; rfl) rfl rfl
theorem Qvh : Qai Tryz.prog 296 Quh := Qao hm Qrz Tryz.func296 (Λ := fun _ => Qax) fun args p x h hp => by
 unfold Quh at h
 split at h <;> try (cases h; done)
 cases h
 have h1 := hp _ rfl
 refine ⟨rfl, rfl, ?_⟩
 rw [Q5t]
 exact ⟨h1, rfl⟩
theorem Qw6 (x y : Int) : 0 ≤ bor x y ∧ bor x y ≤ 1 := by unfold bor; split <;> omega
theorem Qsz {l1 h1 l2 h2 : Int} (p1 : U64 l1) (p2 : U64 h1) (p3 : U64 l2) (p4 : U64 h2) (hs : MM l1 h1 + MM l2 h2 < 340282366920938463463374607431768211456) :
   (l1 + l2 + 0) % 18446744073709551616 = (MM l1 h1 + MM l2 h2) % 18446744073709551616 ∧ (h1 + h2 + (l1 + l2 + 0) / 18446744073709551616) % 18446744073709551616 = (MM l1 h1 + MM l2 h2) / 18446744073709551616 := by
 obtain ⟨_, _⟩ := p1; obtain ⟨_, _⟩ := p2; obtain ⟨_, _⟩ := p3; obtain ⟨_, _⟩ := p4
 unfold MM at *
 constructor <;> omega
theorem Qjw {l1 h1 l2 h2 : Int} (p1 : U64 l1) (p2 : U64 h1) (p3 : U64 l2) (p4 : U64 h2) (hs : MM l2 h2 ≤ MM l1 h1) :
   (l1 - l2 - 0) % 18446744073709551616 = Qag (MM l1 h1 - MM l2 h2) % 18446744073709551616 ∧ (h1 - h2 - bor l1 (l2 + 0)) % 18446744073709551616 = Qag (MM l1 h1 - MM l2 h2) / 18446744073709551616 := by
 have e : Qag (MM l1 h1 - MM l2 h2) = MM l1 h1 - MM l2 h2 := by unfold Qag; rw [if_neg (by omega)]
 rw [e]
 obtain ⟨_, _⟩ := p1; obtain ⟨_, _⟩ := p2; obtain ⟨_, _⟩ := p3; obtain ⟨_, _⟩ := p4
 unfold MM bor at *
 constructor
 · omega
 · split <;> omega
theorem Qns (a b : Int) : Qag (a - b) = Qag (b - a) := by unfold Qag; split <;> split <;> omega
theorem Q4g : Qai Tryz.prog 152 Zcg := Qao hm Qzw Tryz.func152 (Λ := fun _ => Qax) fun args p x h hp => by
 unfold Zcg at h
 split at h <;> try (cases h; done)
 rename_i n1 l1 h1 n2 l2 h2
 cases h
 obtain ⟨⟨p1, p2⟩, ⟨p3, p4⟩, hs⟩ := hp _ rfl
 refine ⟨rfl, rfl, ?_⟩
 rw [show ∀ n lo hi, SV.agg [.v (.bool n), .v (.int .u64 lo), .v (.int .u64 hi)] = exS n lo hi from fun _ _ _ => rfl, show ∀ n lo hi, SV.agg [.v (.bool n), .v (.int .u64 lo), .v (.int .u64 hi)] = exS n lo hi from fun _ _ _ => rfl, Zgd]
 have b1 := Qw6 l1 (l2 + 0)
 have b2 := Qw6 l2 (l1 + 0)
 refine Qad (fun h => ?_) fun h => ?_
 · have h : n1 = n2 := by simpa using h
   obtain ⟨e1, e2⟩ := Qsz p1 p2 p3 p4 hs
   refine ⟨⟨p1, p3, by decide, by decide⟩, ⟨p2, p4, by obtain ⟨_, _⟩ := p1; obtain ⟨_, _⟩ := p3; omega, by obtain ⟨_, _⟩ := p1; obtain ⟨_, _⟩ := p3; omega⟩, Qsu ?_ ?_ ?_⟩
   · unfold plN; rw [if_pos h]
   · unfold plM; rw [if_pos h, e1]
   · unfold plM; rw [if_pos h, e2]
 · have h : ¬ n1 = n2 := fun e => by rw [e] at h; simp at h
   refine ⟨⟨⟨p1, p2⟩, p3, p4⟩, Qad (fun h' => ?_) fun h' => ?_⟩
   · have h' : MM l1 h1 < MM l2 h2 := by
       have h' := of_decide_eq_true h'
       unfold Qeo at h'
       by_cases c : MM l1 h1 < MM l2 h2
       · exact c
       · rw [if_neg c] at h'; split at h' <;> omega
     obtain ⟨e1, e2⟩ := Qjw p3 p4 p1 p2 (Int.le_of_lt h')
     refine ⟨⟨p3, p1, by decide, by decide⟩, ⟨p4, p2, b2.1, b2.2⟩, Qsu ?_ ?_ ?_⟩
     · unfold plN; rw [if_neg h, if_pos h']
     · unfold plM; rw [if_neg h, e1, Qns]
     · unfold plM; rw [if_neg h, e2, Qns]
   · have h' : ¬ MM l1 h1 < MM l2 h2 := fun c => by
       have h' := of_decide_eq_false h'
       unfold Qeo at h'
       rw [if_pos c] at h'
       omega
     obtain ⟨e1, e2⟩ := Qjw p1 p2 p3 p4 (by omega)
     refine ⟨⟨p1, p3, by decide, by decide⟩, ⟨p2, p4, b1.1, b1.2⟩, Qsu ?_ ?_ ?_⟩
     · unfold plN; rw [if_neg h, if_neg h']
     · unfold plM; rw [if_neg h, e1]
     · unfold plM; rw [if_neg h, e2]
theorem Qmw {n n' : Bool} {lo lo' hi hi' : Int} (h1 : n = n') (h3 : hi = hi') (h2 : lo = lo') : SV.agg [.v (.bool n), .v (.int .u64 hi), .v (.int .u64 lo)] = wiS n' hi' lo' := Qxm h1 h2 h3
theorem Qos {m : Int} : (m / 18446744073709551616 = 0 ∧ m % 18446744073709551616 = 0) ↔ m = 0 := by omega
theorem Qyy : Qai Tryz.prog 308 Q1i := Qao hm Qrz Tryz.func308 (Λ := fun _ => Qax) fun args p x h hp => by
 unfold Q1i at h
 split at h <;> try (cases h; done)
 rename_i n1 h1 l1 n2 h2 l2
 cases h
 obtain ⟨⟨p1, p2⟩, ⟨p3, p4⟩, hs⟩ := hp _ rfl
 refine ⟨rfl, rfl, ?_⟩
 rw [show ∀ n lo hi, SV.agg [.v (.bool n), .v (.int .u64 hi), .v (.int .u64 lo)] = wiS n hi lo from fun _ _ _ => rfl, show ∀ n lo hi, SV.agg [.v (.bool n), .v (.int .u64 hi), .v (.int .u64 lo)] = wiS n hi lo from fun _ _ _ => rfl, Zbg]
 have b1 := Qw6 l1 (l2 + 0)
 have b2 := Qw6 l2 (l1 + 0)
 refine Qad (fun h => ?_) fun h => ⟨⟨p1, p3⟩, Qad (fun h' => ?_) fun h' => ?_⟩
 · have h : n1 = n2 := by simpa using h
   obtain ⟨e1, e2⟩ := Qsz p1 p2 p3 p4 hs
   refine ⟨⟨p1, p3, by decide, by decide⟩, ⟨p2, p4, by obtain ⟨_, _⟩ := p1; obtain ⟨_, _⟩ := p3; omega, by obtain ⟨_, _⟩ := p1; obtain ⟨_, _⟩ := p3; omega⟩, Qmw ?_ ?_ ?_⟩
   · unfold plZ; rw [if_pos h]
   · unfold plM; rw [if_pos h, e2]
   · unfold plM; rw [if_pos h, e1]
 · have h : ¬ n1 = n2 := fun e => by rw [e] at h; simp at h
   have h' : MM l1 h1 < MM l2 h2 := of_decide_eq_true h'
   obtain ⟨e1, e2⟩ := Qjw p3 p4 p1 p2 (Int.le_of_lt h')
   have hz := Qos (m := Qag (MM l2 h2 - MM l1 h1))
   have hz' : Qag (MM l2 h2 - MM l1 h1) ≠ 0 := by unfold Qag; split <;> omega
   have s1 : plZ n1 (MM l1 h1) n2 (MM l2 h2) = n2 := by unfold plZ; rw [if_neg h, if_pos h']
   have s2 : plM n1 (MM l1 h1) n2 (MM l2 h2) = Qag (MM l2 h2 - MM l1 h1) := by unfold plM; rw [if_neg h, Qns]
   refine ⟨⟨p3, p1, by decide, by decide⟩, ⟨p4, p2, b2.1, b2.2⟩, Qad (fun g => Qad (fun g' => ?_) fun g' => ?_) fun g => ?_⟩
   · exact Qmw (by rw [s1, g]) (by rw [s2, e2]) (by rw [s2, e1])
   · refine Qmw ?_ (by rw [s2, e2]) (by rw [s2, e1])
     rw [s1, g, e1]
     have g' : (h2 - h1 - bor l2 (l1 + 0)) % 18446744073709551616 = 0 := by simpa using g'
     rw [e2] at g'
     simp only [bne_iff_ne, ne_eq]
     exact fun e => hz' (hz.1 ⟨g', e⟩)
   · exact Qmw (by rw [s1, g]) (by rw [s2, e2]) (by rw [s2, e1])
 · have h : ¬ n1 = n2 := fun e => by rw [e] at h; simp at h
   have h' : ¬ MM l1 h1 < MM l2 h2 := of_decide_eq_false h'
   obtain ⟨e1, e2⟩ := Qjw p1 p2 p3 p4 (by omega)
   have hz := Qos (m := Qag (MM l1 h1 - MM l2 h2))
   have hz' : Qag (MM l1 h1 - MM l2 h2) = 0 ↔ MM l1 h1 = MM l2 h2 := by unfold Qag; split <;> omega
   have s1 : plZ n1 (MM l1 h1) n2 (MM l2 h2) = (n1 && MM l1 h1 != MM l2 h2) := by unfold plZ; rw [if_neg h, if_neg h']
   have s2 : plM n1 (MM l1 h1) n2 (MM l2 h2) = Qag (MM l1 h1 - MM l2 h2) := by unfold plM; rw [if_neg h]
   refine ⟨⟨p1, p3, by decide, by decide⟩, ⟨p2, p4, b1.1, b1.2⟩, Qad (fun g => Qad (fun g' => ?_) fun g' => ?_) fun g => ?_⟩
   · refine Qmw ?_ (by rw [s2, e2]) (by rw [s2, e1])
     have g' : (h1 - h2 - bor l1 (l2 + 0)) % 18446744073709551616 ≠ 0 := by simpa using g'
     rw [e2] at g'
     rw [s1, g]
     exact (bne_iff_ne.2 fun e => g' (hz.2 (hz'.2 e)).1).symm
   · refine Qmw ?_ (by rw [s2, e2]) (by rw [s2, e1])
     have g' : (h1 - h2 - bor l1 (l2 + 0)) % 18446744073709551616 = 0 := by simpa using g'
     rw [e2] at g'
     rw [s1, g, e1]
     rw [Bool.true_and]
     by_cases c : MM l1 h1 = MM l2 h2
     · have := (hz.2 (hz'.2 c)).2
       rw [this, c, bne_self_eq_false, bne_self_eq_false]
     · have : Qag (MM l1 h1 - MM l2 h2) % 18446744073709551616 ≠ 0 := fun e => c (hz'.1 (hz.1 ⟨g', e⟩))
       rw [bne_iff_ne.2 this, bne_iff_ne.2 c]
   · exact Qmw (by rw [s1, g]; rfl) (by rw [s2, e2]) (by rw [s2, e1])
theorem Qde : ∀ f g, ΓC f = some g → g.ok Tryz.prog f := Qab (Qab (Qab (Qab (Qab Qzw (Qal Tryz.func76 (by kernel_rfl) (by kernel_rfl) Qtb))
 (Qal Tryz.func152 (by kernel_rfl) (by kernel_rfl) Q4g)) (Qal Tryz.func305 (by kernel_rfl) (by kernel_rfl) Qyo))
 (Qal Tryz.func296 (by kernel_rfl) (by kernel_rfl) Qvh)) (Qal Tryz.func308 (by kernel_rfl) (by kernel_rfl) Qyy)
def Qau (v : Int) : Int := if Int.tmod v 26986075409 > 13493037704 then Int.tmod v 26986075409 - 26986075409 else if Int.tmod v 26986075409 < -13493037704 then Int.tmod v 26986075409 + 26986075409 else Int.tmod v 26986075409
def sOrder : List SV → Option (Option Prop × SV)
 | [.v (.int .i64 a), .v (.int .i64 b), .v (.int .i64 c), .v (.int .i64 d)] => some (some ((I64 a ∧ I64 b) ∧ I64 c ∧ I64 d), .v (.int .i64 (Qeo (a * b) (c * d))))
 | _ => none
def sFloor : List SV → Option (Option Prop × SV)
 | [.agg [.v (.int .i64 v), .v (.bool _)]] => some (none, .v (.int .i64 (Qaa v / 4294967296)))
 | _ => none
def Qoy : List SV → Option (Option Prop × SV)
 | [.agg [.v (.int .i64 v), .v (.bool _)]] => some (some (I64 v), .v (.int .i64 ((Qaa v + 2147483648) / 4294967296)))
 | _ => none
def Zjn : List SV → Option (Option Prop × SV)
 | [.v (.int .i64 v)] => some (none, Qcy (Qaa v) (Qat v false))
 | _ => none
def Zet : List SV → Option (Option Prop × SV)
 | [.v (.int .i64 v)] => some (some (I64 v), Qcy (Qas (v * 4294967296)) (Qc9 (v * 4294967296) false))
 | _ => none
def Q87 : List SV → Option (Option Prop × SV)
 | [.agg [.v (.int .i64 v), .v (.bool f)]] => some (some (I64 v), Qcy (-Qaa v) (Qat v f))
 | _ => none
def Zhg : List SV → Option (Option Prop × SV)
 | [.agg [.v (.int .i64 v), .v (.bool f)]] => some (some (I64 v), Qcy (Qag (Qaa v)) (Qat v f))
 | _ => none
def Zcu : List SV → Option (Option Prop × SV)
 | [.agg [.v (.int .i64 v), .v (.bool _)], .agg [.v (.int .i64 u), .v (.bool _)]] => some (none, .v (.int .i64 (Qeo (Qaa v) (Qaa u))))
 | _ => none
def Qxw : List SV → Option (Option Prop × SV)
 | [.agg [.v (.int .i64 v), .v (.bool f)]] => some (some (I64 v), Qcy (Qau (Qaa v)) (Qat v f))
 | _ => none
def Qa1 (a b : Int) : Int := Int.tdiv (a * b) 4294967296
def Zes : List SV → Option (Option Prop × SV)
 | [.agg [.v (.int .i64 v), .v (.bool f)], .agg [.v (.int .i64 u), .v (.bool g)]] => some (some (I64 v ∧ I64 u), Qcy (Qas (Qa1 (Qaa v) (Qaa u))) (Qc9 (Qa1 (Qaa v) (Qaa u)) (Qat v f || Qat u g)))
 | _ => none
theorem Zba (v : Int) (f : Bool) (R : SV→Prop) : (Qav Tryz.prog ΓC Qax Tryz.f163 [Qcy v f] R) = (sel (decide (IntKind.wrap IntKind.u32 (Qaa v) ≥ 2147483648)) (R (SV.v (.int .i64 (IntKind.wrap IntKind.i64 (Qaa v / 4294967296 + 1))))) (R (SV.v (.int .i64 (Qaa v / 4294967296))))):=by kernel_rfl
theorem Q5q (v : Int) (f : Bool) (R : SV→Prop) : (Qav Tryz.prog ΓC Qax Tryz.f243 [Qcy v f] R) = (R (SV.v (.int .i64 (IntKind.wrap IntKind.i64 (Qaa v / 4294967296 + bits BinOp.and IntKind.i64 (Qaa v / 2147483648) 1))))):=by kernel_rfl
theorem Zkv (v : Int) (R : SV→Prop) : (Qav Tryz.prog ΓC Qax Tryz.f229 [.v (.int .i64 v)] R) = (R (SV.agg [(SV.v (.int .i64 (Qaa v))),(SV.v (.bool (Qat v false)))])):=by kernel_rfl
theorem Zk2 (v : Int) (R : SV→Prop) : (Qav Tryz.prog ΓC Qax Tryz.f63 [.v (.int .i64 v)] R) = ((I64 v)∧(((U64 (Qag v))∧((U64 0)∧(((MM (Qag v) 0) : Int) < 79228162514264337593543950336)))∧(((U64 (MM (Qag v) 0 * 4294967296 % 18446744073709551616))∧(U64 (MM (Qag v) 0 * 4294967296 / 18446744073709551616)))∧(R (SV.agg [(SV.v (.int .i64 (Ql3 (decide (v < 0)) (MM (MM (Qag v) 0 * 4294967296 % 18446744073709551616) (MM (Qag v) 0 * 4294967296 / 18446744073709551616))))),(SV.v (.bool (Qkn (MM (MM (Qag v) 0 * 4294967296 % 18446744073709551616) (MM (Qag v) 0 * 4294967296 / 18446744073709551616)) false)))]))))):=by kernel_rfl
theorem Zf4 (v : Int) (R : SV→Prop) : (Qav Tryz.prog ΓC Qax Tryz.f218 [.v (.int .i64 v)] R) = ((I64 v)∧(((U64 (Qag v))∧((U64 0)∧(((MM (Qag v) 0) : Int) < 79228162514264337593543950336)))∧(((U64 (MM (Qag v) 0 * 4294967296 % 18446744073709551616))∧(U64 (MM (Qag v) 0 * 4294967296 / 18446744073709551616)))∧(R (SV.agg [(SV.v (.int .i64 (Ql3 (decide (v < 0)) (MM (MM (Qag v) 0 * 4294967296 % 18446744073709551616) (MM (Qag v) 0 * 4294967296 / 18446744073709551616))))),(SV.v (.bool (Qkn (MM (MM (Qag v) 0 * 4294967296 % 18446744073709551616) (MM (Qag v) 0 * 4294967296 / 18446744073709551616)) false)))]))))):=by kernel_rfl
theorem Zkx (v : Int) (f : Bool) (R : SV→Prop) : (Qav Tryz.prog ΓC Qax Tryz.f155 [Qcy v f] R) = (R (SV.agg [(SV.v (.int .i64 (IntKind.wrap IntKind.i64 (0 - Qaa v)))),(SV.v (.bool (Qat v f)))])):=by kernel_rfl
theorem Zf0 (v : Int) (f : Bool) (R : SV→Prop) : (Qav Tryz.prog ΓC Qax Tryz.f235 [Qcy v f] R) = (R (SV.agg [(SV.v (.int .i64 (IntKind.wrap IntKind.i64 (0 - Qaa v)))),(SV.v (.bool (Qat v f)))])):=by kernel_rfl
theorem Zgb (v : Int) (f : Bool) (R : SV→Prop) : (Qav Tryz.prog ΓC Qax Tryz.f242 [Qcy v f] R) = (sel (decide (Qaa v < 0)) (R (SV.agg [(SV.v (.int .i64 (IntKind.wrap IntKind.i64 (0 - Qaa v)))),(SV.v (.bool (Qat v f)))])) (R (SV.agg [(SV.v (.int .i64 (Qaa v))),(SV.v (.bool (Qat v f)))]))):=by kernel_rfl
theorem Zld (v : Int) (f : Bool) (u : Int) (g : Bool) (R : SV→Prop) : (Qav Tryz.prog ΓC Qax Tryz.f97 [Qcy v f,Qcy u g] R) = (R (SV.v (.int .i64 (Qeo (Qaa v) (Qaa u))))):=by kernel_rfl
theorem Zfp (v : Int) (f : Bool) (R : SV→Prop) : (Qav Tryz.prog ΓC Qax Tryz.f228 [Qcy v f] R) = (sel (decide (Int.tmod (Qaa v) 26986075409 > 13493037704)) (R (SV.agg [(SV.v (.int .i64 (IntKind.wrap IntKind.i64 (Int.tmod (Qaa v) 26986075409 - 26986075409)))),(SV.v (.bool (Qat v f)))])) (sel (decide (Int.tmod (Qaa v) 26986075409 < -13493037704)) (R (SV.agg [(SV.v (.int .i64 (IntKind.wrap IntKind.i64 (Int.tmod (Qaa v) 26986075409 + 26986075409)))),(SV.v (.bool (Qat v f)))])) (R (SV.agg [(SV.v (.int .i64 (Int.tmod (Qaa v) 26986075409))),(SV.v (.bool (Qat v f)))])))):=by kernel_rfl
theorem Zbd (v : Int) (f : Bool) (R : SV→Prop) : (Qav Tryz.prog ΓC Qax Tryz.f234 [Qcy v f] R) = (sel (decide (Int.tmod (Qaa v) 26986075409 > 13493037704)) (sel (decide (IntKind.wrap IntKind.i64 (Int.tmod (Qaa v) 26986075409 - 26986075409) < -13493037704)) (R (SV.agg [(SV.v (.int .i64 (IntKind.wrap IntKind.i64 (IntKind.wrap IntKind.i64 (Int.tmod (Qaa v) 26986075409 - 26986075409) + 26986075409)))),(SV.v (.bool (Qat v f)))])) (R (SV.agg [(SV.v (.int .i64 (IntKind.wrap IntKind.i64 (Int.tmod (Qaa v) 26986075409 - 26986075409)))),(SV.v (.bool (Qat v f)))]))) (sel (decide (Int.tmod (Qaa v) 26986075409 < -13493037704)) (R (SV.agg [(SV.v (.int .i64 (IntKind.wrap IntKind.i64 (Int.tmod (Qaa v) 26986075409 + 26986075409)))),(SV.v (.bool (Qat v f)))])) (R (SV.agg [(SV.v (.int .i64 (Int.tmod (Qaa v) 26986075409))),(SV.v (.bool (Qat v f)))])))):=by kernel_rfl
theorem Zf1 (v : Int) (f : Bool) (u : Int) (g : Bool) (R : SV→Prop) : (Qav Tryz.prog ΓC Qax Tryz.f236 [Qcy v f,Qcy u g] R) = (((I64 (Qaa v))∧(I64 (Qaa u)))∧(((U64 (Qag (Qaa v) * Qag (Qaa u) % 18446744073709551616))∧(U64 (Qag (Qaa v) * Qag (Qaa u) / 18446744073709551616)))∧(sel (Qat v f) (((U64 (MM (Qag (Qaa v) * Qag (Qaa u) % 18446744073709551616) (Qag (Qaa v) * Qag (Qaa u) / 18446744073709551616) / 4294967296 % 18446744073709551616))∧(U64 (MM (Qag (Qaa v) * Qag (Qaa u) % 18446744073709551616) (Qag (Qaa v) * Qag (Qaa u) / 18446744073709551616) / 4294967296 / 18446744073709551616)))∧(R (SV.agg [(SV.v (.int .i64 (Ql3 (!decide (Qaa v < 0) == decide (Qaa u < 0)&&Qaa v != 0&&Qaa u != 0) (MM (MM (Qag (Qaa v) * Qag (Qaa u) % 18446744073709551616) (Qag (Qaa v) * Qag (Qaa u) / 18446744073709551616) / 4294967296 % 18446744073709551616) (MM (Qag (Qaa v) * Qag (Qaa u) % 18446744073709551616) (Qag (Qaa v) * Qag (Qaa u) / 18446744073709551616) / 4294967296 / 18446744073709551616))))),(SV.v (.bool (Qkn (MM (MM (Qag (Qaa v) * Qag (Qaa u) % 18446744073709551616) (Qag (Qaa v) * Qag (Qaa u) / 18446744073709551616) / 4294967296 % 18446744073709551616) (MM (Qag (Qaa v) * Qag (Qaa u) % 18446744073709551616) (Qag (Qaa v) * Qag (Qaa u) / 18446744073709551616) / 4294967296 / 18446744073709551616)) true)))]))) (((U64 (MM (Qag (Qaa v) * Qag (Qaa u) % 18446744073709551616) (Qag (Qaa v) * Qag (Qaa u) / 18446744073709551616) / 4294967296 % 18446744073709551616))∧(U64 (MM (Qag (Qaa v) * Qag (Qaa u) % 18446744073709551616) (Qag (Qaa v) * Qag (Qaa u) / 18446744073709551616) / 4294967296 / 18446744073709551616)))∧(R (SV.agg [(SV.v (.int .i64 (Ql3 (!decide (Qaa v < 0) == decide (Qaa u < 0)&&Qaa v != 0&&Qaa u != 0) (MM (MM (Qag (Qaa v) * Qag (Qaa u) % 18446744073709551616) (Qag (Qaa v) * Qag (Qaa u) / 18446744073709551616) / 4294967296 % 18446744073709551616) (MM (Qag (Qaa v) * Qag (Qaa u) % 18446744073709551616) (Qag (Qaa v) * Qag (Qaa u) / 18446744073709551616) / 4294967296 / 18446744073709551616))))),(SV.v (.bool (Qkn (MM (MM (Qag (Qaa v) * Qag (Qaa u) % 18446744073709551616) (Qag (Qaa v) * Qag (Qaa u) / 18446744073709551616) / 4294967296 % 18446744073709551616) (MM (Qag (Qaa v) * Qag (Qaa u) % 18446744073709551616) (Qag (Qaa v) * Qag (Qaa u) / 18446744073709551616) / 4294967296 / 18446744073709551616)) (Qat u g))))])))))):=by kernel_rfl
theorem Qeu {a : Int} (h : a < 0) : Qag a = -a := by unfold Qag; rw [if_pos h]
theorem Qee {a : Int} (h : ¬ a < 0) : Qag a = a := by unfold Qag; rw [if_neg h]
theorem Qgq (a b : Int) : sv (!(decide (a < 0) == decide (b < 0))) (Qag a * Qag b) = a * b := by
 unfold sv
 by_cases ha : a < 0 <;> by_cases hb : b < 0
 · rw [Qeu ha, Qeu hb]; simp [ha, hb, Int.neg_mul_neg]
 · rw [Qeu ha, Qee hb]; simp [ha, hb, Int.neg_mul]
 · rw [Qee ha, Qeu hb]; simp [ha, hb, Int.mul_neg]
 · rw [Qee ha, Qee hb]; simp [ha, hb]
theorem Qjy (a b : Int) : sv (!(decide (a < 0) == decide (b < 0)) && a != 0 && b != 0) (Qag a * Qag b) = a * b := by
 by_cases ha : a = 0
 · subst ha; simp [sv, Qag]
 · by_cases hb : b = 0
   · subst hb; simp [sv, Qag]
   · rw [bne_iff_ne.2 ha, bne_iff_ne.2 hb, Bool.and_true, Bool.and_true, Qgq]
theorem Qp9 (n : Bool) {m k : Int} (h : 0 ≤ m) : sv n (m / k) = Int.tdiv (sv n m) k := by
 unfold sv
 cases n with
 | false => simp [Int.tdiv_eq_ediv_of_nonneg h]
 | true => simp [Int.neg_tdiv, Int.tdiv_eq_ediv_of_nonneg h]
theorem Qck {a b : Int} (ha : I64 a) (hb : I64 b) : Qag a * Qag b ≤ 85070591730234615865843651857942052864 := by
 have h1 := Qfy ha
 have h2 := Qfy hb
 have := Int.mul_le_mul h1 h2 (Qb2 b) (by decide)
 simpa using this
theorem Qmc {v : Int} (h : I64 v) : IntKind.i64.wrap (0 - Qaa v) = - Qaa v := by
 have := Qei h
 rw [Qaf ⟨by omega, by omega⟩]; omega
theorem Q66 (n : Int) : bits .and .i64 n 1 = n % 2 := by
 have h1 : (BitVec.ofInt 64 1).toNat = 2 ^ 1 - 1 := by decide
 have key : (BitVec.ofInt 64 n &&& BitVec.ofInt 64 1).toNat = (n % ((2 ^ 64 : Nat) : Int)).toNat % 2 := by
   rw [BitVec.toNat_and, BitVec.toNat_ofInt, h1, Nat.and_two_pow_sub_one_eq_mod]
 show IntKind.i64.wrap ((BitVec.ofInt 64 n &&& BitVec.ofInt 64 1).toNat : Nat) = n % 2
 rw [key, Qaf ⟨by omega, by omega⟩]
 omega
theorem Qyt : Qai Tryz.prog 163 Qoy := Qao hm Qde Tryz.func163 (Λ := fun _ => Qax) fun args p x h hp => by
 unfold Qoy at h
 split at h <;> try (cases h; done)
 cases h
 have h1 := Qei (hp _ rfl)
 refine ⟨rfl, rfl, ?_⟩
 rw [show ∀ v f, SV.agg [.v (.int .i64 v), .v (.bool f)] = Qcy v f from fun _ _ => rfl, Zba]
 simp only [Q5b]
 refine Qad (fun g => Qbh ?_) fun g => Qbh ?_
 · have g := of_decide_eq_true g
   rw [Qaf ⟨by omega, by omega⟩]; omega
 · have g := of_decide_eq_false g
   omega
theorem Qvf : Qai Tryz.prog 243 Qoy := Qao hm Qde Tryz.func243 (Λ := fun _ => Qax) fun args p x h hp => by
 unfold Qoy at h
 split at h <;> try (cases h; done)
 cases h
 have h1 := Qei (hp _ rfl)
 refine ⟨rfl, rfl, ?_⟩
 rw [show ∀ v f, SV.agg [.v (.int .i64 v), .v (.bool f)] = Qcy v f from fun _ _ => rfl, Q5q]
 refine Qbh ?_
 rw [Q66, Qaf ⟨by omega, by omega⟩]; omega
theorem Qxg : Qai Tryz.prog 229 Zjn := Qao hm Qde Tryz.func229 (Λ := fun _ => Qax) fun args p x h hp => by
 unfold Zjn at h
 split at h <;> try (cases h; done)
 cases h
 refine ⟨rfl, rfl, ?_⟩
 rw [Zkv]; rfl
theorem Q99 (lo : Int) : MM lo 0 = lo := by unfold MM; omega
theorem Qxq (v : Int) : sv (decide (v < 0)) (Qag v) = v := by
 unfold sv
 by_cases h : v < 0
 · rw [Qeu h]; simp [h]
 · rw [Qee h]; simp [h]
theorem Ql9 (n : Bool) (m k : Int) : sv n (m * k) = sv n m * k := by unfold sv; cases n <;> simp [Int.neg_mul]
theorem Zg5 : U64 0 := ⟨by decide, by decide⟩
theorem Qxk : Qai Tryz.prog 63 Zet := Qao hm Qde Tryz.func63 (Λ := fun _ => Qax) fun args p x h hp => by
 unfold Zet at h
 split at h <;> try (cases h; done)
 cases h
 have h1 := hp _ rfl
 have h2 := Qfy h1
 have h3 := Qb2 ‹Int›
 refine ⟨rfl, rfl, ?_⟩
 rw [Zk2]
 simp only [Q99, Qdk]
 refine ⟨h1, ⟨Qds h1, Zg5, by omega⟩, ⟨Qb7 _, Qcn (by omega) (by omega)⟩, Qbz ?_ ?_⟩
 · rw [Qha _ (by omega), Ql9, Qxq]
 · rw [Qhb (decide (‹Int› < 0)) _ (by omega), Ql9, Qxq]
theorem Qs6 : Qai Tryz.prog 218 Zet := Qao hm Qde Tryz.func218 (Λ := fun _ => Qax) fun args p x h hp => by
 unfold Zet at h
 split at h <;> try (cases h; done)
 cases h
 have h1 := hp _ rfl
 have h2 := Qfy h1
 have h3 := Qb2 ‹Int›
 refine ⟨rfl, rfl, ?_⟩
 rw [Zf4]
 simp only [Q99, Qdk]
 refine ⟨h1, ⟨Qds h1, Zg5, by omega⟩, ⟨Qb7 _, Qcn (by omega) (by omega)⟩, Qbz ?_ ?_⟩
 · rw [Qha _ (by omega), Ql9, Qxq]
 · rw [Qhb (decide (‹Int› < 0)) _ (by omega), Ql9, Qxq]
theorem Qrp : Qai Tryz.prog 155 Q87 := Qao hm Qde Tryz.func155 (Λ := fun _ => Qax) fun args p x h hp => by
 unfold Q87 at h
 split at h <;> try (cases h; done)
 cases h
 have h1 := hp _ rfl
 refine ⟨rfl, rfl, ?_⟩
 rw [show ∀ v f, SV.agg [.v (.int .i64 v), .v (.bool f)] = Qcy v f from fun _ _ => rfl, Zkx, Qmc h1]
 rfl
theorem Qod : Qai Tryz.prog 235 Q87 := Qao hm Qde Tryz.func235 (Λ := fun _ => Qax) fun args p x h hp => by
 unfold Q87 at h
 split at h <;> try (cases h; done)
 cases h
 have h1 := hp _ rfl
 refine ⟨rfl, rfl, ?_⟩
 rw [show ∀ v f, SV.agg [.v (.int .i64 v), .v (.bool f)] = Qcy v f from fun _ _ => rfl, Zf0, Qmc h1]
 rfl
theorem Q4e : Qai Tryz.prog 242 Zhg := Qao hm Qde Tryz.func242 (Λ := fun _ => Qax) fun args p x h hp => by
 unfold Zhg at h
 split at h <;> try (cases h; done)
 cases h
 have h1 := hp _ rfl
 refine ⟨rfl, rfl, ?_⟩
 rw [show ∀ v f, SV.agg [.v (.int .i64 v), .v (.bool f)] = Qcy v f from fun _ _ => rfl, Zgb, Qmc h1]
 refine Qad (fun g => Qbz ?_ rfl) fun g => Qbz ?_ rfl
 · rw [Qeu (of_decide_eq_true g)]
 · rw [Qee (of_decide_eq_false g)]
theorem Q4w : Qai Tryz.prog 97 Zcu := Qao hm Qde Tryz.func97 (Λ := fun _ => Qax) fun args p x h hp => by
 unfold Zcu at h
 split at h <;> try (cases h; done)
 rename_i v f u g
 cases h
 refine ⟨rfl, rfl, ?_⟩
 rw [show SV.agg [.v (.int .i64 v), .v (.bool f)] = Qcy v f from rfl, show SV.agg [.v (.int .i64 u), .v (.bool g)] = Qcy u g from rfl, Zld]
theorem Q0m (v : Int) : -26986075409 < Int.tmod v 26986075409 ∧ Int.tmod v 26986075409 < 26986075409 := by
 have h1 := Int.tmod_lt_of_pos v (show (0 : Int) < 26986075409 by decide)
 have h2 := Int.tmod_lt_of_pos (-v) (show (0 : Int) < 26986075409 by decide)
 rw [Int.neg_tmod] at h2
 omega
theorem Q3u : Qai Tryz.prog 228 Qxw := Qao hm Qde Tryz.func228 (Λ := fun _ => Qax) fun args p x h hp => by
 unfold Qxw at h
 split at h <;> try (cases h; done)
 rename_i v f
 cases h
 refine ⟨rfl, rfl, ?_⟩
 rw [show ∀ v f, SV.agg [.v (.int .i64 v), .v (.bool f)] = Qcy v f from fun _ _ => rfl, Zfp]
 have ht := Q0m (Qaa v)
 unfold Qau
 generalize Int.tmod (Qaa v) 26986075409 = r at ht ⊢
 refine Qad (fun h => Qbz ?_ rfl) fun h => Qad (fun h' => Qbz ?_ rfl) fun h' => Qbz ?_ rfl
 · have h := of_decide_eq_true h
   rw [if_pos h, Qaf ⟨by omega, by omega⟩]
 · have h := of_decide_eq_false h
   have h' := of_decide_eq_true h'
   rw [if_neg h, if_pos h', Qaf ⟨by omega, by omega⟩]
 · rw [if_neg (of_decide_eq_false h), if_neg (of_decide_eq_false h')]
theorem Qyv : Qai Tryz.prog 234 Qxw := Qao hm Qde Tryz.func234 (Λ := fun _ => Qax) fun args p x h hp => by
 unfold Qxw at h
 split at h <;> try (cases h; done)
 rename_i v f
 cases h
 refine ⟨rfl, rfl, ?_⟩
 rw [show ∀ v f, SV.agg [.v (.int .i64 v), .v (.bool f)] = Qcy v f from fun _ _ => rfl, Zbd]
 have ht := Q0m (Qaa v)
 unfold Qau
 generalize Int.tmod (Qaa v) 26986075409 = r at ht ⊢
 refine Qad (fun h => Qad (fun h' => ?_) fun h' => Qbz ?_ rfl) fun h => Qad (fun h' => Qbz ?_ rfl) fun h' => Qbz ?_ rfl
 · have h := of_decide_eq_true h
   have h' := of_decide_eq_true h'
   rw [Qaf ⟨by omega, by omega⟩] at h'
   omega
 · have h := of_decide_eq_true h
   rw [if_pos h, Qaf ⟨by omega, by omega⟩]
 · have h := of_decide_eq_false h
   have h' := of_decide_eq_true h'
   rw [if_neg h, if_pos h', Qaf ⟨by omega, by omega⟩]
 · rw [if_neg (of_decide_eq_false h), if_neg (of_decide_eq_false h')]
theorem Qs4 : Qai Tryz.prog 236 Zes := Qao hm Qde Tryz.func236 (Λ := fun _ => Qax) fun args p x h hp => by
 unfold Zes at h
 split at h <;> try (cases h; done)
 rename_i v f u g
 cases h
 obtain ⟨h1, h2⟩ := hp _ rfl
 have h1 := Qcd h1
 have h2 := Qcd h2
 refine ⟨rfl, rfl, ?_⟩
 rw [show SV.agg [.v (.int .i64 v), .v (.bool f)] = Qcy v f from rfl, show SV.agg [.v (.int .i64 u), .v (.bool g)] = Qcy u g from rfl, Zf1]
 simp only [Qdk]
 have l1 := Qck h1 h2
 have n1 := Qcx (a := Qaa v) (b := Qaa u)
 have s1 := Qjy (Qaa v) (Qaa u)
 generalize Qag (Qaa v) * Qag (Qaa u) = m at *
 generalize (!(decide (Qaa v < 0) == decide (Qaa u < 0)) && Qaa v != 0 && Qaa u != 0) = n at *
 have e : sv n (m / 4294967296) = Qa1 (Qaa v) (Qaa u) := by rw [Qp9 n n1, s1]; rfl
 refine ⟨⟨h1, h2⟩, ⟨Qb7 _, Qcn n1 (by omega)⟩, Qad (fun hf => ⟨⟨Qb7 _, Qcn (by omega) (by omega)⟩, Qbz ?_ ?_⟩) fun hf => ⟨⟨Qb7 _, Qcn (by omega) (by omega)⟩, Qbz ?_ ?_⟩⟩
 · rw [Qha _ (by omega), e]
 · rw [Qhb n _ (by omega), e, hf, Bool.true_or]
 · rw [Qha _ (by omega), e]
 · rw [Qhb n _ (by omega), e, hf, Bool.false_or]
def isN : List SV → Prop
 | [.v (.int .i64 _), .v (.bool _)] => True
 | _ => False
def Qch (l : List SV) : Int := match l with | [.v (.int _ v), _] => v | _ => 0
def Qfc (l : List SV) : Bool := match l with | [_, .v (.bool f)] => f | _ => false
def Qry : List (List SV) → Bool
 | [] => false
 | r :: t => Qfc r || Qry t
def Qfb : List (List SV) → Bool
 | [] => false
 | r :: t => Qat (Qch r) (Qfc r) || Qfb t
def Qel (v : Nat → Int) (f : Nat → Bool) : Nat → List SV := fun i => [.v (.int .i64 (v i)), .v (.bool (f i))]
def Qv6 : List SV → List Ro → Option (Option Prop × SV)
 | [.sl 0 2 0 n _], [⟨2, n', row⟩] => some (some (Qb5 isN (Qak n' row) ∧ n' = n ∧ n < 4611686018427387904), .v (.bool (Qry (Qak n row))))
 | _, _ => none
noncomputable def Qtr (n : Nat) (f : Nat → Bool) : Nat → Option LoopSpec := Qcp Qax Tryz.f78 0 Nat (fun i => i ≤ n ∧ ∀ j, j < i → f j = false) (fun i => n - i) [(7, fun i => .v (.int .i64 i))] []
theorem Zbs (n n' c : Nat) (v : Nat→Int) (f : Nat→Bool) (R : SV→Prop) : (Qcu Tryz.prog Qbr (Qtr n f) Tryz.f78 [.sl 0 2 0 n c] (Qbm [⟨2,n',Qel v f⟩]) 64 (fun y _ => R y)) = ((∃ x : Nat,((((x : Nat) ≤ n)∧(∀ j : Nat,(((j : Nat) < x)→(f j = false))))∧(((SV.v (.int .i64 0)) = (SV.v (.int .i64 ((↑x : Int)))))∧True)))∧(∀ x : Nat,((((x : Nat) ≤ n)∧(∀ j : Nat,(((j : Nat) < x)→(f j = false))))→(sel (decide ((↑x : Int) < (↑n : Int))) ((((0 : Int) ≤ ((↑x : Int)))∧((((↑x : Int)) : Int) < ((↑n : Int))))∧(sel (f (0 + Int.toNat (↑x : Int))) (R (SV.v (.bool true))) (∃ x' : Nat,(((((x' : Nat) ≤ n)∧(∀ j : Nat,(((j : Nat) < x')→(f j = false))))∧(((SV.v (.int .i64 (IntKind.wrap IntKind.i64 ((↑x : Int) + 1)))) = (SV.v (.int .i64 ((↑x' : Int)))))∧True))∧(((n - x') : Nat) < (n - x)))))) (R (SV.v (.bool false))))))):=by kernel_rfl
def Qmf : List SV → List Ro → Option (Option Prop × SV)
 | [.sl 0 2 0 n _], [⟨2, n', row⟩] => some (some (Qb5 isN (Qak n' row) ∧ n' = n ∧ n < 4611686018427387904), .v (.bool (Qfb (Qak n row))))
 | _, _ => none
noncomputable def Qms (n : Nat) (g : Nat → Bool) : Nat → Option LoopSpec := Qcp Qax Tryz.f326 0 Nat (fun i => i ≤ n ∧ ∀ j, j < i → g j = false) (fun i => n - i) [(3, fun i => .v (.int .i64 i))] []
theorem Q0e (n n' c : Nat) (v : Nat→Int) (f g : Nat→Bool) (R : SV→Prop) : (Qcu Tryz.prog ΓC (Qms n g) Tryz.f326 [.sl 0 2 0 n c] (Qbm [⟨2,n',Qel v f⟩]) 64 (fun y _ => R y)) = ((∃ x : Nat,((((x : Nat) ≤ n)∧(∀ j : Nat,(((j : Nat) < x)→(g j = false))))∧(((SV.v (.int .i64 0)) = (SV.v (.int .i64 ((↑x : Int)))))∧True)))∧(∀ x : Nat,((((x : Nat) ≤ n)∧(∀ j : Nat,(((j : Nat) < x)→(g j = false))))→(sel (decide ((↑x : Int) < (↑n : Int))) ((((0 : Int) ≤ ((↑x : Int)))∧((((↑x : Int)) : Int) < ((↑n : Int))))∧(sel (Qat (v (0 + Int.toNat (↑x : Int))) (f (0 + Int.toNat (↑x : Int)))) (R (SV.v (.bool true))) (∃ x' : Nat,(((((x' : Nat) ≤ n)∧(∀ j : Nat,(((j : Nat) < x')→(g j = false))))∧(((SV.v (.int .i64 (IntKind.wrap IntKind.i64 ((↑x : Int) + 1)))) = (SV.v (.int .i64 ((↑x' : Int)))))∧True))∧(((n - x') : Nat) < (n - x)))))) (R (SV.v (.bool false))))))):=by kernel_rfl
theorem Qfw {r : List SV} (h : isN r) : r = [.v (.int .i64 (Qch r)), .v (.bool (Qfc r))] := by
 unfold isN at h
 split at h
 · rfl
 · exact h.elim
theorem Qn8 (a b : List (List SV)) : Qry (a ++ b) = (Qry a || Qry b) := by
 induction a with
 | nil => rfl
 | cons r t ih => simp [Qry, ih, Bool.or_assoc]
theorem Qps {row : Nat → List SV} : ∀ {i : Nat}, (∀ j, j < i → Qfc (row j) = false) → Qry (Qak i row) = false
 | 0, _ => rfl
 | i + 1, h => by
   rw [Qft, Qn8, Qps fun j hj => h j (by omega)]
   simp [Qry, h i (by omega)]
theorem Q7s {n i : Nat} {row : Nat → List SV} (hi : i < n) (h : Qfc (row i) = true) : Qry (Qak n row) = true := by
 obtain ⟨t, ht⟩ := Qhv row hi
 rw [ht, Qn8]
 simp [Qry, h]
theorem Qpv : Qcg Tryz.prog 78 Qv6 := Qb4 hm Qa0 Tryz.func78 (Λ := fun args bs => match args, bs with | [.sl 0 2 0 n _], [⟨2, _, row⟩] => Qtr n (fun i => Qfc (row i)) | _, _ => Qax) fun args bs p x h hp => by
 unfold Qv6 at h
 split at h <;> try (cases h; done)
 rename_i n c n' row
 cases h
 obtain ⟨h1, rfl, h3⟩ := hp _ rfl
 have h1 := okAll_rows.1 h1
 refine ⟨rfl, [⟨2, n', Qel (fun i => Qch (row i)) fun i => Qfc (row i)⟩], ⟨⟨rfl, rfl, fun i hi => Qfw (h1 i hi)⟩, trivial⟩, ?_⟩
 show Qcu _ _ (Qtr n' fun i => Qfc (row i)) _ _ _ _ _
 rw [Zbs]
 refine ⟨⟨0, ⟨by omega, fun j hj => by omega⟩, rfl, trivial⟩, fun i hi => ?_⟩
 refine Qad (fun h => ?_) fun h => ?_
 · have h' : i < n' := by have := of_decide_eq_true h; omega
   simp only [Int.toNat_natCast, Nat.zero_add]
   refine ⟨⟨by omega, by omega⟩, Qad (fun h'' => Qdy (Q7s h' h'').symm) fun h'' => ⟨i + 1, ⟨⟨by omega, fun j hj => ?_⟩, Qbh ?_, trivial⟩, by omega⟩⟩
   · rcases Nat.lt_or_eq_of_le (Nat.le_of_lt_succ hj) with hj | rfl
     · exact hi.2 j hj
     · exact h''
   · rw [Qaf ⟨by omega, by omega⟩]; omega
 · have h' : ¬ i < n' := by have := of_decide_eq_false h; omega
   have : i = n' := by omega
   subst this
   exact Qdy (Qps hi.2).symm
theorem Qjn (a b : List (List SV)) : Qfb (a ++ b) = (Qfb a || Qfb b) := by
 induction a with
 | nil => rfl
 | cons r t ih => simp [Qfb, ih, Bool.or_assoc]
theorem Qpr {row : Nat → List SV} : ∀ {i : Nat}, (∀ j, j < i → Qat (Qch (row j)) (Qfc (row j)) = false) → Qfb (Qak i row) = false
 | 0, _ => rfl
 | i + 1, h => by
   rw [Qft, Qjn, Qpr fun j hj => h j (by omega)]
   simp [Qfb, h i (by omega)]
theorem Q7r {n i : Nat} {row : Nat → List SV} (hi : i < n) (h : Qat (Qch (row i)) (Qfc (row i)) = true) : Qfb (Qak n row) = true := by
 obtain ⟨t, ht⟩ := Qhv row hi
 rw [ht, Qjn]
 simp [Qfb, h]
theorem Ql0 : Qcg Tryz.prog 326 Qmf := Qb4 hm Qde Tryz.func326 (Λ := fun args bs => match args, bs with | [.sl 0 2 0 n _], [⟨2, _, row⟩] => Qms n (fun i => Qat (Qch (row i)) (Qfc (row i))) | _, _ => Qax) fun args bs p x h hp => by
 unfold Qmf at h
 split at h <;> try (cases h; done)
 rename_i n c n' row
 cases h
 obtain ⟨h1, rfl, h3⟩ := hp _ rfl
 have h1 := okAll_rows.1 h1
 refine ⟨rfl, [⟨2, n', Qel (fun i => Qch (row i)) fun i => Qfc (row i)⟩], ⟨⟨rfl, rfl, fun i hi => Qfw (h1 i hi)⟩, trivial⟩, ?_⟩
 show Qcu _ _ (Qms n' fun i => Qat (Qch (row i)) (Qfc (row i))) _ _ _ _ _
 rw [Q0e]
 refine ⟨⟨0, ⟨by omega, fun j hj => by omega⟩, rfl, trivial⟩, fun i hi => ?_⟩
 refine Qad (fun h => ?_) fun h => ?_
 · have h' : i < n' := by have := of_decide_eq_true h; omega
   simp only [Int.toNat_natCast, Nat.zero_add]
   refine ⟨⟨by omega, by omega⟩, Qad (fun h'' => Qdy (Q7r h' h'').symm) fun h'' => ⟨i + 1, ⟨⟨by omega, fun j hj => ?_⟩, Qbh ?_, trivial⟩, by omega⟩⟩
   · rcases Nat.lt_or_eq_of_le (Nat.le_of_lt_succ hj) with hj | rfl
     · exact hi.2 j hj
     · exact h''
   · rw [Qaf ⟨by omega, by omega⟩]; omega
 · have h' : ¬ i < n' := by have := of_decide_eq_false h; omega
   have : i = n' := by omega
   subst this
   exact Qdy (Qpr hi.2).symm
def Qc8 (x : Int) : Int := if x = 0 then 0 else ((Nat.log2 x.toNat : Nat) : Int) + 1
def Qv5 : List SV → Option (Option Prop × SV)
 | [.v (.int .u64 x)] => some (some (U64 x), .v (.int .i64 (Qc8 x)))
 | _ => none
def Zcq : List SV → Option (Option Prop × SV)
 | [.v (.int .u64 x)] => some (some (U64 x), .v (.int .i64 (64 - Qc8 x)))
 | _ => none
def Q1o : List SV → Option (Option Prop × SV)
 | [.v (.int .u64 hi), .v (.int .u64 lo), .v (.int .u64 y)] => some (some (U64 hi ∧ U64 lo ∧ U64 y ∧ hi < y), .tup [.v (.int .u64 (MM lo hi / y)), .v (.int .u64 (MM lo hi % y))])
 | _ => none
def ΓX0 : Qb8 := Qah Qbr 223 (Qaj Qv5)
def ΓX1 : Qb8 := Qah Qbr 148 (Qaj Zcq)
structure QR where
 q : Int
 r : Int
structure invQ (a b u l : Int) (x : QR) : Prop where
 q0 : 0 ≤ x.q
 q1 : x.q ≤ 4294967297
 r0 : 0 ≤ x.r
 r1 : x.r < 4294967296
 sum : x.q * a + x.r = u
 le : (u * 4294967296 + l) / (a * 4294967296 + b) ≤ x.q
noncomputable def Ze9 (a b u l u' l' : Int) : Nat → Option LoopSpec := Qcp (Qcp Qax Tryz.f67 0 QR (invQ a b u l) (fun x => x.q.toNat) [(15, fun x => .v (.int .u64 x.q)), (16, fun x => .v (.int .u64 x.r))] [])
 Tryz.f67 2 QR (invQ a b u' l') (fun x => x.q.toNat) [(18, fun x => .v (.int .u64 x.q)), (16, fun x => .v (.int .u64 x.r))] []
def tab8 : List UInt8 := (Array.toList (ByteArray.data { data := List.toArray (List.append (List.append [0, 1, 2, 2, 3, 3, 3, 3, 4, 4, 4, 4, 4, 4, 4, 4, 5, 5, 5, 5, 5, 5, 5, 5, 5, 5, 5, 5, 5, 5, 5, 5, 6, 6, 6, 6, 6, 6, 6, 6, 6, 6, 6, 6, 6, 6, 6, 6, 6, 6, 6, 6, 6, 6, 6, 6, 6, 6, 6, 6, 6, 6, 6, 6] [7, 7, 7, 7, 7, 7, 7, 7, 7, 7, 7, 7, 7, 7, 7, 7, 7, 7, 7, 7, 7, 7, 7, 7, 7, 7, 7, 7, 7, 7, 7, 7, 7, 7, 7, 7, 7, 7, 7, 7, 7, 7, 7, 7, 7, 7, 7, 7, 7, 7, 7, 7, 7, 7, 7, 7, 7, 7, 7, 7, 7, 7, 7, 7]) (List.append [8, 8, 8, 8, 8, 8, 8, 8, 8, 8, 8, 8, 8, 8, 8, 8, 8, 8, 8, 8, 8, 8, 8, 8, 8, 8, 8, 8, 8, 8, 8, 8, 8, 8, 8, 8, 8, 8, 8, 8, 8, 8, 8, 8, 8, 8, 8, 8, 8, 8, 8, 8, 8, 8, 8, 8, 8, 8, 8, 8, 8, 8, 8, 8] [8, 8, 8, 8, 8, 8, 8, 8, 8, 8, 8, 8, 8, 8, 8, 8, 8, 8, 8, 8, 8, 8, 8, 8, 8, 8, 8, 8, 8, 8, 8, 8, 8, 8, 8, 8, 8, 8, 8, 8, 8, 8, 8, 8, 8, 8, 8, 8, 8, 8, 8, 8, 8, 8, 8, 8, 8, 8, 8, 8, 8, 8, 8, 8])) }))
theorem Zbq (x : Int) (R : SV→Prop) : (Qav Tryz.prog Qbr Qax Tryz.f223 [.v (.int .u64 x)] R) =
(sel (decide (x ≥ 4294967296)) (sel (decide (x / 4294967296 ≥ 65536)) (sel (decide (x / 4294967296 / 65536 ≥ 256)) ((((0 : Int) ≤ (IntKind.wrap IntKind.u8 (x / 4294967296 / 65536 / 256)))∧(((IntKind.wrap IntKind.u8 (x / 4294967296 / 65536 / 256)) : Int) < 256))∧(R (SV.v (.int .i64 (IntKind.wrap IntKind.i64 (56 + IntKind.wrap IntKind.i64 (↑(UInt8.toNat (List.getD tab8 (Int.toNat (IntKind.wrap IntKind.u8 (x / 4294967296 / 65536 / 256))) 0)) : Int))))))) ((((0 : Int) ≤ (IntKind.wrap IntKind.u8 (x / 4294967296 / 65536)))∧(((IntKind.wrap IntKind.u8 (x / 4294967296 / 65536)) : Int) < 256))∧(R (SV.v (.int .i64 (IntKind.wrap IntKind.i64 (48 + IntKind.wrap IntKind.i64 (↑(UInt8.toNat (List.getD tab8 (Int.toNat (IntKind.wrap IntKind.u8 (x / 4294967296 / 65536))) 0)) : Int)))))))) (sel (decide (x / 4294967296 ≥ 256)) ((((0 : Int) ≤ (IntKind.wrap IntKind.u8 (x / 4294967296 / 256)))∧(((IntKind.wrap IntKind.u8 (x / 4294967296 / 256)) : Int) < 256))∧(R (SV.v (.int .i64 (IntKind.wrap IntKind.i64 (40 + IntKind.wrap IntKind.i64 (↑(UInt8.toNat (List.getD tab8 (Int.toNat (IntKind.wrap IntKind.u8 (x / 4294967296 / 256))) 0)) : Int))))))) ((((0 : Int) ≤ (IntKind.wrap IntKind.u8 (x / 4294967296)))∧(((IntKind.wrap IntKind.u8 (x / 4294967296)) : Int) < 256))∧(R (SV.v (.int .i64 (IntKind.wrap IntKind.i64 (32 + IntKind.wrap IntKind.i64 (↑(UInt8.toNat (List.getD tab8 (Int.toNat (IntKind.wrap IntKind.u8 (x / 4294967296))) 0)) : Int))))))))) (sel (decide (x ≥ 65536)) (sel (decide (x / 65536 ≥ 256)) ((((0 : Int) ≤ (IntKind.wrap IntKind.u8 (x / 65536 / 256)))∧(((IntKind.wrap IntKind.u8 (x / 65536 / 256)) : Int) < 256))∧(R (SV.v (.int .i64 (IntKind.wrap IntKind.i64 (24 + IntKind.wrap IntKind.i64 (↑(UInt8.toNat (List.getD tab8 (Int.toNat (IntKind.wrap IntKind.u8 (x / 65536 / 256))) 0)) : Int))))))) ((((0 : Int) ≤ (IntKind.wrap IntKind.u8 (x / 65536)))∧(((IntKind.wrap IntKind.u8 (x / 65536)) : Int) < 256))∧(R (SV.v (.int .i64 (IntKind.wrap IntKind.i64 (16 + IntKind.wrap IntKind.i64 (↑(UInt8.toNat (List.getD tab8 (Int.toNat (IntKind.wrap IntKind.u8 (x / 65536))) 0)) : Int)))))))) (sel (decide (x ≥ 256)) ((((0 : Int) ≤ (IntKind.wrap IntKind.u8 (x / 256)))∧(((IntKind.wrap IntKind.u8 (x / 256)) : Int) < 256))∧(R (SV.v (.int .i64 (IntKind.wrap IntKind.i64 (8 + IntKind.wrap IntKind.i64 (↑(UInt8.toNat (List.getD tab8 (Int.toNat (IntKind.wrap IntKind.u8 (x / 256))) 0)) : Int))))))) ((((0 : Int) ≤ (IntKind.wrap IntKind.u8 x))∧(((IntKind.wrap IntKind.u8 x) : Int) < 256))∧(R (SV.v (.int .i64 (IntKind.wrap IntKind.i64 (0 + IntKind.wrap IntKind.i64 (↑(UInt8.toNat (List.getD tab8 (Int.toNat (IntKind.wrap IntKind.u8 x)) 0)) : Int)))))))))) := by kernel_rfl
theorem Zgn (x : Int) (R : SV→Prop) : (Qav Tryz.prog ΓX0 Qax Tryz.f148 [.v (.int .u64 x)] R) = ((U64 x)∧(R (SV.v (.int .i64 (IntKind.wrap IntKind.i64 (64 - Qc8 x)))))):=by kernel_rfl
@[reducible] noncomputable def Qb1 (hi : Int) (lo : Int) (y : Int) := (IntKind.wrap IntKind.u64 (bits BinOp.or IntKind.u64 (IntKind.wrap IntKind.u64 (hi * 2 ^ min (Int.toNat (IntKind.wrap IntKind.u64 (64 - Qc8 y))) 64)) (lo / 2 ^ min (Int.toNat (IntKind.wrap IntKind.u64 (64 - IntKind.wrap IntKind.u64 (64 - Qc8 y)))) 64) * 4294967296) + IntKind.wrap IntKind.u64 (lo * 2 ^ min (Int.toNat (IntKind.wrap IntKind.u64 (64 - Qc8 y))) 64) / 4294967296)
@[reducible] noncomputable def Qar (y : Int) := (y * 2 ^ min (Int.toNat (IntKind.wrap IntKind.u64 (64 - Qc8 y))) 64)
@[reducible] noncomputable def Qc2 (lo : Int) (y : Int) := (IntKind.wrap IntKind.u64 (lo * 2 ^ min (Int.toNat (IntKind.wrap IntKind.u64 (64 - Qc8 y))) 64))
@[reducible] noncomputable def Qmx (hi : Int) (lo : Int) (y : Int) := (Int.tdiv (bits BinOp.or IntKind.u64 (IntKind.wrap IntKind.u64 (hi * 2 ^ min (Int.toNat (IntKind.wrap IntKind.u64 (64 - Qc8 y))) 64)) (lo / 2 ^ min (Int.toNat (IntKind.wrap IntKind.u64 (64 - IntKind.wrap IntKind.u64 (64 - Qc8 y)))) 64)) (IntKind.wrap IntKind.u64 (Qar y) / 4294967296))
theorem Zbv (hi lo y a b u l u' l' : Int) (R : SV→Prop) : (Qav Tryz.prog ΓX1 (Ze9 a b u l u' l') Tryz.f67 [.v (.int .u64 hi),.v (.int .u64 lo),.v (.int .u64 y)] R) =
(sel (y == 0) False (sel (decide (y ≤ hi)) False (sel (hi == 0) (((y : Int) ≠ 0)∧(((y : Int) ≠ 0)∧(R (SV.tup [(SV.v (.int .u64 (IntKind.wrap IntKind.u64 (Int.tdiv lo y)))),(SV.v (.int .u64 (Int.tmod lo y)))])))) ((U64 y)∧(((0 : Int) ≤ (IntKind.wrap IntKind.u64 (64 - Qc8 y)))∧(((0 : Int) ≤ (IntKind.wrap IntKind.u64 (64 - Qc8 y)))∧(((0 : Int) ≤ (IntKind.wrap IntKind.u64 (64 - IntKind.wrap IntKind.u64 (64 - Qc8 y))))∧(((0 : Int) ≤ (IntKind.wrap IntKind.u64 (64 - Qc8 y)))∧((((IntKind.wrap IntKind.u64 (Qar y) / 4294967296) : Int) ≠ 0)∧((∃ x : QR,((invQ a b u l x)∧((((SV.v (.int .u64 (IntKind.wrap IntKind.u64 (Qmx hi lo y)))) = (SV.v (.int .u64 (QR.q x))))∧((SV.v (.int .u64 (IntKind.wrap IntKind.u64 (bits BinOp.or IntKind.u64 (IntKind.wrap IntKind.u64 (hi * 2 ^ min (Int.toNat (IntKind.wrap IntKind.u64 (64 - Qc8 y))) 64)) (lo / 2 ^ min (Int.toNat (IntKind.wrap IntKind.u64 (64 - IntKind.wrap IntKind.u64 (64 - Qc8 y)))) 64) - IntKind.wrap IntKind.u64 (IntKind.wrap IntKind.u64 (Qmx hi lo y) * (IntKind.wrap IntKind.u64 (Qar y) / 4294967296)))))) = (SV.v (.int .u64 (QR.r x)))))∧True)))∧(∀ x : QR,((invQ a b u l x)→(sel (decide (QR.q x ≥ 4294967296)) (sel (decide (IntKind.wrap IntKind.u64 (QR.r x + IntKind.wrap IntKind.u64 (Qar y) / 4294967296) ≥ 4294967296)) ((((IntKind.wrap IntKind.u64 (Qar y) / 4294967296) : Int) ≠ 0)∧((∃ x_1 : QR,((invQ a b u' l' x_1)∧((((SV.v (.int .u64 (IntKind.wrap IntKind.u64 (Int.tdiv (IntKind.wrap IntKind.u64 (IntKind.wrap IntKind.u64 (Qb1 hi lo y) - IntKind.wrap IntKind.u64 (IntKind.wrap IntKind.u64 (QR.q x - 1) * IntKind.wrap IntKind.u64 (Qar y)))) (IntKind.wrap IntKind.u64 (Qar y) / 4294967296))))) = (SV.v (.int .u64 (QR.q x_1))))∧((SV.v (.int .u64 (IntKind.wrap IntKind.u64 (IntKind.wrap IntKind.u64 (IntKind.wrap IntKind.u64 (Qb1 hi lo y) - IntKind.wrap IntKind.u64 (IntKind.wrap IntKind.u64 (QR.q x - 1) * IntKind.wrap IntKind.u64 (Qar y))) - IntKind.wrap IntKind.u64 (IntKind.wrap IntKind.u64 (Int.tdiv (IntKind.wrap IntKind.u64 (IntKind.wrap IntKind.u64 (Qb1 hi lo y) - IntKind.wrap IntKind.u64 (IntKind.wrap IntKind.u64 (QR.q x - 1) * IntKind.wrap IntKind.u64 (Qar y)))) (IntKind.wrap IntKind.u64 (Qar y) / 4294967296)) * (IntKind.wrap IntKind.u64 (Qar y) / 4294967296)))))) = (SV.v (.int .u64 (QR.r x_1)))))∧True)))∧(∀ x_1 : QR,((invQ a b u' l' x_1)→(sel (decide (QR.q x_1 ≥ 4294967296)) (sel (decide (IntKind.wrap IntKind.u64 (QR.r x_1 + IntKind.wrap IntKind.u64 (Qar y) / 4294967296) ≥ 4294967296)) (((0 : Int) ≤ (IntKind.wrap IntKind.u64 (64 - Qc8 y)))∧(R (SV.tup [(SV.v (.int .u64 (IntKind.wrap IntKind.u64 (IntKind.wrap IntKind.u64 (IntKind.wrap IntKind.u64 (QR.q x - 1) * 4294967296) + IntKind.wrap IntKind.u64 (QR.q x_1 - 1))))),(SV.v (.int .u64 (IntKind.wrap IntKind.u64 (IntKind.wrap IntKind.u64 (IntKind.wrap IntKind.u64 (IntKind.wrap IntKind.u64 (IntKind.wrap IntKind.u64 (Qb1 hi lo y) - IntKind.wrap IntKind.u64 (IntKind.wrap IntKind.u64 (QR.q x - 1) * IntKind.wrap IntKind.u64 (Qar y))) * 4294967296) + bits BinOp.and IntKind.u64 (Qc2 lo y) 4294967295) - IntKind.wrap IntKind.u64 (IntKind.wrap IntKind.u64 (QR.q x_1 - 1) * IntKind.wrap IntKind.u64 (Qar y))) / 2 ^ min (Int.toNat (IntKind.wrap IntKind.u64 (64 - Qc8 y))) 64)))]))) (∃ x' : QR,(((invQ a b u' l' x')∧((((SV.v (.int .u64 (IntKind.wrap IntKind.u64 (QR.q x_1 - 1)))) = (SV.v (.int .u64 (QR.q x'))))∧((SV.v (.int .u64 (IntKind.wrap IntKind.u64 (QR.r x_1 + IntKind.wrap IntKind.u64 (Qar y) / 4294967296)))) = (SV.v (.int .u64 (QR.r x')))))∧True))∧(((Int.toNat (QR.q x')) : Nat) < (Int.toNat (QR.q x_1)))))) (sel (decide (IntKind.wrap IntKind.u64 (QR.q x_1 * bits BinOp.and IntKind.u64 (IntKind.wrap IntKind.u64 (Qar y)) 4294967295) > IntKind.wrap IntKind.u64 (IntKind.wrap IntKind.u64 (4294967296 * QR.r x_1) + bits BinOp.and IntKind.u64 (Qc2 lo y) 4294967295))) (sel (decide (IntKind.wrap IntKind.u64 (QR.r x_1 + IntKind.wrap IntKind.u64 (Qar y) / 4294967296) ≥ 4294967296)) (((0 : Int) ≤ (IntKind.wrap IntKind.u64 (64 - Qc8 y)))∧(R (SV.tup [(SV.v (.int .u64 (IntKind.wrap IntKind.u64 (IntKind.wrap IntKind.u64 (IntKind.wrap IntKind.u64 (QR.q x - 1) * 4294967296) + IntKind.wrap IntKind.u64 (QR.q x_1 - 1))))),(SV.v (.int .u64 (IntKind.wrap IntKind.u64 (IntKind.wrap IntKind.u64 (IntKind.wrap IntKind.u64 (IntKind.wrap IntKind.u64 (IntKind.wrap IntKind.u64 (Qb1 hi lo y) - IntKind.wrap IntKind.u64 (IntKind.wrap IntKind.u64 (QR.q x - 1) * IntKind.wrap IntKind.u64 (Qar y))) * 4294967296) + bits BinOp.and IntKind.u64 (Qc2 lo y) 4294967295) - IntKind.wrap IntKind.u64 (IntKind.wrap IntKind.u64 (QR.q x_1 - 1) * IntKind.wrap IntKind.u64 (Qar y))) / 2 ^ min (Int.toNat (IntKind.wrap IntKind.u64 (64 - Qc8 y))) 64)))]))) (∃ x' : QR,(((invQ a b u' l' x')∧((((SV.v (.int .u64 (IntKind.wrap IntKind.u64 (QR.q x_1 - 1)))) = (SV.v (.int .u64 (QR.q x'))))∧((SV.v (.int .u64 (IntKind.wrap IntKind.u64 (QR.r x_1 + IntKind.wrap IntKind.u64 (Qar y) / 4294967296)))) = (SV.v (.int .u64 (QR.r x')))))∧True))∧(((Int.toNat (QR.q x')) : Nat) < (Int.toNat (QR.q x_1)))))) (((0 : Int) ≤ (IntKind.wrap IntKind.u64 (64 - Qc8 y)))∧(R (SV.tup [(SV.v (.int .u64 (IntKind.wrap IntKind.u64 (IntKind.wrap IntKind.u64 (IntKind.wrap IntKind.u64 (QR.q x - 1) * 4294967296) + QR.q x_1)))),(SV.v (.int .u64 (IntKind.wrap IntKind.u64 (IntKind.wrap IntKind.u64 (IntKind.wrap IntKind.u64 (IntKind.wrap IntKind.u64 (IntKind.wrap IntKind.u64 (Qb1 hi lo y) - IntKind.wrap IntKind.u64 (IntKind.wrap IntKind.u64 (QR.q x - 1) * IntKind.wrap IntKind.u64 (Qar y))) * 4294967296) + bits BinOp.and IntKind.u64 (Qc2 lo y) 4294967295) - IntKind.wrap IntKind.u64 (QR.q x_1 * IntKind.wrap IntKind.u64 (Qar y))) / 2 ^ min (Int.toNat (IntKind.wrap IntKind.u64 (64 - Qc8 y))) 64)))]))))))))) (∃ x' : QR,(((invQ a b u l x')∧((((SV.v (.int .u64 (IntKind.wrap IntKind.u64 (QR.q x - 1)))) = (SV.v (.int .u64 (QR.q x'))))∧((SV.v (.int .u64 (IntKind.wrap IntKind.u64 (QR.r x + IntKind.wrap IntKind.u64 (Qar y) / 4294967296)))) = (SV.v (.int .u64 (QR.r x')))))∧True))∧(((Int.toNat (QR.q x')) : Nat) < (Int.toNat (QR.q x)))))) (sel (decide (IntKind.wrap IntKind.u64 (QR.q x * bits BinOp.and IntKind.u64 (IntKind.wrap IntKind.u64 (Qar y)) 4294967295) > IntKind.wrap IntKind.u64 (IntKind.wrap IntKind.u64 (4294967296 * QR.r x) + IntKind.wrap IntKind.u64 (lo * 2 ^ min (Int.toNat (IntKind.wrap IntKind.u64 (64 - Qc8 y))) 64) / 4294967296))) (sel (decide (IntKind.wrap IntKind.u64 (QR.r x + IntKind.wrap IntKind.u64 (Qar y) / 4294967296) ≥ 4294967296)) ((((IntKind.wrap IntKind.u64 (Qar y) / 4294967296) : Int) ≠ 0)∧((∃ x_1 : QR,((invQ a b u' l' x_1)∧((((SV.v (.int .u64 (IntKind.wrap IntKind.u64 (Int.tdiv (IntKind.wrap IntKind.u64 (IntKind.wrap IntKind.u64 (Qb1 hi lo y) - IntKind.wrap IntKind.u64 (IntKind.wrap IntKind.u64 (QR.q x - 1) * IntKind.wrap IntKind.u64 (Qar y)))) (IntKind.wrap IntKind.u64 (Qar y) / 4294967296))))) = (SV.v (.int .u64 (QR.q x_1))))∧((SV.v (.int .u64 (IntKind.wrap IntKind.u64 (IntKind.wrap IntKind.u64 (IntKind.wrap IntKind.u64 (Qb1 hi lo y) - IntKind.wrap IntKind.u64 (IntKind.wrap IntKind.u64 (QR.q x - 1) * IntKind.wrap IntKind.u64 (Qar y))) - IntKind.wrap IntKind.u64 (IntKind.wrap IntKind.u64 (Int.tdiv (IntKind.wrap IntKind.u64 (IntKind.wrap IntKind.u64 (Qb1 hi lo y) - IntKind.wrap IntKind.u64 (IntKind.wrap IntKind.u64 (QR.q x - 1) * IntKind.wrap IntKind.u64 (Qar y)))) (IntKind.wrap IntKind.u64 (Qar y) / 4294967296)) * (IntKind.wrap IntKind.u64 (Qar y) / 4294967296)))))) = (SV.v (.int .u64 (QR.r x_1)))))∧True)))∧(∀ x_1 : QR,((invQ a b u' l' x_1)→(sel (decide (QR.q x_1 ≥ 4294967296)) (sel (decide (IntKind.wrap IntKind.u64 (QR.r x_1 + IntKind.wrap IntKind.u64 (Qar y) / 4294967296) ≥ 4294967296)) (((0 : Int) ≤ (IntKind.wrap IntKind.u64 (64 - Qc8 y)))∧(R (SV.tup [(SV.v (.int .u64 (IntKind.wrap IntKind.u64 (IntKind.wrap IntKind.u64 (IntKind.wrap IntKind.u64 (QR.q x - 1) * 4294967296) + IntKind.wrap IntKind.u64 (QR.q x_1 - 1))))),(SV.v (.int .u64 (IntKind.wrap IntKind.u64 (IntKind.wrap IntKind.u64 (IntKind.wrap IntKind.u64 (IntKind.wrap IntKind.u64 (IntKind.wrap IntKind.u64 (Qb1 hi lo y) - IntKind.wrap IntKind.u64 (IntKind.wrap IntKind.u64 (QR.q x - 1) * IntKind.wrap IntKind.u64 (Qar y))) * 4294967296) + bits BinOp.and IntKind.u64 (Qc2 lo y) 4294967295) - IntKind.wrap IntKind.u64 (IntKind.wrap IntKind.u64 (QR.q x_1 - 1) * IntKind.wrap IntKind.u64 (Qar y))) / 2 ^ min (Int.toNat (IntKind.wrap IntKind.u64 (64 - Qc8 y))) 64)))]))) (∃ x' : QR,(((invQ a b u' l' x')∧((((SV.v (.int .u64 (IntKind.wrap IntKind.u64 (QR.q x_1 - 1)))) = (SV.v (.int .u64 (QR.q x'))))∧((SV.v (.int .u64 (IntKind.wrap IntKind.u64 (QR.r x_1 + IntKind.wrap IntKind.u64 (Qar y) / 4294967296)))) = (SV.v (.int .u64 (QR.r x')))))∧True))∧(((Int.toNat (QR.q x')) : Nat) < (Int.toNat (QR.q x_1)))))) (sel (decide (IntKind.wrap IntKind.u64 (QR.q x_1 * bits BinOp.and IntKind.u64 (IntKind.wrap IntKind.u64 (Qar y)) 4294967295) > IntKind.wrap IntKind.u64 (IntKind.wrap IntKind.u64 (4294967296 * QR.r x_1) + bits BinOp.and IntKind.u64 (Qc2 lo y) 4294967295))) (sel (decide (IntKind.wrap IntKind.u64 (QR.r x_1 + IntKind.wrap IntKind.u64 (Qar y) / 4294967296) ≥ 4294967296)) (((0 : Int) ≤ (IntKind.wrap IntKind.u64 (64 - Qc8 y)))∧(R (SV.tup [(SV.v (.int .u64 (IntKind.wrap IntKind.u64 (IntKind.wrap IntKind.u64 (IntKind.wrap IntKind.u64 (QR.q x - 1) * 4294967296) + IntKind.wrap IntKind.u64 (QR.q x_1 - 1))))),(SV.v (.int .u64 (IntKind.wrap IntKind.u64 (IntKind.wrap IntKind.u64 (IntKind.wrap IntKind.u64 (IntKind.wrap IntKind.u64 (IntKind.wrap IntKind.u64 (Qb1 hi lo y) - IntKind.wrap IntKind.u64 (IntKind.wrap IntKind.u64 (QR.q x - 1) * IntKind.wrap IntKind.u64 (Qar y))) * 4294967296) + bits BinOp.and IntKind.u64 (Qc2 lo y) 4294967295) - IntKind.wrap IntKind.u64 (IntKind.wrap IntKind.u64 (QR.q x_1 - 1) * IntKind.wrap IntKind.u64 (Qar y))) / 2 ^ min (Int.toNat (IntKind.wrap IntKind.u64 (64 - Qc8 y))) 64)))]))) (∃ x' : QR,(((invQ a b u' l' x')∧((((SV.v (.int .u64 (IntKind.wrap IntKind.u64 (QR.q x_1 - 1)))) = (SV.v (.int .u64 (QR.q x'))))∧((SV.v (.int .u64 (IntKind.wrap IntKind.u64 (QR.r x_1 + IntKind.wrap IntKind.u64 (Qar y) / 4294967296)))) = (SV.v (.int .u64 (QR.r x')))))∧True))∧(((Int.toNat (QR.q x')) : Nat) < (Int.toNat (QR.q x_1)))))) (((0 : Int) ≤ (IntKind.wrap IntKind.u64 (64 - Qc8 y)))∧(R (SV.tup [(SV.v (.int .u64 (IntKind.wrap IntKind.u64 (IntKind.wrap IntKind.u64 (IntKind.wrap IntKind.u64 (QR.q x - 1) * 4294967296) + QR.q x_1)))),(SV.v (.int .u64 (IntKind.wrap IntKind.u64 (IntKind.wrap IntKind.u64 (IntKind.wrap IntKind.u64 (IntKind.wrap IntKind.u64 (IntKind.wrap IntKind.u64 (Qb1 hi lo y) - IntKind.wrap IntKind.u64 (IntKind.wrap IntKind.u64 (QR.q x - 1) * IntKind.wrap IntKind.u64 (Qar y))) * 4294967296) + bits BinOp.and IntKind.u64 (Qc2 lo y) 4294967295) - IntKind.wrap IntKind.u64 (QR.q x_1 * IntKind.wrap IntKind.u64 (Qar y))) / 2 ^ min (Int.toNat (IntKind.wrap IntKind.u64 (64 - Qc8 y))) 64)))]))))))))) (∃ x' : QR,(((invQ a b u l x')∧((((SV.v (.int .u64 (IntKind.wrap IntKind.u64 (QR.q x - 1)))) = (SV.v (.int .u64 (QR.q x'))))∧((SV.v (.int .u64 (IntKind.wrap IntKind.u64 (QR.r x + IntKind.wrap IntKind.u64 (Qar y) / 4294967296)))) = (SV.v (.int .u64 (QR.r x')))))∧True))∧(((Int.toNat (QR.q x')) : Nat) < (Int.toNat (QR.q x)))))) ((((IntKind.wrap IntKind.u64 (Qar y) / 4294967296) : Int) ≠ 0)∧((∃ x_1 : QR,((invQ a b u' l' x_1)∧((((SV.v (.int .u64 (IntKind.wrap IntKind.u64 (Int.tdiv (IntKind.wrap IntKind.u64 (IntKind.wrap IntKind.u64 (Qb1 hi lo y) - IntKind.wrap IntKind.u64 (QR.q x * IntKind.wrap IntKind.u64 (Qar y)))) (IntKind.wrap IntKind.u64 (Qar y) / 4294967296))))) = (SV.v (.int .u64 (QR.q x_1))))∧((SV.v (.int .u64 (IntKind.wrap IntKind.u64 (IntKind.wrap IntKind.u64 (IntKind.wrap IntKind.u64 (Qb1 hi lo y) - IntKind.wrap IntKind.u64 (QR.q x * IntKind.wrap IntKind.u64 (Qar y))) - IntKind.wrap IntKind.u64 (IntKind.wrap IntKind.u64 (Int.tdiv (IntKind.wrap IntKind.u64 (IntKind.wrap IntKind.u64 (Qb1 hi lo y) - IntKind.wrap IntKind.u64 (QR.q x * IntKind.wrap IntKind.u64 (Qar y)))) (IntKind.wrap IntKind.u64 (Qar y) / 4294967296)) * (IntKind.wrap IntKind.u64 (Qar y) / 4294967296)))))) = (SV.v (.int .u64 (QR.r x_1)))))∧True)))∧(∀ x_1 : QR,((invQ a b u' l' x_1)→(sel (decide (QR.q x_1 ≥ 4294967296)) (sel (decide (IntKind.wrap IntKind.u64 (QR.r x_1 + IntKind.wrap IntKind.u64 (Qar y) / 4294967296) ≥ 4294967296)) (((0 : Int) ≤ (IntKind.wrap IntKind.u64 (64 - Qc8 y)))∧(R (SV.tup [(SV.v (.int .u64 (IntKind.wrap IntKind.u64 (IntKind.wrap IntKind.u64 (QR.q x * 4294967296) + IntKind.wrap IntKind.u64 (QR.q x_1 - 1))))),(SV.v (.int .u64 (IntKind.wrap IntKind.u64 (IntKind.wrap IntKind.u64 (IntKind.wrap IntKind.u64 (IntKind.wrap IntKind.u64 (IntKind.wrap IntKind.u64 (Qb1 hi lo y) - IntKind.wrap IntKind.u64 (QR.q x * IntKind.wrap IntKind.u64 (Qar y))) * 4294967296) + bits BinOp.and IntKind.u64 (Qc2 lo y) 4294967295) - IntKind.wrap IntKind.u64 (IntKind.wrap IntKind.u64 (QR.q x_1 - 1) * IntKind.wrap IntKind.u64 (Qar y))) / 2 ^ min (Int.toNat (IntKind.wrap IntKind.u64 (64 - Qc8 y))) 64)))]))) (∃ x' : QR,(((invQ a b u' l' x')∧((((SV.v (.int .u64 (IntKind.wrap IntKind.u64 (QR.q x_1 - 1)))) = (SV.v (.int .u64 (QR.q x'))))∧((SV.v (.int .u64 (IntKind.wrap IntKind.u64 (QR.r x_1 + IntKind.wrap IntKind.u64 (Qar y) / 4294967296)))) = (SV.v (.int .u64 (QR.r x')))))∧True))∧(((Int.toNat (QR.q x')) : Nat) < (Int.toNat (QR.q x_1)))))) (sel (decide (IntKind.wrap IntKind.u64 (QR.q x_1 * bits BinOp.and IntKind.u64 (IntKind.wrap IntKind.u64 (Qar y)) 4294967295) > IntKind.wrap IntKind.u64 (IntKind.wrap IntKind.u64 (4294967296 * QR.r x_1) + bits BinOp.and IntKind.u64 (Qc2 lo y) 4294967295))) (sel (decide (IntKind.wrap IntKind.u64 (QR.r x_1 + IntKind.wrap IntKind.u64 (Qar y) / 4294967296) ≥ 4294967296)) (((0 : Int) ≤ (IntKind.wrap IntKind.u64 (64 - Qc8 y)))∧(R (SV.tup [(SV.v (.int .u64 (IntKind.wrap IntKind.u64 (IntKind.wrap IntKind.u64 (QR.q x * 4294967296) + IntKind.wrap IntKind.u64 (QR.q x_1 - 1))))),(SV.v (.int .u64 (IntKind.wrap IntKind.u64 (IntKind.wrap IntKind.u64 (IntKind.wrap IntKind.u64 (IntKind.wrap IntKind.u64 (IntKind.wrap IntKind.u64 (Qb1 hi lo y) - IntKind.wrap IntKind.u64 (QR.q x * IntKind.wrap IntKind.u64 (Qar y))) * 4294967296) + bits BinOp.and IntKind.u64 (Qc2 lo y) 4294967295) - IntKind.wrap IntKind.u64 (IntKind.wrap IntKind.u64 (QR.q x_1 - 1) * IntKind.wrap IntKind.u64 (Qar y))) / 2 ^ min (Int.toNat (IntKind.wrap IntKind.u64 (64 - Qc8 y))) 64)))]))) (∃ x' : QR,(((invQ a b u' l' x')∧((((SV.v (.int .u64 (IntKind.wrap IntKind.u64 (QR.q x_1 - 1)))) = (SV.v (.int .u64 (QR.q x'))))∧((SV.v (.int .u64 (IntKind.wrap IntKind.u64 (QR.r x_1 + IntKind.wrap IntKind.u64 (Qar y) / 4294967296)))) = (SV.v (.int .u64 (QR.r x')))))∧True))∧(((Int.toNat (QR.q x')) : Nat) < (Int.toNat (QR.q x_1)))))) (((0 : Int) ≤ (IntKind.wrap IntKind.u64 (64 - Qc8 y)))∧(R (SV.tup [(SV.v (.int .u64 (IntKind.wrap IntKind.u64 (IntKind.wrap IntKind.u64 (QR.q x * 4294967296) + QR.q x_1)))),(SV.v (.int .u64 (IntKind.wrap IntKind.u64 (IntKind.wrap IntKind.u64 (IntKind.wrap IntKind.u64 (IntKind.wrap IntKind.u64 (IntKind.wrap IntKind.u64 (Qb1 hi lo y) - IntKind.wrap IntKind.u64 (QR.q x * IntKind.wrap IntKind.u64 (Qar y))) * 4294967296) + bits BinOp.and IntKind.u64 (Qc2 lo y) 4294967295) - IntKind.wrap IntKind.u64 (QR.q x_1 * IntKind.wrap IntKind.u64 (Qar y))) / 2 ^ min (Int.toNat (IntKind.wrap IntKind.u64 (64 - Qc8 y))) 64)))]))))))))))))))))))))))) := by kernel_rfl
theorem Zdd {x : Int} {n : Nat} (h0 : 2 ^ n ≤ x) (h1 : x < 2 ^ (n + 1)) : Qc8 x = n + 1 := by
 have hx : 0 < x := Int.lt_of_lt_of_le (by exact_mod_cast Nat.two_pow_pos n) h0
 unfold Qc8
 rw [if_neg (by omega)]
 have e : Nat.log2 x.toNat = n := by
   rw [Nat.log2_eq_iff (by omega)]
   constructor
   · have : ((2 ^ n : Nat) : Int) ≤ x := by exact_mod_cast h0
     omega
   · have : x < ((2 ^ (n + 1) : Nat) : Int) := by exact_mod_cast h1
     omega
 rw [e]
theorem Qnp {x : Int} (h : 0 < x) : ∃ n : Nat, Qc8 x = n + 1 ∧ 2 ^ n ≤ x ∧ x < 2 ^ (n + 1) := by
 refine ⟨Nat.log2 x.toNat, ?_, ?_, ?_⟩
 · unfold Qc8; rw [if_neg (by omega)]
 · have h1 := Nat.log2_self_le (n := x.toNat) (by omega)
   have : ((2 ^ Nat.log2 x.toNat : Nat) : Int) ≤ (x.toNat : Int) := by exact_mod_cast h1
   rw [Int.toNat_of_nonneg (by omega)] at this
   exact_mod_cast this
 · have h1 := Nat.lt_log2_self (n := x.toNat)
   have : (x.toNat : Int) < ((2 ^ (Nat.log2 x.toNat + 1) : Nat) : Int) := by exact_mod_cast h1
   rw [Int.toNat_of_nonneg (by omega)] at this
   exact_mod_cast this
theorem Qk6 {x : Int} (k : Nat) (h : 2 ^ k ≤ x) : Qc8 x = k + Qc8 (x / 2 ^ k) := by
 have hk : (0 : Int) < 2 ^ k := by exact_mod_cast Nat.two_pow_pos k
 have h1 : 0 < x / 2 ^ k := Int.lt_of_lt_of_le (by decide : (0 : Int) < 1) (Int.le_ediv_of_mul_le hk (by omega))
 obtain ⟨n, e, l1, l2⟩ := Qnp h1
 rw [e, Zdd (n := n + k)]
 · omega
 · rw [Int.pow_add]
   have := Int.mul_le_of_le_ediv hk l1
   exact this
 · have := Int.lt_mul_of_ediv_lt hk l2
   rw [show n + k + 1 = (n + 1) + k by omega, Int.pow_add]
   exact this
theorem Q6d : ∀ k : Fin 256, ((UInt8.toNat (tab8.getD k.val 0) : Nat) : Int) = Qc8 (k.val : Int) := by decide +kernel
theorem Zb0 {x : Int} (h0 : 0 ≤ x) (h1 : x < 256) : ((UInt8.toNat (tab8.getD x.toNat 0) : Nat) : Int) = Qc8 x := by
 have := Q6d ⟨x.toNat, by omega⟩
 simp only [Int.toNat_of_nonneg h0] at this
 exact this
theorem Zib {x : Int} (h0 : 0 ≤ x) (h1 : x < 256) : 0 ≤ Qc8 x ∧ Qc8 x ≤ 8 := by
 by_cases hx : x = 0
 · subst hx; exact ⟨by decide, by decide⟩
 · obtain ⟨n, e, l1, _⟩ := Qnp (x := x) (by omega)
   refine ⟨by omega, ?_⟩
   rcases Nat.lt_or_ge n 8 with h | h
   · omega
   · exfalso
     have : (2 : Int) ^ 8 ≤ 2 ^ n := by exact_mod_cast Nat.pow_le_pow_right (by decide) h
     omega
theorem Qpu : Qai Tryz.prog 223 Qv5 := Qao hm Qa0 Tryz.func223 (Λ := fun _ => Qax) fun args p x h hp => by
 unfold Qv5 at h
 split at h <;> try (cases h; done)
 rename_i x
 cases h
 obtain ⟨h1, h2⟩ := hp _ rfl
 refine ⟨rfl, rfl, ?_⟩
 refine Eq.mpr (Zbq x _) ?_
 have key : ∀ (k : Int) (z : Int), 0 ≤ k → k ≤ 56 → 0 ≤ z → z < 256 → Qc8 x = k + Qc8 z → ((0 : Int) ≤ IntKind.u8.wrap z ∧ IntKind.u8.wrap z < 256) ∧ SV.v (Value.int .i64 (IntKind.i64.wrap (k + IntKind.i64.wrap ((UInt8.toNat (List.getD tab8 (Int.toNat (IntKind.u8.wrap z)) 0) : Nat) : Int)))) = SV.v (Value.int .i64 (Qc8 x)) := by
   intro k z k0 k1 z0 z1 e
   have ez : IntKind.u8.wrap z = z := by rw [Qtz]; omega
   have hl := Zib z0 z1
   rw [ez, Zb0 z0 z1, Qaf (n := Qc8 z) ⟨by omega, by omega⟩, Qaf ⟨by omega, by omega⟩, e]
   exact ⟨⟨z0, z1⟩, rfl⟩
 have s8 : ∀ z : Int, 256 ≤ z → Qc8 z = 8 + Qc8 (z / 256) := fun z h => Qk6 8 h
 have s16 : ∀ z : Int, 65536 ≤ z → Qc8 z = 16 + Qc8 (z / 65536) := fun z h => Qk6 16 h
 have s32 : ∀ z : Int, 4294967296 ≤ z → Qc8 z = 32 + Qc8 (z / 4294967296) := fun z h => Qk6 32 h
 refine Qad (fun g => ?_) fun g => ?_
 · have g := of_decide_eq_true g
   have e := s32 x g
   refine Qad (fun g1 => ?_) fun g1 => ?_
   · have g1 := of_decide_eq_true g1
     have e1 := s16 _ g1
     refine Qad (fun g2 => ?_) fun g2 => ?_
     · have e2 := s8 _ (of_decide_eq_true g2)
       exact key _ _ (by omega) (by omega) (by omega) (by omega) (by omega)
     · have g2 := of_decide_eq_false g2
       exact key _ _ (by omega) (by omega) (by omega) (by omega) (by omega)
   · have g1 := of_decide_eq_false g1
     refine Qad (fun g2 => ?_) fun g2 => ?_
     · have e2 := s8 _ (of_decide_eq_true g2)
       exact key _ _ (by omega) (by omega) (by omega) (by omega) (by omega)
     · have g2 := of_decide_eq_false g2
       exact key _ _ (by omega) (by omega) (by omega) (by omega) (by omega)
 · have g := of_decide_eq_false g
   refine Qad (fun g1 => ?_) fun g1 => ?_
   · have g1 := of_decide_eq_true g1
     have e1 := s16 _ g1
     refine Qad (fun g2 => ?_) fun g2 => ?_
     · have e2 := s8 _ (of_decide_eq_true g2)
       exact key _ _ (by omega) (by omega) (by omega) (by omega) (by omega)
     · have g2 := of_decide_eq_false g2
       exact key _ _ (by omega) (by omega) (by omega) (by omega) (by omega)
   · have g1 := of_decide_eq_false g1
     refine Qad (fun g2 => ?_) fun g2 => ?_
     · have e2 := s8 _ (of_decide_eq_true g2)
       exact key _ _ (by omega) (by omega) (by omega) (by omega) (by omega)
     · have g2 := of_decide_eq_false g2
       exact key _ _ (by omega) (by omega) (by omega) (by omega) (by omega)
theorem Qut {x : Int} (h : U64 x) : 0 ≤ Qc8 x ∧ Qc8 x ≤ 64 := by
 obtain ⟨h0, h1⟩ := h
 by_cases hx : x = 0
 · subst hx; exact ⟨by decide, by decide⟩
 · obtain ⟨n, e, l1, _⟩ := Qnp (x := x) (by omega)
   refine ⟨by omega, ?_⟩
   rcases Nat.lt_or_ge n 64 with h | h
   · omega
   · exfalso
     have : (2 : Int) ^ 64 ≤ 2 ^ n := by exact_mod_cast Nat.pow_le_pow_right (by decide) h
     omega
theorem Zam : ∀ f g, ΓX0 f = some g → g.ok Tryz.prog f := Qab Qa0 (Qal Tryz.func223 (by kernel_rfl) (by kernel_rfl) Qpu)
theorem Q4q : Qai Tryz.prog 148 Zcq := Qao hm Zam Tryz.func148 (Λ := fun _ => Qax) fun args p x h hp => by
 unfold Zcq at h
 split at h <;> try (cases h; done)
 rename_i x
 cases h
 have hx := hp _ rfl
 refine ⟨rfl, rfl, ?_⟩
 refine Eq.mpr (Zgn x _) ?_
 have := Qut hx
 refine ⟨hx, Qbh ?_⟩
 rw [Qaf ⟨by omega, by omega⟩]
theorem Zal : ∀ f g, ΓX1 f = some g → g.ok Tryz.prog f := Qab Qa0 (Qal Tryz.func148 (by kernel_rfl) (by kernel_rfl) Q4q)
section
variable {a b u l : Int}
structure dig (a b u l : Int) : Prop where
 a0 : 2147483648 ≤ a
 a1 : a < 4294967296
 b0 : 0 ≤ b
 b1 : b < 4294967296
 l0 : 0 ≤ l
 l1 : l < 4294967296
 u0 : 0 ≤ u
 u1 : u < a * 4294967296 + b
def Qrw (a b u l : Int) : Int := (u * 4294967296 + l) / (a * 4294967296 + b)
theorem Qpj (h : dig a b u l) : 0 ≤ Qrw a b u l ∧ Qrw a b u l < 4294967296 := by
 obtain ⟨a0, a1, b0, b1, l0, l1, u0, u1⟩ := h
 exact ⟨Int.ediv_nonneg (by omega) (by omega), Int.ediv_lt_of_lt_mul (by omega) (by omega)⟩
theorem Qny (h : dig a b u l) : invQ a b u l ⟨u / a, u - u / a * a⟩ := by
 obtain ⟨a0, a1, b0, b1, l0, l1, u0, u1⟩ := h
 have e : u - u / a * a = u % a := by rw [Int.emod_def, Int.mul_comm]
 have r0 : 0 ≤ u % a := Int.emod_nonneg _ (by omega)
 have r1 : u % a < a := Int.emod_lt_of_pos _ (by omega)
 refine ⟨Int.ediv_nonneg u0 (by omega), ?_, ?_, ?_, ?_, ?_⟩
 · have : u / a < 4294967298 := Int.ediv_lt_of_lt_mul (by omega) (by omega)
   show u / a ≤ 4294967297
   omega
 · show 0 ≤ u - u / a * a
   omega
 · show u - u / a * a < 4294967296
   omega
 · show u / a * a + (u - u / a * a) = u
   omega
 · show _ ≤ u / a
   have hlt : (u * 4294967296 + l) / (a * 4294967296 + b) < u / a + 1 := by
     refine Int.ediv_lt_of_lt_mul (by omega) ?_
     generalize hq : u / a = q at *
     have q0 : 0 ≤ q := by rw [← hq]; exact Int.ediv_nonneg u0 (by omega)
     have e1 : (q + 1) * (a * 4294967296 + b) = (q * a) * 4294967296 + a * 4294967296 + (q + 1) * b := by
       rw [Int.mul_add, ← Int.mul_assoc, Int.add_mul q 1 a, Int.add_mul (q * a)]; omega
     have e2 : 0 ≤ (q + 1) * b := Int.mul_nonneg (by omega) b0
     rw [e1]
     omega
   omega
theorem Qu0 {x : QR} (h : dig a b u l) (hi : invQ a b u l x) (hq : 4294967296 ≤ x.q ∨ 4294967296 * x.r + l < x.q * b) : Qrw a b u l ≤ x.q - 1 := by
 have hd := Qpj h
 obtain ⟨a0, a1, b0, b1, l0, l1, u0, u1⟩ := h
 rcases hq with hq | hq
 · omega
 · have : Qrw a b u l < x.q := by
     refine Int.ediv_lt_of_lt_mul (by omega) ?_
     have hs := hi.sum
     have e1 : x.q * (a * 4294967296 + b) = (x.q * a) * 4294967296 + x.q * b := by rw [Int.mul_add, ← Int.mul_assoc]
     rw [e1]
     omega
   omega
theorem Zdv {x : QR} (h : dig a b u l) (hi : invQ a b u l x) (hq : x.q * b ≤ 4294967296 * x.r + l) : x.q = Qrw a b u l := by
 obtain ⟨a0, a1, b0, b1, l0, l1, u0, u1⟩ := h
 have : x.q ≤ Qrw a b u l := by
   refine Int.le_ediv_of_mul_le (by omega) ?_
   have hs := hi.sum
   have e1 : x.q * (a * 4294967296 + b) = (x.q * a) * 4294967296 + x.q * b := by rw [Int.mul_add, ← Int.mul_assoc]
   rw [e1]
   omega
 have := hi.le
 exact Int.le_antisymm (by assumption) (by assumption)
theorem Zdu {x : QR} (h : dig a b u l) (hi : invQ a b u l x) (hq : 4294967296 ≤ x.q ∨ 4294967296 * x.r + l < x.q * b) (hr : 4294967296 ≤ x.r + a) : x.q - 1 = Qrw a b u l := by
 have h1 := Qu0 h hi hq
 have hd := Qpj h
 obtain ⟨a0, a1, b0, b1, l0, l1, u0, u1⟩ := h
 have : x.q - 1 ≤ Qrw a b u l := by
   refine Int.le_ediv_of_mul_le (by omega) ?_
   have hs := hi.sum
   have hq1 := hi.q1
   have e1 : (x.q - 1) * (a * 4294967296 + b) = (x.q * a) * 4294967296 - a * 4294967296 + (x.q - 1) * b := by rw [Int.mul_add, ← Int.mul_assoc, Int.sub_mul x.q 1 a, Int.sub_mul (x.q * a)]; omega
   have e2 : (x.q - 1) * b ≤ 4294967296 * b := Int.mul_le_mul_of_nonneg_right (by omega) b0
   rw [e1]
   omega
 omega
theorem Q7d {x : QR} (h : dig a b u l) (hi : invQ a b u l x) (hq : 4294967296 ≤ x.q ∨ 4294967296 * x.r + l < x.q * b) (hr : x.r + a < 4294967296) : invQ a b u l ⟨x.q - 1, x.r + a⟩ := by
 have h1 := Qu0 h hi hq
 have hd := Qpj h
 obtain ⟨a0, a1, b0, b1, l0, l1, u0, u1⟩ := h
 obtain ⟨i1, i2, i3, i4, i5, i6⟩ := hi
 refine ⟨?_, ?_, ?_, ?_, ?_, h1⟩
 · show 0 ≤ x.q - 1
   omega
 · show x.q - 1 ≤ _
   omega
 · show 0 ≤ x.r + a
   omega
 · exact hr
 · show (x.q - 1) * a + (x.r + a) = u
   rw [Int.sub_mul]; omega
theorem Qw0 (h : dig a b u l) : IntKind.u64.wrap (Int.tdiv u a) = u / a ∧ IntKind.u64.wrap (u - IntKind.u64.wrap (IntKind.u64.wrap (Int.tdiv u a) * a)) = u - u / a * a := by
 have hs := Qny h
 have q0 : 0 ≤ u / a := hs.q0
 have q1 : u / a ≤ 4294967297 := hs.q1
 have r0 : 0 ≤ u - u / a * a := hs.r0
 obtain ⟨a0, a1, b0, b1, l0, l1, u0, u1⟩ := h
 have p0 : 0 ≤ u / a * a := Int.mul_nonneg q0 (by omega)
 rw [Int.tdiv_eq_ediv_of_nonneg u0, Qdm (n := u / a) ⟨q0, by omega⟩]
 refine ⟨rfl, ?_⟩
 rw [Qdm (n := u / a * a) ⟨p0, by omega⟩, Qdm ⟨r0, by omega⟩]
theorem Qwz {x : QR} (h : dig a b u l) (hx : invQ a b u l x) {A1 A2 A3 : Prop} (h1 : IntKind.u64.wrap (x.q - 1) = Qrw a b u l → A1) (h2 : IntKind.u64.wrap (x.q - 1) = Qrw a b u l → A2) (h3 : x.q = Qrw a b u l → A3) :
   sel (decide (x.q ≥ 4294967296)) (sel (decide (IntKind.u64.wrap (x.r + a) ≥ 4294967296)) A1
     (∃ x' : QR, (invQ a b u l x' ∧ (SV.v (Value.int .u64 (IntKind.u64.wrap (x.q - 1))) = SV.v (Value.int .u64 x'.q) ∧ SV.v (Value.int .u64 (IntKind.u64.wrap (x.r + a))) = SV.v (Value.int .u64 x'.r)) ∧ True) ∧ Int.toNat x'.q < Int.toNat x.q))
   (sel (decide (IntKind.u64.wrap (x.q * b) > IntKind.u64.wrap (IntKind.u64.wrap (4294967296 * x.r) + l))) (sel (decide (IntKind.u64.wrap (x.r + a) ≥ 4294967296)) A2
     (∃ x' : QR, (invQ a b u l x' ∧ (SV.v (Value.int .u64 (IntKind.u64.wrap (x.q - 1))) = SV.v (Value.int .u64 x'.q) ∧ SV.v (Value.int .u64 (IntKind.u64.wrap (x.r + a))) = SV.v (Value.int .u64 x'.r)) ∧ True) ∧ Int.toNat x'.q < Int.toNat x.q)) A3) := by
 have hd := Qpj h
 have hbig := Qu0 h hx
 have hout := Zdu h hx
 have hnext := Q7d h hx
 have hend := Zdv h hx
 obtain ⟨a0, a1, b0, b1, l0, l1, u0, u1⟩ := h
 have x0 := hx.q0
 have x1 := hx.q1
 have x2 := hx.r0
 have x3 := hx.r1
 have er : IntKind.u64.wrap (x.r + a) = x.r + a := Qdm ⟨by omega, by omega⟩
 have eq : Qrw a b u l ≤ x.q - 1 → IntKind.u64.wrap (x.q - 1) = x.q - 1 := fun hh => Qdm ⟨by omega, by omega⟩
 rw [er]
 refine Qad (fun g => ?_) fun g => ?_
 · have g := of_decide_eq_true g
   have e := eq (hbig (Or.inl g))
   refine Qad (fun g1 => ?_) fun g1 => ?_
   · exact h1 (e.trans (hout (Or.inl g) (of_decide_eq_true g1)))
   · have := hbig (Or.inl g)
     have g1 := of_decide_eq_false g1
     exact ⟨_, ⟨hnext (Or.inl g) (by omega), ⟨by rw [e], rfl⟩, trivial⟩, by show Int.toNat (x.q - 1) < _; omega⟩
 · have g := of_decide_eq_false g
   have p0 : 0 ≤ x.q * b := Int.mul_nonneg x0 b0
   have p1 : x.q * b ≤ 4294967295 * b := Int.mul_le_mul_of_nonneg_right (by omega) b0
   have e1 : IntKind.u64.wrap (x.q * b) = x.q * b := Qdm ⟨p0, by omega⟩
   have e2 : IntKind.u64.wrap (4294967296 * x.r) = 4294967296 * x.r := Qdm ⟨by omega, by omega⟩
   have e3 : IntKind.u64.wrap (4294967296 * x.r + l) = 4294967296 * x.r + l := Qdm ⟨by omega, by omega⟩
   rw [e1, e2, e3]
   refine Qad (fun g0 => ?_) fun g0 => ?_
   · have g0 : 4294967296 ≤ x.q ∨ 4294967296 * x.r + l < x.q * b := Or.inr (of_decide_eq_true g0)
     have e := eq (hbig g0)
     refine Qad (fun g1 => ?_) fun g1 => ?_
     · exact h2 (e.trans (hout g0 (of_decide_eq_true g1)))
     · have := hbig g0
       have g1 := of_decide_eq_false g1
       exact ⟨_, ⟨hnext g0 (by omega), ⟨by rw [e], rfl⟩, trivial⟩, by show Int.toNat (x.q - 1) < _; omega⟩
   · have g0 := of_decide_eq_false g0
     exact h3 (hend (by omega))
end
theorem Q26 {m y q r t : Int} (ht : 0 < t) (hy : 0 < y) (he : m * t = q * (y * t) + r) (h0 : 0 ≤ r) (h1 : r < y * t) : m / y = q ∧ r / t = m % y := by
 have e1 : r = (m - q * y) * t := by rw [Int.sub_mul, Int.mul_assoc]; omega
 have e2 : 0 ≤ m - q * y := by
   rcases Int.lt_or_le (m - q * y) 0 with h | h
   · have := Int.mul_neg_of_neg_of_pos h ht
     omega
   · exact h
 have e3 : m - q * y < y := by
   rw [e1] at h1
   exact Int.lt_of_mul_lt_mul_right h1 (Int.le_of_lt ht)
 have e4 : r / t = m - q * y := by rw [e1]; exact Int.mul_ediv_cancel _ (by omega)
 have e5 : m / y = q := by
   have : m = q * y + (m - q * y) := by omega
   rw [this, Int.add_comm, Int.add_mul_ediv_right _ _ (by omega), Int.ediv_eq_zero_of_lt e2 e3]; omega
 refine ⟨e5, ?_⟩
 rw [e4, Int.emod_def, e5, Int.mul_comm y q]
theorem Q83 {c d : Int} {s : Nat} (hc : 0 ≤ c) (hd : 0 ≤ d) (hd1 : d < 2 ^ s) (hc1 : c * 2 ^ s < 18446744073709551616) (hd2 : d < 18446744073709551616) : bits .or .u64 (c * 2 ^ s) d = c * 2 ^ s + d := by
 have t0 : (0 : Int) < 2 ^ s := by exact_mod_cast Nat.two_pow_pos s
 have h0 : 0 ≤ c * 2 ^ s := Int.mul_nonneg hc (by omega)
 rw [u64_or (c * 2 ^ s) d h0 hc1 hd hd2]
 obtain ⟨n, rfl⟩ := Int.eq_ofNat_of_zero_le hc
 obtain ⟨m, rfl⟩ := Int.eq_ofNat_of_zero_le hd
 have e : ((n : Int) * 2 ^ s) = ((2 ^ s * n : Nat) : Int) := by rw [Int.natCast_mul, Int.natCast_pow, Int.mul_comm]; rfl
 rw [e, Int.toNat_natCast, Int.toNat_natCast]
 have hm : m < 2 ^ s := by exact_mod_cast hd1
 rw [← Nat.two_pow_add_eq_or_of_lt hm]
 rfl
theorem Qzb : Qai Tryz.prog 67 Q1o := Qao hm Zal Tryz.func67 (Λ := fun args => match args with
   | [.v (.int .u64 hi), .v (.int .u64 lo), .v (.int .u64 y)] =>
     let t : Int := 2 ^ (64 - Qc8 y).toNat
     let w := MM lo hi * t
     let u := w / 18446744073709551616
     let l := w % 18446744073709551616
     Ze9 (y * t / 4294967296) (y * t % 4294967296) u (l / 4294967296) ((u * 4294967296 + l / 4294967296) % (y * t)) (l % 4294967296)
   | _ => Qax) fun args p x h hp => by
 unfold Q1o at h
 split at h <;> try (cases h; done)
 rename_i hi lo y
 cases h
 obtain ⟨h1, h2, h3, h4⟩ := hp _ rfl
 refine ⟨rfl, rfl, ?_⟩
 refine Eq.mpr (Zbv hi lo y _ _ _ _ _ _ _) ?_
 repeat (first | unfold Qmx | unfold Qc2 | unfold Qar | unfold Qb1)
 refine ?_
 have y0 : 0 < y := by obtain ⟨_, _⟩ := h1; omega
 refine Qad (fun g => ?_) fun g => ?_
 · exfalso; simp at g; omega
 refine Qad (fun g' => ?_) fun _ => ?_
 · exfalso; simp at g'; omega
 refine Qad (fun g => ?_) fun g => ?_
 · have g : hi = 0 := by simpa using g
   subst g
   refine ⟨by omega, by omega, ?_⟩
   have q0 : 0 ≤ lo / y := Int.ediv_nonneg h2.1 h3.1
   have q1 : lo / y ≤ lo := Int.ediv_le_self _ h2.1
   have e : MM lo 0 = lo := by unfold MM; omega
   rw [e, Int.tdiv_eq_ediv_of_nonneg h2.1, Int.tmod_eq_emod_of_nonneg h2.1, Qdm ⟨q0, by have := h2.2; omega⟩]
 · clear g
   obtain ⟨n, el, l1, l2⟩ := Qnp y0
   have n64 : n ≤ 63 := by have := Qut h3; omega
   obtain ⟨s, hs⟩ : ∃ s : Nat, n + s = 63 := ⟨63 - n, by omega⟩
   have es : (64 - Qc8 y) = (s : Int) := by omega
   have ew : IntKind.u64.wrap (s : Int) = s := Qdm ⟨by omega, by omega⟩
   have ew2 : IntKind.u64.wrap (64 - s : Int) = 64 - s := Qdm ⟨by omega, by omega⟩
   have et : min (Int.toNat (s : Int)) 64 = s := by simp; omega
   have et2 : min (Int.toNat (64 - s : Int)) 64 = 64 - s := by omega
   have et3 : Int.toNat (s : Int) = s := by simp
   rw [es]
   have et : min s 64 = s := by omega
   simp only [ew, ew2, et, et2, et3]
   have t0 : (0 : Int) < 2 ^ s := by exact_mod_cast Nat.two_pow_pos s
   have T0 : (0 : Int) < 2 ^ (64 - s) := by exact_mod_cast Nat.two_pow_pos (64 - s)
   have tT : (2 : Int) ^ (64 - s) * 2 ^ s = 18446744073709551616 := by rw [← Int.pow_add, show 64 - s + s = 64 by omega]; rfl
   have nt : (2 : Int) ^ n * 2 ^ s = 9223372036854775808 := by rw [← Int.pow_add, hs]; rfl
   have v0 : 9223372036854775808 ≤ y * 2 ^ s := by rw [← nt]; exact Int.mul_le_mul_of_nonneg_right l1 (by omega)
   have v1 : y * 2 ^ s < 18446744073709551616 := by
     have : y * 2 ^ s < 2 ^ (n + 1) * 2 ^ s := Int.mul_lt_mul_of_pos_right l2 t0
     have e : (2 : Int) ^ (n + 1) * 2 ^ s = 2 * (2 ^ n * 2 ^ s) := by rw [Int.pow_succ, Int.mul_comm (2 ^ n) 2, Int.mul_assoc]
     rw [e, nt] at this
     omega
   have hv : hi * 2 ^ s < y * 2 ^ s := Int.mul_lt_mul_of_pos_right h4 t0
   have h0 : 0 ≤ hi * 2 ^ s := Int.mul_nonneg h1.1 (by omega)
   have d0 : 0 ≤ lo / 2 ^ (64 - s) := Int.ediv_nonneg h2.1 (by omega)
   have d1 : lo / 2 ^ (64 - s) < 2 ^ s := Int.ediv_lt_of_lt_mul T0 (by rw [Int.mul_comm, tT]; exact h2.2)
   have eu : bits .or .u64 (IntKind.u64.wrap (hi * 2 ^ s)) (lo / 2 ^ (64 - s)) = MM lo hi * 2 ^ s / 18446744073709551616 := by
     rw [Qdm ⟨h0, by omega⟩, Q83 h1.1 d0 d1 (by omega) (by have : lo / 2 ^ (64 - s) ≤ lo := Int.ediv_le_self _ h2.1; have := h2.2; omega)]
     have e1 : MM lo hi * 2 ^ s = lo * 2 ^ s + (hi * 2 ^ s) * 18446744073709551616 := by
       unfold MM
       rw [Int.add_mul, Int.mul_assoc, Int.mul_comm 18446744073709551616, ← Int.mul_assoc]; omega
     rw [e1, Int.add_mul_ediv_right _ _ (by decide)]
     have e2 : lo * 2 ^ s / 18446744073709551616 = lo / 2 ^ (64 - s) := by rw [← tT, Int.mul_ediv_mul_of_pos_left _ _ t0]
     omega
   have elo : IntKind.u64.wrap (lo * 2 ^ s) = MM lo hi * 2 ^ s % 18446744073709551616 := by
     have e1 : MM lo hi * 2 ^ s = lo * 2 ^ s + (hi * 2 ^ s) * 18446744073709551616 := by
       unfold MM
       rw [Int.add_mul, Int.mul_assoc, Int.mul_comm 18446744073709551616, ← Int.mul_assoc]; omega
     rw [e1, Int.add_mul_emod_self_right, Qbx]
   have ev : IntKind.u64.wrap (y * 2 ^ s) = y * 2 ^ s := Qdm ⟨by omega, v1⟩
   rw [eu, elo, ev]
   have w0 : 0 ≤ MM lo hi * 2 ^ s := Int.mul_nonneg (Qkl h2 h1) (by omega)
   have wv : MM lo hi * 2 ^ s < y * 2 ^ s * 18446744073709551616 := by
     have e : y * 2 ^ s * 18446744073709551616 = (y * 18446744073709551616) * 2 ^ s := by rw [Int.mul_right_comm]
     rw [e]
     refine Int.mul_lt_mul_of_pos_right ?_ t0
     unfold MM; have := h2.2; omega
   have hfin : ∀ q r, MM lo hi * 2 ^ s = q * (y * 2 ^ s) + r → 0 ≤ r → r < y * 2 ^ s → MM lo hi / y = q ∧ r / 2 ^ s = MM lo hi % y := fun q r e r0 r1 => Q26 t0 y0 e r0 r1
   generalize y * 2 ^ s = v at *
   generalize MM lo hi * 2 ^ s = w at *
   have ul : U64 (w % 18446744073709551616) := Qb7 w
   rw [Qeq ⟨by omega, v1⟩, Qeq ul]
   have hw : w = w / 18446744073709551616 * 18446744073709551616 + w % 18446744073709551616 := by omega
   generalize hu : w / 18446744073709551616 = u at *
   generalize hl : w % 18446744073709551616 = l at *
   have uv : u < v := by omega
   have u0 : 0 ≤ u := by omega
   have hd1 : dig (v / 4294967296) (v % 4294967296) u (l / 4294967296) := ⟨by omega, by omega, by omega, by omega, by omega, by obtain ⟨_, _⟩ := ul; omega, by omega, by omega⟩
   have hva : v / 4294967296 * 4294967296 + v % 4294967296 = v := by omega
   have hst1 := Qny hd1
   have hdl1 := Qpj hd1
   have hQ1 : Qrw (v / 4294967296) (v % 4294967296) u (l / 4294967296) = (u * 4294967296 + l / 4294967296) / v := by unfold Qrw; rw [hva]
   have hm0 : 0 ≤ (u * 4294967296 + l / 4294967296) % v := Int.emod_nonneg _ (by omega)
   have hm1 : (u * 4294967296 + l / 4294967296) % v < v := Int.emod_lt_of_pos _ (by omega)
   have hm2 : (u * 4294967296 + l / 4294967296) % v = (u * 4294967296 + l / 4294967296) - (u * 4294967296 + l / 4294967296) / v * v := by rw [Int.emod_def, Int.mul_comm v]
   generalize hu' : (u * 4294967296 + l / 4294967296) % v = u' at *
   have hd2 : dig (v / 4294967296) (v % 4294967296) u' (l % 4294967296) := ⟨by omega, by omega, by omega, by omega, by omega, by omega, by omega, by omega⟩
   have hst2 := Qny hd2
   have hdl2 := Qpj hd2
   have hQ2 : Qrw (v / 4294967296) (v % 4294967296) u' (l % 4294967296) = (u' * 4294967296 + l % 4294967296) / v := by unfold Qrw; rw [hva]
   have ei1 := Qw0 hd1
   have ei2 := Qw0 hd2
   refine ⟨h3, by omega, by omega, by omega, by omega, by omega, ⟨_, hst1, ⟨Qbh ei1.1, Qbh ei1.2⟩, trivial⟩, fun x hx => ?_⟩
   have eu' : ∀ q, q = Qrw (v / 4294967296) (v % 4294967296) u (l / 4294967296) → IntKind.u64.wrap (IntKind.u64.wrap (IntKind.u64.wrap (u * 4294967296) + l / 4294967296) - IntKind.u64.wrap (q * v)) = u' := by
     intro q hq
     rw [hq, hQ1, hm2, Qbx, Qbx, Qbx, Qbx]
     rw [hm2] at hm0 hm1
     generalize (u * 4294967296 + l / 4294967296) / v * v = P at *
     omega
   have hr0 : 0 ≤ (u' * 4294967296 + l % 4294967296) % v := Int.emod_nonneg _ (by omega)
   have hr1 : (u' * 4294967296 + l % 4294967296) % v < v := Int.emod_lt_of_pos _ (by omega)
   have hr2 : (u' * 4294967296 + l % 4294967296) % v = (u' * 4294967296 + l % 4294967296) - (u' * 4294967296 + l % 4294967296) / v * v := by rw [Int.emod_def, Int.mul_comm v]
   have er' : ∀ q, q = Qrw (v / 4294967296) (v % 4294967296) u' (l % 4294967296) → IntKind.u64.wrap (IntKind.u64.wrap (IntKind.u64.wrap (u' * 4294967296) + l % 4294967296) - IntKind.u64.wrap (q * v)) = (u' * 4294967296 + l % 4294967296) % v := by
     intro q hq
     rw [hq, hQ2, hr2, Qbx, Qbx, Qbx, Qbx]
     rw [hr2] at hr0 hr1
     generalize (u' * 4294967296 + l % 4294967296) / v * v = P at *
     omega
   rw [hQ1] at hdl1
   rw [hQ2] at hdl2
   have hf := hfin ((u * 4294967296 + l / 4294967296) / v * 4294967296 + (u' * 4294967296 + l % 4294967296) / v) ((u' * 4294967296 + l % 4294967296) % v) (by
     rw [Int.add_mul, Int.mul_right_comm, hr2, hw]
     generalize (u' * 4294967296 + l % 4294967296) / v * v = P at *
     generalize (u * 4294967296 + l / 4294967296) / v * v = P' at *
     omega) hr0 hr1
   refine Qwz hd1 hx (fun e => ?_) (fun e => ?_) (fun e => ?_)
   all_goals
     rw [eu' _ e]
     refine ⟨by omega, ⟨_, hst2, ⟨Qbh ei2.1, Qbh ei2.2⟩, trivial⟩, fun x' hx' => ?_⟩
     refine Qwz hd2 hx' (fun e' => ?_) (fun e' => ?_) (fun e' => ?_)
     all_goals
       rw [er' _ e', e, e', hQ1, hQ2]
       refine ⟨by omega, ?_⟩
       rw [Qdm (n := (u * 4294967296 + l / 4294967296) / v * 4294967296) ⟨by omega, by omega⟩, Qdm ⟨by omega, by omega⟩, hf.1, hf.2]
def Q89 (a b : Int) : Int := Int.tdiv (a * 4294967296) b
def Qdd (a b : Int) : Int := if b = 0 then Qni a else Qas (Q89 a b)
def Qjf (a b : Int) : Bool := if b = 0 then true else Qc9 (Q89 a b) false
def Qoz : List SV → Option (Option Prop × SV)
 | [.v (.int .i64 a), .v (.int .i64 b)] => some (some (I64 a ∧ I64 b), Qcy (Qdd a b) (Qjf a b))
 | _ => none
def Zch : List SV → Option (Option Prop × SV)
 | [.agg [.v (.bool n), .v (.int .u64 hi), .v (.int .u64 lo)], .v (.int .u64 d)] => some (some (U64 lo ∧ U64 hi ∧ 0 < d ∧ d ≤ 9223372036854775808), wiM n (MM lo hi / d))
 | _ => none
def Zeu : List SV → Option (Option Prop × SV)
 | [.agg [.v (.int .i64 v), .v (.bool f)], .agg [.v (.int .i64 u), .v (.bool g)]] => some (some (I64 v ∧ I64 u), Qcy (Qdd (Qaa v) (Qaa u)) (Qjf (Qaa v) (Qaa u) || (Qat v f || Qat u g)))
 | _ => none
def ovQ (m d : Int) (k : Nat) : Int := m / 2 ^ k / d
def ovR (m d : Int) (k : Nat) : Int := m / 2 ^ k % d
noncomputable def Q8s (n : Bool) (m d : Int) : Nat → Option LoopSpec := Qcp Qax Tryz.f299 0 Nat (fun k => k ≤ 128) (fun k => k) [(6, fun k => .v (.int .u64 (ovR m d k))), (7, fun k => .v (.int .i64 ((k : Int) - 1)))]
 [(104, fun k => Qdz 372 [.v (.bool n), .v (.int .u64 (ovQ m d k / 18446744073709551616)), .v (.int .u64 (ovQ m d k % 18446744073709551616))])]
def Zj4 : Qb8 := Qah ΓC 67 (Qaj Q1o)
def ΓY1 : Qb8 := Qah ΓC 299 (Qaj Zch)
theorem Zge (n : Bool) (hi lo d : Int) (m d' : Int) (R : SV→Prop) : (Qav Tryz.prog Qbr (Q8s n m d') Tryz.f299 [wiS n hi lo,.v (.int .u64 d)] R) =
((∃ x : Nat,((Nat.le x 128)∧((((SV.v (.int .u64 0)) = (SV.v (.int .u64 (ovR m d' x))))∧((SV.v (.int .i64 127)) = (SV.v (.int .i64 ((↑x : Int) - 1)))))∧(((1 : Nat) = 1)∧(((1 : Nat) ≤ 1)∧(∀ i : Nat,(((i : Nat) < 1)→([(SV.v (.bool n)),(SV.v (.int .u64 0)),(SV.v (.int .u64 0))] = [(SV.v (.bool n)),(SV.v (.int .u64 (ovQ m d' x / 18446744073709551616))),(SV.v (.int .u64 (ovQ m d' x % 18446744073709551616)))]))))))))∧(∀ x : Nat,((Nat.le x 128)→(sel (decide ((↑x : Int) - 1 ≥ 0)) (((0 : Int) ≤ (IntKind.wrap IntKind.u64 ((↑x : Int) - 1)))∧(sel (decide ((↑x : Int) - 1 ≥ 64)) (((0 : Int) ≤ (IntKind.wrap IntKind.u64 (IntKind.wrap IntKind.i64 ((↑x : Int) - 1 - 64))))∧(sel (decide (bits BinOp.or IntKind.u64 (IntKind.wrap IntKind.u64 (ovR m d' x * 2)) (bits BinOp.and IntKind.u64 (hi / 2 ^ min (Int.toNat (IntKind.wrap IntKind.u64 (IntKind.wrap IntKind.i64 ((↑x : Int) - 1 - 64)))) 64) 1) ≥ d)) (∃ x' : Nat,(((Nat.le x' 128)∧((((SV.v (.int .u64 (IntKind.wrap IntKind.u64 (bits BinOp.or IntKind.u64 (IntKind.wrap IntKind.u64 (ovR m d' x * 2)) (bits BinOp.and IntKind.u64 (hi / 2 ^ min (Int.toNat (IntKind.wrap IntKind.u64 (IntKind.wrap IntKind.i64 ((↑x : Int) - 1 - 64)))) 64) 1) - d)))) = (SV.v (.int .u64 (ovR m d' x'))))∧((SV.v (.int .i64 (IntKind.wrap IntKind.i64 ((↑x : Int) - 1 - 1)))) = (SV.v (.int .i64 ((↑x' : Int) - 1)))))∧(((1 : Nat) = 1)∧(((1 : Nat) ≤ 1)∧(∀ i : Nat,(((i : Nat) < 1)→([(SV.v (.bool n)),(SV.v (.int .u64 (bits BinOp.or IntKind.u64 (IntKind.wrap IntKind.u64 (ovQ m d' x / 18446744073709551616 * 2)) (ovQ m d' x % 18446744073709551616 / 9223372036854775808)))),(SV.v (.int .u64 (bits BinOp.or IntKind.u64 (IntKind.wrap IntKind.u64 (ovQ m d' x % 18446744073709551616 * 2)) 1)))] = [(SV.v (.bool n)),(SV.v (.int .u64 (ovQ m d' x' / 18446744073709551616))),(SV.v (.int .u64 (ovQ m d' x' % 18446744073709551616)))])))))))∧((x' : Nat) < x))) (∃ x' : Nat,(((Nat.le x' 128)∧((((SV.v (.int .u64 (bits BinOp.or IntKind.u64 (IntKind.wrap IntKind.u64 (ovR m d' x * 2)) (bits BinOp.and IntKind.u64 (hi / 2 ^ min (Int.toNat (IntKind.wrap IntKind.u64 (IntKind.wrap IntKind.i64 ((↑x : Int) - 1 - 64)))) 64) 1)))) = (SV.v (.int .u64 (ovR m d' x'))))∧((SV.v (.int .i64 (IntKind.wrap IntKind.i64 ((↑x : Int) - 1 - 1)))) = (SV.v (.int .i64 ((↑x' : Int) - 1)))))∧(((1 : Nat) = 1)∧(((1 : Nat) ≤ 1)∧(∀ i : Nat,(((i : Nat) < 1)→([(SV.v (.bool n)),(SV.v (.int .u64 (bits BinOp.or IntKind.u64 (IntKind.wrap IntKind.u64 (ovQ m d' x / 18446744073709551616 * 2)) (ovQ m d' x % 18446744073709551616 / 9223372036854775808)))),(SV.v (.int .u64 (IntKind.wrap IntKind.u64 (ovQ m d' x % 18446744073709551616 * 2))))] = [(SV.v (.bool n)),(SV.v (.int .u64 (ovQ m d' x' / 18446744073709551616))),(SV.v (.int .u64 (ovQ m d' x' % 18446744073709551616)))])))))))∧((x' : Nat) < x))))) (sel (decide (bits BinOp.or IntKind.u64 (IntKind.wrap IntKind.u64 (ovR m d' x * 2)) (bits BinOp.and IntKind.u64 (lo / 2 ^ min (Int.toNat (IntKind.wrap IntKind.u64 ((↑x : Int) - 1))) 64) 1) ≥ d)) (∃ x' : Nat,(((Nat.le x' 128)∧((((SV.v (.int .u64 (IntKind.wrap IntKind.u64 (bits BinOp.or IntKind.u64 (IntKind.wrap IntKind.u64 (ovR m d' x * 2)) (bits BinOp.and IntKind.u64 (lo / 2 ^ min (Int.toNat (IntKind.wrap IntKind.u64 ((↑x : Int) - 1))) 64) 1) - d)))) = (SV.v (.int .u64 (ovR m d' x'))))∧((SV.v (.int .i64 (IntKind.wrap IntKind.i64 ((↑x : Int) - 1 - 1)))) = (SV.v (.int .i64 ((↑x' : Int) - 1)))))∧(((1 : Nat) = 1)∧(((1 : Nat) ≤ 1)∧(∀ i : Nat,(((i : Nat) < 1)→([(SV.v (.bool n)),(SV.v (.int .u64 (bits BinOp.or IntKind.u64 (IntKind.wrap IntKind.u64 (ovQ m d' x / 18446744073709551616 * 2)) (ovQ m d' x % 18446744073709551616 / 9223372036854775808)))),(SV.v (.int .u64 (bits BinOp.or IntKind.u64 (IntKind.wrap IntKind.u64 (ovQ m d' x % 18446744073709551616 * 2)) 1)))] = [(SV.v (.bool n)),(SV.v (.int .u64 (ovQ m d' x' / 18446744073709551616))),(SV.v (.int .u64 (ovQ m d' x' % 18446744073709551616)))])))))))∧((x' : Nat) < x))) (∃ x' : Nat,(((Nat.le x' 128)∧((((SV.v (.int .u64 (bits BinOp.or IntKind.u64 (IntKind.wrap IntKind.u64 (ovR m d' x * 2)) (bits BinOp.and IntKind.u64 (lo / 2 ^ min (Int.toNat (IntKind.wrap IntKind.u64 ((↑x : Int) - 1))) 64) 1)))) = (SV.v (.int .u64 (ovR m d' x'))))∧((SV.v (.int .i64 (IntKind.wrap IntKind.i64 ((↑x : Int) - 1 - 1)))) = (SV.v (.int .i64 ((↑x' : Int) - 1)))))∧(((1 : Nat) = 1)∧(((1 : Nat) ≤ 1)∧(∀ i : Nat,(((i : Nat) < 1)→([(SV.v (.bool n)),(SV.v (.int .u64 (bits BinOp.or IntKind.u64 (IntKind.wrap IntKind.u64 (ovQ m d' x / 18446744073709551616 * 2)) (ovQ m d' x % 18446744073709551616 / 9223372036854775808)))),(SV.v (.int .u64 (IntKind.wrap IntKind.u64 (ovQ m d' x % 18446744073709551616 * 2))))] = [(SV.v (.bool n)),(SV.v (.int .u64 (ovQ m d' x' / 18446744073709551616))),(SV.v (.int .u64 (ovQ m d' x' % 18446744073709551616)))])))))))∧((x' : Nat) < x)))))) (R (SV.agg [(SV.v (.bool n)),(SV.v (.int .u64 (ovQ m d' x / 18446744073709551616))),(SV.v (.int .u64 (ovQ m d' x % 18446744073709551616)))])))))) := by kernel_rfl
theorem Zbc (a b : Int) (R : SV→Prop) : (Qav Tryz.prog Zj4 Qax Tryz.f9 [.v (.int .i64 a),.v (.int .i64 b)] R) =
(sel (b == 0) (R (SV.agg [(SV.v (.int .i64 (IntKind.wrap IntKind.i64 (Qeo a 0 * 9223372036854775807)))),(SV.v (.bool true))])) ((I64 a)∧(((U64 (Qag a))∧((U64 0)∧(((MM (Qag a) 0) : Int) < 79228162514264337593543950336)))∧((I64 b)∧((((Qag b) : Int) ≠ 0)∧((((Qag b) : Int) ≠ 0)∧(((U64 (Int.tmod (MM (Qag a) 0 * 4294967296 / 18446744073709551616) (Qag b)))∧((U64 (MM (Qag a) 0 * 4294967296 % 18446744073709551616))∧((U64 (Qag b))∧(((Int.tmod (MM (Qag a) 0 * 4294967296 / 18446744073709551616) (Qag b)) : Int) < (Qag b)))))∧(((U64 (MM (MM (Qag a) 0 * 4294967296 % 18446744073709551616) (Int.tmod (MM (Qag a) 0 * 4294967296 / 18446744073709551616) (Qag b)) / Qag b))∧(U64 (IntKind.wrap IntKind.u64 (Int.tdiv (MM (Qag a) 0 * 4294967296 / 18446744073709551616) (Qag b)))))∧(R (SV.agg [(SV.v (.int .i64 (Ql3 (!decide (a < 0) == decide (b < 0)) (MM (MM (MM (Qag a) 0 * 4294967296 % 18446744073709551616) (Int.tmod (MM (Qag a) 0 * 4294967296 / 18446744073709551616) (Qag b)) / Qag b) (IntKind.wrap IntKind.u64 (Int.tdiv (MM (Qag a) 0 * 4294967296 / 18446744073709551616) (Qag b))))))),(SV.v (.bool (Qkn (MM (MM (MM (Qag a) 0 * 4294967296 % 18446744073709551616) (Int.tmod (MM (Qag a) 0 * 4294967296 / 18446744073709551616) (Qag b)) / Qag b) (IntKind.wrap IntKind.u64 (Int.tdiv (MM (Qag a) 0 * 4294967296 / 18446744073709551616) (Qag b)))) false)))])))))))))) := by kernel_rfl
theorem Q5r (a b : Int) (R : SV→Prop) : (Qav Tryz.prog ΓY1 Qax Tryz.f220 [.v (.int .i64 a),.v (.int .i64 b)] R) = (sel (b == 0) (R (SV.agg [(SV.v (.int .i64 (Qni a))),(SV.v (.bool true))])) ((I64 a)∧(((U64 (Qag a))∧((U64 0)∧(((MM (Qag a) 0) : Int) < 79228162514264337593543950336)))∧((I64 b)∧(((U64 (MM (Qag a) 0 * 4294967296 % 18446744073709551616))∧((U64 (MM (Qag a) 0 * 4294967296 / 18446744073709551616))∧(((0 : Int) < (Qag b))∧(((Qag b) : Int) ≤ 9223372036854775808))))∧(((U64 (MM (MM (Qag a) 0 * 4294967296 % 18446744073709551616) (MM (Qag a) 0 * 4294967296 / 18446744073709551616) / Qag b % 18446744073709551616))∧(U64 (MM (MM (Qag a) 0 * 4294967296 % 18446744073709551616) (MM (Qag a) 0 * 4294967296 / 18446744073709551616) / Qag b / 18446744073709551616)))∧(R (SV.agg [(SV.v (.int .i64 (Ql3 (!decide (a < 0) == decide (b < 0)) (MM (MM (MM (Qag a) 0 * 4294967296 % 18446744073709551616) (MM (Qag a) 0 * 4294967296 / 18446744073709551616) / Qag b % 18446744073709551616) (MM (MM (Qag a) 0 * 4294967296 % 18446744073709551616) (MM (Qag a) 0 * 4294967296 / 18446744073709551616) / Qag b / 18446744073709551616))))),(SV.v (.bool (Qkn (MM (MM (MM (Qag a) 0 * 4294967296 % 18446744073709551616) (MM (Qag a) 0 * 4294967296 / 18446744073709551616) / Qag b % 18446744073709551616) (MM (MM (Qag a) 0 * 4294967296 % 18446744073709551616) (MM (Qag a) 0 * 4294967296 / 18446744073709551616) / Qag b / 18446744073709551616)) false)))])))))))):=by kernel_rfl
def Zfb : Qb8 := Qah (Qah (Qah ΓC 9 (Qaj Qoz)) 220 (Qaj Qoz)) 78 (Qc7 Qv6)
theorem Zlb (v : Int) (f : Bool) (u : Int) (g : Bool) (R : SV→Prop) : (Qav Tryz.prog Zfb Qax Tryz.f156 [Qcy v f,Qcy u g] R) = (((I64 (Qaa v))∧(I64 (Qaa u)))∧(sel (Qjf (Qaa v) (Qaa u)) (R (SV.agg [(SV.v (.int .i64 (Qdd (Qaa v) (Qaa u)))),(SV.v (.bool true))])) ((((isN [SV.v (.int .i64 (Qaa v)),SV.v (.bool (Qat v f))])∧((isN [SV.v (.int .i64 (Qaa u)),SV.v (.bool (Qat u g))])∧True))∧(((2 : Nat) = 2)∧((2 : Nat) < 4611686018427387904)))∧(R (SV.agg [(SV.v (.int .i64 (Qdd (Qaa v) (Qaa u)))),(SV.v (.bool (Qry [[SV.v (.int .i64 (Qaa v)),SV.v (.bool (Qat v f))],[SV.v (.int .i64 (Qaa u)),SV.v (.bool (Qat u g))]])))]))))):=by kernel_rfl
theorem Zf7 (v : Int) (f : Bool) (u : Int) (g : Bool) (R : SV→Prop) : (Qav Tryz.prog Zfb Qax Tryz.f219 [Qcy v f,Qcy u g] R) = (sel (Qaa u == 0) (R (SV.agg [(SV.v (.int .i64 (Qni (Qaa v)))),(SV.v (.bool true))])) (((I64 (Qaa v))∧(I64 (Qaa u)))∧(sel (Qjf (Qaa v) (Qaa u)) (R (SV.agg [(SV.v (.int .i64 (Qdd (Qaa v) (Qaa u)))),(SV.v (.bool true))])) (sel (Qat v f) (R (SV.agg [(SV.v (.int .i64 (Qdd (Qaa v) (Qaa u)))),(SV.v (.bool true))])) (R (SV.agg [(SV.v (.int .i64 (Qdd (Qaa v) (Qaa u)))),(SV.v (.bool (Qat u g)))])))))):=by kernel_rfl
theorem Zky (v : Int) (f : Bool) (u : Int) (g : Bool) (R : SV→Prop) : (Qav Tryz.prog Zfb Qax Tryz.f16 [Qcy v f,Qcy u g] R) = (((I64 (Qaa v))∧(I64 (Qaa u)))∧(((U64 (Qag (Qaa v) * Qag (Qaa u) % 18446744073709551616))∧(U64 (Qag (Qaa v) * Qag (Qaa u) / 18446744073709551616)))∧((((isN [SV.v (.int .i64 (Qaa v)),SV.v (.bool (Qat v f))])∧((isN [SV.v (.int .i64 (Qaa u)),SV.v (.bool (Qat u g))])∧True))∧(((2 : Nat) = 2)∧((2 : Nat) < 4611686018427387904)))∧(((U64 (MM (Qag (Qaa v) * Qag (Qaa u) % 18446744073709551616) (Qag (Qaa v) * Qag (Qaa u) / 18446744073709551616) / 4294967296 % 18446744073709551616))∧(U64 (MM (Qag (Qaa v) * Qag (Qaa u) % 18446744073709551616) (Qag (Qaa v) * Qag (Qaa u) / 18446744073709551616) / 4294967296 / 18446744073709551616)))∧(R (SV.agg [(SV.v (.int .i64 (Ql3 (!decide (Qaa v < 0) == decide (Qaa u < 0)) (MM (MM (Qag (Qaa v) * Qag (Qaa u) % 18446744073709551616) (Qag (Qaa v) * Qag (Qaa u) / 18446744073709551616) / 4294967296 % 18446744073709551616) (MM (Qag (Qaa v) * Qag (Qaa u) % 18446744073709551616) (Qag (Qaa v) * Qag (Qaa u) / 18446744073709551616) / 4294967296 / 18446744073709551616))))),(SV.v (.bool (Qkn (MM (MM (Qag (Qaa v) * Qag (Qaa u) % 18446744073709551616) (Qag (Qaa v) * Qag (Qaa u) / 18446744073709551616) / 4294967296 % 18446744073709551616) (MM (Qag (Qaa v) * Qag (Qaa u) % 18446744073709551616) (Qag (Qaa v) * Qag (Qaa u) / 18446744073709551616) / 4294967296 / 18446744073709551616)) (Qry [[SV.v (.int .i64 (Qaa v)),SV.v (.bool (Qat v f))],[SV.v (.int .i64 (Qaa u)),SV.v (.bool (Qat u g))]]))))])))))):=by kernel_rfl
theorem Zlh (v : Int) (f : Bool) (R : SV→Prop) : (Qav Tryz.prog Zfb Qax Tryz.f98 [Qcy v f] R) = (R (SV.agg [(SV.v (.int .i64 (max (Qaa v) (IntKind.wrap IntKind.i64 (0 - Qaa v))))),(SV.v (.bool (Qat v f)))])):=by kernel_rfl
theorem Q3o {x : Int} (h : U64 x) : bits .and .u64 x 1 = x % 2 := by
 obtain ⟨h1, h2⟩ := h
 rw [u64_and x 1 h1 h2 (by decide) (by decide)]
 have : x.toNat &&& (1 : Int).toNat = x.toNat % 2 := Nat.and_two_pow_sub_one_eq_mod x.toNat 1
 rw [this]; omega
theorem Q19 {c b : Int} (hc : 0 ≤ c) (hc1 : c < 9223372036854775808) (h0 : 0 ≤ b) (h1 : b ≤ 1) : bits .or .u64 (IntKind.u64.wrap (c * 2)) b = 2 * c + b := by
 have h := Q83 (c := c) (d := b) (s := 1) hc h0 (by omega) (by omega) (by omega)
 rw [Qdm ⟨by omega, by omega⟩]
 have e : c * 2 ^ 1 = c * 2 := by omega
 rw [e] at h
 omega
theorem Zc8 {c b : Int} (h0 : 0 ≤ b) (h1 : b ≤ 1) : bits .or .u64 (IntKind.u64.wrap (c * 2)) b = (2 * c) % 18446744073709551616 + b := by
 rw [Qbx]
 have e : c * 2 % 18446744073709551616 = (c % 9223372036854775808) * 2 := by omega
 have h := Q19 (c := c % 9223372036854775808) (b := b) (by omega) (by omega) h0 h1
 rw [Qdm ⟨by omega, by omega⟩] at h
 rw [e, h]
 omega
theorem Qj2 (k : Nat) : (0 : Int) < 2 ^ k := by exact_mod_cast Nat.two_pow_pos k
theorem Q2y (m : Int) (k : Nat) : m / 2 ^ k = 2 * (m / 2 ^ (k + 1)) + m / 2 ^ k % 2 := by
 have e : m / 2 ^ (k + 1) = m / 2 ^ k / 2 := by rw [Int.pow_succ, Int.ediv_ediv_of_nonneg (Int.le_of_lt (Qj2 k))]
 rw [e]; omega
theorem Q9t {x d q r : Int} (hd : 0 < d) (h : x = d * q + r) (h0 : 0 ≤ r) (h1 : r < d) : x / d = q ∧ x % d = r := by
 subst h
 rw [Int.add_comm, Int.add_mul_ediv_left _ _ (by omega), Int.add_mul_emod_self_left, Int.ediv_eq_zero_of_lt h0 h1, Int.emod_eq_of_lt h0 h1]
 exact ⟨by omega, rfl⟩
theorem ov_r {m d : Int} (k : Nat) (hd : 0 < d) : 0 ≤ ovR m d k ∧ ovR m d k < d := ⟨Int.emod_nonneg _ (by omega), Int.emod_lt_of_pos _ hd⟩
theorem Zc6 {m d : Int} (k : Nat) (hd : 0 < d) : (d ≤ 2 * ovR m d (k + 1) + m / 2 ^ k % 2 → ovQ m d k = 2 * ovQ m d (k + 1) + 1 ∧ ovR m d k = 2 * ovR m d (k + 1) + m / 2 ^ k % 2 - d) ∧
   (2 * ovR m d (k + 1) + m / 2 ^ k % 2 < d → ovQ m d k = 2 * ovQ m d (k + 1) ∧ ovR m d k = 2 * ovR m d (k + 1) + m / 2 ^ k % 2) := by
 have h := Q2y m k
 have b0 : 0 ≤ m / 2 ^ k % 2 ∧ m / 2 ^ k % 2 ≤ 1 := by omega
 unfold ovQ ovR
 generalize m / 2 ^ k % 2 = b at *
 rw [h]
 generalize m / 2 ^ (k + 1) = P at *
 have h1 := Int.mul_ediv_add_emod P d
 have r0 : 0 ≤ P % d := Int.emod_nonneg _ (by omega)
 have r1 : P % d < d := Int.emod_lt_of_pos _ hd
 generalize P / d = q at *
 generalize P % d = r at *
 have e : d * (2 * q) = 2 * (d * q) := by rw [← Int.mul_assoc, Int.mul_comm d 2, Int.mul_assoc]
 constructor
 · intro g
   exact Q9t hd (by rw [Int.mul_add, e]; omega) (by omega) (by omega)
 · intro g
   exact Q9t hd (by rw [e]; omega) (by omega) (by omega)
theorem ov_q {m d : Int} (k : Nat) (hk : 1 ≤ k) (hm : 0 ≤ m) (hm1 : m < 340282366920938463463374607431768211456) (hd : 0 < d) : 0 ≤ ovQ m d k ∧ ovQ m d k < 170141183460469231731687303715884105728 := by
 have h1 : 0 ≤ m / 2 ^ k := Int.ediv_nonneg hm (Int.le_of_lt (Qj2 k))
 have h2 : m / 2 ^ k ≤ m / 2 := by
   obtain ⟨j, rfl⟩ : ∃ j, k = j + 1 := ⟨k - 1, by omega⟩
   have e : m / 2 ^ (j + 1) = m / 2 / 2 ^ j := by rw [Int.pow_succ, Int.mul_comm, Int.ediv_ediv_of_nonneg (by decide)]
   rw [e]
   exact Int.ediv_le_self _ (by omega)
 refine ⟨Int.ediv_nonneg h1 (by omega), ?_⟩
 have := Int.ediv_le_self d h1
 unfold ovQ
 omega
theorem Qz1 {n : Bool} {a b a' b' : Int} (h1 : a = a') (h2 : b = b') : [SV.v (.bool n), .v (.int .u64 a), .v (.int .u64 b)] = [SV.v (.bool n), .v (.int .u64 a'), .v (.int .u64 b')] := by rw [h1, h2]
theorem Qwl (n : Bool) {m d : Int} {x : Nat} (hx : 1 ≤ x) (hx2 : x ≤ 128) (hm : 0 ≤ m) (hm1 : m < 340282366920938463463374607431768211456) (hd : 0 < d) (hd1 : d ≤ 9223372036854775808) {b : Int} (hb : b = m / 2 ^ (x - 1) % 2) :
   sel (decide (bits BinOp.or IntKind.u64 (IntKind.wrap IntKind.u64 (ovR m d x * 2)) b ≥ d))
     (∃ x' : Nat, (((Nat.le x' 128) ∧ ((((SV.v (Value.int IntKind.u64 (IntKind.wrap IntKind.u64 (bits BinOp.or IntKind.u64 (IntKind.wrap IntKind.u64 (ovR m d x * 2)) b - d)))) = (SV.v (Value.int IntKind.u64 (ovR m d x')))) ∧ ((SV.v (Value.int IntKind.i64 (IntKind.wrap IntKind.i64 ((x : Int) - 1 - 1)))) = (SV.v (Value.int IntKind.i64 ((x' : Int) - 1))))) ∧ (((1 : Nat) = 1) ∧ (((1 : Nat) ≤ 1) ∧ (∀ i : Nat, (((i : Nat) < 1) → ([(SV.v (Value.bool n)), (SV.v (Value.int IntKind.u64 (bits BinOp.or IntKind.u64 (IntKind.wrap IntKind.u64 (ovQ m d x / 18446744073709551616 * 2)) (ovQ m d x % 18446744073709551616 / 9223372036854775808)))), (SV.v (Value.int IntKind.u64 (bits BinOp.or IntKind.u64 (IntKind.wrap IntKind.u64 (ovQ m d x % 18446744073709551616 * 2)) 1)))] = [(SV.v (Value.bool n)), (SV.v (Value.int IntKind.u64 (ovQ m d x' / 18446744073709551616))), (SV.v (Value.int IntKind.u64 (ovQ m d x' % 18446744073709551616)))]))))))) ∧ ((x' : Nat) < x)))
     (∃ x' : Nat, (((Nat.le x' 128) ∧ ((((SV.v (Value.int IntKind.u64 (bits BinOp.or IntKind.u64 (IntKind.wrap IntKind.u64 (ovR m d x * 2)) b))) = (SV.v (Value.int IntKind.u64 (ovR m d x')))) ∧ ((SV.v (Value.int IntKind.i64 (IntKind.wrap IntKind.i64 ((x : Int) - 1 - 1)))) = (SV.v (Value.int IntKind.i64 ((x' : Int) - 1))))) ∧ (((1 : Nat) = 1) ∧ (((1 : Nat) ≤ 1) ∧ (∀ i : Nat, (((i : Nat) < 1) → ([(SV.v (Value.bool n)), (SV.v (Value.int IntKind.u64 (bits BinOp.or IntKind.u64 (IntKind.wrap IntKind.u64 (ovQ m d x / 18446744073709551616 * 2)) (ovQ m d x % 18446744073709551616 / 9223372036854775808)))), (SV.v (Value.int IntKind.u64 (IntKind.wrap IntKind.u64 (ovQ m d x % 18446744073709551616 * 2))))] = [(SV.v (Value.bool n)), (SV.v (Value.int IntKind.u64 (ovQ m d x' / 18446744073709551616))), (SV.v (Value.int IntKind.u64 (ovQ m d x' % 18446744073709551616)))]))))))) ∧ ((x' : Nat) < x))) := by
 obtain ⟨k, rfl⟩ : ∃ k, x = k + 1 := ⟨x - 1, by omega⟩
 have hs := Zc6 (m := m) k hd
 rw [Nat.add_sub_cancel] at hb
 rw [← hb] at hs
 have b0 : 0 ≤ b ∧ b ≤ 1 := by omega
 have hr := ov_r (m := m) (k + 1) hd
 have hq := ov_q (k + 1) hx hm hm1 hd
 have e1 : bits .or .u64 (IntKind.u64.wrap (ovR m d (k + 1) * 2)) b = 2 * ovR m d (k + 1) + b := Q19 hr.1 (by omega) b0.1 b0.2
 have e2 : bits .or .u64 (IntKind.u64.wrap (ovQ m d (k + 1) / 18446744073709551616 * 2)) (ovQ m d (k + 1) % 18446744073709551616 / 9223372036854775808) = 2 * (ovQ m d (k + 1) / 18446744073709551616) + ovQ m d (k + 1) % 18446744073709551616 / 9223372036854775808 :=
   Q19 (by omega) (by omega) (by omega) (by omega)
 have e3 : bits .or .u64 (IntKind.u64.wrap (ovQ m d (k + 1) % 18446744073709551616 * 2)) 1 = (2 * (ovQ m d (k + 1) % 18446744073709551616)) % 18446744073709551616 + 1 := Zc8 (by decide) (by decide)
 have e4 : IntKind.u64.wrap (ovQ m d (k + 1) % 18446744073709551616 * 2) = (2 * (ovQ m d (k + 1) % 18446744073709551616)) % 18446744073709551616 := by rw [Qbx]; omega
 have e5 : IntKind.i64.wrap (((k + 1 : Nat) : Int) - 1 - 1) = (k : Int) - 1 := by rw [Qaf ⟨by omega, by omega⟩]; omega
 rw [e1, e2, e3, e4, e5]
 refine Qad (fun g => ?_) fun g => ?_
 · have g := of_decide_eq_true g
   obtain ⟨f1, f2⟩ := hs.1 g
   refine ⟨k, ⟨Nat.le_of_succ_le hx2, ⟨Qbh ?_, rfl⟩, rfl, Nat.le_refl _, fun i _ => Qz1 ?_ ?_⟩, Nat.lt_succ_self k⟩
   · rw [f2, Qdm ⟨by omega, by omega⟩]
   · rw [f1]; omega
   · rw [f1]; omega
 · have g := of_decide_eq_false g
   obtain ⟨f1, f2⟩ := hs.2 (by omega)
   refine ⟨k, ⟨Nat.le_of_succ_le hx2, ⟨Qbh f2.symm, rfl⟩, rfl, Nat.le_refl _, fun i _ => Qz1 ?_ ?_⟩, Nat.lt_succ_self k⟩
   · rw [f1]; omega
   · rw [f1]; omega
theorem Q4h : Qai Tryz.prog 299 Zch := Qao hm Qa0 Tryz.func299 (Λ := fun args => match args with | [.agg [.v (.bool n), .v (.int .u64 hi), .v (.int .u64 lo)], .v (.int .u64 d)] => Q8s n (MM lo hi) d | _ => Qax) fun args p x h hp => by
 unfold Zch at h
 split at h <;> try (cases h; done)
 rename_i n hi lo d
 cases h
 obtain ⟨h1, h2, h3, h4⟩ := hp _ rfl
 refine ⟨rfl, rfl, ?_⟩
 refine Eq.mpr (Zge n hi lo d _ _ _) ?_
 have m0 := Qkl h1 h2
 have m1 := Zeg h1 h2
 have hM : MM lo hi = lo + hi * 18446744073709551616 := by unfold MM; omega
 refine ⟨⟨128, ⟨Nat.le_refl _, ⟨Qbh ?_, rfl⟩, rfl, Nat.le_refl _, fun i _ => Qz1 ?_ ?_⟩⟩, fun x hx => ?_⟩
 · have e : MM lo hi / 2 ^ 128 = 0 := Int.ediv_eq_zero_of_lt m0 m1
   unfold ovR; rw [e]; simp
 · have e : MM lo hi / 2 ^ 128 = 0 := Int.ediv_eq_zero_of_lt m0 m1
   unfold ovQ; rw [e]; simp
 · have e : MM lo hi / 2 ^ 128 = 0 := Int.ediv_eq_zero_of_lt m0 m1
   unfold ovQ; rw [e]; simp
 · have hx : x ≤ 128 := hx
   refine Qad (fun g => ?_) fun g => ?_
   · have g := of_decide_eq_true g
     have e1 : IntKind.u64.wrap ((x : Int) - 1) = (x : Int) - 1 := Qdm ⟨by omega, by omega⟩
     rw [e1]
     refine ⟨by omega, Qad (fun g' => ?_) fun g' => ?_⟩
     · have g' := of_decide_eq_true g'
       have e2 : IntKind.i64.wrap ((x : Int) - 1 - 64) = ((x - 65 : Nat) : Int) := by rw [Qaf ⟨by omega, by omega⟩]; omega
       have e3 : IntKind.u64.wrap ((x - 65 : Nat) : Int) = ((x - 65 : Nat) : Int) := Qdm ⟨by omega, by omega⟩
       rw [e2, e3, Int.toNat_natCast, Nat.min_eq_left (by omega)]
       have hu : U64 (hi / 2 ^ (x - 65)) := ⟨Int.ediv_nonneg h2.1 (Int.le_of_lt (Qj2 _)), by have := Int.ediv_le_self (2 ^ (x - 65)) h2.1; have := h2.2; omega⟩
       rw [Q3o hu]
       refine ⟨by omega, Qwl n (by omega) hx m0 m1 h3 h4 ?_⟩
       have e4 : MM lo hi / 2 ^ (x - 1) = hi / 2 ^ (x - 65) := by
         rw [show x - 1 = 64 + (x - 65) by omega, Int.pow_add, ← Int.ediv_ediv_of_nonneg (by decide)]
         have : MM lo hi / 2 ^ 64 = hi := Zmf h1
         rw [this]
       rw [e4]
     · have g' := of_decide_eq_false g'
       have e3 : Int.toNat ((x : Int) - 1) = x - 1 := by omega
       rw [e3, Nat.min_eq_left (by omega)]
       have hu : U64 (lo / 2 ^ (x - 1)) := ⟨Int.ediv_nonneg h1.1 (Int.le_of_lt (Qj2 _)), by have := Int.ediv_le_self (2 ^ (x - 1)) h1.1; have := h1.2; omega⟩
       rw [Q3o hu]
       refine Qwl n (by omega) hx m0 m1 h3 h4 ?_
       have e4 : MM lo hi = lo + (hi * 2 ^ (64 - x) * 2) * 2 ^ (x - 1) := by
         have : (2 : Int) ^ (64 - x) * 2 * 2 ^ (x - 1) = 18446744073709551616 := by
           rw [← Int.pow_succ, ← Int.pow_add, show 64 - x + 1 + (x - 1) = 64 by omega]
           rfl
         rw [hM, ← this]
         simp only [Int.mul_assoc]
       rw [e4, Int.add_mul_ediv_right _ _ (Int.ne_of_gt (Qj2 _)), Int.add_mul_emod_self_right]
   · have g := of_decide_eq_false g
     have e : x = 0 := by omega
     subst e
     unfold ovQ
     have e : MM lo hi / 2 ^ 0 = MM lo hi := by rw [Int.pow_zero, Int.ediv_one]
     rw [e]
     rfl
theorem Q2e (a : Int) : IntKind.i64.wrap (Qeo a 0 * 9223372036854775807) = Qni a := by
 unfold Qni Qeo
 by_cases h : a < 0
 · rw [if_pos h, if_neg (by omega), if_pos h]; rfl
 · by_cases h' : 0 < a
   · rw [if_neg h, if_pos h', if_pos h']; rfl
   · rw [if_neg h, if_neg h', if_neg (by omega), if_neg h]; rfl
theorem Q1x (a b : Int) : sv (!(decide (a < 0) == decide (b < 0))) (Qag a * 4294967296 / Qag b) = Q89 a b := by
 unfold Q89
 have h : 0 ≤ Qag a * 4294967296 := by have := Qb2 a; omega
 rw [← Int.tdiv_eq_ediv_of_nonneg h]
 unfold sv
 by_cases ha : a < 0 <;> by_cases hb : b < 0
 · rw [Qeu ha, Qeu hb]; simp [ha, hb, Int.neg_tdiv, Int.tdiv_neg, Int.neg_mul]
 · rw [Qeu ha, Qee hb]; simp [ha, hb, Int.neg_tdiv, Int.neg_mul]
 · rw [Qee ha, Qeu hb]; simp [ha, hb, Int.tdiv_neg]
 · rw [Qee ha, Qee hb]; simp [ha, hb]
theorem Qzm : ∀ f g, Zj4 f = some g → g.ok Tryz.prog f := Qab Qde (Qal Tryz.func67 (by kernel_rfl) (by kernel_rfl) Qzb)
theorem Q6b {X d : Int} (h0 : 0 ≤ X) (hd : 0 < d) : MM (MM (X % 18446744073709551616) (X / 18446744073709551616 % d) / d) (X / 18446744073709551616 / d) = X / d ∧ U64 (MM (X % 18446744073709551616) (X / 18446744073709551616 % d) / d) := by
 have q0 : 0 ≤ X / 18446744073709551616 := by omega
 have hr0 : 0 ≤ X / 18446744073709551616 % d := Int.emod_nonneg _ (by omega)
 have hr1 : X / 18446744073709551616 % d < d := Int.emod_lt_of_pos _ hd
 have hq := Int.mul_ediv_add_emod (X / 18446744073709551616) d
 have hX : X = X / 18446744073709551616 * 18446744073709551616 + X % 18446744073709551616 := by omega
 have hl : 0 ≤ X % 18446744073709551616 ∧ X % 18446744073709551616 < 18446744073709551616 := by omega
 generalize X / 18446744073709551616 = Y at *
 generalize X % 18446744073709551616 = l at *
 generalize Y / d = q at *
 generalize Y % d = r at *
 have e : MM l r = r * 18446744073709551616 + l := by unfold MM; omega
 rw [e]
 refine ⟨?_, Int.ediv_nonneg (by omega) (by omega), Int.ediv_lt_of_lt_mul hd (by omega)⟩
 have e2 : X = (r * 18446744073709551616 + l) + d * (q * 18446744073709551616) := by rw [← Int.mul_assoc]; omega
 rw [e2, Int.add_mul_ediv_left _ _ (by omega)]
 unfold MM; omega
theorem Qlk : Qai Tryz.prog 9 Qoz := Qao hm Qzm Tryz.func9 (Λ := fun _ => Qax) fun args p x h hp => by
 unfold Qoz at h
 split at h <;> try (cases h; done)
 rename_i a b
 cases h
 obtain ⟨h1, h2⟩ := hp _ rfl
 refine ⟨rfl, rfl, ?_⟩
 refine Eq.mpr (Zbc a b _) ?_
 refine Qad (fun g => ?_) fun g => ?_
 · have g : b = 0 := by simpa using g
   unfold Qdd Qjf
   rw [if_pos g, if_pos g, Q2e]; rfl
 · have g : b ≠ 0 := by simpa using g
   unfold Qdd Qjf
   rw [if_neg g, if_neg g]
   have ua := Qds h1
   have ub := Qds h2
   have la := Qfy h1
   have hb : 0 < Qag b := by unfold Qag; split <;> omega
   have hs := Q1x a b
   rw [Q99]
   obtain ⟨ua0, ua1⟩ := ua
   generalize hX : Qag a * 4294967296 = X at *
   have X0 : 0 ≤ X := by omega
   have hY0 : 0 ≤ X / 18446744073709551616 := by omega
   obtain ⟨t1, t2⟩ := Q6b X0 hb
   rw [Int.tdiv_eq_ediv_of_nonneg hY0, Int.tmod_eq_emod_of_nonneg hY0]
   have hr0 : 0 ≤ X / 18446744073709551616 % Qag b := Int.emod_nonneg _ (by omega)
   have hr1 : X / 18446744073709551616 % Qag b < Qag b := Int.emod_lt_of_pos _ hb
   have hq0 : 0 ≤ X / 18446744073709551616 / Qag b := Int.ediv_nonneg hY0 ub.1
   have hq1 : X / 18446744073709551616 / Qag b ≤ X / 18446744073709551616 := Int.ediv_le_self _ hY0
   have uq : U64 (X / 18446744073709551616 / Qag b) := ⟨hq0, by omega⟩
   rw [Qdm uq, t1]
   have x0 : 0 ≤ X / Qag b := Int.ediv_nonneg X0 ub.1
   refine ⟨h1, ⟨⟨ua0, ua1⟩, ⟨by omega, by omega⟩, by omega⟩, h2, by omega, by omega, ⟨⟨hr0, by have := ub.2; omega⟩, Qb7 _, ub, hr1⟩, ⟨t2, uq⟩, ?_⟩
   rw [Qha _ x0, Qhb (!(decide (a < 0) == decide (b < 0))) _ x0, hs]; rfl
theorem Zak : ∀ f g, ΓY1 f = some g → g.ok Tryz.prog f := Qab Qde (Qal Tryz.func299 (by kernel_rfl) (by kernel_rfl) Q4h)
theorem Qoc : Qai Tryz.prog 220 Qoz := Qao hm Zak Tryz.func220 (Λ := fun _ => Qax) fun args p x h hp => by
 unfold Qoz at h
 split at h <;> try (cases h; done)
 rename_i a b
 cases h
 obtain ⟨h1, h2⟩ := hp _ rfl
 refine ⟨rfl, rfl, ?_⟩
 refine Eq.mpr (Q5r a b _) ?_
 refine Qad (fun g => ?_) fun g => ?_
 · have g : b = 0 := by simpa using g
   unfold Qdd Qjf
   rw [if_pos g, if_pos g]; rfl
 · have g : b ≠ 0 := by simpa using g
   unfold Qdd Qjf
   rw [if_neg g, if_neg g]
   have ua := Qds h1
   have ub := Qds h2
   have la := Qfy h1
   have lb := Qfy h2
   have hb : 0 < Qag b := by unfold Qag; split <;> omega
   have hs := Q1x a b
   obtain ⟨ua0, ua1⟩ := ua
   rw [Q99, Qdk, Qdk]
   generalize hX : Qag a * 4294967296 = X at *
   have X0 : 0 ≤ X := by omega
   have x0 : 0 ≤ X / Qag b := Int.ediv_nonneg X0 ub.1
   have x1 : X / Qag b ≤ X := Int.ediv_le_self _ X0
   refine ⟨h1, ⟨⟨ua0, ua1⟩, ⟨by omega, by omega⟩, by omega⟩, h2, ⟨Qb7 _, Qcn X0 (by omega), hb, lb⟩, ⟨Qb7 _, Qcn x0 (by omega)⟩, ?_⟩
   rw [Qha _ x0, Qhb (!(decide (a < 0) == decide (b < 0))) _ x0, hs]; rfl
theorem Qp1 : ∀ f g, Zfb f = some g → g.ok Tryz.prog f := Qab (Qab (Qab Qde (Qal Tryz.func9 (by kernel_rfl) (by kernel_rfl) Qlk)) (Qal Tryz.func220 (by kernel_rfl) (by kernel_rfl) Qoc)) (Qdc Tryz.func78 (by kernel_rfl) (by kernel_rfl) Qpv)
theorem Qxl : Qai Tryz.prog 156 Zeu := Qao hm Qp1 Tryz.func156 (Λ := fun _ => Qax) fun args p x h hp => by
 unfold Zeu at h
 split at h <;> try (cases h; done)
 rename_i v f u g
 cases h
 obtain ⟨h1, h2⟩ := hp _ rfl
 refine ⟨rfl, rfl, ?_⟩
 refine Eq.mpr (Zlb v f u g _) ?_
 refine ⟨⟨Qcd h1, Qcd h2⟩, Qad (fun hf => Qbz rfl ?_) fun hf => ⟨⟨⟨trivial, trivial, trivial⟩, rfl, by decide⟩, Qbz rfl ?_⟩⟩
 · rw [hf, Bool.true_or]
 · rw [hf, Bool.false_or]; simp [Qry, Qfc]
theorem Qs7 : Qai Tryz.prog 219 Zeu := Qao hm Qp1 Tryz.func219 (Λ := fun _ => Qax) fun args p x h hp => by
 unfold Zeu at h
 split at h <;> try (cases h; done)
 rename_i v f u g
 cases h
 obtain ⟨h1, h2⟩ := hp _ rfl
 refine ⟨rfl, rfl, ?_⟩
 refine Eq.mpr (Zf7 v f u g _) ?_
 refine Qad (fun hz => ?_) fun hz => ?_
 · have hz : Qaa u = 0 := by simpa using hz
   unfold Qdd Qjf
   rw [if_pos hz, if_pos hz, Bool.true_or]; rfl
 · refine ⟨⟨Qcd h1, Qcd h2⟩, Qad (fun hf => Qbz rfl ?_) fun hf => Qad (fun hg => Qbz rfl ?_) fun hg => Qbz rfl ?_⟩
   · rw [hf, Bool.true_or]
   · rw [hg, Bool.true_or, Bool.or_true]
   · rw [hf, hg, Bool.false_or, Bool.false_or]
theorem Qxh : Qai Tryz.prog 16 Zes := Qao hm Qp1 Tryz.func16 (Λ := fun _ => Qax) fun args p x h hp => by
 unfold Zes at h
 split at h <;> try (cases h; done)
 rename_i v f u g
 cases h
 obtain ⟨h1, h2⟩ := hp _ rfl
 have h1 := Qcd h1
 have h2 := Qcd h2
 refine ⟨rfl, rfl, ?_⟩
 refine Eq.mpr (Zky v f u g _) ?_
 rw [Qdk, Qdk]
 have l1 := Qck h1 h2
 have n1 := Qcx (a := Qaa v) (b := Qaa u)
 have s1 := Qgq (Qaa v) (Qaa u)
 generalize Qag (Qaa v) * Qag (Qaa u) = m at *
 have e : sv (!(decide (Qaa v < 0) == decide (Qaa u < 0))) (m / 4294967296) = Qa1 (Qaa v) (Qaa u) := by rw [Qp9 _ n1, s1]; rfl
 refine ⟨⟨h1, h2⟩, ⟨Qb7 _, Qcn n1 (by omega)⟩, ⟨⟨trivial, trivial, trivial⟩, rfl, by decide⟩, ⟨Qb7 _, Qcn (by omega) (by omega)⟩, Qbz ?_ ?_⟩
 · rw [Qha _ (by omega), e]
 · rw [Qhb (!(decide (Qaa v < 0) == decide (Qaa u < 0))) _ (by omega), e]
   simp [Qry, Qfc]
theorem Q8n : Qai Tryz.prog 98 Zhg := Qao hm Qp1 Tryz.func98 (Λ := fun _ => Qax) fun args p x h hp => by
 unfold Zhg at h
 split at h <;> try (cases h; done)
 rename_i v f
 cases h
 have h1 := hp _ rfl
 refine ⟨rfl, rfl, ?_⟩
 refine Eq.mpr (Zlh v f _) ?_
 refine Qbz ?_ rfl
 rw [Qmc h1]
 unfold Qag; split <;> omega
def nrB (e n : Nat) (v : Nat → Int) (f : Nat → Bool) : Blk := { elem := e, size := 2, rw := false, lock := false, lit := false, flat := true, n, row := Qel v f, ext := 0 }
def Zju (S : Blk) : Bool := S.flat && !S.rw && !S.dead && Nat.beq S.size 2 && Nat.beq S.ext 0 && !S.whole
def iB (n : Nat) (g : Nat → Int) : Blk := { elem := 2, size := 1, rw := true, lock := false, lit := false, flat := true, n, row := fun i => [.v (.int .i64 (g i))] }
def Qql (args : List SV) (bs : List Blk) : Option Eff := match args, bs with
 | [.sl 0 2 0 n _], [S] => bif Zju S then some (.det (some (Qb5 isN (Qak n S.row) ∧ S.n = n ∧ n < 1099511627776)) (.tup [.sl 1000 1 0 n n, .v (.bool (Qfb (Qak n S.row)))]) [(1000, iB n fun i => Qaa (Qch (S.row i)))]) else none
 | _, _ => none
def Qst (o a : Int) : List (List SV) → Int
 | [] => a
 | r :: t => Qst o (if Qeo (Qog r) a * o < 0 then Qog r else a) t
def Zly : List SV → List Ro → Option (Option Prop × SV)
 | [.v (.int .i64 o), .v (.int .i64 a), .sl 0 1 0 n _], [⟨1, n', row⟩] => some (some (Qb5 isI (Qak n' row) ∧ n' = n ∧ n < 1099511627776 ∧ -1 ≤ o ∧ o ≤ 1), .v (.int .i64 (Qst o a (Qak n row))))
 | _, _ => none
def Qpf (o a : Int) : List (List SV) → Int
 | [] => a
 | r :: t => Qpf o (if Qeo (Qaa (Qch r)) a * o < 0 then Qaa (Qch r) else a) t
def Qfm (o : Int) : List (List SV) → Int
 | [] => 0
 | r :: t => Qpf o (Qaa (Qch r)) t
def Zck : List SV → List Ro → Option (Option Prop × SV)
 | [.v (.int .i64 o), .sl 0 2 0 n _], [⟨2, n', row⟩] => some (some (Qb5 isN (Qak n' row) ∧ n' = n ∧ n < 1099511627776 ∧ -1 ≤ o ∧ o ≤ 1), Qcy (Qfm o (Qak n row)) (Qfb (Qak n row)))
 | _, _ => none
def Qe7 (o : Int) : List SV → List Ro → Option (Option Prop × SV)
 | [.sl 0 2 0 n _], [⟨2, n', row⟩] => some (some (Qb5 isN (Qak n' row) ∧ n' = n ∧ n < 1099511627776), Qcy (Qfm o (Qak n row)) (Qfb (Qak n row)))
 | _, _ => none
def Qf4 : List SV → Prop
 | [.v (.int .i64 a), .v (.bool _)] => I64 a
 | _ => False
def Qgc : List (List SV) → Int
 | [] => 0
 | r :: t => Qaa (Qch r) + Qgc t
def Q86 : List SV → List Ro → Option (Option Prop × SV)
 | [.sl 0 2 0 n _], [⟨2, n', row⟩] => some (some (Qb5 Qf4 (Qak n' row) ∧ n' = n ∧ n < 1099511627776), Qcy (Qas (Qgc (Qak n row))) (Qc9 (Qgc (Qak n row)) (Qfb (Qak n row))))
 | _, _ => none
noncomputable def Qvr (n : Nat) (g : Nat → Int) (fl : Nat → Bool) : Nat → Option LoopSpec := Qyi (Qcp Qax Tryz.f151 0 Nat (fun k => k ≤ n) (fun k => n - k) [(13, fun k => .v (.int .i64 k)), (5, fun k => .v (.bool (fl k)))] [(96, fun k => iB n fun i => if i < k then g i else 0)]) 6 [(10, fun _ => 96)]
theorem Q5j (e n c : Nat) (v g : Nat→Int) (f fl : Nat→Bool) (b : Bool) : (Qcu Tryz.prog ΓC (Qvr n g fl) Tryz.f151 [.sl 0 2 0 n c] (Qaw [nrB e n v f]) 64 (fun y h' => Qhf [nrB e n v f] (.det none (.tup [.sl 1000 1 0 n n,.v (.bool b)]) [(1000,iB n g)]) y h')) =
((((0 : Int) ≤ ((↑n : Int)))∧(((((↑n : Int)) : Int) ≤ ((↑n : Int)))∧(((8 * (↑n : Int)) : Int) ≤ 140737488355328)))∧((∃ x : Nat,((Nat.le x n)∧((((SV.v (.int .i64 0)) = (SV.v (.int .i64 ((↑x : Int)))))∧((SV.v (.bool false)) = (SV.v (.bool (fl x)))))∧((((Int.toNat (↑n : Int)) : Nat) = n)∧(((n : Nat) ≤ (Int.toNat (↑n : Int)))∧(∀ i : Nat,(((i : Nat) < n)→([(SV.v (.int .i64 0))] = [(SV.v (.int .i64 (if i < x then g i else 0)))]))))))))∧(∀ x : Nat,((Nat.le x n)→(sel (decide ((↑x : Int) < (↑n : Int))) ((((0 : Int) ≤ ((↑x : Int)))∧((((↑x : Int)) : Int) < ((↑n : Int))))∧(sel (fl x) ((((0 : Int) ≤ ((↑x : Int)))∧((((↑x : Int)) : Int) < ((↑(Int.toNat (↑n : Int)) : Int))))∧(∃ x' : Nat,(((Nat.le x' n)∧((((SV.v (.int .i64 (IntKind.wrap IntKind.i64 ((↑x : Int) + 1)))) = (SV.v (.int .i64 ((↑x' : Int)))))∧((SV.v (.bool true)) = (SV.v (.bool (fl x')))))∧(((n : Nat) = n)∧(((n : Nat) ≤ n)∧(∀ i : Nat,(((i : Nat) < n)→([(SV.v (.int .i64 (bop (Nat.beq i (0 + Int.toNat (↑x : Int))) (Qaa (v (0 + Int.toNat (↑x : Int)))) (if i < x then g i else 0))))] = [(SV.v (.int .i64 (if i < x' then g i else 0)))])))))))∧(((n - x') : Nat) < (n - x))))) ((((0 : Int) ≤ ((↑x : Int)))∧((((↑x : Int)) : Int) < ((↑(Int.toNat (↑n : Int)) : Int))))∧(∃ x' : Nat,(((Nat.le x' n)∧((((SV.v (.int .i64 (IntKind.wrap IntKind.i64 ((↑x : Int) + 1)))) = (SV.v (.int .i64 ((↑x' : Int)))))∧((SV.v (.bool (Qat (v (0 + Int.toNat (↑x : Int))) (f (0 + Int.toNat (↑x : Int)))))) = (SV.v (.bool (fl x')))))∧(((n : Nat) = n)∧(((n : Nat) ≤ n)∧(∀ i : Nat,(((i : Nat) < n)→([(SV.v (.int .i64 (bop (Nat.beq i (0 + Int.toNat (↑x : Int))) (Qaa (v (0 + Int.toNat (↑x : Int)))) (if i < x then g i else 0))))] = [(SV.v (.int .i64 (if i < x' then g i else 0)))])))))))∧(((n - x') : Nat) < (n - x))))))) ((((SV.sl 96 1 0 (Int.toNat (↑n : Int)) (Int.toNat (↑n : Int))) = (SV.sl 96 1 0 n n))∧((SV.v (.bool (fl x))) = (SV.v (.bool b))))∧(((n : Nat) = n)∧(((n : Nat) ≤ n)∧(∀ i : Nat,(((i : Nat) < n)→([(SV.v (.int .i64 (if i < x then g i else 0)))] = [(SV.v (.int .i64 (g i)))]))))))))))) := by kernel_rfl
structure KI where
 k : Nat
 a : Int
noncomputable def Zaf (n : Nat) (o a : Int) (row : Nat → List SV) : Nat → Option LoopSpec := Qcp Qax Tryz.f291 0 KI (fun x => x.k ≤ n ∧ Qst o x.a (Qak (n - x.k) fun i => row (x.k + i)) = Qst o a (Qak n row)) (fun x => n - x.k) [(11, fun x => .v (.int .i64 x.k)), (1, fun x => .v (.int .i64 x.a))] []
theorem Zk9 (o a : Int) (n n' c : Nat) (g : Nat→Int) (R : SV→Prop) : (Qcu Tryz.prog ΓC (Zaf n o a fun i => [.v (.int .i64 (g i))]) Tryz.f291 [.v (.int .i64 o),.v (.int .i64 a),.sl 0 1 0 n c] (Qbm [⟨1,n',fun i => [.v (.int .i64 (g i))]⟩]) 64 (fun y _ => R y)) =
((∃ x : KI,(((((KI.k x) : Nat) ≤ n)∧(((Qst o (KI.a x) (Qak (n - KI.k x) fun i => [SV.v (.int .i64 (g (KI.k x + i)))])) : Int) = (Qst o a (Qak n fun i => [SV.v (.int .i64 (g i))]))))∧((((SV.v (.int .i64 0)) = (SV.v (.int .i64 ((↑(KI.k x) : Int)))))∧((SV.v (.int .i64 a)) = (SV.v (.int .i64 (KI.a x)))))∧True)))∧(∀ x : KI,(((((KI.k x) : Nat) ≤ n)∧(((Qst o (KI.a x) (Qak (n - KI.k x) fun i => [SV.v (.int .i64 (g (KI.k x + i)))])) : Int) = (Qst o a (Qak n fun i => [SV.v (.int .i64 (g i))]))))→(sel (decide ((↑(KI.k x) : Int) < (↑n : Int))) ((((0 : Int) ≤ ((↑(KI.k x) : Int)))∧((((↑(KI.k x) : Int)) : Int) < ((↑n : Int))))∧(sel (decide (IntKind.wrap IntKind.i64 (Qeo (g (0 + Int.toNat (↑(KI.k x) : Int))) (KI.a x) * o) < 0)) (∃ x' : KI,((((((KI.k x') : Nat) ≤ n)∧(((Qst o (KI.a x') (Qak (n - KI.k x') fun i => [SV.v (.int .i64 (g (KI.k x' + i)))])) : Int) = (Qst o a (Qak n fun i => [SV.v (.int .i64 (g i))]))))∧((((SV.v (.int .i64 (IntKind.wrap IntKind.i64 ((↑(KI.k x) : Int) + 1)))) = (SV.v (.int .i64 ((↑(KI.k x') : Int)))))∧((SV.v (.int .i64 (g (0 + Int.toNat (↑(KI.k x) : Int))))) = (SV.v (.int .i64 (KI.a x')))))∧True))∧(((n - KI.k x') : Nat) < (n - KI.k x)))) (∃ x' : KI,((((((KI.k x') : Nat) ≤ n)∧(((Qst o (KI.a x') (Qak (n - KI.k x') fun i => [SV.v (.int .i64 (g (KI.k x' + i)))])) : Int) = (Qst o a (Qak n fun i => [SV.v (.int .i64 (g i))]))))∧((((SV.v (.int .i64 (IntKind.wrap IntKind.i64 ((↑(KI.k x) : Int) + 1)))) = (SV.v (.int .i64 ((↑(KI.k x') : Int)))))∧((SV.v (.int .i64 (KI.a x))) = (SV.v (.int .i64 (KI.a x')))))∧True))∧(((n - KI.k x') : Nat) < (n - KI.k x)))))) (R (SV.v (.int .i64 (KI.a x)))))))) := by kernel_rfl
def ΓZ0 : Qb8 := Qah (Qah ΓC 151 (Qen false Qql)) 291 (Qc7 Zly)
theorem Zgh (o : Int) (n n' c : Nat) (v : Nat→Int) (f : Nat→Bool) (R : SV→Prop) : (Qcu Tryz.prog ΓZ0 Qax Tryz.f213 [.v (.int .i64 o),.sl 0 2 0 n c] (Qbm [⟨2,n',Qel v f⟩]) 64 (fun y _ => R y)) =
(sel ((↑n : Int) == 0) (R (SV.agg [(SV.v (.int .i64 0)),(SV.v (.bool false))])) (((Qb5 isN (Qak n fun y => [SV.v (.int .i64 (v (0 + y))),SV.v (.bool (f (0 + y)))]))∧(((n : Nat) = n)∧((n : Nat) < 1099511627776)))∧((((0 : Int) ≤ 0)∧((0 : Int) < ((↑n : Int))))∧((((0 : Int) ≤ 1)∧(((1 : Int) ≤ (Option.getD none (↑n : Int)))∧((((Option.getD none (↑n : Int)) : Int) ≤ ((↑n : Int)))∧((n : Nat) ≤ n))))∧(((Qb5 isI (Qak (Int.toNat (Option.getD none (↑n : Int)) - 1) fun y => [SV.v (.int .i64 ((fun i => Qaa (Qch [SV.v (.int .i64 (v (0 + i))),SV.v (.bool (f (0 + i)))])) (1 + y)))]))∧((((Int.toNat (Option.getD none (↑n : Int)) - 1) : Nat) = (Int.toNat (Option.getD none (↑n : Int)) - 1))∧((((Int.toNat (Option.getD none (↑n : Int)) - 1) : Nat) < 1099511627776)∧((((-1) : Int) ≤ o)∧((o : Int) ≤ 1)))))∧(R (SV.agg [(SV.v (.int .i64 (Qst o (Qaa (Qch [SV.v (.int .i64 (v 0)),SV.v (.bool (f 0))])) (Qak (Int.toNat (Option.getD none (↑n : Int)) - 1) fun y => [SV.v (.int .i64 ((fun i => Qaa (Qch [SV.v (.int .i64 (v (0 + i))),SV.v (.bool (f (0 + i)))])) (1 + y)))])))),(SV.v (.bool (Qfb (Qak n fun y => [SV.v (.int .i64 (v (0 + y))),SV.v (.bool (f (0 + y)))]))))]))))))) := by kernel_rfl
noncomputable def Zjd (n : Nat) (fn : Func) (o : Int) (row : Nat → List SV) : Nat → Option LoopSpec := Qcp Qax fn 0 KI (fun x => (1 ≤ x.k ∧ x.k ≤ n) ∧ Qpf o x.a (Qak (n - x.k) fun i => row (x.k + i)) = Qfm o (Qak n row)) (fun x => n - x.k) [(5, fun x => .v (.int .i64 x.k)), (3, fun x => .v (.int .i64 x.a))] []
def Zfa : Qb8 := Qah (Qah ΓC 213 (Qc7 Zck)) 326 (Qc7 Qmf)
theorem Zf2 (o : Int) (n n' c : Nat) (v : Nat→Int) (f : Nat→Bool) (R : SV→Prop) : (Qcu Tryz.prog Zfa (Zjd n Tryz.f307 o (Qel v f)) Tryz.f307 [.sl 0 2 0 n c] (Qbm [⟨2,n',Qel v f⟩]) 64 (fun y _ => R y)) =
(sel ((↑n : Int) == 0) (R (SV.agg [(SV.v (.int .i64 0)),(SV.v (.bool false))])) ((((0 : Int) ≤ 0)∧((0 : Int) < ((↑n : Int))))∧((∃ x : KI,(((((1 : Nat) ≤ (KI.k x))∧(((KI.k x) : Nat) ≤ n))∧(((Qpf o (KI.a x) (Qak (n - KI.k x) fun i => [SV.v (.int .i64 (v (KI.k x + i))),SV.v (.bool (f (KI.k x + i)))])) : Int) = (Qfm o (Qak n fun i => [SV.v (.int .i64 (v i)),SV.v (.bool (f i))]))))∧((((SV.v (.int .i64 1)) = (SV.v (.int .i64 ((↑(KI.k x) : Int)))))∧((SV.v (.int .i64 (Qaa (v 0)))) = (SV.v (.int .i64 (KI.a x)))))∧True)))∧(∀ x : KI,(((((1 : Nat) ≤ (KI.k x))∧(((KI.k x) : Nat) ≤ n))∧(((Qpf o (KI.a x) (Qak (n - KI.k x) fun i => [SV.v (.int .i64 (v (KI.k x + i))),SV.v (.bool (f (KI.k x + i)))])) : Int) = (Qfm o (Qak n fun i => [SV.v (.int .i64 (v i)),SV.v (.bool (f i))]))))→(sel (decide ((↑(KI.k x) : Int) < (↑n : Int))) ((((0 : Int) ≤ ((↑(KI.k x) : Int)))∧((((↑(KI.k x) : Int)) : Int) < ((↑n : Int))))∧(sel (decide (Qaa (v (0 + Int.toNat (↑(KI.k x) : Int))) < KI.a x)) (∃ x' : KI,((((((1 : Nat) ≤ (KI.k x'))∧(((KI.k x') : Nat) ≤ n))∧(((Qpf o (KI.a x') (Qak (n - KI.k x') fun i => [SV.v (.int .i64 (v (KI.k x' + i))),SV.v (.bool (f (KI.k x' + i)))])) : Int) = (Qfm o (Qak n fun i => [SV.v (.int .i64 (v i)),SV.v (.bool (f i))]))))∧((((SV.v (.int .i64 (IntKind.wrap IntKind.i64 ((↑(KI.k x) : Int) + 1)))) = (SV.v (.int .i64 ((↑(KI.k x') : Int)))))∧((SV.v (.int .i64 (Qaa (v (0 + Int.toNat (↑(KI.k x) : Int)))))) = (SV.v (.int .i64 (KI.a x')))))∧True))∧(((n - KI.k x') : Nat) < (n - KI.k x)))) (∃ x' : KI,((((((1 : Nat) ≤ (KI.k x'))∧(((KI.k x') : Nat) ≤ n))∧(((Qpf o (KI.a x') (Qak (n - KI.k x') fun i => [SV.v (.int .i64 (v (KI.k x' + i))),SV.v (.bool (f (KI.k x' + i)))])) : Int) = (Qfm o (Qak n fun i => [SV.v (.int .i64 (v i)),SV.v (.bool (f i))]))))∧((((SV.v (.int .i64 (IntKind.wrap IntKind.i64 ((↑(KI.k x) : Int) + 1)))) = (SV.v (.int .i64 ((↑(KI.k x') : Int)))))∧((SV.v (.int .i64 (KI.a x))) = (SV.v (.int .i64 (KI.a x')))))∧True))∧(((n - KI.k x') : Nat) < (n - KI.k x)))))) (((Qb5 isN (Qak n fun y => [SV.v (.int .i64 (v (0 + y))),SV.v (.bool (f (0 + y)))]))∧(((n : Nat) = n)∧((n : Nat) < 4611686018427387904)))∧(R (SV.agg [(SV.v (.int .i64 (KI.a x))),(SV.v (.bool (Qfb (Qak n fun y => [SV.v (.int .i64 (v (0 + y))),SV.v (.bool (f (0 + y)))]))))]))))))))) := by kernel_rfl
theorem Zf3 (o : Int) (n n' c : Nat) (v : Nat→Int) (f : Nat→Bool) (R : SV→Prop) : (Qcu Tryz.prog Zfa (Zjd n Tryz.f306 o (Qel v f)) Tryz.f306 [.sl 0 2 0 n c] (Qbm [⟨2,n',Qel v f⟩]) 64 (fun y _ => R y)) =
(sel ((↑n : Int) == 0) (R (SV.agg [(SV.v (.int .i64 0)),(SV.v (.bool false))])) ((((0 : Int) ≤ 0)∧((0 : Int) < ((↑n : Int))))∧((∃ x : KI,(((((1 : Nat) ≤ (KI.k x))∧(((KI.k x) : Nat) ≤ n))∧(((Qpf o (KI.a x) (Qak (n - KI.k x) fun i => [SV.v (.int .i64 (v (KI.k x + i))),SV.v (.bool (f (KI.k x + i)))])) : Int) = (Qfm o (Qak n fun i => [SV.v (.int .i64 (v i)),SV.v (.bool (f i))]))))∧((((SV.v (.int .i64 1)) = (SV.v (.int .i64 ((↑(KI.k x) : Int)))))∧((SV.v (.int .i64 (Qaa (v 0)))) = (SV.v (.int .i64 (KI.a x)))))∧True)))∧(∀ x : KI,(((((1 : Nat) ≤ (KI.k x))∧(((KI.k x) : Nat) ≤ n))∧(((Qpf o (KI.a x) (Qak (n - KI.k x) fun i => [SV.v (.int .i64 (v (KI.k x + i))),SV.v (.bool (f (KI.k x + i)))])) : Int) = (Qfm o (Qak n fun i => [SV.v (.int .i64 (v i)),SV.v (.bool (f i))]))))→(sel (decide ((↑(KI.k x) : Int) < (↑n : Int))) ((((0 : Int) ≤ ((↑(KI.k x) : Int)))∧((((↑(KI.k x) : Int)) : Int) < ((↑n : Int))))∧(sel (decide (Qaa (v (0 + Int.toNat (↑(KI.k x) : Int))) > KI.a x)) (∃ x' : KI,((((((1 : Nat) ≤ (KI.k x'))∧(((KI.k x') : Nat) ≤ n))∧(((Qpf o (KI.a x') (Qak (n - KI.k x') fun i => [SV.v (.int .i64 (v (KI.k x' + i))),SV.v (.bool (f (KI.k x' + i)))])) : Int) = (Qfm o (Qak n fun i => [SV.v (.int .i64 (v i)),SV.v (.bool (f i))]))))∧((((SV.v (.int .i64 (IntKind.wrap IntKind.i64 ((↑(KI.k x) : Int) + 1)))) = (SV.v (.int .i64 ((↑(KI.k x') : Int)))))∧((SV.v (.int .i64 (Qaa (v (0 + Int.toNat (↑(KI.k x) : Int)))))) = (SV.v (.int .i64 (KI.a x')))))∧True))∧(((n - KI.k x') : Nat) < (n - KI.k x)))) (∃ x' : KI,((((((1 : Nat) ≤ (KI.k x'))∧(((KI.k x') : Nat) ≤ n))∧(((Qpf o (KI.a x') (Qak (n - KI.k x') fun i => [SV.v (.int .i64 (v (KI.k x' + i))),SV.v (.bool (f (KI.k x' + i)))])) : Int) = (Qfm o (Qak n fun i => [SV.v (.int .i64 (v i)),SV.v (.bool (f i))]))))∧((((SV.v (.int .i64 (IntKind.wrap IntKind.i64 ((↑(KI.k x) : Int) + 1)))) = (SV.v (.int .i64 ((↑(KI.k x') : Int)))))∧((SV.v (.int .i64 (KI.a x))) = (SV.v (.int .i64 (KI.a x')))))∧True))∧(((n - KI.k x') : Nat) < (n - KI.k x)))))) (((Qb5 isN (Qak n fun y => [SV.v (.int .i64 (v (0 + y))),SV.v (.bool (f (0 + y)))]))∧(((n : Nat) = n)∧((n : Nat) < 4611686018427387904)))∧(R (SV.agg [(SV.v (.int .i64 (KI.a x))),(SV.v (.bool (Qfb (Qak n fun y => [SV.v (.int .i64 (v (0 + y))),SV.v (.bool (f (0 + y)))]))))]))))))))) := by kernel_rfl
theorem Zk0 (n n' c : Nat) (v : Nat→Int) (f : Nat→Bool) (R : SV→Prop) : (Qcu Tryz.prog Zfa Qax Tryz.f224 [.sl 0 2 0 n c] (Qbm [⟨2,n',Qel v f⟩]) 64 (fun y _ => R y)) = (((Qb5 isN (Qak n fun y => [SV.v (.int .i64 (v (0 + y))),SV.v (.bool (f (0 + y)))]))∧(((n : Nat) = n)∧(((n : Nat) < 1099511627776)∧((((-1) : Int) ≤ 1)∧((1 : Int) ≤ 1)))))∧(R (SV.agg [(SV.v (.int .i64 (Qfm 1 (Qak n fun y => [SV.v (.int .i64 (v (0 + y))),SV.v (.bool (f (0 + y)))])))),(SV.v (.bool (Qfb (Qak n fun y => [SV.v (.int .i64 (v (0 + y))),SV.v (.bool (f (0 + y)))]))))]))):=by kernel_rfl
theorem Zk1 (n n' c : Nat) (v : Nat→Int) (f : Nat→Bool) (R : SV→Prop) : (Qcu Tryz.prog Zfa Qax Tryz.f142 [.sl 0 2 0 n c] (Qbm [⟨2,n',Qel v f⟩]) 64 (fun y _ => R y)) = (((Qb5 isN (Qak n fun y => [SV.v (.int .i64 (v (0 + y))),SV.v (.bool (f (0 + y)))]))∧(((n : Nat) = n)∧(((n : Nat) < 1099511627776)∧((((-1) : Int) ≤ (-1))∧(((-1) : Int) ≤ 1)))))∧(R (SV.agg [(SV.v (.int .i64 (Qfm (-1) (Qak n fun y => [SV.v (.int .i64 (v (0 + y))),SV.v (.bool (f (0 + y)))])))),(SV.v (.bool (Qfb (Qak n fun y => [SV.v (.int .i64 (v (0 + y))),SV.v (.bool (f (0 + y)))]))))]))):=by kernel_rfl
structure KE where
 k : Nat
 n : Bool
 m : Int
structure invS (n : Nat) (row : Nat → List SV) (x : KE) : Prop where
 le : x.k ≤ n
 m0 : 0 ≤ x.m
 m1 : x.m ≤ 9223372036854775808 * (x.k : Int)
 sum : sv x.n x.m = Qgc (Qak x.k row)
noncomputable def Ze6 (n : Nat) (row : Nat → List SV) : Nat → Option LoopSpec := Qcp Qax Tryz.f74 0 KE (invS n row) (fun x => n - x.k) [(15, fun x => .v (.int .i64 x.k))] [(128, fun x => Qdz 144 [.v (.bool x.n), .v (.int .u64 (x.m % 18446744073709551616)), .v (.int .u64 (x.m / 18446744073709551616))])]
noncomputable def Q8q (n : Nat) (row : Nat → List SV) : Nat → Option LoopSpec := Qcp Qax Tryz.f303 0 KE (invS n row) (fun x => n - x.k) [(4, fun x => .v (.int .i64 x.k))] [(80, fun x => Qdz 372 [.v (.bool x.n), .v (.int .u64 (x.m / 18446744073709551616)), .v (.int .u64 (x.m % 18446744073709551616))])]
def Zj3 : Qb8 := Qah (Qah ΓC 151 (Qen false Qql)) 326 (Qc7 Qmf)
theorem Zkl (n n' c : Nat) (v : Nat→Int) (f : Nat→Bool) (R : SV→Prop) : (Qcu Tryz.prog Zj3 (Ze6 n (Qel v f)) Tryz.f74 [.sl 0 2 0 n c] (Qbm [⟨2,n',Qel v f⟩]) 64 (fun y _ => R y)) =
(((Qb5 isN (Qak n fun y => [SV.v (.int .i64 (v (0 + y))),SV.v (.bool (f (0 + y)))]))∧(((n : Nat) = n)∧((n : Nat) < 1099511627776)))∧((∃ x : KE,((invS n (fun i => [SV.v (.int .i64 (v i)),SV.v (.bool (f i))]) x)∧(((SV.v (.int .i64 0)) = (SV.v (.int .i64 ((↑(KE.k x) : Int)))))∧(((1 : Nat) = 1)∧(((1 : Nat) ≤ 1)∧(∀ i : Nat,(((i : Nat) < 1)→([(SV.v (.bool false)),(SV.v (.int .u64 0)),(SV.v (.int .u64 0))] = [(SV.v (.bool (KE.n x))),(SV.v (.int .u64 (KE.m x % 18446744073709551616))),(SV.v (.int .u64 (KE.m x / 18446744073709551616)))]))))))))∧(∀ x : KE,((invS n (fun i => [SV.v (.int .i64 (v i)),SV.v (.bool (f i))]) x)→(sel (decide ((↑(KE.k x) : Int) < (↑n : Int))) ((((0 : Int) ≤ ((↑(KE.k x) : Int)))∧((((↑(KE.k x) : Int)) : Int) < ((↑n : Int))))∧((I64 (Qaa (Qch [SV.v (.int .i64 (v (0 + (0 + Int.toNat (↑(KE.k x) : Int))))),SV.v (.bool (f (0 + (0 + Int.toNat (↑(KE.k x) : Int)))))])))∧((((U64 (KE.m x % 18446744073709551616))∧(U64 (KE.m x / 18446744073709551616)))∧(((U64 (Qag (Qaa (Qch [SV.v (.int .i64 (v (0 + (0 + Int.toNat (↑(KE.k x) : Int))))),SV.v (.bool (f (0 + (0 + Int.toNat (↑(KE.k x) : Int)))))]))))∧(U64 0))∧(((MM (KE.m x % 18446744073709551616) (KE.m x / 18446744073709551616) + MM (Qag (Qaa (Qch [SV.v (.int .i64 (v (0 + (0 + Int.toNat (↑(KE.k x) : Int))))),SV.v (.bool (f (0 + (0 + Int.toNat (↑(KE.k x) : Int)))))]))) 0) : Int) < 340282366920938463463374607431768211456)))∧(∃ x' : KE,(((invS n (fun i => [SV.v (.int .i64 (v i)),SV.v (.bool (f i))]) x')∧(((SV.v (.int .i64 (IntKind.wrap IntKind.i64 ((↑(KE.k x) : Int) + 1)))) = (SV.v (.int .i64 ((↑(KE.k x') : Int)))))∧(((1 : Nat) = 1)∧(((1 : Nat) ≤ 1)∧(∀ i : Nat,(((i : Nat) < 1)→([(SV.v (.bool (plN (KE.n x) (MM (KE.m x % 18446744073709551616) (KE.m x / 18446744073709551616)) (decide (Qaa (Qch [SV.v (.int .i64 (v (0 + (0 + Int.toNat (↑(KE.k x) : Int))))),SV.v (.bool (f (0 + (0 + Int.toNat (↑(KE.k x) : Int)))))]) < 0)) (MM (Qag (Qaa (Qch [SV.v (.int .i64 (v (0 + (0 + Int.toNat (↑(KE.k x) : Int))))),SV.v (.bool (f (0 + (0 + Int.toNat (↑(KE.k x) : Int)))))]))) 0)))),(SV.v (.int .u64 (plM (KE.n x) (MM (KE.m x % 18446744073709551616) (KE.m x / 18446744073709551616)) (decide (Qaa (Qch [SV.v (.int .i64 (v (0 + (0 + Int.toNat (↑(KE.k x) : Int))))),SV.v (.bool (f (0 + (0 + Int.toNat (↑(KE.k x) : Int)))))]) < 0)) (MM (Qag (Qaa (Qch [SV.v (.int .i64 (v (0 + (0 + Int.toNat (↑(KE.k x) : Int))))),SV.v (.bool (f (0 + (0 + Int.toNat (↑(KE.k x) : Int)))))]))) 0) % 18446744073709551616))),(SV.v (.int .u64 (plM (KE.n x) (MM (KE.m x % 18446744073709551616) (KE.m x / 18446744073709551616)) (decide (Qaa (Qch [SV.v (.int .i64 (v (0 + (0 + Int.toNat (↑(KE.k x) : Int))))),SV.v (.bool (f (0 + (0 + Int.toNat (↑(KE.k x) : Int)))))]) < 0)) (MM (Qag (Qaa (Qch [SV.v (.int .i64 (v (0 + (0 + Int.toNat (↑(KE.k x) : Int))))),SV.v (.bool (f (0 + (0 + Int.toNat (↑(KE.k x) : Int)))))]))) 0) / 18446744073709551616)))] = [(SV.v (.bool (KE.n x'))),(SV.v (.int .u64 (KE.m x' % 18446744073709551616))),(SV.v (.int .u64 (KE.m x' / 18446744073709551616)))])))))))∧(((n - KE.k x') : Nat) < (n - KE.k x))))))) (((U64 (KE.m x % 18446744073709551616))∧(U64 (KE.m x / 18446744073709551616)))∧(R (SV.agg [(SV.v (.int .i64 (Ql3 (KE.n x) (MM (KE.m x % 18446744073709551616) (KE.m x / 18446744073709551616))))),(SV.v (.bool (Qkn (MM (KE.m x % 18446744073709551616) (KE.m x / 18446744073709551616)) (Qfb (Qak n fun y => [SV.v (.int .i64 (v (0 + y))),SV.v (.bool (f (0 + y)))])))))])))))))) := by kernel_rfl
theorem Zfx (n n' c : Nat) (v : Nat→Int) (f : Nat→Bool) (R : SV→Prop) : (Qcu Tryz.prog Zj3 (Q8q n (Qel v f)) Tryz.f303 [.sl 0 2 0 n c] (Qbm [⟨2,n',Qel v f⟩]) 64 (fun y _ => R y)) =
((∃ x : KE,((invS n (fun i => [SV.v (.int .i64 (v i)),SV.v (.bool (f i))]) x)∧(((SV.v (.int .i64 0)) = (SV.v (.int .i64 ((↑(KE.k x) : Int)))))∧(((1 : Nat) = 1)∧(((1 : Nat) ≤ 1)∧(∀ i : Nat,(((i : Nat) < 1)→([(SV.v (.bool false)),(SV.v (.int .u64 0)),(SV.v (.int .u64 0))] = [(SV.v (.bool (KE.n x))),(SV.v (.int .u64 (KE.m x / 18446744073709551616))),(SV.v (.int .u64 (KE.m x % 18446744073709551616)))]))))))))∧(∀ x : KE,((invS n (fun i => [SV.v (.int .i64 (v i)),SV.v (.bool (f i))]) x)→(sel (decide ((↑(KE.k x) : Int) < (↑n : Int))) ((((0 : Int) ≤ ((↑(KE.k x) : Int)))∧((((↑(KE.k x) : Int)) : Int) < ((↑n : Int))))∧((I64 (Qaa (v (0 + Int.toNat (↑(KE.k x) : Int)))))∧((((U64 (KE.m x % 18446744073709551616))∧(U64 (KE.m x / 18446744073709551616)))∧(((U64 (Qag (Qaa (v (0 + Int.toNat (↑(KE.k x) : Int))))))∧(U64 0))∧(((MM (KE.m x % 18446744073709551616) (KE.m x / 18446744073709551616) + MM (Qag (Qaa (v (0 + Int.toNat (↑(KE.k x) : Int))))) 0) : Int) < 340282366920938463463374607431768211456)))∧(∃ x' : KE,(((invS n (fun i => [SV.v (.int .i64 (v i)),SV.v (.bool (f i))]) x')∧(((SV.v (.int .i64 (IntKind.wrap IntKind.i64 ((↑(KE.k x) : Int) + 1)))) = (SV.v (.int .i64 ((↑(KE.k x') : Int)))))∧(((1 : Nat) = 1)∧(((1 : Nat) ≤ 1)∧(∀ i : Nat,(((i : Nat) < 1)→([(SV.v (.bool (plZ (KE.n x) (MM (KE.m x % 18446744073709551616) (KE.m x / 18446744073709551616)) (decide (Qaa (v (0 + Int.toNat (↑(KE.k x) : Int))) < 0)) (MM (Qag (Qaa (v (0 + Int.toNat (↑(KE.k x) : Int))))) 0)))),(SV.v (.int .u64 (plM (KE.n x) (MM (KE.m x % 18446744073709551616) (KE.m x / 18446744073709551616)) (decide (Qaa (v (0 + Int.toNat (↑(KE.k x) : Int))) < 0)) (MM (Qag (Qaa (v (0 + Int.toNat (↑(KE.k x) : Int))))) 0) / 18446744073709551616))),(SV.v (.int .u64 (plM (KE.n x) (MM (KE.m x % 18446744073709551616) (KE.m x / 18446744073709551616)) (decide (Qaa (v (0 + Int.toNat (↑(KE.k x) : Int))) < 0)) (MM (Qag (Qaa (v (0 + Int.toNat (↑(KE.k x) : Int))))) 0) % 18446744073709551616)))] = [(SV.v (.bool (KE.n x'))),(SV.v (.int .u64 (KE.m x' / 18446744073709551616))),(SV.v (.int .u64 (KE.m x' % 18446744073709551616)))])))))))∧(((n - KE.k x') : Nat) < (n - KE.k x))))))) (((Qb5 isN (Qak n fun y => [SV.v (.int .i64 (v (0 + y))),SV.v (.bool (f (0 + y)))]))∧(((n : Nat) = n)∧((n : Nat) < 4611686018427387904)))∧(((U64 (KE.m x % 18446744073709551616))∧(U64 (KE.m x / 18446744073709551616)))∧(R (SV.agg [(SV.v (.int .i64 (Ql3 (KE.n x) (MM (KE.m x % 18446744073709551616) (KE.m x / 18446744073709551616))))),(SV.v (.bool (Qkn (MM (KE.m x % 18446744073709551616) (KE.m x / 18446744073709551616)) (Qfb (Qak n fun y => [SV.v (.int .i64 (v (0 + y))),SV.v (.bool (f (0 + y)))])))))])))))))) := by kernel_rfl
theorem Qek (n : Nat) (row : Nat → List SV) : Qak (n + 1) row = row 0 :: Qak n fun i => row (i + 1) := by
 refine List.ext_getElem? fun i => ?_
 cases i with
 | zero => rw [Qgf]; simp
 | succ i => rw [Qgf, List.getElem?_cons_succ, Qgf]; simp
theorem Qjd {n k : Nat} (h : k < n) (row : Nat → List SV) : (Qak (n - k) fun i => row (k + i)) = row k :: Qak (n - (k + 1)) fun i => row (k + 1 + i) := by
 rw [show n - k = (n - (k + 1)) + 1 by omega, Qek]
 congr 1
 exact Qd8 fun i _ => by rw [show k + (i + 1) = k + 1 + i by omega]
theorem Qjc (row : Nat → List SV) : Qak 0 row = [] := rfl
theorem Q6l {S : Blk} {m : Nat} (hS : Zju S = true) (h1 : S.n = m) (h2 : ∀ i, i < m → isN (S.row i)) : BlkSame S (nrB S.elem m (fun i => Qch (S.row i)) fun i => Qfc (S.row i)) := by
 simp only [Zju, Bool.and_eq_true, Bool.not_eq_true'] at hS
 obtain ⟨⟨⟨⟨⟨a1, a2⟩, a3⟩, a4⟩, a5⟩, a6⟩ := hS
 exact ⟨Nat.eq_of_beq_eq_true a4, a2, a1, h1, Nat.eq_of_beq_eq_true a5, a3, rfl, a6, fun i hi => Qfw (h2 i (by omega))⟩
theorem Qob : Qdl Tryz.prog 151 Qql := Qc0 hm Qde Tryz.func151 (Λ := fun args bs => match args, bs with | [.sl 0 2 0 n _], [S] => Qvr n (fun i => Qaa (Qch (S.row i))) (fun k => Qfb (Qak k S.row)) | _, _ => Qax) fun args bs e hs hp => by
 unfold Qql at hs
 split at hs <;> try (cases hs; done)
 rename_i n c S
 cases hS : Zju S with
 | false => rw [hS] at hs; cases hs
 | true =>
   rw [hS] at hs
   cases hs
   obtain ⟨p1, p2, p3⟩ := hp _ rfl
   have p1 := okAll_rows.1 p1
   refine ⟨[nrB S.elem n (fun i => Qch (S.row i)) fun i => Qfc (S.row i)], ⟨Q6l hS p2 p1, trivial⟩, ?_⟩
   refine Eq.mpr (Q5j S.elem n c (fun i => Qch (S.row i)) (fun i => Qaa (Qch (S.row i))) (fun i => Qfc (S.row i)) (fun k => Qfb (Qak k S.row)) (Qfb (Qak n S.row))) ?_
   refine ⟨⟨by omega, by omega, by omega⟩, ⟨0, ⟨Nat.zero_le _, ⟨rfl, rfl⟩, by simp, by simp, fun i hi => by rw [if_neg (by omega)]⟩⟩, fun x hx => ?_⟩
   have hx : x ≤ n := hx
   have hsucc : Qfb (Qak (x + 1) S.row) = (Qfb (Qak x S.row) || Qat (Qch (S.row x)) (Qfc (S.row x))) := by rw [Qft, Qjn]; simp [Qfb]
   refine Qad (fun g => ?_) fun g => ?_
   · have g := of_decide_eq_true g
     have e1 : IntKind.i64.wrap ((x : Int) + 1) = ((x + 1 : Nat) : Int) := by rw [Qaf ⟨by omega, by omega⟩]; omega
     have row : ∀ i, i < n → [SV.v (Value.int .i64 (bop (Nat.beq i (0 + Int.toNat (x : Int))) (Qaa (Qch (S.row (0 + Int.toNat (x : Int))))) (if i < x then Qaa (Qch (S.row i)) else 0)))] = [SV.v (Value.int .i64 (if i < x + 1 then Qaa (Qch (S.row i)) else 0))] := by
       intro i hi
       rw [Int.toNat_natCast, Nat.zero_add]
       have b1 : ∀ (a b : Int), bop true a b = a := fun _ _ => rfl
       have b2 : ∀ (a b : Int), bop false a b = b := fun _ _ => rfl
       by_cases h : i = x
       · subst h
         have hb : Nat.beq i i = true := Nat.beq_eq ▸ rfl
         rw [hb, b1, if_pos (by omega)]
       · have hb : Nat.beq i x = false := by
           cases hb : Nat.beq i x with
           | false => rfl
           | true => exact absurd (Nat.eq_of_beq_eq_true hb) h
         rw [hb, b2]
         by_cases h' : i < x
         · rw [if_pos h', if_pos (by omega)]
         · rw [if_neg h', if_neg (by omega)]
     refine ⟨⟨by omega, by omega⟩, Qad (fun hf => ?_) fun hf => ?_⟩
     · exact ⟨⟨by omega, by simp; omega⟩, x + 1, ⟨Nat.succ_le_of_lt (by omega), ⟨Qbh e1, Qdy (by rw [hsucc, hf]; rfl)⟩, rfl, Nat.le_refl _, row⟩, by omega⟩
     · refine ⟨⟨by omega, by simp; omega⟩, x + 1, ⟨Nat.succ_le_of_lt (by omega), ⟨Qbh e1, Qdy ?_⟩, rfl, Nat.le_refl _, row⟩, by omega⟩
       rw [hsucc, hf, Int.toNat_natCast, Nat.zero_add, Bool.false_or]
   · have g := of_decide_eq_false g
     have e : x = n := by omega
     subst e
     refine ⟨⟨by simp, rfl⟩, rfl, Nat.le_refl _, fun i hi => by rw [if_pos hi]⟩
theorem Q8g : Qcg Tryz.prog 291 Zly := Qb4 hm Qde Tryz.func291 (Λ := fun args bs => match args, bs with | [.v (.int .i64 o), .v (.int .i64 a), .sl 0 1 0 n _], [⟨1, _, row⟩] => Zaf n o a (fun i => [.v (.int .i64 (Qog (row i)))]) | _, _ => Qax) fun args bs p x h hp => by
 unfold Zly at h
 split at h <;> try (cases h; done)
 rename_i o a n c n' row
 cases h
 obtain ⟨h1, rfl, h3, h4⟩ := hp _ rfl
 have h1 := okAll_rows.1 h1
 refine ⟨rfl, [⟨1, n', fun i => [.v (.int .i64 (Qog (row i)))]⟩], ⟨⟨rfl, rfl, fun i hi => Qux (h1 i hi)⟩, trivial⟩, ?_⟩
 show Qcu _ _ (Zaf n' o a fun i => [.v (.int .i64 (Qog (row i)))]) _ _ _ _ _
 refine Eq.mpr (Zk9 o a n' n' c (fun i => Qog (row i)) _) ?_
 have hrow : Qak n' row = Qak n' fun i => [SV.v (Value.int .i64 (Qog (row i)))] := Qd8 fun i hi => Qux (h1 i hi)
 rw [hrow]
 refine ⟨⟨⟨0, a⟩, ⟨Nat.zero_le _, by simp⟩, ⟨rfl, rfl⟩, trivial⟩, fun x ⟨x1, x2⟩ => ?_⟩
 refine Qad (fun g => ?_) fun g => ?_
 · have g := of_decide_eq_true g
   have e1 : IntKind.i64.wrap ((x.k : Int) + 1) = ((x.k + 1 : Nat) : Int) := by rw [Qaf ⟨by omega, by omega⟩]; omega
   have hd := Qjd (n := n') (k := x.k) (by omega) fun i => [SV.v (Value.int .i64 (Qog (row i)))]
   have hc : ∀ z, -1 ≤ Qeo z x.a ∧ Qeo z x.a ≤ 1 := fun z => by unfold Qeo; split <;> (try split) <;> omega
   have hw : ∀ z, IntKind.i64.wrap (Qeo z x.a * o) = Qeo z x.a * o := fun z => by
     have hz := hc z
     have h5 : Qeo z x.a * o = o ∨ Qeo z x.a * o = 0 ∨ Qeo z x.a * o = -o := by
       have : Qeo z x.a = 1 ∨ Qeo z x.a = 0 ∨ Qeo z x.a = -1 := by omega
       rcases this with e | e | e <;> rw [e] <;> omega
     exact Qaf ⟨by omega, by omega⟩
   rw [hd] at x2
   rw [e1, Int.toNat_natCast, Nat.zero_add, hw]
   have x2' : Qst o (if Qeo (Qog (row x.k)) x.a * o < 0 then Qog (row x.k) else x.a) (Qak (n' - (x.k + 1)) fun i => [SV.v (Value.int .i64 (Qog (row (x.k + 1 + i))))]) = Qst o a (Qak n' fun i => [SV.v (Value.int .i64 (Qog (row i)))]) := x2
   refine ⟨⟨by omega, by omega⟩, Qad (fun hf => ?_) fun hf => ?_⟩
   · rw [if_pos (of_decide_eq_true hf)] at x2'
     exact ⟨⟨x.k + 1, Qog (row x.k)⟩, ⟨⟨by show x.k + 1 ≤ n'; omega, x2'⟩, ⟨rfl, rfl⟩, trivial⟩, by show n' - (x.k + 1) < _; omega⟩
   · rw [if_neg (of_decide_eq_false hf)] at x2'
     exact ⟨⟨x.k + 1, x.a⟩, ⟨⟨by show x.k + 1 ≤ n'; omega, x2'⟩, ⟨rfl, rfl⟩, trivial⟩, by show n' - (x.k + 1) < _; omega⟩
 · have g := of_decide_eq_false g
   have e : x.k = n' := by omega
   rw [e, Nat.sub_self, Qjc] at x2
   exact Qbh x2
theorem Zaj : ∀ f g, ΓZ0 f = some g → g.ok Tryz.prog f := Qab (Qab Qde (Qfa Tryz.func151 (by kernel_rfl) (by kernel_rfl) Qob)) (Qdc Tryz.func291 (by kernel_rfl) (by kernel_rfl) Q8g)
theorem Q9p (o : Int) (g : Nat → List SV) : ∀ (m : Nat) (k : Nat) (a : Int), Qst o a (Qak m fun i => [SV.v (Value.int .i64 (Qaa (Qch (g (k + i)))))]) = Qpf o a (Qak m fun i => g (k + i))
 | 0, _, _ => rfl
 | m + 1, k, a => by
   rw [Qek, Qek]
   show Qst o (if Qeo (Qaa (Qch (g (k + 0)))) a * o < 0 then Qaa (Qch (g (k + 0))) else a) _ = Qpf o (if Qeo (Qaa (Qch (g (k + 0)))) a * o < 0 then Qaa (Qch (g (k + 0))) else a) _
   have := Q9p o g m (k + 1) (if Qeo (Qaa (Qch (g (k + 0)))) a * o < 0 then Qaa (Qch (g (k + 0))) else a)
   have e : ∀ i, k + 1 + i = k + (i + 1) := fun i => by omega
   simp only [e] at this
   exact this
theorem Qgr {n : Nat} {row : Nat → List SV} (h : ∀ i, i < n → isN (row i)) : Qak n row = Qak n fun i => [SV.v (Value.int .i64 (Qch (row i))), SV.v (Value.bool (Qfc (row i)))] := Qd8 fun i hi => Qfw (h i hi)
theorem Qjg (n : Nat) (v : Nat → Int) (f : Nat → Bool) : Qb5 isN (Qak n fun i => [SV.v (Value.int .i64 (v i)), SV.v (Value.bool (f i))]) := okAll_rows.2 fun _ _ => trivial
theorem Zda (n : Nat) (v : Nat → Int) : Qb5 isI (Qak n fun i => [SV.v (Value.int .i64 (v i))]) := okAll_rows.2 fun _ _ => trivial
theorem Q4k : Qcg Tryz.prog 213 Zck := Qb4 hm Zaj Tryz.func213 (Λ := fun _ _ => Qax) fun args bs p x h hp => by
 unfold Zck at h
 split at h <;> try (cases h; done)
 rename_i o n c n' row
 cases h
 obtain ⟨h1, rfl, h3, h4⟩ := hp _ rfl
 have h1 := okAll_rows.1 h1
 refine ⟨rfl, [⟨2, n', Qel (fun i => Qch (row i)) fun i => Qfc (row i)⟩], ⟨⟨rfl, rfl, fun i hi => Qfw (h1 i hi)⟩, trivial⟩, ?_⟩
 refine Eq.mpr (Zgh o n' n' c (fun i => Qch (row i)) (fun i => Qfc (row i)) _) ?_
 rw [Qgr h1]
 refine Qad (fun g => ?_) fun g => ?_
 · have g : n' = 0 := by simpa using g
   subst g
   rfl
 · have g : n' ≠ 0 := by simpa using g
   obtain ⟨m, rfl⟩ : ∃ m, n' = m + 1 := ⟨n' - 1, by omega⟩
   simp only [Option.getD_none, Int.toNat_natCast, Nat.zero_add, Nat.add_sub_cancel]
   refine ⟨⟨Qjg _ _ _, by trivial, h3⟩, ⟨by omega, by omega⟩, ⟨by omega, by omega, by omega, Nat.le_refl _⟩, ⟨Zda _ _, by trivial, by omega, h4⟩, Qbz ?_ rfl⟩
   rw [Qek]
   show _ = Qpf o (Qaa (Qch (row 0))) _
   have := Q9p o (fun i => [SV.v (Value.int .i64 (Qch (row i))), SV.v (Value.bool (Qfc (row i)))]) m 1 (Qaa (Qch (row 0)))
   have e : ∀ i, 1 + i = i + 1 := fun i => by omega
   simp only [e] at this ⊢
   exact this
theorem Qp0 : ∀ f g, Zfa f = some g → g.ok Tryz.prog f := Qab (Qab Qde (Qdc Tryz.func213 (by kernel_rfl) (by kernel_rfl) Q4k)) (Qdc Tryz.func326 (by kernel_rfl) (by kernel_rfl) Ql0)
theorem Q77 : Qcg Tryz.prog 224 (Qe7 1) := Qb4 hm Qp0 Tryz.func224 (Λ := fun _ _ => Qax) fun args bs p x h hp => by
 unfold Qe7 at h
 split at h <;> try (cases h; done)
 rename_i n c n' row
 cases h
 obtain ⟨h1, rfl, h3⟩ := hp _ rfl
 have h1 := okAll_rows.1 h1
 refine ⟨rfl, [⟨2, n', Qel (fun i => Qch (row i)) fun i => Qfc (row i)⟩], ⟨⟨rfl, rfl, fun i hi => Qfw (h1 i hi)⟩, trivial⟩, ?_⟩
 refine Eq.mpr (Zk0 n' n' c (fun i => Qch (row i)) (fun i => Qfc (row i)) _) ?_
 rw [Qgr h1]
 exact ⟨⟨Qjg _ _ _, rfl, h3, by decide, by decide⟩, Qbz (by simp only [Nat.zero_add]) (by simp only [Nat.zero_add])⟩
theorem Q78 : Qcg Tryz.prog 142 (Qe7 (-1)) := Qb4 hm Qp0 Tryz.func142 (Λ := fun _ _ => Qax) fun args bs p x h hp => by
 unfold Qe7 at h
 split at h <;> try (cases h; done)
 rename_i n c n' row
 cases h
 obtain ⟨h1, rfl, h3⟩ := hp _ rfl
 have h1 := okAll_rows.1 h1
 refine ⟨rfl, [⟨2, n', Qel (fun i => Qch (row i)) fun i => Qfc (row i)⟩], ⟨⟨rfl, rfl, fun i hi => Qfw (h1 i hi)⟩, trivial⟩, ?_⟩
 refine Eq.mpr (Zk1 n' n' c (fun i => Qch (row i)) (fun i => Qfc (row i)) _) ?_
 rw [Qgr h1]
 exact ⟨⟨Qjg _ _ _, rfl, h3, by decide, by decide⟩, Qbz (by simp only [Nat.zero_add]) (by simp only [Nat.zero_add])⟩
theorem Q9x (a b : Int) : (Qeo a b * 1 < 0) ↔ a < b := by unfold Qeo; split <;> (try split) <;> omega
theorem Q3e (a b : Int) : (Qeo a b * -1 < 0) ↔ b < a := by unfold Qeo; split <;> (try split) <;> omega
theorem Q37 : Qcg Tryz.prog 307 (Qe7 1) := Qb4 hm Qp0 Tryz.func307 (Λ := fun args bs => match args, bs with | [.sl 0 2 0 n _], [⟨2, _, row⟩] => Zjd n Tryz.f307 1 (Qel (fun i => Qch (row i)) fun i => Qfc (row i)) | _, _ => Qax) fun args bs p x h hp => by
 unfold Qe7 at h
 split at h <;> try (cases h; done)
 rename_i n c n' row
 cases h
 obtain ⟨h1, rfl, h3⟩ := hp _ rfl
 have h1 := okAll_rows.1 h1
 refine ⟨rfl, [⟨2, n', Qel (fun i => Qch (row i)) fun i => Qfc (row i)⟩], ⟨⟨rfl, rfl, fun i hi => Qfw (h1 i hi)⟩, trivial⟩, ?_⟩
 refine Eq.mpr (Zf2 1 n' n' c (fun i => Qch (row i)) (fun i => Qfc (row i)) _) ?_
 rw [Qgr h1]
 refine Qad (fun g => ?_) fun g => ?_
 · have g : n' = 0 := by simpa using g
   subst g
   rfl
 · have g : n' ≠ 0 := by simpa using g
   refine ⟨⟨by omega, by omega⟩, ⟨⟨1, Qaa (Qch (row 0))⟩, ⟨⟨Nat.le_refl 1, by show 1 ≤ n'; omega⟩, ?_⟩, ⟨rfl, rfl⟩, trivial⟩, fun x ⟨⟨x1, x2⟩, x3⟩ => ?_⟩
   · obtain ⟨m, rfl⟩ : ∃ m, n' = m + 1 := ⟨n' - 1, by omega⟩
     rw [Qek m]
     show Qpf 1 (Qaa (Qch (row 0))) (Qak m fun i => _) = Qpf 1 (Qaa (Qch (row 0))) _
     have e : ∀ i, 1 + i = i + 1 := fun i => by omega
     simp only [e]
   · refine Qad (fun g => ?_) fun g => ?_
     · have g := of_decide_eq_true g
       have e1 : IntKind.i64.wrap ((x.k : Int) + 1) = ((x.k + 1 : Nat) : Int) := by rw [Qaf ⟨by omega, by omega⟩]; omega
       have hd := Qjd (n := n') (k := x.k) (by omega) fun i => [SV.v (Value.int .i64 (Qch (row i))), SV.v (Value.bool (Qfc (row i)))]
       rw [hd] at x3
       rw [e1, Int.toNat_natCast, Nat.zero_add]
       have x3' : Qpf 1 (if Qeo (Qaa (Qch (row x.k))) x.a * 1 < 0 then Qaa (Qch (row x.k)) else x.a) (Qak (n' - (x.k + 1)) fun i => [SV.v (Value.int .i64 (Qch (row (x.k + 1 + i)))), SV.v (Value.bool (Qfc (row (x.k + 1 + i))))]) = Qfm 1 (Qak n' fun i => [SV.v (Value.int .i64 (Qch (row i))), SV.v (Value.bool (Qfc (row i)))]) := x3
       simp only [Q9x] at x3'
       refine ⟨⟨by omega, by omega⟩, Qad (fun hf => ?_) fun hf => ?_⟩
       · rw [if_pos (of_decide_eq_true hf)] at x3'
         exact ⟨⟨x.k + 1, Qaa (Qch (row x.k))⟩, ⟨⟨⟨by show 1 ≤ x.k + 1; omega, by show x.k + 1 ≤ n'; omega⟩, x3'⟩, ⟨rfl, rfl⟩, trivial⟩, by show n' - (x.k + 1) < _; omega⟩
       · rw [if_neg (of_decide_eq_false hf)] at x3'
         exact ⟨⟨x.k + 1, x.a⟩, ⟨⟨⟨by show 1 ≤ x.k + 1; omega, by show x.k + 1 ≤ n'; omega⟩, x3'⟩, ⟨rfl, rfl⟩, trivial⟩, by show n' - (x.k + 1) < _; omega⟩
     · have g := of_decide_eq_false g
       have e : x.k = n' := by omega
       rw [e, Nat.sub_self, Qjc] at x3
       exact ⟨⟨Qjg _ _ _, rfl, by omega⟩, Qbz x3 (by simp only [Nat.zero_add])⟩
theorem Q38 : Qcg Tryz.prog 306 (Qe7 (-1)) := Qb4 hm Qp0 Tryz.func306 (Λ := fun args bs => match args, bs with | [.sl 0 2 0 n _], [⟨2, _, row⟩] => Zjd n Tryz.f306 (-1) (Qel (fun i => Qch (row i)) fun i => Qfc (row i)) | _, _ => Qax) fun args bs p x h hp => by
 unfold Qe7 at h
 split at h <;> try (cases h; done)
 rename_i n c n' row
 cases h
 obtain ⟨h1, rfl, h3⟩ := hp _ rfl
 have h1 := okAll_rows.1 h1
 refine ⟨rfl, [⟨2, n', Qel (fun i => Qch (row i)) fun i => Qfc (row i)⟩], ⟨⟨rfl, rfl, fun i hi => Qfw (h1 i hi)⟩, trivial⟩, ?_⟩
 refine Eq.mpr (Zf3 (-1) n' n' c (fun i => Qch (row i)) (fun i => Qfc (row i)) _) ?_
 rw [Qgr h1]
 refine Qad (fun g => ?_) fun g => ?_
 · have g : n' = 0 := by simpa using g
   subst g
   rfl
 · have g : n' ≠ 0 := by simpa using g
   refine ⟨⟨by omega, by omega⟩, ⟨⟨1, Qaa (Qch (row 0))⟩, ⟨⟨Nat.le_refl 1, by show 1 ≤ n'; omega⟩, ?_⟩, ⟨rfl, rfl⟩, trivial⟩, fun x ⟨⟨x1, x2⟩, x3⟩ => ?_⟩
   · obtain ⟨m, rfl⟩ : ∃ m, n' = m + 1 := ⟨n' - 1, by omega⟩
     rw [Qek m]
     show Qpf (-1) (Qaa (Qch (row 0))) (Qak m fun i => _) = Qpf (-1) (Qaa (Qch (row 0))) _
     have e : ∀ i, 1 + i = i + 1 := fun i => by omega
     simp only [e]
   · refine Qad (fun g => ?_) fun g => ?_
     · have g := of_decide_eq_true g
       have e1 : IntKind.i64.wrap ((x.k : Int) + 1) = ((x.k + 1 : Nat) : Int) := by rw [Qaf ⟨by omega, by omega⟩]; omega
       have hd := Qjd (n := n') (k := x.k) (by omega) fun i => [SV.v (Value.int .i64 (Qch (row i))), SV.v (Value.bool (Qfc (row i)))]
       rw [hd] at x3
       rw [e1, Int.toNat_natCast, Nat.zero_add]
       have x3' : Qpf (-1) (if Qeo (Qaa (Qch (row x.k))) x.a * -1 < 0 then Qaa (Qch (row x.k)) else x.a) (Qak (n' - (x.k + 1)) fun i => [SV.v (Value.int .i64 (Qch (row (x.k + 1 + i)))), SV.v (Value.bool (Qfc (row (x.k + 1 + i))))]) = Qfm (-1) (Qak n' fun i => [SV.v (Value.int .i64 (Qch (row i))), SV.v (Value.bool (Qfc (row i)))]) := x3
       simp only [Q3e] at x3'
       refine ⟨⟨by omega, by omega⟩, Qad (fun hf => ?_) fun hf => ?_⟩
       · rw [if_pos (of_decide_eq_true hf)] at x3'
         exact ⟨⟨x.k + 1, Qaa (Qch (row x.k))⟩, ⟨⟨⟨by show 1 ≤ x.k + 1; omega, by show x.k + 1 ≤ n'; omega⟩, x3'⟩, ⟨rfl, rfl⟩, trivial⟩, by show n' - (x.k + 1) < _; omega⟩
       · rw [if_neg (of_decide_eq_false hf)] at x3'
         exact ⟨⟨x.k + 1, x.a⟩, ⟨⟨⟨by show 1 ≤ x.k + 1; omega, by show x.k + 1 ≤ n'; omega⟩, x3'⟩, ⟨rfl, rfl⟩, trivial⟩, by show n' - (x.k + 1) < _; omega⟩
     · have g := of_decide_eq_false g
       have e : x.k = n' := by omega
       rw [e, Nat.sub_self, Qjc] at x3
       exact ⟨⟨Qjg _ _ _, rfl, by omega⟩, Qbz x3 (by simp only [Nat.zero_add])⟩
theorem Qmn {r : List SV} (h : Qf4 r) : isN r ∧ I64 (Qch r) := by
 unfold Qf4 at h
 split at h
 · exact ⟨trivial, h⟩
 · exact h.elim
theorem Qt9 (a b : List (List SV)) : Qgc (a ++ b) = Qgc a + Qgc b := by
 induction a with
 | nil => simp [Qgc]
 | cons r t ih => simp only [List.cons_append, Qgc, ih]; omega
theorem Q0q (n : Nat) (row : Nat → List SV) : Qgc (Qak (n + 1) row) = Qgc (Qak n row) + Qaa (Qch (row n)) := by
 rw [Qft, Qt9]; simp [Qgc]
theorem Zhv (n1 : Bool) (m1 : Int) (n2 : Bool) (m2 : Int) : sv (plZ n1 m1 n2 m2) (plM n1 m1 n2 m2) = sv n1 m1 + sv n2 m2 := by
 unfold plZ plM
 by_cases hn : n1 = n2
 · subst hn
   rw [if_pos rfl, if_pos rfl]
   unfold sv; cases n1 <;> simp <;> omega
 · rw [if_neg hn, if_neg hn]
   by_cases hm : m1 < m2
   · rw [if_pos hm]
     unfold sv Qag
     cases n1 <;> cases n2 <;> simp_all <;> (repeat' split) <;> omega
   · rw [if_neg hm]
     unfold sv Qag
     by_cases he : m1 = m2
     · subst he
       cases n1 <;> cases n2 <;> simp_all <;> omega
     · cases n1 <;> cases n2 <;> simp_all <;> (repeat' split) <;> omega
theorem Zhw {n1 n2 : Bool} {m1 m2 : Int} (h1 : 0 ≤ m1) (h2 : 0 ≤ m2) : plM n1 m1 n2 m2 ≤ m1 + m2 := by unfold plM Qag; split <;> (try split) <;> omega
theorem Qsl {n : Nat} {row : Nat → List SV} {x : KE} (h : invS n row x) (hx : x.k < n) (hv : I64 (Qaa (Qch (row x.k)))) {b : Bool} (hb : sv b (plM x.n x.m (decide (Qaa (Qch (row x.k)) < 0)) (Qag (Qaa (Qch (row x.k))))) = sv x.n x.m + Qaa (Qch (row x.k))) : invS n row ⟨x.k + 1, b, plM x.n x.m (decide (Qaa (Qch (row x.k)) < 0)) (Qag (Qaa (Qch (row x.k))))⟩ := by
 have i0 := Qb2 (Qaa (Qch (row x.k)))
 have i1 := Qfy hv
 refine ⟨hx, Qx5 h.m0 i0, ?_, ?_⟩
 · have := Zhw (n1 := x.n) (n2 := decide (Qaa (Qch (row x.k)) < 0)) h.m0 i0
   have := h.m1
   show plM _ _ _ _ ≤ 9223372036854775808 * ((x.k + 1 : Nat) : Int)
   omega
 · show sv b _ = Qgc (Qak (x.k + 1) row)
   rw [hb, Q0q, h.sum]
theorem Q3z : ∀ f g, Zj3 f = some g → g.ok Tryz.prog f := Qab (Qab Qde (Qfa Tryz.func151 (by kernel_rfl) (by kernel_rfl) Qob)) (Qdc Tryz.func326 (by kernel_rfl) (by kernel_rfl) Ql0)
theorem Qrn : Qcg Tryz.prog 74 Q86 := Qb4 hm Q3z Tryz.func74 (Λ := fun args bs => match args, bs with | [.sl 0 2 0 n _], [⟨2, _, row⟩] => Ze6 n (Qel (fun i => Qch (row i)) fun i => Qfc (row i)) | _, _ => Qax) fun args bs p x h hp => by
 unfold Q86 at h
 split at h <;> try (cases h; done)
 rename_i n c n' row
 cases h
 obtain ⟨h0, rfl, h3⟩ := hp _ rfl
 have h0 := okAll_rows.1 h0
 have h1 : ∀ i, i < n' → isN (row i) := fun i hi => (Qmn (h0 i hi)).1
 have hv : ∀ i, i < n' → I64 (Qch (row i)) := fun i hi => (Qmn (h0 i hi)).2
 refine ⟨rfl, [⟨2, n', Qel (fun i => Qch (row i)) fun i => Qfc (row i)⟩], ⟨⟨rfl, rfl, fun i hi => Qfw (h1 i hi)⟩, trivial⟩, ?_⟩
 refine Eq.mpr (Zkl n' n' c (fun i => Qch (row i)) (fun i => Qfc (row i)) _) ?_
 rw [Qgr h1]
 refine ⟨⟨Qjg _ _ _, rfl, h3⟩, ⟨⟨0, false, 0⟩, ⟨Nat.zero_le _, by decide, by show (0 : Int) ≤ _; simp, rfl⟩, rfl, rfl, Nat.le_refl _, fun i hi => rfl⟩, fun x hx => ?_⟩
 have x1 := hx.le
 have x2 := hx.m0
 have x3 := hx.m1
 refine Qad (fun g => ?_) fun g => ?_
 · have g := of_decide_eq_true g
   have e1 : IntKind.i64.wrap ((x.k : Int) + 1) = ((x.k + 1 : Nat) : Int) := by rw [Qaf ⟨by omega, by omega⟩]; omega
   rw [e1, Int.toNat_natCast, Nat.zero_add, Nat.zero_add, Qdk, Q99]
   have vv : I64 (Qaa (Qch (row x.k))) := Qcd (hv x.k (by omega))
   have hs := Zc5 x.n x.m (decide (Qaa (Qch (row x.k)) < 0)) (Qag (Qaa (Qch (row x.k))))
   rw [Qxq] at hs
   have hle := Qfy vv
   exact ⟨⟨by omega, by omega⟩, vv, ⟨⟨Qb7 _, Qcn x2 (by omega)⟩, ⟨Qds vv, by decide, by decide⟩, by show x.m + Qag (Qaa (Qch (row x.k))) < _; omega⟩, ⟨_, ⟨Qsl hx (by omega) vv hs, rfl, rfl, Nat.le_refl _, fun i hi => rfl⟩, by show n' - (x.k + 1) < _; omega⟩⟩
 · have g := of_decide_eq_false g
   have e : x.k = n' := by omega
   have hs := hx.sum
   rw [e] at hs
   have hs' : sv x.n x.m = Qgc (Qak n' fun i => [SV.v (Value.int .i64 (Qch (row i))), SV.v (Value.bool (Qfc (row i)))]) := hs
   rw [Qdk]
   refine ⟨⟨Qb7 _, Qcn x2 (by omega)⟩, Qbz ?_ ?_⟩
   · rw [Qha _ x2, hs']
   · rw [Qhb x.n _ x2, hs']; simp only [Nat.zero_add]
theorem Qs2 : Qcg Tryz.prog 303 Q86 := Qb4 hm Q3z Tryz.func303 (Λ := fun args bs => match args, bs with | [.sl 0 2 0 n _], [⟨2, _, row⟩] => Q8q n (Qel (fun i => Qch (row i)) fun i => Qfc (row i)) | _, _ => Qax) fun args bs p x h hp => by
 unfold Q86 at h
 split at h <;> try (cases h; done)
 rename_i n c n' row
 cases h
 obtain ⟨h0, rfl, h3⟩ := hp _ rfl
 have h0 := okAll_rows.1 h0
 have h1 : ∀ i, i < n' → isN (row i) := fun i hi => (Qmn (h0 i hi)).1
 have hv : ∀ i, i < n' → I64 (Qch (row i)) := fun i hi => (Qmn (h0 i hi)).2
 refine ⟨rfl, [⟨2, n', Qel (fun i => Qch (row i)) fun i => Qfc (row i)⟩], ⟨⟨rfl, rfl, fun i hi => Qfw (h1 i hi)⟩, trivial⟩, ?_⟩
 refine Eq.mpr (Zfx n' n' c (fun i => Qch (row i)) (fun i => Qfc (row i)) _) ?_
 rw [Qgr h1]
 refine ⟨⟨⟨0, false, 0⟩, ⟨Nat.zero_le _, by decide, by show (0 : Int) ≤ _; simp, rfl⟩, rfl, rfl, Nat.le_refl _, fun i hi => rfl⟩, fun x hx => ?_⟩
 have x1 := hx.le
 have x2 := hx.m0
 have x3 := hx.m1
 refine Qad (fun g => ?_) fun g => ?_
 · have g := of_decide_eq_true g
   have e1 : IntKind.i64.wrap ((x.k : Int) + 1) = ((x.k + 1 : Nat) : Int) := by rw [Qaf ⟨by omega, by omega⟩]; omega
   rw [e1, Int.toNat_natCast, Nat.zero_add, Qdk, Q99]
   have vv : I64 (Qaa (Qch (row x.k))) := Qcd (hv x.k (by omega))
   have hs := Zhv x.n x.m (decide (Qaa (Qch (row x.k)) < 0)) (Qag (Qaa (Qch (row x.k))))
   rw [Qxq] at hs
   have hle := Qfy vv
   exact ⟨⟨by omega, by omega⟩, vv, ⟨⟨Qb7 _, Qcn x2 (by omega)⟩, ⟨Qds vv, by decide, by decide⟩, by show x.m + Qag (Qaa (Qch (row x.k))) < _; omega⟩, ⟨_, ⟨Qsl hx (by omega) vv hs, rfl, rfl, Nat.le_refl _, fun i hi => rfl⟩, by show n' - (x.k + 1) < _; omega⟩⟩
 · have g := of_decide_eq_false g
   have e : x.k = n' := by omega
   have hs := hx.sum
   rw [e] at hs
   have hs' : sv x.n x.m = Qgc (Qak n' fun i => [SV.v (Value.int .i64 (Qch (row i))), SV.v (Value.bool (Qfc (row i)))]) := hs
   rw [Qdk]
   refine ⟨⟨Qjg _ _ _, rfl, by omega⟩, ⟨Qb7 _, Qcn x2 (by omega)⟩, Qbz ?_ ?_⟩
   · rw [Qha _ x2, hs']
   · rw [Qhb x.n _ x2, hs']; simp only [Nat.zero_add]
def Zex : List SV → Option (Option Prop × SV)
 | [.agg [.v (.int .i64 v), .v (.bool f)], .agg [.v (.int .i64 u), .v (.bool g)]] => some (some (I64 v ∧ I64 u), Qcy (Qas (Qaa v + Qaa u)) (Qc9 (Qaa v + Qaa u) (Qat v f || Qat u g)))
 | _ => none
def sSub : List SV → Option (Option Prop × SV)
 | [.agg [.v (.int .i64 v), .v (.bool f)], .agg [.v (.int .i64 u), .v (.bool g)]] => some (some (I64 v ∧ I64 u), Qcy (Qas (Qaa v - Qaa u)) (Qc9 (Qaa v - Qaa u) (Qat v f || Qat u g)))
 | _ => none
def Qlr (a b : Int) : Int := if b < a then b else a
def Qnm (a b : Int) : Int := if a < b then b else a
def Qm8 : List SV → Option (Option Prop × SV)
 | [.agg [.v (.int .i64 v), .v (.bool f)], .agg [.v (.int .i64 l), .v (.bool g)], .agg [.v (.int .i64 h), .v (.bool k)]] => some (some (I64 v ∧ I64 l ∧ I64 h), Qcy (Qnm (Qaa l) (Qlr (Qaa v) (Qaa h))) (Qat l g || (Qat v f || Qat h k)))
 | _ => none
def Zek : Qb8 := Qah (Qah (Qah (Qah (Qah (Qah (Qah (Qah ΓC 74 (Qc7 Q86)) 303 (Qc7 Q86)) 224 (Qc7 (Qe7 1))) 307 (Qc7 (Qe7 1))) 142 (Qc7 (Qe7 (-1)))) 306 (Qc7 (Qe7 (-1)))) 155 (Qaj Q87)) 235 (Qaj Q87)
theorem Zlg (v : Int) (f : Bool) (u : Int) (g : Bool) (R : SV→Prop) : (Qav Tryz.prog Zek Qax Tryz.f205 [Qcy v f,Qcy u g] R) = ((((Qf4 [SV.v (.int .i64 v),SV.v (.bool f)])∧((Qf4 [SV.v (.int .i64 u),SV.v (.bool g)])∧True))∧(((2 : Nat) = 2)∧((2 : Nat) < 1099511627776)))∧(R (SV.agg [(SV.v (.int .i64 (Qas (Qgc [[SV.v (.int .i64 v),SV.v (.bool f)],[SV.v (.int .i64 u),SV.v (.bool g)]])))),(SV.v (.bool (Qc9 (Qgc [[SV.v (.int .i64 v),SV.v (.bool f)],[SV.v (.int .i64 u),SV.v (.bool g)]]) (Qfb [[SV.v (.int .i64 v),SV.v (.bool f)],[SV.v (.int .i64 u),SV.v (.bool g)]]))))]))):=by kernel_rfl
theorem Zga (v : Int) (f : Bool) (u : Int) (g : Bool) (R : SV→Prop) : (Qav Tryz.prog Zek Qax Tryz.f233 [Qcy v f,Qcy u g] R) = ((((Qf4 [SV.v (.int .i64 v),SV.v (.bool f)])∧((Qf4 [SV.v (.int .i64 u),SV.v (.bool g)])∧True))∧(((2 : Nat) = 2)∧((2 : Nat) < 1099511627776)))∧(R (SV.agg [(SV.v (.int .i64 (Qas (Qgc [[SV.v (.int .i64 v),SV.v (.bool f)],[SV.v (.int .i64 u),SV.v (.bool g)]])))),(SV.v (.bool (Qc9 (Qgc [[SV.v (.int .i64 v),SV.v (.bool f)],[SV.v (.int .i64 u),SV.v (.bool g)]]) (Qfb [[SV.v (.int .i64 v),SV.v (.bool f)],[SV.v (.int .i64 u),SV.v (.bool g)]]))))]))):=by kernel_rfl
theorem Zkm (v : Int) (f : Bool) (u : Int) (g : Bool) (R : SV→Prop) : (Qav Tryz.prog Zek Qax Tryz.f95 [Qcy v f,Qcy u g] R) = ((I64 u)∧((((Qf4 [SV.v (.int .i64 v),SV.v (.bool f)])∧((Qf4 [SV.v (.int .i64 (-Qaa u)),SV.v (.bool (Qat u g))])∧True))∧(((2 : Nat) = 2)∧((2 : Nat) < 1099511627776)))∧(R (SV.agg [(SV.v (.int .i64 (Qas (Qgc [[SV.v (.int .i64 v),SV.v (.bool f)],[SV.v (.int .i64 (-Qaa u)),SV.v (.bool (Qat u g))]])))),(SV.v (.bool (Qc9 (Qgc [[SV.v (.int .i64 v),SV.v (.bool f)],[SV.v (.int .i64 (-Qaa u)),SV.v (.bool (Qat u g))]]) (Qfb [[SV.v (.int .i64 v),SV.v (.bool f)],[SV.v (.int .i64 (-Qaa u)),SV.v (.bool (Qat u g))]]))))])))):=by kernel_rfl
theorem Zby (v : Int) (f : Bool) (u : Int) (g : Bool) (h : Int) (k : Bool) (R : SV→Prop) : (Qav Tryz.prog Zek Qax Tryz.f150 [Qcy v f,Qcy u g,Qcy h k] R) = ((((isN [SV.v (.int .i64 v),SV.v (.bool f)])∧((isN [SV.v (.int .i64 h),SV.v (.bool k)])∧True))∧(((2 : Nat) = 2)∧((2 : Nat) < 1099511627776)))∧((((isN [SV.v (.int .i64 u),SV.v (.bool g)])∧((isN [SV.v (.int .i64 (Qfm 1 [[SV.v (.int .i64 v),SV.v (.bool f)],[SV.v (.int .i64 h),SV.v (.bool k)]])),SV.v (.bool (Qfb [[SV.v (.int .i64 v),SV.v (.bool f)],[SV.v (.int .i64 h),SV.v (.bool k)]]))])∧True))∧(((2 : Nat) = 2)∧((2 : Nat) < 1099511627776)))∧(R (SV.agg [(SV.v (.int .i64 (Qfm (-1) [[SV.v (.int .i64 u),SV.v (.bool g)],[SV.v (.int .i64 (Qfm 1 [[SV.v (.int .i64 v),SV.v (.bool f)],[SV.v (.int .i64 h),SV.v (.bool k)]])),SV.v (.bool (Qfb [[SV.v (.int .i64 v),SV.v (.bool f)],[SV.v (.int .i64 h),SV.v (.bool k)]]))]]))),(SV.v (.bool (Qfb [[SV.v (.int .i64 u),SV.v (.bool g)],[SV.v (.int .i64 (Qfm 1 [[SV.v (.int .i64 v),SV.v (.bool f)],[SV.v (.int .i64 h),SV.v (.bool k)]])),SV.v (.bool (Qfb [[SV.v (.int .i64 v),SV.v (.bool f)],[SV.v (.int .i64 h),SV.v (.bool k)]]))]])))])))):=by kernel_rfl
theorem Q5v (v : Int) (f : Bool) (u : Int) (g : Bool) (h : Int) (k : Bool) (R : SV→Prop) : (Qav Tryz.prog Zek Qax Tryz.f237 [Qcy v f,Qcy u g,Qcy h k] R) = ((((isN [SV.v (.int .i64 v),SV.v (.bool f)])∧((isN [SV.v (.int .i64 h),SV.v (.bool k)])∧True))∧(((2 : Nat) = 2)∧((2 : Nat) < 1099511627776)))∧((((isN [SV.v (.int .i64 u),SV.v (.bool g)])∧((isN [SV.v (.int .i64 (Qfm 1 [[SV.v (.int .i64 v),SV.v (.bool f)],[SV.v (.int .i64 h),SV.v (.bool k)]])),SV.v (.bool (Qfb [[SV.v (.int .i64 v),SV.v (.bool f)],[SV.v (.int .i64 h),SV.v (.bool k)]]))])∧True))∧(((2 : Nat) = 2)∧((2 : Nat) < 1099511627776)))∧(R (SV.agg [(SV.v (.int .i64 (Qfm (-1) [[SV.v (.int .i64 u),SV.v (.bool g)],[SV.v (.int .i64 (Qfm 1 [[SV.v (.int .i64 v),SV.v (.bool f)],[SV.v (.int .i64 h),SV.v (.bool k)]])),SV.v (.bool (Qfb [[SV.v (.int .i64 v),SV.v (.bool f)],[SV.v (.int .i64 h),SV.v (.bool k)]]))]]))),(SV.v (.bool (Qfb [[SV.v (.int .i64 u),SV.v (.bool g)],[SV.v (.int .i64 (Qfm 1 [[SV.v (.int .i64 v),SV.v (.bool f)],[SV.v (.int .i64 h),SV.v (.bool k)]])),SV.v (.bool (Qfb [[SV.v (.int .i64 v),SV.v (.bool f)],[SV.v (.int .i64 h),SV.v (.bool k)]]))]])))])))):=by kernel_rfl
theorem Qmt : ∀ f g, Zek f = some g → g.ok Tryz.prog f := Qab (Qab (Qab (Qab (Qab (Qab (Qab (Qab Qde (Qdc Tryz.func74 (by kernel_rfl) (by kernel_rfl) Qrn)) (Qdc Tryz.func303 (by kernel_rfl) (by kernel_rfl) Qs2))
 (Qdc Tryz.func224 (by kernel_rfl) (by kernel_rfl) Q77)) (Qdc Tryz.func307 (by kernel_rfl) (by kernel_rfl) Q37)) (Qdc Tryz.func142 (by kernel_rfl) (by kernel_rfl) Q78)) (Qdc Tryz.func306 (by kernel_rfl) (by kernel_rfl) Q38))
 (Qal Tryz.func155 (by kernel_rfl) (by kernel_rfl) Qrp)) (Qal Tryz.func235 (by kernel_rfl) (by kernel_rfl) Qod)
theorem Zlj (v u : Int) (f g : Bool) : Qgc [[SV.v (Value.int .i64 v), SV.v (Value.bool f)], [SV.v (Value.int .i64 u), SV.v (Value.bool g)]] = Qaa v + Qaa u := by simp [Qgc, Qch]
theorem Zd9 (v u : Int) (f g : Bool) : Qfb [[SV.v (Value.int .i64 v), SV.v (Value.bool f)], [SV.v (Value.int .i64 u), SV.v (Value.bool g)]] = (Qat v f || Qat u g) := by simp [Qfb, Qch, Qfc]
theorem Q60 (o v u : Int) (f g : Bool) : Qfm o [[SV.v (Value.int .i64 v), SV.v (Value.bool f)], [SV.v (Value.int .i64 u), SV.v (Value.bool g)]] = if Qeo (Qaa u) (Qaa v) * o < 0 then Qaa u else Qaa v := rfl
theorem Q9i (a b : Int) : (if Qeo b a * 1 < 0 then b else a) = Qlr a b := by unfold Qlr; simp only [Q9x]
theorem Q9j (a b : Int) : (if Qeo b a * -1 < 0 then b else a) = Qnm a b := by unfold Qnm; simp only [Q3e]
theorem Q82 {v : Int} (h : I64 v) : Qaa (-Qaa v) = -Qaa v ∧ I64 (-Qaa v) := by
 have := Qei h
 exact ⟨Qcf (by omega), by omega, by omega⟩
theorem Zhe {v : Int} (h : I64 v) (f : Bool) : Qat (-Qaa v) f = f := by
 have := Qei h
 exact Qcr (by omega)
theorem Q9h {a b l h : Int} (h1 : l ≤ a ∧ a ≤ h) (h2 : l ≤ b ∧ b ≤ h) : l ≤ Qlr a b ∧ Qlr a b ≤ h := by unfold Qlr; split <;> omega
theorem Q8l : Qai Tryz.prog 205 Zex := Qao hm Qmt Tryz.func205 (Λ := fun _ => Qax) fun args p x h hp => by
 unfold Zex at h
 split at h <;> try (cases h; done)
 rename_i v f u g
 cases h
 obtain ⟨h1, h2⟩ := hp _ rfl
 refine ⟨rfl, rfl, ?_⟩
 refine Eq.mpr (Zlg v f u g _) ?_
 rw [Zlj, Zd9]
 exact ⟨⟨⟨h1, h2, trivial⟩, rfl, by decide⟩, rfl⟩
theorem Q7u : Qai Tryz.prog 95 sSub := Qao hm Qmt Tryz.func95 (Λ := fun _ => Qax) fun args p x h hp => by
 unfold sSub at h
 split at h <;> try (cases h; done)
 rename_i v f u g
 cases h
 obtain ⟨h1, h2⟩ := hp _ rfl
 refine ⟨rfl, rfl, ?_⟩
 refine Eq.mpr (Zkm v f u g _) ?_
 rw [Zlj, Zd9, (Q82 h2).1, Zhe h2]
 exact ⟨h2, ⟨⟨h1, (Q82 h2).2, trivial⟩, rfl, by decide⟩, rfl⟩
theorem Qpx : Qai Tryz.prog 150 Qm8 := Qao hm Qmt Tryz.func150 (Λ := fun _ => Qax) fun args p x h hp => by
 unfold Qm8 at h
 split at h <;> try (cases h; done)
 rename_i v f l g h k
 cases h
 obtain ⟨h1, h2, h3⟩ := hp _ rfl
 refine ⟨rfl, rfl, ?_⟩
 refine Eq.mpr (Zby v f l g h k _) ?_
 rw [Q60, Q60, Zd9, Zd9, Q9i]
 have hm := Q9h (Qei h1) (Qei h3)
 rw [Qcf hm.1, Qcr hm.1, Q9j]
 exact ⟨⟨⟨trivial, trivial, trivial⟩, rfl, by decide⟩, ⟨⟨trivial, trivial, trivial⟩, rfl, by decide⟩, rfl⟩
theorem Q4d : Qai Tryz.prog 233 Zex := Qao hm Qmt Tryz.func233 (Λ := fun _ => Qax) fun args p x h hp => by
 unfold Zex at h
 split at h <;> try (cases h; done)
 rename_i v f u g
 cases h
 obtain ⟨h1, h2⟩ := hp _ rfl
 refine ⟨rfl, rfl, ?_⟩
 refine Eq.mpr (Zga v f u g _) ?_
 rw [Zlj, Zd9]
 exact ⟨⟨⟨h1, h2, trivial⟩, rfl, by decide⟩, rfl⟩
theorem Qvj : Qai Tryz.prog 237 Qm8 := Qao hm Qmt Tryz.func237 (Λ := fun _ => Qax) fun args p x h hp => by
 unfold Qm8 at h
 split at h <;> try (cases h; done)
 rename_i v f l g h k
 cases h
 obtain ⟨h1, h2, h3⟩ := hp _ rfl
 refine ⟨rfl, rfl, ?_⟩
 refine Eq.mpr (Q5v v f l g h k _) ?_
 rw [Q60, Q60, Zd9, Zd9, Q9i]
 have hm := Q9h (Qei h1) (Qei h3)
 rw [Qcf hm.1, Qcr hm.1, Q9j]
 exact ⟨⟨⟨trivial, trivial, trivial⟩, rfl, by decide⟩, ⟨⟨trivial, trivial, trivial⟩, rfl, by decide⟩, rfl⟩
end Go.Proofs.YteekigmbopdfjaaGreat
end
section
namespace Go.Proofs.YteekigmbopdfjaaGreat
open Go.SE
def rt : Nat → Int → Int → Int
 | 0, r, _ => r
 | k + 1, r, m => if (r + 2 ^ k) * (r + 2 ^ k) ≤ m then rt k (r + 2 ^ k) m else rt k r m
def isq (m : Int) : Int := rt 64 0 m
theorem Ql1 {a b : Int} (h0 : 0 ≤ a) (h : a ≤ b) : a * a ≤ b * b := Int.mul_le_mul h h h0 (by omega)
theorem Zb3 {a b : Int} (h0 : 0 ≤ a) (h : a < b) : a * a < b * b := by
 have h1 := Ql1 (a := a + 1) (b := b) (by omega) (by omega)
 have e : (a + 1) * (a + 1) = a * a + 2 * a + 1 := by rw [Int.add_mul, Int.mul_add]; omega
 omega
theorem Qmb {a b : Int} (h0 : 0 ≤ b) (h : a * a < b * b) : a < b := by
 rcases Int.lt_or_le a b with h1 | h1
 · exact h1
 · have := Ql1 h0 h1; omega
theorem Qv0 {a b : Int} (h0 : 0 ≤ b) (h : a * a ≤ b * b) : a ≤ b := by
 rcases Int.lt_or_le b a with h1 | h1
 · have := Zb3 h0 h1; omega
 · exact h1
theorem Qt7 (k : Nat) : (0 : Int) < 2 ^ k := by exact_mod_cast Nat.two_pow_pos k
theorem Zcy : ∀ (k : Nat) (r m : Int), 0 ≤ r → r * r ≤ m → m < (r + 2 ^ k) * (r + 2 ^ k) → r ≤ rt k r m ∧ rt k r m < r + 2 ^ k ∧ rt k r m * rt k r m ≤ m ∧ m < (rt k r m + 1) * (rt k r m + 1)
 | 0, r, m, _, h1, h2 => by
   rw [Int.pow_zero] at h2
   exact ⟨Int.le_refl _, by rw [Int.pow_zero]; show r < r + 1; omega, h1, h2⟩
 | k + 1, r, m, h0, h1, h2 => by
   have hp := Qt7 k
   have e : r + 2 ^ (k + 1) = r + 2 ^ k + 2 ^ k := by rw [Int.pow_succ]; omega
   unfold rt
   by_cases h : (r + 2 ^ k) * (r + 2 ^ k) ≤ m
   · rw [if_pos h]
     obtain ⟨a, b, c, d⟩ := Zcy k (r + 2 ^ k) m (by omega) h (by rw [← e]; exact h2)
     exact ⟨by omega, by omega, c, d⟩
   · rw [if_neg h]
     obtain ⟨a, b, c, d⟩ := Zcy k r m h0 h1 (by omega)
     exact ⟨a, by omega, c, d⟩
theorem Qnr {m : Int} (h0 : 0 ≤ m) (h1 : m < 340282366920938463463374607431768211456) : 0 ≤ isq m ∧ isq m < 18446744073709551616 ∧ isq m * isq m ≤ m ∧ m < (isq m + 1) * (isq m + 1) := by
 have := Zcy 64 0 m (Int.le_refl _) (by simpa using h0) (by show m < (0 + 2 ^ 64) * (0 + 2 ^ 64); exact Int.lt_of_lt_of_le h1 (by decide))
 obtain ⟨a, b, c, d⟩ := this
 exact ⟨a, by have e : (0 : Int) + 2 ^ 64 = 18446744073709551616 := by decide
              rw [e] at b; exact b, c, d⟩
theorem isq_eq {m r : Int} (h0 : 0 ≤ m) (h1 : m < 340282366920938463463374607431768211456) (hr : 0 ≤ r) (h2 : r * r ≤ m) (h3 : m < (r + 1) * (r + 1)) : r = isq m := by
 obtain ⟨a, b, c, d⟩ := Qnr h0 h1
 have x := Qmb (a := isq m) (b := r + 1) (by omega) (by omega)
 have y := Qmb (a := r) (b := isq m + 1) (by omega) (by omega)
 omega
theorem Qo7 {m r : Int} (h0 : 0 ≤ m) (h1 : m < 340282366920938463463374607431768211456) (hr : isq m ≤ r) (h : r * r ≤ m) : r = isq m := by
 obtain ⟨a, b, c, d⟩ := Qnr h0 h1
 have := Qmb (a := r) (b := isq m + 1) (by omega) (by omega)
 omega
theorem Quq {m r : Int} (h0 : 0 ≤ m) (h1 : m < 340282366920938463463374607431768211456) (hr : 0 < r) : isq m ≤ (r + m / r) / 2 := by
 obtain ⟨a, b, c, d⟩ := Qnr h0 h1
 have hq : m < (m / r + 1) * r := Int.lt_ediv_add_one_mul_self m hr
 generalize m / r = q at *
 generalize isq m = s at *
 rcases Int.lt_or_le (r + q) (2 * s) with h | h
 · exfalso
   have e1 : (q + 1) * r ≤ (2 * s - r) * r := Int.mul_le_mul_of_nonneg_right (by omega) (by omega)
   have e2 : 0 ≤ (s - r) * (s - r) := by
     rcases Int.le_total 0 (s - r) with h | h
     · exact Int.mul_nonneg h h
     · have := Int.mul_nonneg (show 0 ≤ -(s - r) by omega) (show 0 ≤ -(s - r) by omega); rw [Int.neg_mul_neg] at this; exact this
   have e3 : (s - r) * (s - r) = s * s - 2 * s * r + r * r := by rw [Int.sub_mul, Int.mul_sub, Int.mul_sub, Int.mul_comm r s, Int.mul_assoc 2 s r]; omega
   have e4 : (2 * s - r) * r = 2 * s * r - r * r := Int.sub_mul _ _ _
   omega
 · omega
theorem Q6p {m : Int} {L h : Nat} (h0 : 0 ≤ m) (h1 : m < 2 ^ L) (h2 : L ≤ 2 * h) (h3 : m < 340282366920938463463374607431768211456) : isq m ≤ 2 ^ h := by
 obtain ⟨a, b, c, d⟩ := Qnr h0 h3
 have e : (2 : Int) ^ L ≤ 2 ^ h * 2 ^ h := by
   rw [← Int.pow_add]
   exact_mod_cast Nat.pow_le_pow_right (by decide) (by omega)
 have := Qmb (a := isq m) (b := 2 ^ h) (Int.le_of_lt (Qt7 h)) (by omega)
 omega
end Go.Proofs.YteekigmbopdfjaaGreat
end
