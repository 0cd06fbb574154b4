/-
  What the proof uses, part 10.
-/
import Derived.Test.YtlcfnlhognegcaaRows
import Derived.ProofKit
import Derived.Test.YtlcfnlhognegcaaZc9
set_option maxRecDepth 100000
set_option linter.unusedSimpArgs false
set_option linter.unusedVariables false

section
section
namespace Go.Proofs.Ytlcfnlhognegcaa
open Go.ChangeShapes Go.WideShapes Go.ChangeAt Go.RowKit
theorem Try.own : ownKnob Try.prog.godebug = none := by kernel_rfl
theorem Try.laidOut : laidOutB Try.prog = true := by kernel_rfl
section
variable {H : Type} {enc : TypeId × Value → H}
theorem trodAll_below {P : Program} (hl : laidOutB P = true) {W W' : World} (hb : Below W.heap.size W W') :
    ∀ {ts : List TypeId} {vs : List Value} {ds : List (DataW H)} {ps : List MemPlace}, (∀ t ∈ ts, P.readableRec t = true ∧ t < P.types.size) → DataW.TrodAll enc P W 0 (fun _ => true) true ts vs ds ps →
      (∀ x ∈ ps, x.block < W.heap.size) → DataW.TrodAll enc P W' 0 (fun b => decide (b < W.heap.size)) true ts vs ds ps
  | [], [], [], _, _, h, _ => h
  | [], [], _ :: _, _, _, h, _ => h.elim
  | [], _ :: _, _, _, _, h, _ => h.elim
  | _ :: _, [], _, _, _, h, _ => h.elim
  | _ :: _, _ :: _, [], _, _, h, _ => h.elim
  | t :: ts, v :: vs, d :: ds, ps, ht, h, hlt => by
    obtain ⟨p, q, h1, h2, rfl⟩ := h
    have hd := ht t (List.mem_cons_self ..)
    exact ⟨p, q, Below.trod hl hd.1 hd.2 h1 hb fun x hx => hlt x (List.mem_append_left _ hx), trodAll_below hl hb (fun t' h' => ht t' (List.mem_cons_of_mem _ h')) h2 fun x hx => hlt x (List.mem_append_right _ hx), rfl⟩
theorem trodAll_len {P : Program} {W : World} {b : Nat} {sp : Nat → Bool} {hd : Bool} : ∀ {ts : List TypeId} {vs : List Value} {ds : List (DataW H)} {ps : List MemPlace}, DataW.TrodAll enc P W b sp hd ts vs ds ps → ds.length = ts.length
  | [], [], [], _, _ => rfl
  | [], [], _ :: _, _, h => h.elim
  | [], _ :: _, _, _, h => h.elim
  | _ :: _, [], _, _, h => h.elim
  | _ :: _, _ :: _, [], _, h => h.elim
  | _ :: _, _ :: _, _ :: _, _, ⟨_, _, _, h2, _⟩ => by simp [trodAll_len h2]
theorem law_frame {f : FuncId} {fn : Func} {s : ChangeSpec} {apart fresh handsOn : Bool} (hn : s.vars = []) (hr : fn.resultTypes = #[4])
    (hts : (fn.params.toList.all fun t => Try.prog.readableRec t && decide (t < Try.prog.types.size)) = true)
    (hspec : ∀ ds : List (DataW H), ds.length = fn.params.size → s.fn H ds = { results := [.lit (.bool true)], args := ds })
    (hc : ∀ (W : World) (base : Nat) (args : Array Value) (ds : List (DataW H)) (ps : List MemPlace), (∀ (j : Nat) t v, fn.params[j]? = some t → args[j]? = some v → Value.okWide Try.prog W .any base t v) →
      DataW.TrodAll enc Try.prog W 0 (fun _ => true) true fn.params.toList args.toList ds ps → Calls Try.prog f args W fun e W' => e = .returned (.bool true) ∧ Below W.heap.size W W')
    (W : World) (base : Nat) (args : Array Value) (ds gs : List (DataW H)) (before : List MemPlace)
    (hval : ∀ (j : Nat) t v, fn.params[j]? = some t → args[j]? = some v → Value.okWide Try.prog W .any base t v)
    (hW : DataW.Whole enc Try.prog fn.params.toList s.vars apart W args.toList ds gs before) :
    Calls Try.prog f args W fun e W' => ∃ v, e = .returned v ∧ s.post enc Try.prog fn apart fresh handsOn false W args v W' := by
  have hW' := hW
  obtain ⟨p, q, hA, hV, rfl, hfz, hnd⟩ := hW
  rw [hn] at hV
  obtain ⟨rfl, rfl⟩ := trodVars_none hV
  have hlen : ds.length = fn.params.size := by rw [trodAll_len hA, Array.length_toList]
  have hlt : ∀ x ∈ p, x.block < W.heap.size := fun x hx => by simpa using hW'.lt x (by simpa using hx)
  refine (hc W base args ds p hval hA).mono fun e W' ⟨he, hb⟩ => ⟨.bool true, he, ds, [], p ++ [], [], p, [], hW', ?_, ?_, ?_, hb.frame _, fun h => by cases h⟩
  · rw [hr, List.append_nil, hspec ds hlen]
    exact trodAll_mk1 (shut_bool Try.underlying4 true)
  · rw [List.append_nil, hspec ds hlen]
    refine trodAll_below Try.laidOut hb (fun t ht => ?_) hA hlt
    have := List.all_eq_true.1 hts t ht
    simp only [Bool.and_eq_true, decide_eq_true_eq] at this
    exact this
  · rw [hn, List.append_nil, hspec ds hlen]
    exact rfl
theorem wf_i64 {n : Int} (hw : (Lit.int .i64 n).wf = true) : I64 n := by
  simp only [Lit.wf, Bool.and_eq_true, decide_eq_true_eq] at hw
  have e1 : IntKind.i64.min = -9223372036854775808 := by kernel_rfl
  have e2 : IntKind.i64.max = 9223372036854775807 := by kernel_rfl
  rw [e1, e2] at hw
  exact ⟨by omega, by omega⟩
theorem int_open {W : World} {b0 base : Nat} {r : Reach} {sp : Nat → Bool} {hd : Bool} {t : TypeId} {v : Value} {d : DataW H} {p : List MemPlace} (ht : Try.prog.underlying t = some (.int .i64)) (hv : Value.okWide Try.prog W r b0 t v) (h : DataW.Trod enc Try.prog W base sp hd t v d p) :
    ∃ n : Int, v = .int .i64 n ∧ I64 n := by
  obtain ⟨n, rfl, _, _, hw⟩ := open_int ht hv h
  exact ⟨n, rfl, wf_i64 hw⟩
end
end Go.Proofs.Ytlcfnlhognegcaa
end
section
namespace Go.Proofs.Ytlcfnlhognegcaa
open Go.ChangeShapes Go.WideShapes Go.ChangeAt Go.RowKit
section
variable {H : Type} {enc : TypeId × Value → H}
end
end Go.Proofs.Ytlcfnlhognegcaa
end
end
section
namespace Go.Proofs.Ytlcfnlhognegcaa
open Go.SE Go.RowKit
theorem hm : Try.prog.follows .mixedOrders = true := by kernel_rfl
theorem extern_ok {f : FuncId} {fn : Func} {e : Array Value → Sem Value} (hf : Try.prog.funcs[f]? = some fn) (hname : (fn.name == "runtime.NumGoroutine") = false) (hb : fn.body.isNone = true) (hn : Extern.findNext fn = none) (he : Extern.find fn = some e)
    {spec : List SV → Option (Option Prop × SV)} (hs : ∀ args p x, spec args = some (p, x) → (∀ q, p = some q → q) → plainL args = true ∧ plain x = true ∧ ∀ w, (e (vsOfS args).toArray).run Try.prog w = .ok (vOfS x) w) : (pureCtr spec).ok Try.prog f := by
  intro args h base ef hef δ w vals ha hr hp _
  simp only [pureCtr] at hef
  cases hsp : spec args with
  | none => rw [hsp] at hef; cases hef
  | some px =>
    obtain ⟨p, x⟩ := px
    rw [hsp] at hef
    cases hef
    obtain ⟨h1, h2, h3⟩ := hs args p x hsp hp
    have hv := (absL_plain _ _ h1).1 ha
    subst hv
    rw [run_callFunc_extern hf hname hb hn he, h3 w]
    exact ⟨x, [], δ, ⟨rfl, rfl⟩, (absV_plain _ _ h2).2 rfl, Upd.same hr⟩
def sAdd64 : List SV → Option (Option Prop × SV)
  | [.v (.int .u64 x), .v (.int .u64 y), .v (.int .u64 c)] => some (some (U64 x ∧ U64 y ∧ 0 ≤ c ∧ c ≤ 1), .tup [.v (.int .u64 ((x + y + c) % 18446744073709551616)), .v (.int .u64 ((x + y + c) / 18446744073709551616))])
  | _ => none
def sSub64 : List SV → Option (Option Prop × SV)
  | [.v (.int .u64 x), .v (.int .u64 y), .v (.int .u64 b)] => some (some (U64 x ∧ U64 y ∧ 0 ≤ b ∧ b ≤ 1), .tup [.v (.int .u64 ((x - y - b) % 18446744073709551616)), .v (.int .u64 (bor x (y + b)))])
  | _ => none
theorem Add64_ok : (pureCtr sAdd64).ok Try.prog 64 := by
  refine extern_ok Try.func64 (by kernel_rfl) (by kernel_rfl) (by kernel_rfl) (e := add64Entry) (by kernel_rfl) ?_
  intro args p x h hp
  unfold sAdd64 at h
  split at h
  · cases h
    obtain ⟨h1, h2, h3, h4⟩ := hp _ rfl
    exact ⟨rfl, rfl, fun w => run_add64 _ _ _ h1.1 h2.1 h3 h4 w⟩
  · cases h
def sub64Entry : Array Value → Sem Value := fun args => do
  let (x, y, b) ← Extern.MathBitsCarry.three "Sub64" args
  pure (Extern.MathBitsCarry.pair ((x + Extern.MathBitsCarry.m64 - y - b) % Extern.MathBitsCarry.m64) (if x < y + b then 1 else 0))
theorem run_sub64 {P : Program} (x y b : Int) (hx : U64 x) (hy : U64 y) (hb0 : 0 ≤ b) (hb : b ≤ 1) (w : World) :
    (sub64Entry #[.int .u64 x, .int .u64 y, .int .u64 b]).run P w = .ok (.tuple #[.int .u64 ((x - y - b) % 18446744073709551616), .int .u64 (bor x (y + b))]) w := by
  have key : ∀ k : Nat, k ≤ 1 → (sub64Entry #[.int .u64 x, .int .u64 y, .int .u64 (k : Int)]).run P w =
      .ok (Extern.MathBitsCarry.pair ((x.toNat + Extern.MathBitsCarry.m64 - y.toNat - k) % Extern.MathBitsCarry.m64) (if x.toNat < y.toNat + k then 1 else 0)) w := by
    intro k hk
    have : k = 0 ∨ k = 1 := by omega
    rcases this with rfl | rfl <;> rfl
  obtain ⟨k, rfl⟩ := Int.eq_ofNat_of_zero_le hb0
  rw [key k (by omega)]
  obtain ⟨hx0, hx1⟩ := hx
  obtain ⟨hy0, hy1⟩ := hy
  obtain ⟨X, rfl⟩ := Int.eq_ofNat_of_zero_le hx0
  obtain ⟨Y, rfl⟩ := Int.eq_ofNat_of_zero_le hy0
  simp only [Extern.MathBitsCarry.pair, Extern.MathBitsCarry.m64, Int.toNat_natCast, bor]
  have e1 : (Int.ofNat ((X + 2 ^ 64 - Y - k) % 2 ^ 64)) = ((X : Int) - Y - k) % 18446744073709551616 := by
    show (((X + 2 ^ 64 - Y - k) % 2 ^ 64 : Nat) : Int) = _
    omega
  have e2 : Int.ofNat (if X < Y + k then 1 else 0) = if (X : Int) < Y + k then 1 else 0 := by
    by_cases h : X < Y + k
    · rw [if_pos h, if_pos (by omega)]; rfl
    · rw [if_neg h, if_neg (by omega)]; rfl
  rw [e1, e2]
theorem Sub64_ok : (pureCtr sSub64).ok Try.prog 66 := by
  refine extern_ok Try.func66 (by kernel_rfl) (by kernel_rfl) (by kernel_rfl) (e := sub64Entry) (by kernel_rfl) ?_
  intro args p x h hp
  unfold sSub64 at h
  split at h
  · cases h
    obtain ⟨h1, h2, h3, h4⟩ := hp _ rfl
    exact ⟨rfl, rfl, fun w => run_sub64 _ _ _ h1 h2 h3 h4 w⟩
  · cases h
def sNaN (k : IntKind) : List SV → Option (Option Prop × SV)
  | [.v (.int k' _)] => if k' = k then some (none, .v (.bool false)) else none
  | _ => none
def sCmp (k : IntKind) : List SV → Option (Option Prop × SV)
  | [.v (.int k1 x), .v (.int k2 y)] => if k1 = k ∧ k2 = k then some (none, .v (.int .i64 (cmpI x y))) else none
  | _ => none
def Γ1 : Ctrs := addCtr (addCtr noCtrs 64 (pureCtr sAdd64)) 66 (pureCtr sSub64)
def Γ2 : Ctrs := addCtr (addCtr Γ1 62 (pureCtr (sNaN .i64))) 71 (pureCtr (sNaN .u64))
def Γ3 : Ctrs := addCtr (addCtr Γ2 52 (pureCtr (sCmp .i64))) 70 (pureCtr (sCmp .u64))
def noΛ : Nat → Option LoopSpec := fun _ => none
theorem vcNaN1 (x : Int) (R : SV→Prop) : (vcPure Try.prog noCtrs noΛ Try.f62 [.v (.int .i64 x)] R) = (R (SV.v (.bool (x != x)))):=by kernel_rfl
theorem vcNaN2 (x : Int) (R : SV→Prop) : (vcPure Try.prog noCtrs noΛ Try.f71 [.v (.int .u64 x)] R) = (R (SV.v (.bool (x != x)))):=by kernel_rfl
theorem vcCmp1 (x y : Int) (R : SV→Prop) : (vcPure Try.prog Γ2 noΛ Try.f52 [.v (.int .i64 x),.v (.int .i64 y)] R) = (sel (decide (x < y)) (R (SV.v (.int .i64 (-1)))) (sel (decide (x > y)) (R (SV.v (.int .i64 1))) (R (SV.v (.int .i64 0))))):=by kernel_rfl
theorem vcCmp2 (x y : Int) (R : SV→Prop) : (vcPure Try.prog Γ2 noΛ Try.f70 [.v (.int .u64 x),.v (.int .u64 y)] R) = (sel (decide (x < y)) (R (SV.v (.int .i64 (-1)))) (sel (decide (x > y)) (R (SV.v (.int .i64 1))) (R (SV.v (.int .i64 0))))):=by kernel_rfl
theorem Γ1_ok : ∀ f g, Γ1 f = some g → g.ok Try.prog f := addCtr_ok (addCtr_ok noCtrs_ok Add64_ok) Sub64_ok
theorem NaN1_spec : PureSpec Try.prog 62 (sNaN .i64) := vc_spec hm noCtrs_ok Try.func62 (Λ := fun _ => noΛ) fun args p x h _ => by
  unfold sNaN at h
  split at h <;> try (cases h; done)
  split at h <;> try (cases h; done)
  rename_i k' v hk
  subst hk
  cases h
  refine ⟨rfl, rfl, ?_⟩
  rw [vcNaN1]
  simp
theorem NaN2_spec : PureSpec Try.prog 71 (sNaN .u64) := vc_spec hm noCtrs_ok Try.func71 (Λ := fun _ => noΛ) fun args p x h _ => by
  unfold sNaN at h
  split at h <;> try (cases h; done)
  split at h <;> try (cases h; done)
  rename_i k' v hk
  subst hk
  cases h
  refine ⟨rfl, rfl, ?_⟩
  rw [vcNaN2]
  simp
theorem Γ2_ok : ∀ f g, Γ2 f = some g → g.ok Try.prog f := addCtr_ok (addCtr_ok Γ1_ok (pure_ok Try.func62 (by kernel_rfl) (by kernel_rfl) NaN1_spec)) (pure_ok Try.func71 (by kernel_rfl) (by kernel_rfl) NaN2_spec)
theorem Cmp1_spec : PureSpec Try.prog 52 (sCmp .i64) := vc_spec hm Γ2_ok Try.func52 (Λ := fun _ => noΛ) fun args p x h _ => by
  unfold sCmp at h
  split at h <;> try (cases h; done)
  split at h <;> try (cases h; done)
  rename_i k1 a k2 b hk
  obtain ⟨rfl, rfl⟩ := hk
  cases h
  refine ⟨rfl, rfl, ?_⟩
  rw [vcCmp1]
  unfold cmpI
  refine sel_of (fun h => ?_) fun h => sel_of (fun h' => ?_) fun h' => ?_
  · rw [if_pos (of_decide_eq_true h)]
  · rw [if_neg (of_decide_eq_false h), if_pos (of_decide_eq_true h')]
  · rw [if_neg (of_decide_eq_false h), if_neg (of_decide_eq_false h')]
theorem Cmp2_spec : PureSpec Try.prog 70 (sCmp .u64) := vc_spec hm Γ2_ok Try.func70 (Λ := fun _ => noΛ) fun args p x h _ => by
  unfold sCmp at h
  split at h <;> try (cases h; done)
  split at h <;> try (cases h; done)
  rename_i k1 a k2 b hk
  obtain ⟨rfl, rfl⟩ := hk
  cases h
  refine ⟨rfl, rfl, ?_⟩
  rw [vcCmp2]
  unfold cmpI
  refine sel_of (fun h => ?_) fun h => sel_of (fun h' => ?_) fun h' => ?_
  · rw [if_pos (of_decide_eq_true h)]
  · rw [if_neg (of_decide_eq_false h), if_pos (of_decide_eq_true h')]
  · rw [if_neg (of_decide_eq_false h), if_neg (of_decide_eq_false h')]
theorem Γ3_ok : ∀ f g, Γ3 f = some g → g.ok Try.prog f := addCtr_ok (addCtr_ok Γ2_ok (pure_ok Try.func52 (by kernel_rfl) (by kernel_rfl) Cmp1_spec)) (pure_ok Try.func70 (by kernel_rfl) (by kernel_rfl) Cmp2_spec)
end Go.Proofs.Ytlcfnlhognegcaa
end
section
namespace Go.Proofs.Ytlcfnlhognegcaa
open Go.SE Go.RowKit
theorem vcMul64 (x y : Int) (R : SV→Prop) : (vcPure Try.prog noCtrs noΛ Try.f59 [.v (.int .u64 x),.v (.int .u64 y)] R) = (R (SV.tup [(SV.v (.int .u64 (IntKind.wrap IntKind.u64 (IntKind.wrap IntKind.u64 (IntKind.wrap IntKind.u64 (x / 4294967296 * (y / 4294967296)) + IntKind.wrap IntKind.u64 (IntKind.wrap IntKind.u64 (x / 4294967296 * bits BinOp.and IntKind.u64 y 4294967295) + IntKind.wrap IntKind.u64 (bits BinOp.and IntKind.u64 x 4294967295 * bits BinOp.and IntKind.u64 y 4294967295) / 4294967296) / 4294967296) + IntKind.wrap IntKind.u64 (bits BinOp.and IntKind.u64 (IntKind.wrap IntKind.u64 (IntKind.wrap IntKind.u64 (x / 4294967296 * bits BinOp.and IntKind.u64 y 4294967295) + IntKind.wrap IntKind.u64 (bits BinOp.and IntKind.u64 x 4294967295 * bits BinOp.and IntKind.u64 y 4294967295) / 4294967296)) 4294967295 + IntKind.wrap IntKind.u64 (bits BinOp.and IntKind.u64 x 4294967295 * (y / 4294967296))) / 4294967296)))),(SV.v (.int .u64 (IntKind.wrap IntKind.u64 (x * y))))])):=by kernel_rfl
theorem vcOf (v : Int) (R : SV→Prop) : (vcPure Try.prog noCtrs noΛ Try.f46 [.v (.int .i64 v)] R) = (sel (decide (v < 0)) (R (SV.agg [(SV.v (.bool true)),(SV.v (.int .u64 (IntKind.wrap IntKind.u64 (0 - IntKind.wrap IntKind.u64 v)))),(SV.v (.int .u64 0))])) (R (SV.agg [(SV.v (.bool false)),(SV.v (.int .u64 (IntKind.wrap IntKind.u64 v))),(SV.v (.int .u64 0))]))):=by kernel_rfl
theorem vcDown (n : Bool) (lo hi : Int) (R : SV→Prop) : (vcPure Try.prog noCtrs noΛ Try.f44 [exS n lo hi] R) = (R (SV.agg [(SV.v (.bool n)),(SV.v (.int .u64 (bits BinOp.or IntKind.u64 (IntKind.wrap IntKind.u64 (hi * 4294967296)) (lo / 4294967296)))),(SV.v (.int .u64 (hi / 4294967296)))])):=by kernel_rfl
theorem vcUp (n : Bool) (lo hi : Int) (R : SV→Prop) : (vcPure Try.prog noCtrs noΛ Try.f47 [exS n lo hi] R) = (R (SV.agg [(SV.v (.bool n)),(SV.v (.int .u64 (IntKind.wrap IntKind.u64 (lo * 4294967296)))),(SV.v (.int .u64 (bits BinOp.or IntKind.u64 (IntKind.wrap IntKind.u64 (hi * 4294967296)) (lo / 4294967296))))])):=by kernel_rfl
theorem vcFit (n : Bool) (lo hi : Int) (f : Bool) (R : SV→Prop) : (vcPure Try.prog noCtrs noΛ Try.f45 [exS n lo hi,.v (.bool f)] R) = (sel (hi == 0) (sel (decide (lo ≤ 9223372036854775807)) (sel n (R (SV.agg [(SV.v (.int .i64 (IntKind.wrap IntKind.i64 (0 - IntKind.wrap IntKind.i64 lo)))),(SV.v (.bool f))])) (R (SV.agg [(SV.v (.int .i64 (IntKind.wrap IntKind.i64 lo))),(SV.v (.bool f))]))) (sel n (R (SV.agg [(SV.v (.int .i64 (-9223372036854775807))),(SV.v (.bool true))])) (R (SV.agg [(SV.v (.int .i64 9223372036854775807)),(SV.v (.bool true))])))) (sel n (R (SV.agg [(SV.v (.int .i64 (-9223372036854775807))),(SV.v (.bool true))])) (R (SV.agg [(SV.v (.int .i64 9223372036854775807)),(SV.v (.bool true))])))):=by kernel_rfl
theorem vcSound (v : Int) (f : Bool) (R : SV→Prop) : (vcPure Try.prog noCtrs noΛ Try.f41 [numS v f] R) = (sel (v == -9223372036854775808) (R (SV.agg [(SV.v (.int .i64 (-9223372036854775807))),(SV.v (.bool true))])) (R (SV.agg [(SV.v (.int .i64 v)),(SV.v (.bool f))]))):=by kernel_rfl
def sMul64 : List SV → Option (Option Prop × SV)
  | [.v (.int .u64 x), .v (.int .u64 y)] => some (some (U64 x ∧ U64 y), .tup [.v (.int .u64 (x * y / 18446744073709551616)), .v (.int .u64 (x * y % 18446744073709551616))])
  | _ => none
def sOf : List SV → Option (Option Prop × SV)
  | [.v (.int .i64 v)] => some (some (I64 v), exS (decide (v < 0)) (iabs v) 0)
  | _ => none
def sDown : List SV → Option (Option Prop × SV)
  | [.agg [.v (.bool n), .v (.int .u64 lo), .v (.int .u64 hi)]] => some (some (U64 lo ∧ U64 hi), exM n (MM lo hi / 4294967296))
  | _ => none
def sUp : List SV → Option (Option Prop × SV)
  | [.agg [.v (.bool n), .v (.int .u64 lo), .v (.int .u64 hi)]] => some (some (U64 lo ∧ U64 hi ∧ MM lo hi < 79228162514264337593543950336), exM n (MM lo hi * 4294967296))
  | _ => none
def sFit : List SV → Option (Option Prop × SV)
  | [.agg [.v (.bool n), .v (.int .u64 lo), .v (.int .u64 hi)], .v (.bool f)] => some (some (U64 lo ∧ U64 hi), numS (fitV n (MM lo hi)) (fitF (MM lo hi) f))
  | _ => none
def sSound : List SV → Option (Option Prop × SV)
  | [.agg [.v (.int .i64 v), .v (.bool f)]] => some (none, numS (sndV v) (sndF v f))
  | _ => none
def noneV (a : Int) : Int := if a > 0 then 9223372036854775807 else if a < 0 then -9223372036854775807 else 0
def ΓB : Ctrs := addCtr (addCtr (addCtr (addCtr (addCtr (addCtr Γ3 59 (pureCtr sMul64)) 46 (pureCtr sOf)) 44 (pureCtr sDown)) 47 (pureCtr sUp)) 45 (pureCtr sFit)) 41 (pureCtr sSound)
theorem Mul64_spec : PureSpec Try.prog 59 sMul64 := vc_spec hm noCtrs_ok Try.func59 (Λ := fun _ => noΛ) fun args p x h hp => by
  unfold sMul64 at h
  split at h <;> try (cases h; done)
  rename_i x y
  cases h
  obtain ⟨h1, h2⟩ := hp _ rfl
  refine ⟨rfl, rfl, ?_⟩
  rw [vcMul64]
  have e1 := and_mask32 h1
  have e2 := and_mask32 h2
  simp only [e1, e2, wrap_u64]
  rw [and_mask32 (mod_u64 _)]
  have := mul64_arith x y h1.1 h1.2 h2.1 h2.2
  rw [← this]
theorem Of_spec : PureSpec Try.prog 46 sOf := vc_spec hm noCtrs_ok Try.func46 (Λ := fun _ => noΛ) fun args p x h hp => by
  unfold sOf at h
  split at h <;> try (cases h; done)
  rename_i v
  cases h
  obtain ⟨h1, h2⟩ := hp _ rfl
  refine ⟨rfl, rfl, ?_⟩
  rw [vcOf]
  refine sel_of (fun h => ?_) fun h => ?_
  · have h' := of_decide_eq_true h
    refine ex_mk h.symm ?_ rfl
    rw [wrap_u64, wrap_u64]; unfold iabs; rw [if_pos h']; omega
  · have h' := of_decide_eq_false h
    refine ex_mk h.symm ?_ rfl
    rw [wrap_u64]; unfold iabs; rw [if_neg h']; omega
theorem Down_spec : PureSpec Try.prog 44 sDown := vc_spec hm noCtrs_ok Try.func44 (Λ := fun _ => noΛ) fun args p x h hp => by
  unfold sDown at h
  split at h <;> try (cases h; done)
  cases h
  obtain ⟨h1, h2⟩ := hp _ rfl
  refine ⟨rfl, rfl, ?_⟩
  rw [show ∀ n lo hi, SV.agg [.v (.bool n), .v (.int .u64 lo), .v (.int .u64 hi)] = exS n lo hi from fun _ _ _ => rfl, vcDown]
  refine ex_mk rfl ?_ ?_
  · rw [or_shift h2 h1]; obtain ⟨_, _⟩ := h1; obtain ⟨_, _⟩ := h2; unfold MM; omega
  · obtain ⟨_, _⟩ := h1; obtain ⟨_, _⟩ := h2; unfold MM; omega
theorem Up_spec : PureSpec Try.prog 47 sUp := vc_spec hm noCtrs_ok Try.func47 (Λ := fun _ => noΛ) fun args p x h hp => by
  unfold sUp at h
  split at h <;> try (cases h; done)
  cases h
  obtain ⟨h1, h2, h3⟩ := hp _ rfl
  refine ⟨rfl, rfl, ?_⟩
  rw [show ∀ n lo hi, SV.agg [.v (.bool n), .v (.int .u64 lo), .v (.int .u64 hi)] = exS n lo hi from fun _ _ _ => rfl, vcUp]
  refine ex_mk rfl ?_ ?_
  · rw [wrap_u64]; obtain ⟨_, _⟩ := h1; obtain ⟨_, _⟩ := h2; unfold MM; omega
  · rw [or_shift h2 h1]; unfold MM at h3; obtain ⟨_, _⟩ := h1; obtain ⟨_, _⟩ := h2; unfold MM; omega
theorem MM_small {lo hi : Int} (h1 : U64 lo) (h2 : U64 hi) : (hi = 0 ∧ lo ≤ 9223372036854775807) ↔ MM lo hi ≤ 9223372036854775807 := by
  obtain ⟨_, _⟩ := h1; obtain ⟨_, _⟩ := h2; unfold MM; omega
theorem Fit_spec : PureSpec Try.prog 45 sFit := vc_spec hm noCtrs_ok Try.func45 (Λ := fun _ => noΛ) fun args p x h hp => by
  unfold sFit at h
  split at h <;> try (cases h; done)
  rename_i n lo hi f
  cases h
  obtain ⟨h1, h2⟩ := hp _ rfl
  refine ⟨rfl, rfl, ?_⟩
  rw [show ∀ n lo hi, SV.agg [.v (.bool n), .v (.int .u64 lo), .v (.int .u64 hi)] = exS n lo hi from fun _ _ _ => rfl, vcFit]
  have hs := MM_small h1 h2
  obtain ⟨a1, a2⟩ := h1
  have big : ∀ b : Bool, n = b → ¬ MM lo hi ≤ 9223372036854775807 → SV.agg [.v (.int .i64 (if b then -9223372036854775807 else 9223372036854775807)), .v (.bool true)] = numS (fitV n (MM lo hi)) (fitF (MM lo hi) f) := fun b hb e => by
    subst hb
    refine num_mk ?_ ?_
    · unfold fitV; rw [if_neg e]
    · unfold fitF; rw [if_neg e]
  have low : hi = 0 → lo ≤ 9223372036854775807 → MM lo hi = lo ∧ MM lo hi ≤ 9223372036854775807 := fun e1 e2 => ⟨by unfold MM; omega, hs.1 ⟨e1, e2⟩⟩
  refine sel_of (fun h => sel_of (fun h' => sel_of (fun h'' => ?_) fun h'' => ?_) fun h' => sel_of (fun h'' => ?_) fun h'' => ?_) fun h => sel_of (fun h'' => ?_) fun h'' => ?_
  · obtain ⟨e1, e2⟩ := low (by simpa using h) (of_decide_eq_true h')
    subst h''
    refine num_mk ?_ ?_
    · unfold fitV; rw [if_pos e2, if_pos rfl, e1, wrap_i64 (n := lo) ⟨by omega, by omega⟩, wrap_i64 ⟨by omega, by omega⟩]; omega
    · unfold fitF; rw [if_pos e2]
  · obtain ⟨e1, e2⟩ := low (by simpa using h) (of_decide_eq_true h')
    subst h''
    refine num_mk ?_ ?_
    · unfold fitV; rw [if_pos e2, if_neg (by simp), e1, wrap_i64 ⟨by omega, by omega⟩]
    · unfold fitF; rw [if_pos e2]
  · exact big true h'' fun e => of_decide_eq_false h' (hs.2 e).2
  · exact big false h'' fun e => of_decide_eq_false h' (hs.2 e).2
  · exact big true h'' fun e => (by have := (hs.2 e).1; simp [this] at h)
  · exact big false h'' fun e => (by have := (hs.2 e).1; simp [this] at h)
theorem Sound_spec : PureSpec Try.prog 41 sSound := vc_spec hm noCtrs_ok Try.func41 (Λ := fun _ => noΛ) fun args p x h hp => by
  unfold sSound at h
  split at h <;> try (cases h; done)
  rename_i v f
  cases h
  refine ⟨rfl, rfl, ?_⟩
  rw [show ∀ v f, SV.agg [.v (.int .i64 v), .v (.bool f)] = numS v f from fun _ _ => rfl, vcSound]
  refine sel_of (fun h => ?_) fun h => ?_
  · have h := eq_of_beq h
    exact num_mk (by unfold sndV; rw [if_pos h]) (by unfold sndF; rw [if_pos h])
  · have h : ¬ v = -9223372036854775808 := fun e => by rw [e] at h; exact absurd h (by decide)
    exact num_mk (by unfold sndV; rw [if_neg h]) (by unfold sndF; rw [if_neg h])
theorem ΓB_ok : ∀ f g, ΓB f = some g → g.ok Try.prog f := addCtr_ok (addCtr_ok (addCtr_ok (addCtr_ok (addCtr_ok (addCtr_ok Γ3_ok (pure_ok Try.func59 (by kernel_rfl) (by kernel_rfl) Mul64_spec)) (pure_ok Try.func46 (by kernel_rfl) (by kernel_rfl) Of_spec)) (pure_ok Try.func44 (by kernel_rfl) (by kernel_rfl) Down_spec)) (pure_ok Try.func47 (by kernel_rfl) (by kernel_rfl) Up_spec)) (pure_ok Try.func45 (by kernel_rfl) (by kernel_rfl) Fit_spec)) (pure_ok Try.func41 (by kernel_rfl) (by kernel_rfl) Sound_spec)
end Go.Proofs.Ytlcfnlhognegcaa
end
section
namespace Go.Proofs.Ytlcfnlhognegcaa
open Go.SE Go.RowKit
def isI : List SV → Prop
  | [.v (.int .i64 _)] => True
  | _ => False
def rowI (l : List SV) : Int := match l with | [.v (.int _ v)] => v | _ => 0
def orL : List (List SV) → Int
  | [] => 0
  | r :: t => if rowI r ≠ 0 then rowI r else orL t
def sOr : List SV → List Ro → Option (Option Prop × SV)
  | [.sl 0 1 0 n _], [⟨1, n', row⟩] => some (some (okAll isI (rowsOf n' row) ∧ n' = n ∧ n < 4611686018427387904), .v (.int .i64 (orL (rowsOf n row))))
  | _, _ => none
noncomputable def ΛOr (n : Nat) (f : Nat → Int) : Nat → Option LoopSpec := addLoop noΛ Try.f69 0 Nat (fun i => i ≤ n ∧ ∀ j, j < i → f j = 0) (fun i => n - i) [(8, fun i => .v (.int .i64 i))] []
def rowsI (f : Nat → Int) : Nat → List SV := fun i => [.v (.int .i64 (f i))]
theorem vcOr (n n' c : Nat) (f : Nat→Int) (R : SV→Prop) : (vcFn Try.prog noCtrs (ΛOr n f) Try.f69 [.sl 0 1 0 n c] (roHeap [⟨1,n',rowsI f⟩]) 64 (fun y _ => R y)) = ((∃ x : Nat,((((x : Nat) ≤ n)∧(∀ j : Nat,(((j : Nat) < x)→(((f j) : Int) = 0))))∧(((SV.v (.int .i64 0)) = (SV.v (.int .i64 ((↑x : Int)))))∧True)))∧(∀ x : Nat,((((x : Nat) ≤ n)∧(∀ j : Nat,(((j : Nat) < x)→(((f j) : Int) = 0))))→(sel (decide ((↑x : Int) < (↑n : Int))) ((((0 : Int) ≤ ((↑x : Int)))∧((((↑x : Int)) : Int) < ((↑n : Int))))∧(sel (f (0 + Int.toNat (↑x : Int)) != 0) (R (SV.v (.int .i64 (f (0 + Int.toNat (↑x : Int)))))) (∃ x' : Nat,(((((x' : Nat) ≤ n)∧(∀ j : Nat,(((j : Nat) < x')→(((f j) : Int) = 0))))∧(((SV.v (.int .i64 (IntKind.wrap IntKind.i64 ((↑x : Int) + 1)))) = (SV.v (.int .i64 ((↑x' : Int)))))∧True))∧(((n - x') : Nat) < (n - x)))))) (R (SV.v (.int .i64 0))))))):=by kernel_rfl
def sProduct : List SV → Option (Option Prop × SV)
  | [.v (.int .i64 a), .v (.int .i64 b)] => some (some (I64 a ∧ I64 b), exM (!(decide (a < 0) == decide (b < 0))) (iabs a * iabs b))
  | _ => none
def plZ (n1 : Bool) (m1 : Int) (n2 : Bool) (m2 : Int) : Bool := if n1 = n2 then n1 else if m1 < m2 then n2 else n1 && m1 != m2
def sRPlus : List SV → Option (Option Prop × SV)
  | [.agg [.v (.bool n1), .v (.int .u64 h1), .v (.int .u64 l1)], .agg [.v (.bool n2), .v (.int .u64 h2), .v (.int .u64 l2)]] =>
    some (some ((U64 l1 ∧ U64 h1) ∧ (U64 l2 ∧ U64 h2) ∧ MM l1 h1 + MM l2 h2 < 340282366920938463463374607431768211456), wiM (plZ n1 (MM l1 h1) n2 (MM l2 h2)) (plM n1 (MM l1 h1) n2 (MM l2 h2)))
  | _ => none
def sPlus : List SV → Option (Option Prop × SV)
  | [.agg [.v (.bool n1), .v (.int .u64 l1), .v (.int .u64 h1)], .agg [.v (.bool n2), .v (.int .u64 l2), .v (.int .u64 h2)]] =>
    some (some ((U64 l1 ∧ U64 h1) ∧ (U64 l2 ∧ U64 h2) ∧ MM l1 h1 + MM l2 h2 < 340282366920938463463374607431768211456), exM (plN n1 (MM l1 h1) n2 (MM l2 h2)) (plM n1 (MM l1 h1) n2 (MM l2 h2)))
  | _ => none
def sWCmp : List SV → Option (Option Prop × SV)
  | [.agg [.v (.int .u64 l1), .v (.int .u64 h1)], .agg [.v (.int .u64 l2), .v (.int .u64 h2)]] => some (some ((U64 l1 ∧ U64 h1) ∧ (U64 l2 ∧ U64 h2)), .v (.int .i64 (cmpI (MM l1 h1) (MM l2 h2))))
  | _ => none
def ΓC0 : Ctrs := addCtr ΓB 69 (roCtr sOr)
def ΓC1 : Ctrs := addCtr ΓC0 65 (pureCtr sWCmp)
def ΓC : Ctrs := addCtr (addCtr ΓC1 43 (pureCtr sProduct)) 54 (pureCtr sPlus)
theorem vcProduct (a b : Int) (R : SV→Prop) : (vcPure Try.prog ΓB noΛ Try.f43 [.v (.int .i64 a),.v (.int .i64 b)] R) = ((I64 a)∧((I64 b)∧(((U64 (iabs a))∧(U64 (iabs b)))∧(R (SV.agg [(SV.v (.bool (!decide (a < 0) == decide (b < 0)))),(SV.v (.int .u64 (iabs a * iabs b % 18446744073709551616))),(SV.v (.int .u64 (iabs a * iabs b / 18446744073709551616)))]))))):=by kernel_rfl
theorem vcWCmp (l1 h1 l2 h2 : Int) (R : SV→Prop) : (vcPure Try.prog ΓC0 noΛ Try.f65 [woS l1 h1,woS l2 h2] R) = ((((isI [SV.v (.int .i64 (cmpI h1 h2))])∧((isI [SV.v (.int .i64 (cmpI l1 l2))])∧True))∧(((2 : Nat) = 2)∧((2 : Nat) < 4611686018427387904)))∧(R (SV.v (.int .i64 (orL [[SV.v (.int .i64 (cmpI h1 h2))],[SV.v (.int .i64 (cmpI l1 l2))]]))))):=by kernel_rfl
theorem vcPlus (n1 : Bool) (l1 h1 : Int) (n2 : Bool) (l2 h2 : Int) (R : SV→Prop) : (vcPure Try.prog ΓC1 noΛ Try.f54 [exS n1 l1 h1,exS n2 l2 h2] R) = (sel (n1 == n2) (((U64 l1)∧((U64 l2)∧(((0 : Int) ≤ 0)∧((0 : Int) ≤ 1))))∧(((U64 h1)∧((U64 h2)∧(((0 : Int) ≤ ((l1 + l2 + 0) / 18446744073709551616))∧((((l1 + l2 + 0) / 18446744073709551616) : Int) ≤ 1))))∧(R (SV.agg [(SV.v (.bool n1)),(SV.v (.int .u64 ((l1 + l2 + 0) % 18446744073709551616))),(SV.v (.int .u64 ((h1 + h2 + (l1 + l2 + 0) / 18446744073709551616) % 18446744073709551616)))])))) ((((U64 l1)∧(U64 h1))∧((U64 l2)∧(U64 h2)))∧(sel (decide (cmpI (MM l1 h1) (MM l2 h2) < 0)) (((U64 l2)∧((U64 l1)∧(((0 : Int) ≤ 0)∧((0 : Int) ≤ 1))))∧(((U64 h2)∧((U64 h1)∧(((0 : Int) ≤ (bor l2 (l1 + 0)))∧(((bor l2 (l1 + 0)) : Int) ≤ 1))))∧(R (SV.agg [(SV.v (.bool n2)),(SV.v (.int .u64 ((l2 - l1 - 0) % 18446744073709551616))),(SV.v (.int .u64 ((h2 - h1 - bor l2 (l1 + 0)) % 18446744073709551616)))])))) (((U64 l1)∧((U64 l2)∧(((0 : Int) ≤ 0)∧((0 : Int) ≤ 1))))∧(((U64 h1)∧((U64 h2)∧(((0 : Int) ≤ (bor l1 (l2 + 0)))∧(((bor l1 (l2 + 0)) : Int) ≤ 1))))∧(R (SV.agg [(SV.v (.bool n1)),(SV.v (.int .u64 ((l1 - l2 - 0) % 18446744073709551616))),(SV.v (.int .u64 ((h1 - h2 - bor l1 (l2 + 0)) % 18446744073709551616)))]))))))):=by kernel_rfl
theorem isI_row {r : List SV} (h : isI r) : r = [.v (.int .i64 (rowI r))] := by
  unfold isI at h
  split at h
  · rfl
  · exact h.elim
theorem orL_zeros {row : Nat → List SV} : ∀ {i : Nat}, (∀ j, j < i → rowI (row j) = 0) → ∀ l, orL (rowsOf i row ++ l) = orL l
  | 0, _, l => rfl
  | i + 1, h, l => by
    rw [rowsOf_succ, List.append_assoc, orL_zeros (fun j hj => h j (by omega))]
    simp [orL, h i (by omega)]
theorem rowsOf_split {n i : Nat} (row : Nat → List SV) (h : i < n) : ∃ t, rowsOf n row = rowsOf i row ++ row i :: t := by
  refine ⟨(List.range' (i + 1) (n - i - 1)).map row, ?_⟩
  unfold rowsOf
  rw [show n = i + (1 + (n - i - 1)) by omega, ← List.range'_append_1, List.map_append, ← List.range'_append_1]
  simp [List.range'_succ]
theorem Or_spec : RoSpec Try.prog 69 sOr := ro_spec hm noCtrs_ok Try.func69 (Λ := fun args bs => match args, bs with | [.sl 0 1 0 n _], [⟨1, _, row⟩] => ΛOr n (fun i => rowI (row i)) | _, _ => noΛ) fun args bs p x h hp => by
  unfold sOr at h
  split at h <;> try (cases h; done)
  rename_i n c n' row
  cases h
  obtain ⟨h1, rfl, h3⟩ := hp _ rfl
  have h1 := okAll_rows.1 h1
  refine ⟨rfl, [⟨1, n', rowsI fun i => rowI (row i)⟩], ⟨⟨rfl, rfl, fun i hi => isI_row (h1 i hi)⟩, trivial⟩, ?_⟩
  show vcFn _ _ (ΛOr n' fun i => rowI (row i)) _ _ _ _ _
  rw [vcOr]
  refine ⟨⟨0, ⟨by omega, fun j hj => by omega⟩, rfl, trivial⟩, fun i hi => ?_⟩
  refine sel_of (fun h => ?_) fun h => ?_
  · have h' : i < n' := by have := of_decide_eq_true h; omega
    refine ⟨⟨by omega, by omega⟩, sel_of (fun h'' => ?_) fun h'' => ?_⟩
    · have h'' : rowI (row (0 + Int.toNat (i : Int))) ≠ 0 := by simpa using h''
      simp only [Int.toNat_natCast, Nat.zero_add] at h'' ⊢
      obtain ⟨t, ht⟩ := rowsOf_split row h'
      rw [ht, orL_zeros hi.2]
      simp [orL, h'']
    · have h'' : rowI (row (0 + Int.toNat (i : Int))) = 0 := by simpa using h''
      simp only [Int.toNat_natCast, Nat.zero_add] at h''
      refine ⟨i + 1, ⟨⟨by omega, fun j hj => ?_⟩, int_mk ?_, trivial⟩, by omega⟩
      · rcases Nat.lt_or_eq_of_le (Nat.le_of_lt_succ hj) with hj | rfl
        · exact hi.2 j hj
        · exact h''
      · rw [wrap_i64 ⟨by omega, by omega⟩]; omega
  · have h' : ¬ i < n' := by have := of_decide_eq_false h; omega
    have : i = n' := by omega
    subst this
    have := orL_zeros hi.2 []
    rw [List.append_nil] at this
    rw [this]; rfl
theorem ΓC0_ok : ∀ f g, ΓC0 f = some g → g.ok Try.prog f := addCtr_ok ΓB_ok (ro_ok Try.func69 (by kernel_rfl) (by kernel_rfl) Or_spec)
theorem orL_two (a b : Int) : orL [[.v (.int .i64 a)], [.v (.int .i64 b)]] = if a = 0 then b else a := by
  show (if a ≠ 0 then a else if b ≠ 0 then b else 0) = _
  by_cases ha : a = 0 <;> by_cases hb : b = 0 <;> simp [ha, hb]
theorem cmpI_lt {a b : Int} (h : a < b) : cmpI a b = -1 := if_pos h
theorem cmpI_gt {a b : Int} (h : b < a) : cmpI a b = 1 := by unfold cmpI; rw [if_neg (by omega), if_pos h]
theorem cmpI_eq (a : Int) : cmpI a a = 0 := by unfold cmpI; rw [if_neg (by omega), if_neg (by omega)]
theorem cmp_words {l1 h1 l2 h2 : Int} (p1 : U64 l1) (p3 : U64 l2) : (if cmpI h1 h2 = 0 then cmpI l1 l2 else cmpI h1 h2) = cmpI (MM l1 h1) (MM l2 h2) := by
  obtain ⟨_, _⟩ := p1; obtain ⟨_, _⟩ := p3
  rcases Int.lt_trichotomy h1 h2 with h | h | h
  · rw [cmpI_lt h, if_neg (by decide), cmpI_lt (by unfold MM; omega)]
  · subst h
    rw [cmpI_eq, if_pos rfl]
    rcases Int.lt_trichotomy l1 l2 with h | h | h
    · rw [cmpI_lt h, cmpI_lt (by unfold MM; omega)]
    · subst h; rw [cmpI_eq, cmpI_eq]
    · rw [cmpI_gt h, cmpI_gt (by unfold MM; omega)]
  · rw [cmpI_gt h, if_neg (by decide), cmpI_gt (by unfold MM; omega)]
theorem WCmp_spec : PureSpec Try.prog 65 sWCmp := vc_spec hm ΓC0_ok Try.func65 (Λ := fun _ => noΛ) fun args p x h hp => by
  unfold sWCmp at h
  split at h <;> try (cases h; done)
  rename_i l1 h1 l2 h2
  cases h
  obtain ⟨⟨p1, p2⟩, p3, p4⟩ := hp _ rfl
  refine ⟨rfl, rfl, ?_⟩
  rw [show ∀ a b, SV.agg [.v (.int .u64 a), .v (.int .u64 b)] = woS a b from fun _ _ => rfl, show ∀ a b, SV.agg [.v (.int .u64 a), .v (.int .u64 b)] = woS a b from fun _ _ => rfl, vcWCmp]
  refine ⟨⟨⟨trivial, trivial, trivial⟩, rfl, by decide⟩, int_mk ?_⟩
  rw [orL_two, cmp_words p1 p3]
theorem ΓC1_ok : ∀ f g, ΓC1 f = some g → g.ok Try.prog f := addCtr_ok ΓC0_ok (pure_ok Try.func65 (by kernel_rfl) (by kernel_rfl) WCmp_spec)
theorem iabs_mul {a b : Int} : 0 ≤ iabs a * iabs b := Int.mul_nonneg (iabs_nonneg a) (iabs_nonneg b)
theorem Product_spec : PureSpec Try.prog 43 sProduct := vc_spec hm ΓB_ok Try.func43 (Λ := fun _ => noΛ) fun args p x h hp => by
  unfold sProduct at h
  split at h <;> try (cases h; done)
  cases h
  obtain ⟨h1, h2⟩ := hp _ rfl
  refine ⟨rfl, rfl, ?_⟩
  rw [vcProduct]
  exact ⟨h1, h2, ⟨iabs_u64 h1, iabs_u64 h2⟩, ex_mk rfl rfl rfl⟩
theorem bor_01 (x y : Int) : 0 ≤ bor x y ∧ bor x y ≤ 1 := by unfold bor; split <;> omega
theorem add_words {l1 h1 l2 h2 : Int} (p1 : U64 l1) (p2 : U64 h1) (p3 : U64 l2) (p4 : U64 h2) (hs : MM l1 h1 + MM l2 h2 < 340282366920938463463374607431768211456) :
    (l1 + l2 + 0) % 18446744073709551616 = (MM l1 h1 + MM l2 h2) % 18446744073709551616 ∧ (h1 + h2 + (l1 + l2 + 0) / 18446744073709551616) % 18446744073709551616 = (MM l1 h1 + MM l2 h2) / 18446744073709551616 := by
  obtain ⟨_, _⟩ := p1; obtain ⟨_, _⟩ := p2; obtain ⟨_, _⟩ := p3; obtain ⟨_, _⟩ := p4
  unfold MM at *
  constructor <;> omega
theorem sub_words {l1 h1 l2 h2 : Int} (p1 : U64 l1) (p2 : U64 h1) (p3 : U64 l2) (p4 : U64 h2) (hs : MM l2 h2 ≤ MM l1 h1) :
    (l1 - l2 - 0) % 18446744073709551616 = iabs (MM l1 h1 - MM l2 h2) % 18446744073709551616 ∧ (h1 - h2 - bor l1 (l2 + 0)) % 18446744073709551616 = iabs (MM l1 h1 - MM l2 h2) / 18446744073709551616 := by
  have e : iabs (MM l1 h1 - MM l2 h2) = MM l1 h1 - MM l2 h2 := by unfold iabs; rw [if_neg (by omega)]
  rw [e]
  obtain ⟨_, _⟩ := p1; obtain ⟨_, _⟩ := p2; obtain ⟨_, _⟩ := p3; obtain ⟨_, _⟩ := p4
  unfold MM bor at *
  constructor
  · omega
  · split <;> omega
theorem iabs_comm (a b : Int) : iabs (a - b) = iabs (b - a) := by unfold iabs; split <;> split <;> omega
theorem Plus_spec : PureSpec Try.prog 54 sPlus := vc_spec hm ΓC1_ok Try.func54 (Λ := fun _ => noΛ) fun args p x h hp => by
  unfold sPlus at h
  split at h <;> try (cases h; done)
  rename_i n1 l1 h1 n2 l2 h2
  cases h
  obtain ⟨⟨p1, p2⟩, ⟨p3, p4⟩, hs⟩ := hp _ rfl
  refine ⟨rfl, rfl, ?_⟩
  rw [show ∀ n lo hi, SV.agg [.v (.bool n), .v (.int .u64 lo), .v (.int .u64 hi)] = exS n lo hi from fun _ _ _ => rfl, show ∀ n lo hi, SV.agg [.v (.bool n), .v (.int .u64 lo), .v (.int .u64 hi)] = exS n lo hi from fun _ _ _ => rfl, vcPlus]
  have b1 := bor_01 l1 (l2 + 0)
  have b2 := bor_01 l2 (l1 + 0)
  refine sel_of (fun h => ?_) fun h => ?_
  · have h : n1 = n2 := by simpa using h
    obtain ⟨e1, e2⟩ := add_words p1 p2 p3 p4 hs
    refine ⟨⟨p1, p3, by decide, by decide⟩, ⟨p2, p4, by obtain ⟨_, _⟩ := p1; obtain ⟨_, _⟩ := p3; omega, by obtain ⟨_, _⟩ := p1; obtain ⟨_, _⟩ := p3; omega⟩, ex_mk ?_ ?_ ?_⟩
    · unfold plN; rw [if_pos h]
    · unfold plM; rw [if_pos h, e1]
    · unfold plM; rw [if_pos h, e2]
  · have h : ¬ n1 = n2 := fun e => by rw [e] at h; simp at h
    refine ⟨⟨⟨p1, p2⟩, p3, p4⟩, sel_of (fun h' => ?_) fun h' => ?_⟩
    · have h' : MM l1 h1 < MM l2 h2 := by
        have h' := of_decide_eq_true h'
        unfold cmpI at h'
        by_cases c : MM l1 h1 < MM l2 h2
        · exact c
        · rw [if_neg c] at h'; split at h' <;> omega
      obtain ⟨e1, e2⟩ := sub_words p3 p4 p1 p2 (Int.le_of_lt h')
      refine ⟨⟨p3, p1, by decide, by decide⟩, ⟨p4, p2, b2.1, b2.2⟩, ex_mk ?_ ?_ ?_⟩
      · unfold plN; rw [if_neg h, if_pos h']
      · unfold plM; rw [if_neg h, e1, iabs_comm]
      · unfold plM; rw [if_neg h, e2, iabs_comm]
    · have h' : ¬ MM l1 h1 < MM l2 h2 := fun c => by
        have h' := of_decide_eq_false h'
        unfold cmpI at h'
        rw [if_pos c] at h'
        omega
      obtain ⟨e1, e2⟩ := sub_words p1 p2 p3 p4 (by omega)
      refine ⟨⟨p1, p3, by decide, by decide⟩, ⟨p2, p4, b1.1, b1.2⟩, ex_mk ?_ ?_ ?_⟩
      · unfold plN; rw [if_neg h, if_neg h']
      · unfold plM; rw [if_neg h, e1]
      · unfold plM; rw [if_neg h, e2]
theorem ΓC_ok : ∀ f g, ΓC f = some g → g.ok Try.prog f := addCtr_ok (addCtr_ok ΓC1_ok (pure_ok Try.func43 (by kernel_rfl) (by kernel_rfl) Product_spec)) (pure_ok Try.func54 (by kernel_rfl) (by kernel_rfl) Plus_spec)
end Go.Proofs.Ytlcfnlhognegcaa
end
section
namespace Go.Proofs.Ytlcfnlhognegcaa
open Go.SE Go.RowKit
def wrapT (v : Int) : Int := if Int.tmod v 26986075409 > 13493037704 then Int.tmod v 26986075409 - 26986075409 else if Int.tmod v 26986075409 < -13493037704 then Int.tmod v 26986075409 + 26986075409 else Int.tmod v 26986075409
def sOrder : List SV → Option (Option Prop × SV)
  | [.v (.int .i64 a), .v (.int .i64 b), .v (.int .i64 c), .v (.int .i64 d)] => some (some ((I64 a ∧ I64 b) ∧ I64 c ∧ I64 d), .v (.int .i64 (cmpI (a * b) (c * d))))
  | _ => none
def sFloor : List SV → Option (Option Prop × SV)
  | [.agg [.v (.int .i64 v), .v (.bool _)]] => some (none, .v (.int .i64 (sndV v / 4294967296)))
  | _ => none
def sOfN : List SV → Option (Option Prop × SV)
  | [.v (.int .i64 v)] => some (none, numS (sndV v) (sndF v false))
  | _ => none
def sInt : List SV → Option (Option Prop × SV)
  | [.v (.int .i64 v)] => some (some (I64 v), numS (fitE (v * 4294967296)) (fitG (v * 4294967296) false))
  | _ => none
def sNeg : List SV → Option (Option Prop × SV)
  | [.agg [.v (.int .i64 v), .v (.bool f)]] => some (some (I64 v), numS (-sndV v) (sndF v f))
  | _ => none
def sCmpN : List SV → Option (Option Prop × SV)
  | [.agg [.v (.int .i64 v), .v (.bool _)], .agg [.v (.int .i64 u), .v (.bool _)]] => some (none, .v (.int .i64 (cmpI (sndV v) (sndV u))))
  | _ => none
def sWrap : List SV → Option (Option Prop × SV)
  | [.agg [.v (.int .i64 v), .v (.bool f)]] => some (some (I64 v), numS (wrapT (sndV v)) (sndF v f))
  | _ => none
def mulE (a b : Int) : Int := Int.tdiv (a * b) 4294967296
def sMul : List SV → Option (Option Prop × SV)
  | [.agg [.v (.int .i64 v), .v (.bool f)], .agg [.v (.int .i64 u), .v (.bool g)]] => some (some (I64 v ∧ I64 u), numS (fitE (mulE (sndV v) (sndV u))) (fitG (mulE (sndV v) (sndV u)) (sndF v f || sndF u g)))
  | _ => none
theorem vcOf2 (v : Int) (R : SV→Prop) : (vcPure Try.prog ΓC noΛ Try.f27 [.v (.int .i64 v)] R) = (R (SV.agg [(SV.v (.int .i64 (sndV v))),(SV.v (.bool (sndF v false)))])):=by kernel_rfl
theorem vcInt (v : Int) (R : SV→Prop) : (vcPure Try.prog ΓC noΛ Try.f31 [.v (.int .i64 v)] R) = ((I64 v)∧(((U64 (iabs v))∧((U64 0)∧(((MM (iabs v) 0) : Int) < 79228162514264337593543950336)))∧(((U64 (MM (iabs v) 0 * 4294967296 % 18446744073709551616))∧(U64 (MM (iabs v) 0 * 4294967296 / 18446744073709551616)))∧(R (SV.agg [(SV.v (.int .i64 (fitV (decide (v < 0)) (MM (MM (iabs v) 0 * 4294967296 % 18446744073709551616) (MM (iabs v) 0 * 4294967296 / 18446744073709551616))))),(SV.v (.bool (fitF (MM (MM (iabs v) 0 * 4294967296 % 18446744073709551616) (MM (iabs v) 0 * 4294967296 / 18446744073709551616)) false)))]))))):=by kernel_rfl
theorem vcNeg (v : Int) (f : Bool) (R : SV→Prop) : (vcPure Try.prog ΓC noΛ Try.f28 [numS v f] R) = (R (SV.agg [(SV.v (.int .i64 (IntKind.wrap IntKind.i64 (0 - sndV v)))),(SV.v (.bool (sndF v f)))])):=by kernel_rfl
theorem vcWrap (v : Int) (f : Bool) (R : SV→Prop) : (vcPure Try.prog ΓC noΛ Try.f26 [numS v f] R) = (sel (decide (Int.tmod (sndV v) 26986075409 > 13493037704)) (R (SV.agg [(SV.v (.int .i64 (IntKind.wrap IntKind.i64 (Int.tmod (sndV v) 26986075409 - 26986075409)))),(SV.v (.bool (sndF v f)))])) (sel (decide (Int.tmod (sndV v) 26986075409 < -13493037704)) (R (SV.agg [(SV.v (.int .i64 (IntKind.wrap IntKind.i64 (Int.tmod (sndV v) 26986075409 + 26986075409)))),(SV.v (.bool (sndF v f)))])) (R (SV.agg [(SV.v (.int .i64 (Int.tmod (sndV v) 26986075409))),(SV.v (.bool (sndF v f)))])))):=by kernel_rfl
theorem iabs_neg {a : Int} (h : a < 0) : iabs a = -a := by unfold iabs; rw [if_pos h]
theorem iabs_pos {a : Int} (h : ¬ a < 0) : iabs a = a := by unfold iabs; rw [if_neg h]
theorem sgn_mul (a b : Int) : sv (!(decide (a < 0) == decide (b < 0))) (iabs a * iabs b) = a * b := by
  unfold sv
  by_cases ha : a < 0 <;> by_cases hb : b < 0
  · rw [iabs_neg ha, iabs_neg hb]; simp [ha, hb, Int.neg_mul_neg]
  · rw [iabs_neg ha, iabs_pos hb]; simp [ha, hb, Int.neg_mul]
  · rw [iabs_pos ha, iabs_neg hb]; simp [ha, hb, Int.mul_neg]
  · rw [iabs_pos ha, iabs_pos hb]; simp [ha, hb]
theorem sv_tdiv (n : Bool) {m k : Int} (h : 0 ≤ m) : sv n (m / k) = Int.tdiv (sv n m) k := by
  unfold sv
  cases n with
  | false => simp [Int.tdiv_eq_ediv_of_nonneg h]
  | true => simp [Int.neg_tdiv, Int.tdiv_eq_ediv_of_nonneg h]
theorem iabs_mul_lt {a b : Int} (ha : I64 a) (hb : I64 b) : iabs a * iabs b ≤ 85070591730234615865843651857942052864 := by
  have h1 := iabs_le ha
  have h2 := iabs_le hb
  have := Int.mul_le_mul h1 h2 (iabs_nonneg b) (by decide)
  simpa using this
theorem sndV_neg {v : Int} (h : I64 v) : IntKind.i64.wrap (0 - sndV v) = - sndV v := by
  have := sndV_in h
  rw [wrap_i64 ⟨by omega, by omega⟩]; omega
theorem Of2_spec : PureSpec Try.prog 27 sOfN := vc_spec hm ΓC_ok Try.func27 (Λ := fun _ => noΛ) fun args p x h hp => by
  unfold sOfN at h
  split at h <;> try (cases h; done)
  cases h
  refine ⟨rfl, rfl, ?_⟩
  rw [vcOf2]; rfl
theorem MM_0 (lo : Int) : MM lo 0 = lo := by unfold MM; omega
theorem sv_of (v : Int) : sv (decide (v < 0)) (iabs v) = v := by
  unfold sv
  by_cases h : v < 0
  · rw [iabs_neg h]; simp [h]
  · rw [iabs_pos h]; simp [h]
theorem sv_scale (n : Bool) (m k : Int) : sv n (m * k) = sv n m * k := by unfold sv; cases n <;> simp [Int.neg_mul]
theorem u64_0 : U64 0 := ⟨by decide, by decide⟩
theorem Int_spec : PureSpec Try.prog 31 sInt := vc_spec hm ΓC_ok Try.func31 (Λ := fun _ => noΛ) fun args p x h hp => by
  unfold sInt at h
  split at h <;> try (cases h; done)
  cases h
  have h1 := hp _ rfl
  have h2 := iabs_le h1
  have h3 := iabs_nonneg ‹Int›
  refine ⟨rfl, rfl, ?_⟩
  rw [vcInt]
  simp only [MM_0, MM_split]
  refine ⟨h1, ⟨iabs_u64 h1, u64_0, by omega⟩, ⟨mod_u64 _, div_u64 (by omega) (by omega)⟩, num_mk ?_ ?_⟩
  · rw [fitV_E _ (by omega), sv_scale, sv_of]
  · rw [fitF_G (decide (‹Int› < 0)) _ (by omega), sv_scale, sv_of]
theorem Neg_spec : PureSpec Try.prog 28 sNeg := vc_spec hm ΓC_ok Try.func28 (Λ := fun _ => noΛ) fun args p x h hp => by
  unfold sNeg at h
  split at h <;> try (cases h; done)
  cases h
  have h1 := hp _ rfl
  refine ⟨rfl, rfl, ?_⟩
  rw [show ∀ v f, SV.agg [.v (.int .i64 v), .v (.bool f)] = numS v f from fun _ _ => rfl, vcNeg, sndV_neg h1]
  rfl
theorem tmod_in (v : Int) : -26986075409 < Int.tmod v 26986075409 ∧ Int.tmod v 26986075409 < 26986075409 := by
  have h1 := Int.tmod_lt_of_pos v (show (0 : Int) < 26986075409 by decide)
  have h2 := Int.tmod_lt_of_pos (-v) (show (0 : Int) < 26986075409 by decide)
  rw [Int.neg_tmod] at h2
  omega
theorem Wrap_spec : PureSpec Try.prog 26 sWrap := vc_spec hm ΓC_ok Try.func26 (Λ := fun _ => noΛ) fun args p x h hp => by
  unfold sWrap at h
  split at h <;> try (cases h; done)
  rename_i v f
  cases h
  refine ⟨rfl, rfl, ?_⟩
  rw [show ∀ v f, SV.agg [.v (.int .i64 v), .v (.bool f)] = numS v f from fun _ _ => rfl, vcWrap]
  have ht := tmod_in (sndV v)
  unfold wrapT
  generalize Int.tmod (sndV v) 26986075409 = r at ht ⊢
  refine sel_of (fun h => num_mk ?_ rfl) fun h => sel_of (fun h' => num_mk ?_ rfl) fun h' => num_mk ?_ rfl
  · have h := of_decide_eq_true h
    rw [if_pos h, wrap_i64 ⟨by omega, by omega⟩]
  · have h := of_decide_eq_false h
    have h' := of_decide_eq_true h'
    rw [if_neg h, if_pos h', wrap_i64 ⟨by omega, by omega⟩]
  · rw [if_neg (of_decide_eq_false h), if_neg (of_decide_eq_false h')]
end Go.Proofs.Ytlcfnlhognegcaa
end
section
namespace Go.Proofs.Ytlcfnlhognegcaa
open Go.SE Go.RowKit
def isN : List SV → Prop
  | [.v (.int .i64 _), .v (.bool _)] => True
  | _ => False
def rowV (l : List SV) : Int := match l with | [.v (.int _ v), _] => v | _ => 0
def rowF (l : List SV) : Bool := match l with | [_, .v (.bool f)] => f | _ => false
def anyF : List (List SV) → Bool
  | [] => false
  | r :: t => rowF r || anyF t
def anyG : List (List SV) → Bool
  | [] => false
  | r :: t => sndF (rowV r) (rowF r) || anyG t
def rowsN (v : Nat → Int) (f : Nat → Bool) : Nat → List SV := fun i => [.v (.int .i64 (v i)), .v (.bool (f i))]
def sFlags : List SV → List Ro → Option (Option Prop × SV)
  | [.sl 0 2 0 n _], [⟨2, n', row⟩] => some (some (okAll isN (rowsOf n' row) ∧ n' = n ∧ n < 4611686018427387904), .v (.bool (anyF (rowsOf n row))))
  | _, _ => none
noncomputable def ΛFlags (n : Nat) (f : Nat → Bool) : Nat → Option LoopSpec := addLoop noΛ Try.f42 0 Nat (fun i => i ≤ n ∧ ∀ j, j < i → f j = false) (fun i => n - i) [(7, fun i => .v (.int .i64 i))] []
theorem vcFlags (n n' c : Nat) (v : Nat→Int) (f : Nat→Bool) (R : SV→Prop) : (vcFn Try.prog noCtrs (ΛFlags n f) Try.f42 [.sl 0 2 0 n c] (roHeap [⟨2,n',rowsN v f⟩]) 64 (fun y _ => R y)) = ((∃ x : Nat,((((x : Nat) ≤ n)∧(∀ j : Nat,(((j : Nat) < x)→(f j = false))))∧(((SV.v (.int .i64 0)) = (SV.v (.int .i64 ((↑x : Int)))))∧True)))∧(∀ x : Nat,((((x : Nat) ≤ n)∧(∀ j : Nat,(((j : Nat) < x)→(f j = false))))→(sel (decide ((↑x : Int) < (↑n : Int))) ((((0 : Int) ≤ ((↑x : Int)))∧((((↑x : Int)) : Int) < ((↑n : Int))))∧(sel (f (0 + Int.toNat (↑x : Int))) (R (SV.v (.bool true))) (∃ x' : Nat,(((((x' : Nat) ≤ n)∧(∀ j : Nat,(((j : Nat) < x')→(f j = false))))∧(((SV.v (.int .i64 (IntKind.wrap IntKind.i64 ((↑x : Int) + 1)))) = (SV.v (.int .i64 ((↑x' : Int)))))∧True))∧(((n - x') : Nat) < (n - x)))))) (R (SV.v (.bool false))))))):=by kernel_rfl
theorem isN_row {r : List SV} (h : isN r) : r = [.v (.int .i64 (rowV r)), .v (.bool (rowF r))] := by
  unfold isN at h
  split at h
  · rfl
  · exact h.elim
theorem anyF_append (a b : List (List SV)) : anyF (a ++ b) = (anyF a || anyF b) := by
  induction a with
  | nil => rfl
  | cons r t ih => simp [anyF, ih, Bool.or_assoc]
theorem anyF_false {row : Nat → List SV} : ∀ {i : Nat}, (∀ j, j < i → rowF (row j) = false) → anyF (rowsOf i row) = false
  | 0, _ => rfl
  | i + 1, h => by
    rw [rowsOf_succ, anyF_append, anyF_false fun j hj => h j (by omega)]
    simp [anyF, h i (by omega)]
theorem anyF_hit {n i : Nat} {row : Nat → List SV} (hi : i < n) (h : rowF (row i) = true) : anyF (rowsOf n row) = true := by
  obtain ⟨t, ht⟩ := rowsOf_split row hi
  rw [ht, anyF_append]
  simp [anyF, h]
theorem Flags_spec : RoSpec Try.prog 42 sFlags := ro_spec hm noCtrs_ok Try.func42 (Λ := fun args bs => match args, bs with | [.sl 0 2 0 n _], [⟨2, _, row⟩] => ΛFlags n (fun i => rowF (row i)) | _, _ => noΛ) fun args bs p x h hp => by
  unfold sFlags at h
  split at h <;> try (cases h; done)
  rename_i n c n' row
  cases h
  obtain ⟨h1, rfl, h3⟩ := hp _ rfl
  have h1 := okAll_rows.1 h1
  refine ⟨rfl, [⟨2, n', rowsN (fun i => rowV (row i)) fun i => rowF (row i)⟩], ⟨⟨rfl, rfl, fun i hi => isN_row (h1 i hi)⟩, trivial⟩, ?_⟩
  show vcFn _ _ (ΛFlags n' fun i => rowF (row i)) _ _ _ _ _
  rw [vcFlags]
  refine ⟨⟨0, ⟨by omega, fun j hj => by omega⟩, rfl, trivial⟩, fun i hi => ?_⟩
  refine sel_of (fun h => ?_) fun h => ?_
  · have h' : i < n' := by have := of_decide_eq_true h; omega
    simp only [Int.toNat_natCast, Nat.zero_add]
    refine ⟨⟨by omega, by omega⟩, sel_of (fun h'' => bool_mk (anyF_hit h' h'').symm) fun h'' => ⟨i + 1, ⟨⟨by omega, fun j hj => ?_⟩, int_mk ?_, trivial⟩, by omega⟩⟩
    · rcases Nat.lt_or_eq_of_le (Nat.le_of_lt_succ hj) with hj | rfl
      · exact hi.2 j hj
      · exact h''
    · rw [wrap_i64 ⟨by omega, by omega⟩]; omega
  · have h' : ¬ i < n' := by have := of_decide_eq_false h; omega
    have : i = n' := by omega
    subst this
    exact bool_mk (anyF_false hi.2).symm
theorem anyG_append (a b : List (List SV)) : anyG (a ++ b) = (anyG a || anyG b) := by
  induction a with
  | nil => rfl
  | cons r t ih => simp [anyG, ih, Bool.or_assoc]
end Go.Proofs.Ytlcfnlhognegcaa
end
section
namespace Go.Proofs.Ytlcfnlhognegcaa
open Go.SE Go.RowKit
def lenI (x : Int) : Int := if x = 0 then 0 else ((Nat.log2 x.toNat : Nat) : Int) + 1
def sLen64 : List SV → Option (Option Prop × SV)
  | [.v (.int .u64 x)] => some (some (U64 x), .v (.int .i64 (lenI x)))
  | _ => none
def sLead : List SV → Option (Option Prop × SV)
  | [.v (.int .u64 x)] => some (some (U64 x), .v (.int .i64 (64 - lenI x)))
  | _ => none
def sDiv64 : List SV → Option (Option Prop × SV)
  | [.v (.int .u64 hi), .v (.int .u64 lo), .v (.int .u64 y)] => some (some (U64 hi ∧ U64 lo ∧ U64 y ∧ hi < y), .tup [.v (.int .u64 (MM lo hi / y)), .v (.int .u64 (MM lo hi % y))])
  | _ => none
def ΓX0 : Ctrs := addCtr noCtrs 67 (pureCtr sLen64)
def ΓX1 : Ctrs := addCtr noCtrs 63 (pureCtr sLead)
structure QR where
  q : Int
  r : Int
structure invQ (a b u l : Int) (x : QR) : Prop where
  q0 : 0 ≤ x.q
  q1 : x.q ≤ 4294967297
  r0 : 0 ≤ x.r
  r1 : x.r < 4294967296
  sum : x.q * a + x.r = u
  le : (u * 4294967296 + l) / (a * 4294967296 + b) ≤ x.q
noncomputable def ΛDiv (a b u l u' l' : Int) : Nat → Option LoopSpec := addLoop (addLoop noΛ Try.f53 0 QR (invQ a b u l) (fun x => x.q.toNat) [(15, fun x => .v (.int .u64 x.q)), (16, fun x => .v (.int .u64 x.r))] [])
  Try.f53 2 QR (invQ a b u' l') (fun x => x.q.toNat) [(18, fun x => .v (.int .u64 x.q)), (16, fun x => .v (.int .u64 x.r))] []
def tab8 : List UInt8 := (Array.toList (ByteArray.data { data := List.toArray (List.append (List.append [0, 1, 2, 2, 3, 3, 3, 3, 4, 4, 4, 4, 4, 4, 4, 4, 5, 5, 5, 5, 5, 5, 5, 5, 5, 5, 5, 5, 5, 5, 5, 5, 6, 6, 6, 6, 6, 6, 6, 6, 6, 6, 6, 6, 6, 6, 6, 6, 6, 6, 6, 6, 6, 6, 6, 6, 6, 6, 6, 6, 6, 6, 6, 6] [7, 7, 7, 7, 7, 7, 7, 7, 7, 7, 7, 7, 7, 7, 7, 7, 7, 7, 7, 7, 7, 7, 7, 7, 7, 7, 7, 7, 7, 7, 7, 7, 7, 7, 7, 7, 7, 7, 7, 7, 7, 7, 7, 7, 7, 7, 7, 7, 7, 7, 7, 7, 7, 7, 7, 7, 7, 7, 7, 7, 7, 7, 7, 7]) (List.append [8, 8, 8, 8, 8, 8, 8, 8, 8, 8, 8, 8, 8, 8, 8, 8, 8, 8, 8, 8, 8, 8, 8, 8, 8, 8, 8, 8, 8, 8, 8, 8, 8, 8, 8, 8, 8, 8, 8, 8, 8, 8, 8, 8, 8, 8, 8, 8, 8, 8, 8, 8, 8, 8, 8, 8, 8, 8, 8, 8, 8, 8, 8, 8] [8, 8, 8, 8, 8, 8, 8, 8, 8, 8, 8, 8, 8, 8, 8, 8, 8, 8, 8, 8, 8, 8, 8, 8, 8, 8, 8, 8, 8, 8, 8, 8, 8, 8, 8, 8, 8, 8, 8, 8, 8, 8, 8, 8, 8, 8, 8, 8, 8, 8, 8, 8, 8, 8, 8, 8, 8, 8, 8, 8, 8, 8, 8, 8])) }))
theorem vcLen64 (x : Int) (R : SV→Prop) : (vcPure Try.prog noCtrs noΛ Try.f67 [.v (.int .u64 x)] R) = (sel (decide (x ≥ 4294967296)) (sel (decide (x / 4294967296 ≥ 65536)) (sel (decide (x / 4294967296 / 65536 ≥ 256)) ((((0 : Int) ≤ (IntKind.wrap IntKind.u8 (x / 4294967296 / 65536 / 256)))∧(((IntKind.wrap IntKind.u8 (x / 4294967296 / 65536 / 256)) : Int) < 256))∧(R (SV.v (.int .i64 (IntKind.wrap IntKind.i64 (56 + IntKind.wrap IntKind.i64 (↑(UInt8.toNat (List.getD tab8 (Int.toNat (IntKind.wrap IntKind.u8 (x / 4294967296 / 65536 / 256))) 0)) : Int))))))) ((((0 : Int) ≤ (IntKind.wrap IntKind.u8 (x / 4294967296 / 65536)))∧(((IntKind.wrap IntKind.u8 (x / 4294967296 / 65536)) : Int) < 256))∧(R (SV.v (.int .i64 (IntKind.wrap IntKind.i64 (48 + IntKind.wrap IntKind.i64 (↑(UInt8.toNat (List.getD tab8 (Int.toNat (IntKind.wrap IntKind.u8 (x / 4294967296 / 65536))) 0)) : Int)))))))) (sel (decide (x / 4294967296 ≥ 256)) ((((0 : Int) ≤ (IntKind.wrap IntKind.u8 (x / 4294967296 / 256)))∧(((IntKind.wrap IntKind.u8 (x / 4294967296 / 256)) : Int) < 256))∧(R (SV.v (.int .i64 (IntKind.wrap IntKind.i64 (40 + IntKind.wrap IntKind.i64 (↑(UInt8.toNat (List.getD tab8 (Int.toNat (IntKind.wrap IntKind.u8 (x / 4294967296 / 256))) 0)) : Int))))))) ((((0 : Int) ≤ (IntKind.wrap IntKind.u8 (x / 4294967296)))∧(((IntKind.wrap IntKind.u8 (x / 4294967296)) : Int) < 256))∧(R (SV.v (.int .i64 (IntKind.wrap IntKind.i64 (32 + IntKind.wrap IntKind.i64 (↑(UInt8.toNat (List.getD tab8 (Int.toNat (IntKind.wrap IntKind.u8 (x / 4294967296))) 0)) : Int))))))))) (sel (decide (x ≥ 65536)) (sel (decide (x / 65536 ≥ 256)) ((((0 : Int) ≤ (IntKind.wrap IntKind.u8 (x / 65536 / 256)))∧(((IntKind.wrap IntKind.u8 (x / 65536 / 256)) : Int) < 256))∧(R (SV.v (.int .i64 (IntKind.wrap IntKind.i64 (24 + IntKind.wrap IntKind.i64 (↑(UInt8.toNat (List.getD tab8 (Int.toNat (IntKind.wrap IntKind.u8 (x / 65536 / 256))) 0)) : Int))))))) ((((0 : Int) ≤ (IntKind.wrap IntKind.u8 (x / 65536)))∧(((IntKind.wrap IntKind.u8 (x / 65536)) : Int) < 256))∧(R (SV.v (.int .i64 (IntKind.wrap IntKind.i64 (16 + IntKind.wrap IntKind.i64 (↑(UInt8.toNat (List.getD tab8 (Int.toNat (IntKind.wrap IntKind.u8 (x / 65536))) 0)) : Int)))))))) (sel (decide (x ≥ 256)) ((((0 : Int) ≤ (IntKind.wrap IntKind.u8 (x / 256)))∧(((IntKind.wrap IntKind.u8 (x / 256)) : Int) < 256))∧(R (SV.v (.int .i64 (IntKind.wrap IntKind.i64 (8 + IntKind.wrap IntKind.i64 (↑(UInt8.toNat (List.getD tab8 (Int.toNat (IntKind.wrap IntKind.u8 (x / 256))) 0)) : Int))))))) ((((0 : Int) ≤ (IntKind.wrap IntKind.u8 x))∧(((IntKind.wrap IntKind.u8 x) : Int) < 256))∧(R (SV.v (.int .i64 (IntKind.wrap IntKind.i64 (0 + IntKind.wrap IntKind.i64 (↑(UInt8.toNat (List.getD tab8 (Int.toNat (IntKind.wrap IntKind.u8 x)) 0)) : Int)))))))))):=by kernel_rfl
theorem vcLead (x : Int) (R : SV→Prop) : (vcPure Try.prog ΓX0 noΛ Try.f63 [.v (.int .u64 x)] R) = ((U64 x)∧(R (SV.v (.int .i64 (IntKind.wrap IntKind.i64 (64 - lenI x)))))):=by kernel_rfl
theorem vcDiv64 (hi lo y a b u l u' l' : Int) (R : SV→Prop) : (vcPure Try.prog ΓX1 (ΛDiv a b u l u' l') Try.f53 [.v (.int .u64 hi),.v (.int .u64 lo),.v (.int .u64 y)] R) = (sel (y == 0) False (sel (decide (y ≤ hi)) False (sel (hi == 0) (((y : Int) ≠ 0)∧(((y : Int) ≠ 0)∧(R (SV.tup [(SV.v (.int .u64 (IntKind.wrap IntKind.u64 (Int.tdiv lo y)))),(SV.v (.int .u64 (Int.tmod lo y)))])))) ((U64 y)∧(((0 : Int) ≤ (IntKind.wrap IntKind.u64 (64 - lenI y)))∧(((0 : Int) ≤ (IntKind.wrap IntKind.u64 (64 - lenI y)))∧(((0 : Int) ≤ (IntKind.wrap IntKind.u64 (64 - IntKind.wrap IntKind.u64 (64 - lenI y))))∧(((0 : Int) ≤ (IntKind.wrap IntKind.u64 (64 - lenI y)))∧((((IntKind.wrap IntKind.u64 (y * 2 ^ min (Int.toNat (IntKind.wrap IntKind.u64 (64 - lenI y))) 64) / 4294967296) : Int) ≠ 0)∧((∃ x : QR,((invQ a b u l x)∧((((SV.v (.int .u64 (IntKind.wrap IntKind.u64 (Int.tdiv (bits BinOp.or IntKind.u64 (IntKind.wrap IntKind.u64 (hi * 2 ^ min (Int.toNat (IntKind.wrap IntKind.u64 (64 - lenI y))) 64)) (lo / 2 ^ min (Int.toNat (IntKind.wrap IntKind.u64 (64 - IntKind.wrap IntKind.u64 (64 - lenI y)))) 64)) (IntKind.wrap IntKind.u64 (y * 2 ^ min (Int.toNat (IntKind.wrap IntKind.u64 (64 - lenI y))) 64) / 4294967296))))) = (SV.v (.int .u64 (QR.q x))))∧((SV.v (.int .u64 (IntKind.wrap IntKind.u64 (bits BinOp.or IntKind.u64 (IntKind.wrap IntKind.u64 (hi * 2 ^ min (Int.toNat (IntKind.wrap IntKind.u64 (64 - lenI y))) 64)) (lo / 2 ^ min (Int.toNat (IntKind.wrap IntKind.u64 (64 - IntKind.wrap IntKind.u64 (64 - lenI y)))) 64) - IntKind.wrap IntKind.u64 (IntKind.wrap IntKind.u64 (Int.tdiv (bits BinOp.or IntKind.u64 (IntKind.wrap IntKind.u64 (hi * 2 ^ min (Int.toNat (IntKind.wrap IntKind.u64 (64 - lenI y))) 64)) (lo / 2 ^ min (Int.toNat (IntKind.wrap IntKind.u64 (64 - IntKind.wrap IntKind.u64 (64 - lenI y)))) 64)) (IntKind.wrap IntKind.u64 (y * 2 ^ min (Int.toNat (IntKind.wrap IntKind.u64 (64 - lenI y))) 64) / 4294967296)) * (IntKind.wrap IntKind.u64 (y * 2 ^ min (Int.toNat (IntKind.wrap IntKind.u64 (64 - lenI y))) 64) / 4294967296)))))) = (SV.v (.int .u64 (QR.r x)))))∧True)))∧(∀ x : QR,((invQ a b u l x)→(sel (decide (QR.q x ≥ 4294967296)) (sel (decide (IntKind.wrap IntKind.u64 (QR.r x + IntKind.wrap IntKind.u64 (y * 2 ^ min (Int.toNat (IntKind.wrap IntKind.u64 (64 - lenI y))) 64) / 4294967296) ≥ 4294967296)) ((((IntKind.wrap IntKind.u64 (y * 2 ^ min (Int.toNat (IntKind.wrap IntKind.u64 (64 - lenI y))) 64) / 4294967296) : Int) ≠ 0)∧((∃ x_1 : QR,((invQ a b u' l' x_1)∧((((SV.v (.int .u64 (IntKind.wrap IntKind.u64 (Int.tdiv (IntKind.wrap IntKind.u64 (IntKind.wrap IntKind.u64 (IntKind.wrap IntKind.u64 (bits BinOp.or IntKind.u64 (IntKind.wrap IntKind.u64 (hi * 2 ^ min (Int.toNat (IntKind.wrap IntKind.u64 (64 - lenI y))) 64)) (lo / 2 ^ min (Int.toNat (IntKind.wrap IntKind.u64 (64 - IntKind.wrap IntKind.u64 (64 - lenI y)))) 64) * 4294967296) + IntKind.wrap IntKind.u64 (lo * 2 ^ min (Int.toNat (IntKind.wrap IntKind.u64 (64 - lenI y))) 64) / 4294967296) - IntKind.wrap IntKind.u64 (IntKind.wrap IntKind.u64 (QR.q x - 1) * IntKind.wrap IntKind.u64 (y * 2 ^ min (Int.toNat (IntKind.wrap IntKind.u64 (64 - lenI y))) 64)))) (IntKind.wrap IntKind.u64 (y * 2 ^ min (Int.toNat (IntKind.wrap IntKind.u64 (64 - lenI y))) 64) / 4294967296))))) = (SV.v (.int .u64 (QR.q x_1))))∧((SV.v (.int .u64 (IntKind.wrap IntKind.u64 (IntKind.wrap IntKind.u64 (IntKind.wrap IntKind.u64 (IntKind.wrap IntKind.u64 (bits BinOp.or IntKind.u64 (IntKind.wrap IntKind.u64 (hi * 2 ^ min (Int.toNat (IntKind.wrap IntKind.u64 (64 - lenI y))) 64)) (lo / 2 ^ min (Int.toNat (IntKind.wrap IntKind.u64 (64 - IntKind.wrap IntKind.u64 (64 - lenI y)))) 64) * 4294967296) + IntKind.wrap IntKind.u64 (lo * 2 ^ min (Int.toNat (IntKind.wrap IntKind.u64 (64 - lenI y))) 64) / 4294967296) - IntKind.wrap IntKind.u64 (IntKind.wrap IntKind.u64 (QR.q x - 1) * IntKind.wrap IntKind.u64 (y * 2 ^ min (Int.toNat (IntKind.wrap IntKind.u64 (64 - lenI y))) 64))) - IntKind.wrap IntKind.u64 (IntKind.wrap IntKind.u64 (Int.tdiv (IntKind.wrap IntKind.u64 (IntKind.wrap IntKind.u64 (IntKind.wrap IntKind.u64 (bits BinOp.or IntKind.u64 (IntKind.wrap IntKind.u64 (hi * 2 ^ min (Int.toNat (IntKind.wrap IntKind.u64 (64 - lenI y))) 64)) (lo / 2 ^ min (Int.toNat (IntKind.wrap IntKind.u64 (64 - IntKind.wrap IntKind.u64 (64 - lenI y)))) 64) * 4294967296) + IntKind.wrap IntKind.u64 (lo * 2 ^ min (Int.toNat (IntKind.wrap IntKind.u64 (64 - lenI y))) 64) / 4294967296) - IntKind.wrap IntKind.u64 (IntKind.wrap IntKind.u64 (QR.q x - 1) * IntKind.wrap IntKind.u64 (y * 2 ^ min (Int.toNat (IntKind.wrap IntKind.u64 (64 - lenI y))) 64)))) (IntKind.wrap IntKind.u64 (y * 2 ^ min (Int.toNat (IntKind.wrap IntKind.u64 (64 - lenI y))) 64) / 4294967296)) * (IntKind.wrap IntKind.u64 (y * 2 ^ min (Int.toNat (IntKind.wrap IntKind.u64 (64 - lenI y))) 64) / 4294967296)))))) = (SV.v (.int .u64 (QR.r x_1)))))∧True)))∧(∀ x_1 : QR,((invQ a b u' l' x_1)→(sel (decide (QR.q x_1 ≥ 4294967296)) (sel (decide (IntKind.wrap IntKind.u64 (QR.r x_1 + IntKind.wrap IntKind.u64 (y * 2 ^ min (Int.toNat (IntKind.wrap IntKind.u64 (64 - lenI y))) 64) / 4294967296) ≥ 4294967296)) (((0 : Int) ≤ (IntKind.wrap IntKind.u64 (64 - lenI y)))∧(R (SV.tup [(SV.v (.int .u64 (IntKind.wrap IntKind.u64 (IntKind.wrap IntKind.u64 (IntKind.wrap IntKind.u64 (QR.q x - 1) * 4294967296) + IntKind.wrap IntKind.u64 (QR.q x_1 - 1))))),(SV.v (.int .u64 (IntKind.wrap IntKind.u64 (IntKind.wrap IntKind.u64 (IntKind.wrap IntKind.u64 (IntKind.wrap IntKind.u64 (IntKind.wrap IntKind.u64 (IntKind.wrap IntKind.u64 (bits BinOp.or IntKind.u64 (IntKind.wrap IntKind.u64 (hi * 2 ^ min (Int.toNat (IntKind.wrap IntKind.u64 (64 - lenI y))) 64)) (lo / 2 ^ min (Int.toNat (IntKind.wrap IntKind.u64 (64 - IntKind.wrap IntKind.u64 (64 - lenI y)))) 64) * 4294967296) + IntKind.wrap IntKind.u64 (lo * 2 ^ min (Int.toNat (IntKind.wrap IntKind.u64 (64 - lenI y))) 64) / 4294967296) - IntKind.wrap IntKind.u64 (IntKind.wrap IntKind.u64 (QR.q x - 1) * IntKind.wrap IntKind.u64 (y * 2 ^ min (Int.toNat (IntKind.wrap IntKind.u64 (64 - lenI y))) 64))) * 4294967296) + bits BinOp.and IntKind.u64 (IntKind.wrap IntKind.u64 (lo * 2 ^ min (Int.toNat (IntKind.wrap IntKind.u64 (64 - lenI y))) 64)) 4294967295) - IntKind.wrap IntKind.u64 (IntKind.wrap IntKind.u64 (QR.q x_1 - 1) * IntKind.wrap IntKind.u64 (y * 2 ^ min (Int.toNat (IntKind.wrap IntKind.u64 (64 - lenI y))) 64))) / 2 ^ min (Int.toNat (IntKind.wrap IntKind.u64 (64 - lenI y))) 64)))]))) (∃ x' : QR,(((invQ a b u' l' x')∧((((SV.v (.int .u64 (IntKind.wrap IntKind.u64 (QR.q x_1 - 1)))) = (SV.v (.int .u64 (QR.q x'))))∧((SV.v (.int .u64 (IntKind.wrap IntKind.u64 (QR.r x_1 + IntKind.wrap IntKind.u64 (y * 2 ^ min (Int.toNat (IntKind.wrap IntKind.u64 (64 - lenI y))) 64) / 4294967296)))) = (SV.v (.int .u64 (QR.r x')))))∧True))∧(((Int.toNat (QR.q x')) : Nat) < (Int.toNat (QR.q x_1)))))) (sel (decide (IntKind.wrap IntKind.u64 (QR.q x_1 * bits BinOp.and IntKind.u64 (IntKind.wrap IntKind.u64 (y * 2 ^ min (Int.toNat (IntKind.wrap IntKind.u64 (64 - lenI y))) 64)) 4294967295) > IntKind.wrap IntKind.u64 (IntKind.wrap IntKind.u64 (4294967296 * QR.r x_1) + bits BinOp.and IntKind.u64 (IntKind.wrap IntKind.u64 (lo * 2 ^ min (Int.toNat (IntKind.wrap IntKind.u64 (64 - lenI y))) 64)) 4294967295))) (sel (decide (IntKind.wrap IntKind.u64 (QR.r x_1 + IntKind.wrap IntKind.u64 (y * 2 ^ min (Int.toNat (IntKind.wrap IntKind.u64 (64 - lenI y))) 64) / 4294967296) ≥ 4294967296)) (((0 : Int) ≤ (IntKind.wrap IntKind.u64 (64 - lenI y)))∧(R (SV.tup [(SV.v (.int .u64 (IntKind.wrap IntKind.u64 (IntKind.wrap IntKind.u64 (IntKind.wrap IntKind.u64 (QR.q x - 1) * 4294967296) + IntKind.wrap IntKind.u64 (QR.q x_1 - 1))))),(SV.v (.int .u64 (IntKind.wrap IntKind.u64 (IntKind.wrap IntKind.u64 (IntKind.wrap IntKind.u64 (IntKind.wrap IntKind.u64 (IntKind.wrap IntKind.u64 (IntKind.wrap IntKind.u64 (bits BinOp.or IntKind.u64 (IntKind.wrap IntKind.u64 (hi * 2 ^ min (Int.toNat (IntKind.wrap IntKind.u64 (64 - lenI y))) 64)) (lo / 2 ^ min (Int.toNat (IntKind.wrap IntKind.u64 (64 - IntKind.wrap IntKind.u64 (64 - lenI y)))) 64) * 4294967296) + IntKind.wrap IntKind.u64 (lo * 2 ^ min (Int.toNat (IntKind.wrap IntKind.u64 (64 - lenI y))) 64) / 4294967296) - IntKind.wrap IntKind.u64 (IntKind.wrap IntKind.u64 (QR.q x - 1) * IntKind.wrap IntKind.u64 (y * 2 ^ min (Int.toNat (IntKind.wrap IntKind.u64 (64 - lenI y))) 64))) * 4294967296) + bits BinOp.and IntKind.u64 (IntKind.wrap IntKind.u64 (lo * 2 ^ min (Int.toNat (IntKind.wrap IntKind.u64 (64 - lenI y))) 64)) 4294967295) - IntKind.wrap IntKind.u64 (IntKind.wrap IntKind.u64 (QR.q x_1 - 1) * IntKind.wrap IntKind.u64 (y * 2 ^ min (Int.toNat (IntKind.wrap IntKind.u64 (64 - lenI y))) 64))) / 2 ^ min (Int.toNat (IntKind.wrap IntKind.u64 (64 - lenI y))) 64)))]))) (∃ x' : QR,(((invQ a b u' l' x')∧((((SV.v (.int .u64 (IntKind.wrap IntKind.u64 (QR.q x_1 - 1)))) = (SV.v (.int .u64 (QR.q x'))))∧((SV.v (.int .u64 (IntKind.wrap IntKind.u64 (QR.r x_1 + IntKind.wrap IntKind.u64 (y * 2 ^ min (Int.toNat (IntKind.wrap IntKind.u64 (64 - lenI y))) 64) / 4294967296)))) = (SV.v (.int .u64 (QR.r x')))))∧True))∧(((Int.toNat (QR.q x')) : Nat) < (Int.toNat (QR.q x_1)))))) (((0 : Int) ≤ (IntKind.wrap IntKind.u64 (64 - lenI y)))∧(R (SV.tup [(SV.v (.int .u64 (IntKind.wrap IntKind.u64 (IntKind.wrap IntKind.u64 (IntKind.wrap IntKind.u64 (QR.q x - 1) * 4294967296) + QR.q x_1)))),(SV.v (.int .u64 (IntKind.wrap IntKind.u64 (IntKind.wrap IntKind.u64 (IntKind.wrap IntKind.u64 (IntKind.wrap IntKind.u64 (IntKind.wrap IntKind.u64 (IntKind.wrap IntKind.u64 (bits BinOp.or IntKind.u64 (IntKind.wrap IntKind.u64 (hi * 2 ^ min (Int.toNat (IntKind.wrap IntKind.u64 (64 - lenI y))) 64)) (lo / 2 ^ min (Int.toNat (IntKind.wrap IntKind.u64 (64 - IntKind.wrap IntKind.u64 (64 - lenI y)))) 64) * 4294967296) + IntKind.wrap IntKind.u64 (lo * 2 ^ min (Int.toNat (IntKind.wrap IntKind.u64 (64 - lenI y))) 64) / 4294967296) - IntKind.wrap IntKind.u64 (IntKind.wrap IntKind.u64 (QR.q x - 1) * IntKind.wrap IntKind.u64 (y * 2 ^ min (Int.toNat (IntKind.wrap IntKind.u64 (64 - lenI y))) 64))) * 4294967296) + bits BinOp.and IntKind.u64 (IntKind.wrap IntKind.u64 (lo * 2 ^ min (Int.toNat (IntKind.wrap IntKind.u64 (64 - lenI y))) 64)) 4294967295) - IntKind.wrap IntKind.u64 (QR.q x_1 * IntKind.wrap IntKind.u64 (y * 2 ^ min (Int.toNat (IntKind.wrap IntKind.u64 (64 - lenI y))) 64))) / 2 ^ min (Int.toNat (IntKind.wrap IntKind.u64 (64 - lenI y))) 64)))]))))))))) (∃ x' : QR,(((invQ a b u l x')∧((((SV.v (.int .u64 (IntKind.wrap IntKind.u64 (QR.q x - 1)))) = (SV.v (.int .u64 (QR.q x'))))∧((SV.v (.int .u64 (IntKind.wrap IntKind.u64 (QR.r x + IntKind.wrap IntKind.u64 (y * 2 ^ min (Int.toNat (IntKind.wrap IntKind.u64 (64 - lenI y))) 64) / 4294967296)))) = (SV.v (.int .u64 (QR.r x')))))∧True))∧(((Int.toNat (QR.q x')) : Nat) < (Int.toNat (QR.q x)))))) (sel (decide (IntKind.wrap IntKind.u64 (QR.q x * bits BinOp.and IntKind.u64 (IntKind.wrap IntKind.u64 (y * 2 ^ min (Int.toNat (IntKind.wrap IntKind.u64 (64 - lenI y))) 64)) 4294967295) > IntKind.wrap IntKind.u64 (IntKind.wrap IntKind.u64 (4294967296 * QR.r x) + IntKind.wrap IntKind.u64 (lo * 2 ^ min (Int.toNat (IntKind.wrap IntKind.u64 (64 - lenI y))) 64) / 4294967296))) (sel (decide (IntKind.wrap IntKind.u64 (QR.r x + IntKind.wrap IntKind.u64 (y * 2 ^ min (Int.toNat (IntKind.wrap IntKind.u64 (64 - lenI y))) 64) / 4294967296) ≥ 4294967296)) ((((IntKind.wrap IntKind.u64 (y * 2 ^ min (Int.toNat (IntKind.wrap IntKind.u64 (64 - lenI y))) 64) / 4294967296) : Int) ≠ 0)∧((∃ x_1 : QR,((invQ a b u' l' x_1)∧((((SV.v (.int .u64 (IntKind.wrap IntKind.u64 (Int.tdiv (IntKind.wrap IntKind.u64 (IntKind.wrap IntKind.u64 (IntKind.wrap IntKind.u64 (bits BinOp.or IntKind.u64 (IntKind.wrap IntKind.u64 (hi * 2 ^ min (Int.toNat (IntKind.wrap IntKind.u64 (64 - lenI y))) 64)) (lo / 2 ^ min (Int.toNat (IntKind.wrap IntKind.u64 (64 - IntKind.wrap IntKind.u64 (64 - lenI y)))) 64) * 4294967296) + IntKind.wrap IntKind.u64 (lo * 2 ^ min (Int.toNat (IntKind.wrap IntKind.u64 (64 - lenI y))) 64) / 4294967296) - IntKind.wrap IntKind.u64 (IntKind.wrap IntKind.u64 (QR.q x - 1) * IntKind.wrap IntKind.u64 (y * 2 ^ min (Int.toNat (IntKind.wrap IntKind.u64 (64 - lenI y))) 64)))) (IntKind.wrap IntKind.u64 (y * 2 ^ min (Int.toNat (IntKind.wrap IntKind.u64 (64 - lenI y))) 64) / 4294967296))))) = (SV.v (.int .u64 (QR.q x_1))))∧((SV.v (.int .u64 (IntKind.wrap IntKind.u64 (IntKind.wrap IntKind.u64 (IntKind.wrap IntKind.u64 (IntKind.wrap IntKind.u64 (bits BinOp.or IntKind.u64 (IntKind.wrap IntKind.u64 (hi * 2 ^ min (Int.toNat (IntKind.wrap IntKind.u64 (64 - lenI y))) 64)) (lo / 2 ^ min (Int.toNat (IntKind.wrap IntKind.u64 (64 - IntKind.wrap IntKind.u64 (64 - lenI y)))) 64) * 4294967296) + IntKind.wrap IntKind.u64 (lo * 2 ^ min (Int.toNat (IntKind.wrap IntKind.u64 (64 - lenI y))) 64) / 4294967296) - IntKind.wrap IntKind.u64 (IntKind.wrap IntKind.u64 (QR.q x - 1) * IntKind.wrap IntKind.u64 (y * 2 ^ min (Int.toNat (IntKind.wrap IntKind.u64 (64 - lenI y))) 64))) - IntKind.wrap IntKind.u64 (IntKind.wrap IntKind.u64 (Int.tdiv (IntKind.wrap IntKind.u64 (IntKind.wrap IntKind.u64 (IntKind.wrap IntKind.u64 (bits BinOp.or IntKind.u64 (IntKind.wrap IntKind.u64 (hi * 2 ^ min (Int.toNat (IntKind.wrap IntKind.u64 (64 - lenI y))) 64)) (lo / 2 ^ min (Int.toNat (IntKind.wrap IntKind.u64 (64 - IntKind.wrap IntKind.u64 (64 - lenI y)))) 64) * 4294967296) + IntKind.wrap IntKind.u64 (lo * 2 ^ min (Int.toNat (IntKind.wrap IntKind.u64 (64 - lenI y))) 64) / 4294967296) - IntKind.wrap IntKind.u64 (IntKind.wrap IntKind.u64 (QR.q x - 1) * IntKind.wrap IntKind.u64 (y * 2 ^ min (Int.toNat (IntKind.wrap IntKind.u64 (64 - lenI y))) 64)))) (IntKind.wrap IntKind.u64 (y * 2 ^ min (Int.toNat (IntKind.wrap IntKind.u64 (64 - lenI y))) 64) / 4294967296)) * (IntKind.wrap IntKind.u64 (y * 2 ^ min (Int.toNat (IntKind.wrap IntKind.u64 (64 - lenI y))) 64) / 4294967296)))))) = (SV.v (.int .u64 (QR.r x_1)))))∧True)))∧(∀ x_1 : QR,((invQ a b u' l' x_1)→(sel (decide (QR.q x_1 ≥ 4294967296)) (sel (decide (IntKind.wrap IntKind.u64 (QR.r x_1 + IntKind.wrap IntKind.u64 (y * 2 ^ min (Int.toNat (IntKind.wrap IntKind.u64 (64 - lenI y))) 64) / 4294967296) ≥ 4294967296)) (((0 : Int) ≤ (IntKind.wrap IntKind.u64 (64 - lenI y)))∧(R (SV.tup [(SV.v (.int .u64 (IntKind.wrap IntKind.u64 (IntKind.wrap IntKind.u64 (IntKind.wrap IntKind.u64 (QR.q x - 1) * 4294967296) + IntKind.wrap IntKind.u64 (QR.q x_1 - 1))))),(SV.v (.int .u64 (IntKind.wrap IntKind.u64 (IntKind.wrap IntKind.u64 (IntKind.wrap IntKind.u64 (IntKind.wrap IntKind.u64 (IntKind.wrap IntKind.u64 (IntKind.wrap IntKind.u64 (bits BinOp.or IntKind.u64 (IntKind.wrap IntKind.u64 (hi * 2 ^ min (Int.toNat (IntKind.wrap IntKind.u64 (64 - lenI y))) 64)) (lo / 2 ^ min (Int.toNat (IntKind.wrap IntKind.u64 (64 - IntKind.wrap IntKind.u64 (64 - lenI y)))) 64) * 4294967296) + IntKind.wrap IntKind.u64 (lo * 2 ^ min (Int.toNat (IntKind.wrap IntKind.u64 (64 - lenI y))) 64) / 4294967296) - IntKind.wrap IntKind.u64 (IntKind.wrap IntKind.u64 (QR.q x - 1) * IntKind.wrap IntKind.u64 (y * 2 ^ min (Int.toNat (IntKind.wrap IntKind.u64 (64 - lenI y))) 64))) * 4294967296) + bits BinOp.and IntKind.u64 (IntKind.wrap IntKind.u64 (lo * 2 ^ min (Int.toNat (IntKind.wrap IntKind.u64 (64 - lenI y))) 64)) 4294967295) - IntKind.wrap IntKind.u64 (IntKind.wrap IntKind.u64 (QR.q x_1 - 1) * IntKind.wrap IntKind.u64 (y * 2 ^ min (Int.toNat (IntKind.wrap IntKind.u64 (64 - lenI y))) 64))) / 2 ^ min (Int.toNat (IntKind.wrap IntKind.u64 (64 - lenI y))) 64)))]))) (∃ x' : QR,(((invQ a b u' l' x')∧((((SV.v (.int .u64 (IntKind.wrap IntKind.u64 (QR.q x_1 - 1)))) = (SV.v (.int .u64 (QR.q x'))))∧((SV.v (.int .u64 (IntKind.wrap IntKind.u64 (QR.r x_1 + IntKind.wrap IntKind.u64 (y * 2 ^ min (Int.toNat (IntKind.wrap IntKind.u64 (64 - lenI y))) 64) / 4294967296)))) = (SV.v (.int .u64 (QR.r x')))))∧True))∧(((Int.toNat (QR.q x')) : Nat) < (Int.toNat (QR.q x_1)))))) (sel (decide (IntKind.wrap IntKind.u64 (QR.q x_1 * bits BinOp.and IntKind.u64 (IntKind.wrap IntKind.u64 (y * 2 ^ min (Int.toNat (IntKind.wrap IntKind.u64 (64 - lenI y))) 64)) 4294967295) > IntKind.wrap IntKind.u64 (IntKind.wrap IntKind.u64 (4294967296 * QR.r x_1) + bits BinOp.and IntKind.u64 (IntKind.wrap IntKind.u64 (lo * 2 ^ min (Int.toNat (IntKind.wrap IntKind.u64 (64 - lenI y))) 64)) 4294967295))) (sel (decide (IntKind.wrap IntKind.u64 (QR.r x_1 + IntKind.wrap IntKind.u64 (y * 2 ^ min (Int.toNat (IntKind.wrap IntKind.u64 (64 - lenI y))) 64) / 4294967296) ≥ 4294967296)) (((0 : Int) ≤ (IntKind.wrap IntKind.u64 (64 - lenI y)))∧(R (SV.tup [(SV.v (.int .u64 (IntKind.wrap IntKind.u64 (IntKind.wrap IntKind.u64 (IntKind.wrap IntKind.u64 (QR.q x - 1) * 4294967296) + IntKind.wrap IntKind.u64 (QR.q x_1 - 1))))),(SV.v (.int .u64 (IntKind.wrap IntKind.u64 (IntKind.wrap IntKind.u64 (IntKind.wrap IntKind.u64 (IntKind.wrap IntKind.u64 (IntKind.wrap IntKind.u64 (IntKind.wrap IntKind.u64 (bits BinOp.or IntKind.u64 (IntKind.wrap IntKind.u64 (hi * 2 ^ min (Int.toNat (IntKind.wrap IntKind.u64 (64 - lenI y))) 64)) (lo / 2 ^ min (Int.toNat (IntKind.wrap IntKind.u64 (64 - IntKind.wrap IntKind.u64 (64 - lenI y)))) 64) * 4294967296) + IntKind.wrap IntKind.u64 (lo * 2 ^ min (Int.toNat (IntKind.wrap IntKind.u64 (64 - lenI y))) 64) / 4294967296) - IntKind.wrap IntKind.u64 (IntKind.wrap IntKind.u64 (QR.q x - 1) * IntKind.wrap IntKind.u64 (y * 2 ^ min (Int.toNat (IntKind.wrap IntKind.u64 (64 - lenI y))) 64))) * 4294967296) + bits BinOp.and IntKind.u64 (IntKind.wrap IntKind.u64 (lo * 2 ^ min (Int.toNat (IntKind.wrap IntKind.u64 (64 - lenI y))) 64)) 4294967295) - IntKind.wrap IntKind.u64 (IntKind.wrap IntKind.u64 (QR.q x_1 - 1) * IntKind.wrap IntKind.u64 (y * 2 ^ min (Int.toNat (IntKind.wrap IntKind.u64 (64 - lenI y))) 64))) / 2 ^ min (Int.toNat (IntKind.wrap IntKind.u64 (64 - lenI y))) 64)))]))) (∃ x' : QR,(((invQ a b u' l' x')∧((((SV.v (.int .u64 (IntKind.wrap IntKind.u64 (QR.q x_1 - 1)))) = (SV.v (.int .u64 (QR.q x'))))∧((SV.v (.int .u64 (IntKind.wrap IntKind.u64 (QR.r x_1 + IntKind.wrap IntKind.u64 (y * 2 ^ min (Int.toNat (IntKind.wrap IntKind.u64 (64 - lenI y))) 64) / 4294967296)))) = (SV.v (.int .u64 (QR.r x')))))∧True))∧(((Int.toNat (QR.q x')) : Nat) < (Int.toNat (QR.q x_1)))))) (((0 : Int) ≤ (IntKind.wrap IntKind.u64 (64 - lenI y)))∧(R (SV.tup [(SV.v (.int .u64 (IntKind.wrap IntKind.u64 (IntKind.wrap IntKind.u64 (IntKind.wrap IntKind.u64 (QR.q x - 1) * 4294967296) + QR.q x_1)))),(SV.v (.int .u64 (IntKind.wrap IntKind.u64 (IntKind.wrap IntKind.u64 (IntKind.wrap IntKind.u64 (IntKind.wrap IntKind.u64 (IntKind.wrap IntKind.u64 (IntKind.wrap IntKind.u64 (bits BinOp.or IntKind.u64 (IntKind.wrap IntKind.u64 (hi * 2 ^ min (Int.toNat (IntKind.wrap IntKind.u64 (64 - lenI y))) 64)) (lo / 2 ^ min (Int.toNat (IntKind.wrap IntKind.u64 (64 - IntKind.wrap IntKind.u64 (64 - lenI y)))) 64) * 4294967296) + IntKind.wrap IntKind.u64 (lo * 2 ^ min (Int.toNat (IntKind.wrap IntKind.u64 (64 - lenI y))) 64) / 4294967296) - IntKind.wrap IntKind.u64 (IntKind.wrap IntKind.u64 (QR.q x - 1) * IntKind.wrap IntKind.u64 (y * 2 ^ min (Int.toNat (IntKind.wrap IntKind.u64 (64 - lenI y))) 64))) * 4294967296) + bits BinOp.and IntKind.u64 (IntKind.wrap IntKind.u64 (lo * 2 ^ min (Int.toNat (IntKind.wrap IntKind.u64 (64 - lenI y))) 64)) 4294967295) - IntKind.wrap IntKind.u64 (QR.q x_1 * IntKind.wrap IntKind.u64 (y * 2 ^ min (Int.toNat (IntKind.wrap IntKind.u64 (64 - lenI y))) 64))) / 2 ^ min (Int.toNat (IntKind.wrap IntKind.u64 (64 - lenI y))) 64)))]))))))))) (∃ x' : QR,(((invQ a b u l x')∧((((SV.v (.int .u64 (IntKind.wrap IntKind.u64 (QR.q x - 1)))) = (SV.v (.int .u64 (QR.q x'))))∧((SV.v (.int .u64 (IntKind.wrap IntKind.u64 (QR.r x + IntKind.wrap IntKind.u64 (y * 2 ^ min (Int.toNat (IntKind.wrap IntKind.u64 (64 - lenI y))) 64) / 4294967296)))) = (SV.v (.int .u64 (QR.r x')))))∧True))∧(((Int.toNat (QR.q x')) : Nat) < (Int.toNat (QR.q x)))))) ((((IntKind.wrap IntKind.u64 (y * 2 ^ min (Int.toNat (IntKind.wrap IntKind.u64 (64 - lenI y))) 64) / 4294967296) : Int) ≠ 0)∧((∃ x_1 : QR,((invQ a b u' l' x_1)∧((((SV.v (.int .u64 (IntKind.wrap IntKind.u64 (Int.tdiv (IntKind.wrap IntKind.u64 (IntKind.wrap IntKind.u64 (IntKind.wrap IntKind.u64 (bits BinOp.or IntKind.u64 (IntKind.wrap IntKind.u64 (hi * 2 ^ min (Int.toNat (IntKind.wrap IntKind.u64 (64 - lenI y))) 64)) (lo / 2 ^ min (Int.toNat (IntKind.wrap IntKind.u64 (64 - IntKind.wrap IntKind.u64 (64 - lenI y)))) 64) * 4294967296) + IntKind.wrap IntKind.u64 (lo * 2 ^ min (Int.toNat (IntKind.wrap IntKind.u64 (64 - lenI y))) 64) / 4294967296) - IntKind.wrap IntKind.u64 (QR.q x * IntKind.wrap IntKind.u64 (y * 2 ^ min (Int.toNat (IntKind.wrap IntKind.u64 (64 - lenI y))) 64)))) (IntKind.wrap IntKind.u64 (y * 2 ^ min (Int.toNat (IntKind.wrap IntKind.u64 (64 - lenI y))) 64) / 4294967296))))) = (SV.v (.int .u64 (QR.q x_1))))∧((SV.v (.int .u64 (IntKind.wrap IntKind.u64 (IntKind.wrap IntKind.u64 (IntKind.wrap IntKind.u64 (IntKind.wrap IntKind.u64 (bits BinOp.or IntKind.u64 (IntKind.wrap IntKind.u64 (hi * 2 ^ min (Int.toNat (IntKind.wrap IntKind.u64 (64 - lenI y))) 64)) (lo / 2 ^ min (Int.toNat (IntKind.wrap IntKind.u64 (64 - IntKind.wrap IntKind.u64 (64 - lenI y)))) 64) * 4294967296) + IntKind.wrap IntKind.u64 (lo * 2 ^ min (Int.toNat (IntKind.wrap IntKind.u64 (64 - lenI y))) 64) / 4294967296) - IntKind.wrap IntKind.u64 (QR.q x * IntKind.wrap IntKind.u64 (y * 2 ^ min (Int.toNat (IntKind.wrap IntKind.u64 (64 - lenI y))) 64))) - IntKind.wrap IntKind.u64 (IntKind.wrap IntKind.u64 (Int.tdiv (IntKind.wrap IntKind.u64 (IntKind.wrap IntKind.u64 (IntKind.wrap IntKind.u64 (bits BinOp.or IntKind.u64 (IntKind.wrap IntKind.u64 (hi * 2 ^ min (Int.toNat (IntKind.wrap IntKind.u64 (64 - lenI y))) 64)) (lo / 2 ^ min (Int.toNat (IntKind.wrap IntKind.u64 (64 - IntKind.wrap IntKind.u64 (64 - lenI y)))) 64) * 4294967296) + IntKind.wrap IntKind.u64 (lo * 2 ^ min (Int.toNat (IntKind.wrap IntKind.u64 (64 - lenI y))) 64) / 4294967296) - IntKind.wrap IntKind.u64 (QR.q x * IntKind.wrap IntKind.u64 (y * 2 ^ min (Int.toNat (IntKind.wrap IntKind.u64 (64 - lenI y))) 64)))) (IntKind.wrap IntKind.u64 (y * 2 ^ min (Int.toNat (IntKind.wrap IntKind.u64 (64 - lenI y))) 64) / 4294967296)) * (IntKind.wrap IntKind.u64 (y * 2 ^ min (Int.toNat (IntKind.wrap IntKind.u64 (64 - lenI y))) 64) / 4294967296)))))) = (SV.v (.int .u64 (QR.r x_1)))))∧True)))∧(∀ x_1 : QR,((invQ a b u' l' x_1)→(sel (decide (QR.q x_1 ≥ 4294967296)) (sel (decide (IntKind.wrap IntKind.u64 (QR.r x_1 + IntKind.wrap IntKind.u64 (y * 2 ^ min (Int.toNat (IntKind.wrap IntKind.u64 (64 - lenI y))) 64) / 4294967296) ≥ 4294967296)) (((0 : Int) ≤ (IntKind.wrap IntKind.u64 (64 - lenI y)))∧(R (SV.tup [(SV.v (.int .u64 (IntKind.wrap IntKind.u64 (IntKind.wrap IntKind.u64 (QR.q x * 4294967296) + IntKind.wrap IntKind.u64 (QR.q x_1 - 1))))),(SV.v (.int .u64 (IntKind.wrap IntKind.u64 (IntKind.wrap IntKind.u64 (IntKind.wrap IntKind.u64 (IntKind.wrap IntKind.u64 (IntKind.wrap IntKind.u64 (IntKind.wrap IntKind.u64 (bits BinOp.or IntKind.u64 (IntKind.wrap IntKind.u64 (hi * 2 ^ min (Int.toNat (IntKind.wrap IntKind.u64 (64 - lenI y))) 64)) (lo / 2 ^ min (Int.toNat (IntKind.wrap IntKind.u64 (64 - IntKind.wrap IntKind.u64 (64 - lenI y)))) 64) * 4294967296) + IntKind.wrap IntKind.u64 (lo * 2 ^ min (Int.toNat (IntKind.wrap IntKind.u64 (64 - lenI y))) 64) / 4294967296) - IntKind.wrap IntKind.u64 (QR.q x * IntKind.wrap IntKind.u64 (y * 2 ^ min (Int.toNat (IntKind.wrap IntKind.u64 (64 - lenI y))) 64))) * 4294967296) + bits BinOp.and IntKind.u64 (IntKind.wrap IntKind.u64 (lo * 2 ^ min (Int.toNat (IntKind.wrap IntKind.u64 (64 - lenI y))) 64)) 4294967295) - IntKind.wrap IntKind.u64 (IntKind.wrap IntKind.u64 (QR.q x_1 - 1) * IntKind.wrap IntKind.u64 (y * 2 ^ min (Int.toNat (IntKind.wrap IntKind.u64 (64 - lenI y))) 64))) / 2 ^ min (Int.toNat (IntKind.wrap IntKind.u64 (64 - lenI y))) 64)))]))) (∃ x' : QR,(((invQ a b u' l' x')∧((((SV.v (.int .u64 (IntKind.wrap IntKind.u64 (QR.q x_1 - 1)))) = (SV.v (.int .u64 (QR.q x'))))∧((SV.v (.int .u64 (IntKind.wrap IntKind.u64 (QR.r x_1 + IntKind.wrap IntKind.u64 (y * 2 ^ min (Int.toNat (IntKind.wrap IntKind.u64 (64 - lenI y))) 64) / 4294967296)))) = (SV.v (.int .u64 (QR.r x')))))∧True))∧(((Int.toNat (QR.q x')) : Nat) < (Int.toNat (QR.q x_1)))))) (sel (decide (IntKind.wrap IntKind.u64 (QR.q x_1 * bits BinOp.and IntKind.u64 (IntKind.wrap IntKind.u64 (y * 2 ^ min (Int.toNat (IntKind.wrap IntKind.u64 (64 - lenI y))) 64)) 4294967295) > IntKind.wrap IntKind.u64 (IntKind.wrap IntKind.u64 (4294967296 * QR.r x_1) + bits BinOp.and IntKind.u64 (IntKind.wrap IntKind.u64 (lo * 2 ^ min (Int.toNat (IntKind.wrap IntKind.u64 (64 - lenI y))) 64)) 4294967295))) (sel (decide (IntKind.wrap IntKind.u64 (QR.r x_1 + IntKind.wrap IntKind.u64 (y * 2 ^ min (Int.toNat (IntKind.wrap IntKind.u64 (64 - lenI y))) 64) / 4294967296) ≥ 4294967296)) (((0 : Int) ≤ (IntKind.wrap IntKind.u64 (64 - lenI y)))∧(R (SV.tup [(SV.v (.int .u64 (IntKind.wrap IntKind.u64 (IntKind.wrap IntKind.u64 (QR.q x * 4294967296) + IntKind.wrap IntKind.u64 (QR.q x_1 - 1))))),(SV.v (.int .u64 (IntKind.wrap IntKind.u64 (IntKind.wrap IntKind.u64 (IntKind.wrap IntKind.u64 (IntKind.wrap IntKind.u64 (IntKind.wrap IntKind.u64 (IntKind.wrap IntKind.u64 (bits BinOp.or IntKind.u64 (IntKind.wrap IntKind.u64 (hi * 2 ^ min (Int.toNat (IntKind.wrap IntKind.u64 (64 - lenI y))) 64)) (lo / 2 ^ min (Int.toNat (IntKind.wrap IntKind.u64 (64 - IntKind.wrap IntKind.u64 (64 - lenI y)))) 64) * 4294967296) + IntKind.wrap IntKind.u64 (lo * 2 ^ min (Int.toNat (IntKind.wrap IntKind.u64 (64 - lenI y))) 64) / 4294967296) - IntKind.wrap IntKind.u64 (QR.q x * IntKind.wrap IntKind.u64 (y * 2 ^ min (Int.toNat (IntKind.wrap IntKind.u64 (64 - lenI y))) 64))) * 4294967296) + bits BinOp.and IntKind.u64 (IntKind.wrap IntKind.u64 (lo * 2 ^ min (Int.toNat (IntKind.wrap IntKind.u64 (64 - lenI y))) 64)) 4294967295) - IntKind.wrap IntKind.u64 (IntKind.wrap IntKind.u64 (QR.q x_1 - 1) * IntKind.wrap IntKind.u64 (y * 2 ^ min (Int.toNat (IntKind.wrap IntKind.u64 (64 - lenI y))) 64))) / 2 ^ min (Int.toNat (IntKind.wrap IntKind.u64 (64 - lenI y))) 64)))]))) (∃ x' : QR,(((invQ a b u' l' x')∧((((SV.v (.int .u64 (IntKind.wrap IntKind.u64 (QR.q x_1 - 1)))) = (SV.v (.int .u64 (QR.q x'))))∧((SV.v (.int .u64 (IntKind.wrap IntKind.u64 (QR.r x_1 + IntKind.wrap IntKind.u64 (y * 2 ^ min (Int.toNat (IntKind.wrap IntKind.u64 (64 - lenI y))) 64) / 4294967296)))) = (SV.v (.int .u64 (QR.r x')))))∧True))∧(((Int.toNat (QR.q x')) : Nat) < (Int.toNat (QR.q x_1)))))) (((0 : Int) ≤ (IntKind.wrap IntKind.u64 (64 - lenI y)))∧(R (SV.tup [(SV.v (.int .u64 (IntKind.wrap IntKind.u64 (IntKind.wrap IntKind.u64 (QR.q x * 4294967296) + QR.q x_1)))),(SV.v (.int .u64 (IntKind.wrap IntKind.u64 (IntKind.wrap IntKind.u64 (IntKind.wrap IntKind.u64 (IntKind.wrap IntKind.u64 (IntKind.wrap IntKind.u64 (IntKind.wrap IntKind.u64 (bits BinOp.or IntKind.u64 (IntKind.wrap IntKind.u64 (hi * 2 ^ min (Int.toNat (IntKind.wrap IntKind.u64 (64 - lenI y))) 64)) (lo / 2 ^ min (Int.toNat (IntKind.wrap IntKind.u64 (64 - IntKind.wrap IntKind.u64 (64 - lenI y)))) 64) * 4294967296) + IntKind.wrap IntKind.u64 (lo * 2 ^ min (Int.toNat (IntKind.wrap IntKind.u64 (64 - lenI y))) 64) / 4294967296) - IntKind.wrap IntKind.u64 (QR.q x * IntKind.wrap IntKind.u64 (y * 2 ^ min (Int.toNat (IntKind.wrap IntKind.u64 (64 - lenI y))) 64))) * 4294967296) + bits BinOp.and IntKind.u64 (IntKind.wrap IntKind.u64 (lo * 2 ^ min (Int.toNat (IntKind.wrap IntKind.u64 (64 - lenI y))) 64)) 4294967295) - IntKind.wrap IntKind.u64 (QR.q x_1 * IntKind.wrap IntKind.u64 (y * 2 ^ min (Int.toNat (IntKind.wrap IntKind.u64 (64 - lenI y))) 64))) / 2 ^ min (Int.toNat (IntKind.wrap IntKind.u64 (64 - lenI y))) 64)))]))))))))))))))))))))))):=by kernel_rfl
theorem lenI_of {x : Int} {n : Nat} (h0 : 2 ^ n ≤ x) (h1 : x < 2 ^ (n + 1)) : lenI x = n + 1 := by
  have hx : 0 < x := Int.lt_of_lt_of_le (by exact_mod_cast Nat.two_pow_pos n) h0
  unfold lenI
  rw [if_neg (by omega)]
  have e : Nat.log2 x.toNat = n := by
    rw [Nat.log2_eq_iff (by omega)]
    constructor
    · have : ((2 ^ n : Nat) : Int) ≤ x := by exact_mod_cast h0
      omega
    · have : x < ((2 ^ (n + 1) : Nat) : Int) := by exact_mod_cast h1
      omega
  rw [e]
theorem lenI_ge {x : Int} (h : 0 < x) : ∃ n : Nat, lenI x = n + 1 ∧ 2 ^ n ≤ x ∧ x < 2 ^ (n + 1) := by
  refine ⟨Nat.log2 x.toNat, ?_, ?_, ?_⟩
  · unfold lenI; rw [if_neg (by omega)]
  · have h1 := Nat.log2_self_le (n := x.toNat) (by omega)
    have : ((2 ^ Nat.log2 x.toNat : Nat) : Int) ≤ (x.toNat : Int) := by exact_mod_cast h1
    rw [Int.toNat_of_nonneg (by omega)] at this
    exact_mod_cast this
  · have h1 := Nat.lt_log2_self (n := x.toNat)
    have : (x.toNat : Int) < ((2 ^ (Nat.log2 x.toNat + 1) : Nat) : Int) := by exact_mod_cast h1
    rw [Int.toNat_of_nonneg (by omega)] at this
    exact_mod_cast this
theorem lenI_shift {x : Int} (k : Nat) (h : 2 ^ k ≤ x) : lenI x = k + lenI (x / 2 ^ k) := by
  have hk : (0 : Int) < 2 ^ k := by exact_mod_cast Nat.two_pow_pos k
  have h1 : 0 < x / 2 ^ k := Int.lt_of_lt_of_le (by decide : (0 : Int) < 1) (Int.le_ediv_of_mul_le hk (by omega))
  obtain ⟨n, e, l1, l2⟩ := lenI_ge h1
  rw [e, lenI_of (n := n + k)]
  · omega
  · rw [Int.pow_add]
    have := Int.mul_le_of_le_ediv hk l1
    exact this
  · have := Int.lt_mul_of_ediv_lt hk l2
    rw [show n + k + 1 = (n + 1) + k by omega, Int.pow_add]
    exact this
theorem tab8_len : ∀ k : Fin 256, ((UInt8.toNat (tab8.getD k.val 0) : Nat) : Int) = lenI (k.val : Int) := by decide +kernel
theorem tab8_at {x : Int} (h0 : 0 ≤ x) (h1 : x < 256) : ((UInt8.toNat (tab8.getD x.toNat 0) : Nat) : Int) = lenI x := by
  have := tab8_len ⟨x.toNat, by omega⟩
  simp only [Int.toNat_of_nonneg h0] at this
  exact this
theorem lenI_8 {x : Int} (h0 : 0 ≤ x) (h1 : x < 256) : 0 ≤ lenI x ∧ lenI x ≤ 8 := by
  by_cases hx : x = 0
  · subst hx; exact ⟨by decide, by decide⟩
  · obtain ⟨n, e, l1, _⟩ := lenI_ge (x := x) (by omega)
    refine ⟨by omega, ?_⟩
    rcases Nat.lt_or_ge n 8 with h | h
    · omega
    · exfalso
      have : (2 : Int) ^ 8 ≤ 2 ^ n := by exact_mod_cast Nat.pow_le_pow_right (by decide) h
      omega
theorem Len64_spec : PureSpec Try.prog 67 sLen64 := vc_spec hm noCtrs_ok Try.func67 (Λ := fun _ => noΛ) fun args p x h hp => by
  unfold sLen64 at h
  split at h <;> try (cases h; done)
  rename_i x
  cases h
  obtain ⟨h1, h2⟩ := hp _ rfl
  refine ⟨rfl, rfl, ?_⟩
  refine Eq.mpr (vcLen64 x _) ?_
  have key : ∀ (k : Int) (z : Int), 0 ≤ k → k ≤ 56 → 0 ≤ z → z < 256 → lenI x = k + lenI z → ((0 : Int) ≤ IntKind.u8.wrap z ∧ IntKind.u8.wrap z < 256) ∧ SV.v (Value.int .i64 (IntKind.i64.wrap (k + IntKind.i64.wrap ((UInt8.toNat (List.getD tab8 (Int.toNat (IntKind.u8.wrap z)) 0) : Nat) : Int)))) = SV.v (Value.int .i64 (lenI x)) := by
    intro k z k0 k1 z0 z1 e
    have ez : IntKind.u8.wrap z = z := by rw [wrap_u8]; omega
    have hl := lenI_8 z0 z1
    rw [ez, tab8_at z0 z1, wrap_i64 (n := lenI z) ⟨by omega, by omega⟩, wrap_i64 ⟨by omega, by omega⟩, e]
    exact ⟨⟨z0, z1⟩, rfl⟩
  have s8 : ∀ z : Int, 256 ≤ z → lenI z = 8 + lenI (z / 256) := fun z h => lenI_shift 8 h
  have s16 : ∀ z : Int, 65536 ≤ z → lenI z = 16 + lenI (z / 65536) := fun z h => lenI_shift 16 h
  have s32 : ∀ z : Int, 4294967296 ≤ z → lenI z = 32 + lenI (z / 4294967296) := fun z h => lenI_shift 32 h
  refine sel_of (fun g => ?_) fun g => ?_
  · have g := of_decide_eq_true g
    have e := s32 x g
    refine sel_of (fun g1 => ?_) fun g1 => ?_
    · have g1 := of_decide_eq_true g1
      have e1 := s16 _ g1
      refine sel_of (fun g2 => ?_) fun g2 => ?_
      · have e2 := s8 _ (of_decide_eq_true g2)
        exact key _ _ (by omega) (by omega) (by omega) (by omega) (by omega)
      · have g2 := of_decide_eq_false g2
        exact key _ _ (by omega) (by omega) (by omega) (by omega) (by omega)
    · have g1 := of_decide_eq_false g1
      refine sel_of (fun g2 => ?_) fun g2 => ?_
      · have e2 := s8 _ (of_decide_eq_true g2)
        exact key _ _ (by omega) (by omega) (by omega) (by omega) (by omega)
      · have g2 := of_decide_eq_false g2
        exact key _ _ (by omega) (by omega) (by omega) (by omega) (by omega)
  · have g := of_decide_eq_false g
    refine sel_of (fun g1 => ?_) fun g1 => ?_
    · have g1 := of_decide_eq_true g1
      have e1 := s16 _ g1
      refine sel_of (fun g2 => ?_) fun g2 => ?_
      · have e2 := s8 _ (of_decide_eq_true g2)
        exact key _ _ (by omega) (by omega) (by omega) (by omega) (by omega)
      · have g2 := of_decide_eq_false g2
        exact key _ _ (by omega) (by omega) (by omega) (by omega) (by omega)
    · have g1 := of_decide_eq_false g1
      refine sel_of (fun g2 => ?_) fun g2 => ?_
      · have e2 := s8 _ (of_decide_eq_true g2)
        exact key _ _ (by omega) (by omega) (by omega) (by omega) (by omega)
      · have g2 := of_decide_eq_false g2
        exact key _ _ (by omega) (by omega) (by omega) (by omega) (by omega)
theorem lenI_64 {x : Int} (h : U64 x) : 0 ≤ lenI x ∧ lenI x ≤ 64 := by
  obtain ⟨h0, h1⟩ := h
  by_cases hx : x = 0
  · subst hx; exact ⟨by decide, by decide⟩
  · obtain ⟨n, e, l1, _⟩ := lenI_ge (x := x) (by omega)
    refine ⟨by omega, ?_⟩
    rcases Nat.lt_or_ge n 64 with h | h
    · omega
    · exfalso
      have : (2 : Int) ^ 64 ≤ 2 ^ n := by exact_mod_cast Nat.pow_le_pow_right (by decide) h
      omega
theorem ΓX0_ok : ∀ f g, ΓX0 f = some g → g.ok Try.prog f := addCtr_ok noCtrs_ok (pure_ok Try.func67 (by kernel_rfl) (by kernel_rfl) Len64_spec)
theorem Lead_spec : PureSpec Try.prog 63 sLead := vc_spec hm ΓX0_ok Try.func63 (Λ := fun _ => noΛ) fun args p x h hp => by
  unfold sLead at h
  split at h <;> try (cases h; done)
  rename_i x
  cases h
  have hx := hp _ rfl
  refine ⟨rfl, rfl, ?_⟩
  refine Eq.mpr (vcLead x _) ?_
  have := lenI_64 hx
  refine ⟨hx, int_mk ?_⟩
  rw [wrap_i64 ⟨by omega, by omega⟩]
theorem ΓX1_ok : ∀ f g, ΓX1 f = some g → g.ok Try.prog f := addCtr_ok noCtrs_ok (pure_ok Try.func63 (by kernel_rfl) (by kernel_rfl) Lead_spec)
section
variable {a b u l : Int}
structure dig (a b u l : Int) : Prop where
  a0 : 2147483648 ≤ a
  a1 : a < 4294967296
  b0 : 0 ≤ b
  b1 : b < 4294967296
  l0 : 0 ≤ l
  l1 : l < 4294967296
  u0 : 0 ≤ u
  u1 : u < a * 4294967296 + b
def digQ (a b u l : Int) : Int := (u * 4294967296 + l) / (a * 4294967296 + b)
theorem dig_lt (h : dig a b u l) : 0 ≤ digQ a b u l ∧ digQ a b u l < 4294967296 := by
  obtain ⟨a0, a1, b0, b1, l0, l1, u0, u1⟩ := h
  exact ⟨Int.ediv_nonneg (by omega) (by omega), Int.ediv_lt_of_lt_mul (by omega) (by omega)⟩
theorem dig_start (h : dig a b u l) : invQ a b u l ⟨u / a, u - u / a * a⟩ := by
  obtain ⟨a0, a1, b0, b1, l0, l1, u0, u1⟩ := h
  have e : u - u / a * a = u % a := by rw [Int.emod_def, Int.mul_comm]
  have r0 : 0 ≤ u % a := Int.emod_nonneg _ (by omega)
  have r1 : u % a < a := Int.emod_lt_of_pos _ (by omega)
  refine ⟨Int.ediv_nonneg u0 (by omega), ?_, ?_, ?_, ?_, ?_⟩
  · have : u / a < 4294967298 := Int.ediv_lt_of_lt_mul (by omega) (by omega)
    show u / a ≤ 4294967297
    omega
  · show 0 ≤ u - u / a * a
    omega
  · show u - u / a * a < 4294967296
    omega
  · show u / a * a + (u - u / a * a) = u
    omega
  · show _ ≤ u / a
    have hlt : (u * 4294967296 + l) / (a * 4294967296 + b) < u / a + 1 := by
      refine Int.ediv_lt_of_lt_mul (by omega) ?_
      generalize hq : u / a = q at *
      have q0 : 0 ≤ q := by rw [← hq]; exact Int.ediv_nonneg u0 (by omega)
      have e1 : (q + 1) * (a * 4294967296 + b) = (q * a) * 4294967296 + a * 4294967296 + (q + 1) * b := by
        rw [Int.mul_add, ← Int.mul_assoc, Int.add_mul q 1 a, Int.add_mul (q * a)]; omega
      have e2 : 0 ≤ (q + 1) * b := Int.mul_nonneg (by omega) b0
      rw [e1]
      omega
    omega
theorem dig_big {x : QR} (h : dig a b u l) (hi : invQ a b u l x) (hq : 4294967296 ≤ x.q ∨ 4294967296 * x.r + l < x.q * b) : digQ a b u l ≤ x.q - 1 := by
  have hd := dig_lt h
  obtain ⟨a0, a1, b0, b1, l0, l1, u0, u1⟩ := h
  rcases hq with hq | hq
  · omega
  · have : digQ a b u l < x.q := by
      refine Int.ediv_lt_of_lt_mul (by omega) ?_
      have hs := hi.sum
      have e1 : x.q * (a * 4294967296 + b) = (x.q * a) * 4294967296 + x.q * b := by rw [Int.mul_add, ← Int.mul_assoc]
      rw [e1]
      omega
    omega
theorem dig_end {x : QR} (h : dig a b u l) (hi : invQ a b u l x) (hq : x.q * b ≤ 4294967296 * x.r + l) : x.q = digQ a b u l := by
  obtain ⟨a0, a1, b0, b1, l0, l1, u0, u1⟩ := h
  have : x.q ≤ digQ a b u l := by
    refine Int.le_ediv_of_mul_le (by omega) ?_
    have hs := hi.sum
    have e1 : x.q * (a * 4294967296 + b) = (x.q * a) * 4294967296 + x.q * b := by rw [Int.mul_add, ← Int.mul_assoc]
    rw [e1]
    omega
  have := hi.le
  exact Int.le_antisymm (by assumption) (by assumption)
theorem dig_out {x : QR} (h : dig a b u l) (hi : invQ a b u l x) (hq : 4294967296 ≤ x.q ∨ 4294967296 * x.r + l < x.q * b) (hr : 4294967296 ≤ x.r + a) : x.q - 1 = digQ a b u l := by
  have h1 := dig_big h hi hq
  have hd := dig_lt h
  obtain ⟨a0, a1, b0, b1, l0, l1, u0, u1⟩ := h
  have : x.q - 1 ≤ digQ a b u l := by
    refine Int.le_ediv_of_mul_le (by omega) ?_
    have hs := hi.sum
    have hq1 := hi.q1
    have e1 : (x.q - 1) * (a * 4294967296 + b) = (x.q * a) * 4294967296 - a * 4294967296 + (x.q - 1) * b := by rw [Int.mul_add, ← Int.mul_assoc, Int.sub_mul x.q 1 a, Int.sub_mul (x.q * a)]; omega
    have e2 : (x.q - 1) * b ≤ 4294967296 * b := Int.mul_le_mul_of_nonneg_right (by omega) b0
    rw [e1]
    omega
  omega
theorem dig_next {x : QR} (h : dig a b u l) (hi : invQ a b u l x) (hq : 4294967296 ≤ x.q ∨ 4294967296 * x.r + l < x.q * b) (hr : x.r + a < 4294967296) : invQ a b u l ⟨x.q - 1, x.r + a⟩ := by
  have h1 := dig_big h hi hq
  have hd := dig_lt h
  obtain ⟨a0, a1, b0, b1, l0, l1, u0, u1⟩ := h
  obtain ⟨i1, i2, i3, i4, i5, i6⟩ := hi
  refine ⟨?_, ?_, ?_, ?_, ?_, h1⟩
  · show 0 ≤ x.q - 1
    omega
  · show x.q - 1 ≤ _
    omega
  · show 0 ≤ x.r + a
    omega
  · exact hr
  · show (x.q - 1) * a + (x.r + a) = u
    rw [Int.sub_mul]; omega
theorem dig_init (h : dig a b u l) : IntKind.u64.wrap (Int.tdiv u a) = u / a ∧ IntKind.u64.wrap (u - IntKind.u64.wrap (IntKind.u64.wrap (Int.tdiv u a) * a)) = u - u / a * a := by
  have hs := dig_start h
  have q0 : 0 ≤ u / a := hs.q0
  have q1 : u / a ≤ 4294967297 := hs.q1
  have r0 : 0 ≤ u - u / a * a := hs.r0
  obtain ⟨a0, a1, b0, b1, l0, l1, u0, u1⟩ := h
  have p0 : 0 ≤ u / a * a := Int.mul_nonneg q0 (by omega)
  rw [Int.tdiv_eq_ediv_of_nonneg u0, u64_in (n := u / a) ⟨q0, by omega⟩]
  refine ⟨rfl, ?_⟩
  rw [u64_in (n := u / a * a) ⟨p0, by omega⟩, u64_in ⟨r0, by omega⟩]
theorem dig_loop {x : QR} (h : dig a b u l) (hx : invQ a b u l x) {A1 A2 A3 : Prop} (h1 : IntKind.u64.wrap (x.q - 1) = digQ a b u l → A1) (h2 : IntKind.u64.wrap (x.q - 1) = digQ a b u l → A2) (h3 : x.q = digQ a b u l → A3) :
    sel (decide (x.q ≥ 4294967296)) (sel (decide (IntKind.u64.wrap (x.r + a) ≥ 4294967296)) A1
      (∃ x' : QR, (invQ a b u l x' ∧ (SV.v (Value.int .u64 (IntKind.u64.wrap (x.q - 1))) = SV.v (Value.int .u64 x'.q) ∧ SV.v (Value.int .u64 (IntKind.u64.wrap (x.r + a))) = SV.v (Value.int .u64 x'.r)) ∧ True) ∧ Int.toNat x'.q < Int.toNat x.q))
    (sel (decide (IntKind.u64.wrap (x.q * b) > IntKind.u64.wrap (IntKind.u64.wrap (4294967296 * x.r) + l))) (sel (decide (IntKind.u64.wrap (x.r + a) ≥ 4294967296)) A2
      (∃ x' : QR, (invQ a b u l x' ∧ (SV.v (Value.int .u64 (IntKind.u64.wrap (x.q - 1))) = SV.v (Value.int .u64 x'.q) ∧ SV.v (Value.int .u64 (IntKind.u64.wrap (x.r + a))) = SV.v (Value.int .u64 x'.r)) ∧ True) ∧ Int.toNat x'.q < Int.toNat x.q)) A3) := by
  have hd := dig_lt h
  have hbig := dig_big h hx
  have hout := dig_out h hx
  have hnext := dig_next h hx
  have hend := dig_end h hx
  obtain ⟨a0, a1, b0, b1, l0, l1, u0, u1⟩ := h
  have x0 := hx.q0
  have x1 := hx.q1
  have x2 := hx.r0
  have x3 := hx.r1
  have er : IntKind.u64.wrap (x.r + a) = x.r + a := u64_in ⟨by omega, by omega⟩
  have eq : digQ a b u l ≤ x.q - 1 → IntKind.u64.wrap (x.q - 1) = x.q - 1 := fun hh => u64_in ⟨by omega, by omega⟩
  rw [er]
  refine sel_of (fun g => ?_) fun g => ?_
  · have g := of_decide_eq_true g
    have e := eq (hbig (Or.inl g))
    refine sel_of (fun g1 => ?_) fun g1 => ?_
    · exact h1 (e.trans (hout (Or.inl g) (of_decide_eq_true g1)))
    · have := hbig (Or.inl g)
      have g1 := of_decide_eq_false g1
      exact ⟨_, ⟨hnext (Or.inl g) (by omega), ⟨by rw [e], rfl⟩, trivial⟩, by show Int.toNat (x.q - 1) < _; omega⟩
  · have g := of_decide_eq_false g
    have p0 : 0 ≤ x.q * b := Int.mul_nonneg x0 b0
    have p1 : x.q * b ≤ 4294967295 * b := Int.mul_le_mul_of_nonneg_right (by omega) b0
    have e1 : IntKind.u64.wrap (x.q * b) = x.q * b := u64_in ⟨p0, by omega⟩
    have e2 : IntKind.u64.wrap (4294967296 * x.r) = 4294967296 * x.r := u64_in ⟨by omega, by omega⟩
    have e3 : IntKind.u64.wrap (4294967296 * x.r + l) = 4294967296 * x.r + l := u64_in ⟨by omega, by omega⟩
    rw [e1, e2, e3]
    refine sel_of (fun g0 => ?_) fun g0 => ?_
    · have g0 : 4294967296 ≤ x.q ∨ 4294967296 * x.r + l < x.q * b := Or.inr (of_decide_eq_true g0)
      have e := eq (hbig g0)
      refine sel_of (fun g1 => ?_) fun g1 => ?_
      · exact h2 (e.trans (hout g0 (of_decide_eq_true g1)))
      · have := hbig g0
        have g1 := of_decide_eq_false g1
        exact ⟨_, ⟨hnext g0 (by omega), ⟨by rw [e], rfl⟩, trivial⟩, by show Int.toNat (x.q - 1) < _; omega⟩
    · have g0 := of_decide_eq_false g0
      exact h3 (hend (by omega))
end
theorem div_final {m y q r t : Int} (ht : 0 < t) (hy : 0 < y) (he : m * t = q * (y * t) + r) (h0 : 0 ≤ r) (h1 : r < y * t) : m / y = q ∧ r / t = m % y := by
  have e1 : r = (m - q * y) * t := by rw [Int.sub_mul, Int.mul_assoc]; omega
  have e2 : 0 ≤ m - q * y := by
    rcases Int.lt_or_le (m - q * y) 0 with h | h
    · have := Int.mul_neg_of_neg_of_pos h ht
      omega
    · exact h
  have e3 : m - q * y < y := by
    rw [e1] at h1
    exact Int.lt_of_mul_lt_mul_right h1 (Int.le_of_lt ht)
  have e4 : r / t = m - q * y := by rw [e1]; exact Int.mul_ediv_cancel _ (by omega)
  have e5 : m / y = q := by
    have : m = q * y + (m - q * y) := by omega
    rw [this, Int.add_comm, Int.add_mul_ediv_right _ _ (by omega), Int.ediv_eq_zero_of_lt e2 e3]; omega
  refine ⟨e5, ?_⟩
  rw [e4, Int.emod_def, e5, Int.mul_comm y q]
theorem shl_or {c d : Int} {s : Nat} (hc : 0 ≤ c) (hd : 0 ≤ d) (hd1 : d < 2 ^ s) (hc1 : c * 2 ^ s < 18446744073709551616) (hd2 : d < 18446744073709551616) : bits .or .u64 (c * 2 ^ s) d = c * 2 ^ s + d := by
  have t0 : (0 : Int) < 2 ^ s := by exact_mod_cast Nat.two_pow_pos s
  have h0 : 0 ≤ c * 2 ^ s := Int.mul_nonneg hc (by omega)
  rw [u64_or (c * 2 ^ s) d h0 hc1 hd hd2]
  obtain ⟨n, rfl⟩ := Int.eq_ofNat_of_zero_le hc
  obtain ⟨m, rfl⟩ := Int.eq_ofNat_of_zero_le hd
  have e : ((n : Int) * 2 ^ s) = ((2 ^ s * n : Nat) : Int) := by rw [Int.natCast_mul, Int.natCast_pow, Int.mul_comm]; rfl
  rw [e, Int.toNat_natCast, Int.toNat_natCast]
  have hm : m < 2 ^ s := by exact_mod_cast hd1
  rw [← Nat.two_pow_add_eq_or_of_lt hm]
  rfl
theorem Div64_spec : PureSpec Try.prog 53 sDiv64 := vc_spec hm ΓX1_ok Try.func53 (Λ := fun args => match args with
    | [.v (.int .u64 hi), .v (.int .u64 lo), .v (.int .u64 y)] =>
      let t : Int := 2 ^ (64 - lenI y).toNat
      let w := MM lo hi * t
      let u := w / 18446744073709551616
      let l := w % 18446744073709551616
      ΛDiv (y * t / 4294967296) (y * t % 4294967296) u (l / 4294967296) ((u * 4294967296 + l / 4294967296) % (y * t)) (l % 4294967296)
    | _ => noΛ) fun args p x h hp => by
  unfold sDiv64 at h
  split at h <;> try (cases h; done)
  rename_i hi lo y
  cases h
  obtain ⟨h1, h2, h3, h4⟩ := hp _ rfl
  refine ⟨rfl, rfl, ?_⟩
  refine Eq.mpr (vcDiv64 hi lo y _ _ _ _ _ _ _) ?_
  have y0 : 0 < y := by obtain ⟨_, _⟩ := h1; omega
  refine sel_of (fun g => ?_) fun g => ?_
  · exfalso; simp at g; omega
  refine sel_of (fun g' => ?_) fun _ => ?_
  · exfalso; simp at g'; omega
  refine sel_of (fun g => ?_) fun g => ?_
  · have g : hi = 0 := by simpa using g
    subst g
    refine ⟨by omega, by omega, ?_⟩
    have q0 : 0 ≤ lo / y := Int.ediv_nonneg h2.1 h3.1
    have q1 : lo / y ≤ lo := Int.ediv_le_self _ h2.1
    have e : MM lo 0 = lo := by unfold MM; omega
    rw [e, Int.tdiv_eq_ediv_of_nonneg h2.1, Int.tmod_eq_emod_of_nonneg h2.1, u64_in ⟨q0, by have := h2.2; omega⟩]
  · clear g
    obtain ⟨n, el, l1, l2⟩ := lenI_ge y0
    have n64 : n ≤ 63 := by have := lenI_64 h3; omega
    obtain ⟨s, hs⟩ : ∃ s : Nat, n + s = 63 := ⟨63 - n, by omega⟩
    have es : (64 - lenI y) = (s : Int) := by omega
    have ew : IntKind.u64.wrap (s : Int) = s := u64_in ⟨by omega, by omega⟩
    have ew2 : IntKind.u64.wrap (64 - s : Int) = 64 - s := u64_in ⟨by omega, by omega⟩
    have et : min (Int.toNat (s : Int)) 64 = s := by simp; omega
    have et2 : min (Int.toNat (64 - s : Int)) 64 = 64 - s := by omega
    have et3 : Int.toNat (s : Int) = s := by simp
    rw [es]
    have et : min s 64 = s := by omega
    simp only [ew, ew2, et, et2, et3]
    have t0 : (0 : Int) < 2 ^ s := by exact_mod_cast Nat.two_pow_pos s
    have T0 : (0 : Int) < 2 ^ (64 - s) := by exact_mod_cast Nat.two_pow_pos (64 - s)
    have tT : (2 : Int) ^ (64 - s) * 2 ^ s = 18446744073709551616 := by rw [← Int.pow_add, show 64 - s + s = 64 by omega]; rfl
    have nt : (2 : Int) ^ n * 2 ^ s = 9223372036854775808 := by rw [← Int.pow_add, hs]; rfl
    have v0 : 9223372036854775808 ≤ y * 2 ^ s := by rw [← nt]; exact Int.mul_le_mul_of_nonneg_right l1 (by omega)
    have v1 : y * 2 ^ s < 18446744073709551616 := by
      have : y * 2 ^ s < 2 ^ (n + 1) * 2 ^ s := Int.mul_lt_mul_of_pos_right l2 t0
      have e : (2 : Int) ^ (n + 1) * 2 ^ s = 2 * (2 ^ n * 2 ^ s) := by rw [Int.pow_succ, Int.mul_comm (2 ^ n) 2, Int.mul_assoc]
      rw [e, nt] at this
      omega
    have hv : hi * 2 ^ s < y * 2 ^ s := Int.mul_lt_mul_of_pos_right h4 t0
    have h0 : 0 ≤ hi * 2 ^ s := Int.mul_nonneg h1.1 (by omega)
    have d0 : 0 ≤ lo / 2 ^ (64 - s) := Int.ediv_nonneg h2.1 (by omega)
    have d1 : lo / 2 ^ (64 - s) < 2 ^ s := Int.ediv_lt_of_lt_mul T0 (by rw [Int.mul_comm, tT]; exact h2.2)
    have eu : bits .or .u64 (IntKind.u64.wrap (hi * 2 ^ s)) (lo / 2 ^ (64 - s)) = MM lo hi * 2 ^ s / 18446744073709551616 := by
      rw [u64_in ⟨h0, by omega⟩, shl_or h1.1 d0 d1 (by omega) (by have : lo / 2 ^ (64 - s) ≤ lo := Int.ediv_le_self _ h2.1; have := h2.2; omega)]
      have e1 : MM lo hi * 2 ^ s = lo * 2 ^ s + (hi * 2 ^ s) * 18446744073709551616 := by
        unfold MM
        rw [Int.add_mul, Int.mul_assoc, Int.mul_comm 18446744073709551616, ← Int.mul_assoc]; omega
      rw [e1, Int.add_mul_ediv_right _ _ (by decide)]
      have e2 : lo * 2 ^ s / 18446744073709551616 = lo / 2 ^ (64 - s) := by rw [← tT, Int.mul_ediv_mul_of_pos_left _ _ t0]
      omega
    have elo : IntKind.u64.wrap (lo * 2 ^ s) = MM lo hi * 2 ^ s % 18446744073709551616 := by
      have e1 : MM lo hi * 2 ^ s = lo * 2 ^ s + (hi * 2 ^ s) * 18446744073709551616 := by
        unfold MM
        rw [Int.add_mul, Int.mul_assoc, Int.mul_comm 18446744073709551616, ← Int.mul_assoc]; omega
      rw [e1, Int.add_mul_emod_self_right, wrap_u64]
    have ev : IntKind.u64.wrap (y * 2 ^ s) = y * 2 ^ s := u64_in ⟨by omega, v1⟩
    rw [eu, elo, ev]
    have w0 : 0 ≤ MM lo hi * 2 ^ s := Int.mul_nonneg (MM_nonneg h2 h1) (by omega)
    have wv : MM lo hi * 2 ^ s < y * 2 ^ s * 18446744073709551616 := by
      have e : y * 2 ^ s * 18446744073709551616 = (y * 18446744073709551616) * 2 ^ s := by rw [Int.mul_right_comm]
      rw [e]
      refine Int.mul_lt_mul_of_pos_right ?_ t0
      unfold MM; have := h2.2; omega
    have hfin : ∀ q r, MM lo hi * 2 ^ s = q * (y * 2 ^ s) + r → 0 ≤ r → r < y * 2 ^ s → MM lo hi / y = q ∧ r / 2 ^ s = MM lo hi % y := fun q r e r0 r1 => div_final t0 y0 e r0 r1
    generalize y * 2 ^ s = v at *
    generalize MM lo hi * 2 ^ s = w at *
    have ul : U64 (w % 18446744073709551616) := mod_u64 w
    rw [and_mask32 ⟨by omega, v1⟩, and_mask32 ul]
    have hw : w = w / 18446744073709551616 * 18446744073709551616 + w % 18446744073709551616 := by omega
    generalize hu : w / 18446744073709551616 = u at *
    generalize hl : w % 18446744073709551616 = l at *
    have uv : u < v := by omega
    have u0 : 0 ≤ u := by omega
    have hd1 : dig (v / 4294967296) (v % 4294967296) u (l / 4294967296) := ⟨by omega, by omega, by omega, by omega, by omega, by obtain ⟨_, _⟩ := ul; omega, by omega, by omega⟩
    have hva : v / 4294967296 * 4294967296 + v % 4294967296 = v := by omega
    have hst1 := dig_start hd1
    have hdl1 := dig_lt hd1
    have hQ1 : digQ (v / 4294967296) (v % 4294967296) u (l / 4294967296) = (u * 4294967296 + l / 4294967296) / v := by unfold digQ; rw [hva]
    have hm0 : 0 ≤ (u * 4294967296 + l / 4294967296) % v := Int.emod_nonneg _ (by omega)
    have hm1 : (u * 4294967296 + l / 4294967296) % v < v := Int.emod_lt_of_pos _ (by omega)
    have hm2 : (u * 4294967296 + l / 4294967296) % v = (u * 4294967296 + l / 4294967296) - (u * 4294967296 + l / 4294967296) / v * v := by rw [Int.emod_def, Int.mul_comm v]
    generalize hu' : (u * 4294967296 + l / 4294967296) % v = u' at *
    have hd2 : dig (v / 4294967296) (v % 4294967296) u' (l % 4294967296) := ⟨by omega, by omega, by omega, by omega, by omega, by omega, by omega, by omega⟩
    have hst2 := dig_start hd2
    have hdl2 := dig_lt hd2
    have hQ2 : digQ (v / 4294967296) (v % 4294967296) u' (l % 4294967296) = (u' * 4294967296 + l % 4294967296) / v := by unfold digQ; rw [hva]
    have ei1 := dig_init hd1
    have ei2 := dig_init hd2
    refine ⟨h3, by omega, by omega, by omega, by omega, by omega, ⟨_, hst1, ⟨int_mk ei1.1, int_mk ei1.2⟩, trivial⟩, fun x hx => ?_⟩
    have eu' : ∀ q, q = digQ (v / 4294967296) (v % 4294967296) u (l / 4294967296) → IntKind.u64.wrap (IntKind.u64.wrap (IntKind.u64.wrap (u * 4294967296) + l / 4294967296) - IntKind.u64.wrap (q * v)) = u' := by
      intro q hq
      rw [hq, hQ1, hm2, wrap_u64, wrap_u64, wrap_u64, wrap_u64]
      rw [hm2] at hm0 hm1
      generalize (u * 4294967296 + l / 4294967296) / v * v = P at *
      omega
    have hr0 : 0 ≤ (u' * 4294967296 + l % 4294967296) % v := Int.emod_nonneg _ (by omega)
    have hr1 : (u' * 4294967296 + l % 4294967296) % v < v := Int.emod_lt_of_pos _ (by omega)
    have hr2 : (u' * 4294967296 + l % 4294967296) % v = (u' * 4294967296 + l % 4294967296) - (u' * 4294967296 + l % 4294967296) / v * v := by rw [Int.emod_def, Int.mul_comm v]
    have er' : ∀ q, q = digQ (v / 4294967296) (v % 4294967296) u' (l % 4294967296) → IntKind.u64.wrap (IntKind.u64.wrap (IntKind.u64.wrap (u' * 4294967296) + l % 4294967296) - IntKind.u64.wrap (q * v)) = (u' * 4294967296 + l % 4294967296) % v := by
      intro q hq
      rw [hq, hQ2, hr2, wrap_u64, wrap_u64, wrap_u64, wrap_u64]
      rw [hr2] at hr0 hr1
      generalize (u' * 4294967296 + l % 4294967296) / v * v = P at *
      omega
    rw [hQ1] at hdl1
    rw [hQ2] at hdl2
    have hf := hfin ((u * 4294967296 + l / 4294967296) / v * 4294967296 + (u' * 4294967296 + l % 4294967296) / v) ((u' * 4294967296 + l % 4294967296) % v) (by
      rw [Int.add_mul, Int.mul_right_comm, hr2, hw]
      generalize (u' * 4294967296 + l % 4294967296) / v * v = P at *
      generalize (u * 4294967296 + l / 4294967296) / v * v = P' at *
      omega) hr0 hr1
    refine dig_loop hd1 hx (fun e => ?_) (fun e => ?_) (fun e => ?_)
    all_goals
      rw [eu' _ e]
      refine ⟨by omega, ⟨_, hst2, ⟨int_mk ei2.1, int_mk ei2.2⟩, trivial⟩, fun x' hx' => ?_⟩
      refine dig_loop hd2 hx' (fun e' => ?_) (fun e' => ?_) (fun e' => ?_)
      all_goals
        rw [er' _ e', e, e', hQ1, hQ2]
        refine ⟨by omega, ?_⟩
        rw [u64_in (n := (u * 4294967296 + l / 4294967296) / v * 4294967296) ⟨by omega, by omega⟩, u64_in ⟨by omega, by omega⟩, hf.1, hf.2]
end Go.Proofs.Ytlcfnlhognegcaa
end
section
namespace Go.Proofs.Ytlcfnlhognegcaa
open Go.SE Go.RowKit
def ratE (a b : Int) : Int := Int.tdiv (a * 4294967296) b
def ratV (a b : Int) : Int := if b = 0 then noneV a else fitE (ratE a b)
def ratF (a b : Int) : Bool := if b = 0 then true else fitG (ratE a b) false
def sRatio : List SV → Option (Option Prop × SV)
  | [.v (.int .i64 a), .v (.int .i64 b)] => some (some (I64 a ∧ I64 b), numS (ratV a b) (ratF a b))
  | _ => none
def sOver : List SV → Option (Option Prop × SV)
  | [.agg [.v (.bool n), .v (.int .u64 hi), .v (.int .u64 lo)], .v (.int .u64 d)] => some (some (U64 lo ∧ U64 hi ∧ 0 < d ∧ d ≤ 9223372036854775808), wiM n (MM lo hi / d))
  | _ => none
def sDiv : List SV → Option (Option Prop × SV)
  | [.agg [.v (.int .i64 v), .v (.bool f)], .agg [.v (.int .i64 u), .v (.bool g)]] => some (some (I64 v ∧ I64 u), numS (ratV (sndV v) (sndV u)) (ratF (sndV v) (sndV u) || (sndF v f || sndF u g)))
  | _ => none
def ΓY0 : Ctrs := addCtr ΓC 53 (pureCtr sDiv64)
theorem vcRatio (a b : Int) (R : SV→Prop) : (vcPure Try.prog ΓY0 noΛ Try.f34 [.v (.int .i64 a),.v (.int .i64 b)] R) = (sel (b == 0) (R (SV.agg [(SV.v (.int .i64 (IntKind.wrap IntKind.i64 (cmpI a 0 * 9223372036854775807)))),(SV.v (.bool true))])) ((I64 a)∧(((U64 (iabs a))∧((U64 0)∧(((MM (iabs a) 0) : Int) < 79228162514264337593543950336)))∧((I64 b)∧((((iabs b) : Int) ≠ 0)∧((((iabs b) : Int) ≠ 0)∧(((U64 (Int.tmod (MM (iabs a) 0 * 4294967296 / 18446744073709551616) (iabs b)))∧((U64 (MM (iabs a) 0 * 4294967296 % 18446744073709551616))∧((U64 (iabs b))∧(((Int.tmod (MM (iabs a) 0 * 4294967296 / 18446744073709551616) (iabs b)) : Int) < (iabs b)))))∧(((U64 (MM (MM (iabs a) 0 * 4294967296 % 18446744073709551616) (Int.tmod (MM (iabs a) 0 * 4294967296 / 18446744073709551616) (iabs b)) / iabs b))∧(U64 (IntKind.wrap IntKind.u64 (Int.tdiv (MM (iabs a) 0 * 4294967296 / 18446744073709551616) (iabs b)))))∧(R (SV.agg [(SV.v (.int .i64 (fitV (!decide (a < 0) == decide (b < 0)) (MM (MM (MM (iabs a) 0 * 4294967296 % 18446744073709551616) (Int.tmod (MM (iabs a) 0 * 4294967296 / 18446744073709551616) (iabs b)) / iabs b) (IntKind.wrap IntKind.u64 (Int.tdiv (MM (iabs a) 0 * 4294967296 / 18446744073709551616) (iabs b))))))),(SV.v (.bool (fitF (MM (MM (MM (iabs a) 0 * 4294967296 % 18446744073709551616) (Int.tmod (MM (iabs a) 0 * 4294967296 / 18446744073709551616) (iabs b)) / iabs b) (IntKind.wrap IntKind.u64 (Int.tdiv (MM (iabs a) 0 * 4294967296 / 18446744073709551616) (iabs b)))) false)))])))))))))):=by kernel_rfl
def ΓY2 : Ctrs := addCtr (addCtr ΓC 34 (pureCtr sRatio)) 42 (roCtr sFlags)
theorem vcDiv (v : Int) (f : Bool) (u : Int) (g : Bool) (R : SV→Prop) : (vcPure Try.prog ΓY2 noΛ Try.f29 [numS v f,numS u g] R) = (((I64 (sndV v))∧(I64 (sndV u)))∧(sel (ratF (sndV v) (sndV u)) (R (SV.agg [(SV.v (.int .i64 (ratV (sndV v) (sndV u)))),(SV.v (.bool true))])) ((((isN [SV.v (.int .i64 (sndV v)),SV.v (.bool (sndF v f))])∧((isN [SV.v (.int .i64 (sndV u)),SV.v (.bool (sndF u g))])∧True))∧(((2 : Nat) = 2)∧((2 : Nat) < 4611686018427387904)))∧(R (SV.agg [(SV.v (.int .i64 (ratV (sndV v) (sndV u)))),(SV.v (.bool (anyF [[SV.v (.int .i64 (sndV v)),SV.v (.bool (sndF v f))],[SV.v (.int .i64 (sndV u)),SV.v (.bool (sndF u g))]])))]))))):=by kernel_rfl
theorem vcMul (v : Int) (f : Bool) (u : Int) (g : Bool) (R : SV→Prop) : (vcPure Try.prog ΓY2 noΛ Try.f30 [numS v f,numS u g] R) = (((I64 (sndV v))∧(I64 (sndV u)))∧(((U64 (iabs (sndV v) * iabs (sndV u) % 18446744073709551616))∧(U64 (iabs (sndV v) * iabs (sndV u) / 18446744073709551616)))∧((((isN [SV.v (.int .i64 (sndV v)),SV.v (.bool (sndF v f))])∧((isN [SV.v (.int .i64 (sndV u)),SV.v (.bool (sndF u g))])∧True))∧(((2 : Nat) = 2)∧((2 : Nat) < 4611686018427387904)))∧(((U64 (MM (iabs (sndV v) * iabs (sndV u) % 18446744073709551616) (iabs (sndV v) * iabs (sndV u) / 18446744073709551616) / 4294967296 % 18446744073709551616))∧(U64 (MM (iabs (sndV v) * iabs (sndV u) % 18446744073709551616) (iabs (sndV v) * iabs (sndV u) / 18446744073709551616) / 4294967296 / 18446744073709551616)))∧(R (SV.agg [(SV.v (.int .i64 (fitV (!decide (sndV v < 0) == decide (sndV u < 0)) (MM (MM (iabs (sndV v) * iabs (sndV u) % 18446744073709551616) (iabs (sndV v) * iabs (sndV u) / 18446744073709551616) / 4294967296 % 18446744073709551616) (MM (iabs (sndV v) * iabs (sndV u) % 18446744073709551616) (iabs (sndV v) * iabs (sndV u) / 18446744073709551616) / 4294967296 / 18446744073709551616))))),(SV.v (.bool (fitF (MM (MM (iabs (sndV v) * iabs (sndV u) % 18446744073709551616) (iabs (sndV v) * iabs (sndV u) / 18446744073709551616) / 4294967296 % 18446744073709551616) (MM (iabs (sndV v) * iabs (sndV u) % 18446744073709551616) (iabs (sndV v) * iabs (sndV u) / 18446744073709551616) / 4294967296 / 18446744073709551616)) (anyF [[SV.v (.int .i64 (sndV v)),SV.v (.bool (sndF v f))],[SV.v (.int .i64 (sndV u)),SV.v (.bool (sndF u g))]]))))])))))):=by kernel_rfl
theorem noneV_cmp (a : Int) : IntKind.i64.wrap (cmpI a 0 * 9223372036854775807) = noneV a := by
  unfold noneV cmpI
  by_cases h : a < 0
  · rw [if_pos h, if_neg (by omega), if_pos h]; rfl
  · by_cases h' : 0 < a
    · rw [if_neg h, if_pos h', if_pos h']; rfl
    · rw [if_neg h, if_neg h', if_neg (by omega), if_neg h]; rfl
theorem ratE_sv (a b : Int) : sv (!(decide (a < 0) == decide (b < 0))) (iabs a * 4294967296 / iabs b) = ratE a b := by
  unfold ratE
  have h : 0 ≤ iabs a * 4294967296 := by have := iabs_nonneg a; omega
  rw [← Int.tdiv_eq_ediv_of_nonneg h]
  unfold sv
  by_cases ha : a < 0 <;> by_cases hb : b < 0
  · rw [iabs_neg ha, iabs_neg hb]; simp [ha, hb, Int.neg_tdiv, Int.tdiv_neg, Int.neg_mul]
  · rw [iabs_neg ha, iabs_pos hb]; simp [ha, hb, Int.neg_tdiv, Int.neg_mul]
  · rw [iabs_pos ha, iabs_neg hb]; simp [ha, hb, Int.tdiv_neg]
  · rw [iabs_pos ha, iabs_pos hb]; simp [ha, hb]
theorem ΓY0_ok : ∀ f g, ΓY0 f = some g → g.ok Try.prog f := addCtr_ok ΓC_ok (pure_ok Try.func53 (by kernel_rfl) (by kernel_rfl) Div64_spec)
theorem two_step {X d : Int} (h0 : 0 ≤ X) (hd : 0 < d) : MM (MM (X % 18446744073709551616) (X / 18446744073709551616 % d) / d) (X / 18446744073709551616 / d) = X / d ∧ U64 (MM (X % 18446744073709551616) (X / 18446744073709551616 % d) / d) := by
  have q0 : 0 ≤ X / 18446744073709551616 := by omega
  have hr0 : 0 ≤ X / 18446744073709551616 % d := Int.emod_nonneg _ (by omega)
  have hr1 : X / 18446744073709551616 % d < d := Int.emod_lt_of_pos _ hd
  have hq := Int.mul_ediv_add_emod (X / 18446744073709551616) d
  have hX : X = X / 18446744073709551616 * 18446744073709551616 + X % 18446744073709551616 := by omega
  have hl : 0 ≤ X % 18446744073709551616 ∧ X % 18446744073709551616 < 18446744073709551616 := by omega
  generalize X / 18446744073709551616 = Y at *
  generalize X % 18446744073709551616 = l at *
  generalize Y / d = q at *
  generalize Y % d = r at *
  have e : MM l r = r * 18446744073709551616 + l := by unfold MM; omega
  rw [e]
  refine ⟨?_, Int.ediv_nonneg (by omega) (by omega), Int.ediv_lt_of_lt_mul hd (by omega)⟩
  have e2 : X = (r * 18446744073709551616 + l) + d * (q * 18446744073709551616) := by rw [← Int.mul_assoc]; omega
  rw [e2, Int.add_mul_ediv_left _ _ (by omega)]
  unfold MM; omega
theorem Ratio_spec : PureSpec Try.prog 34 sRatio := vc_spec hm ΓY0_ok Try.func34 (Λ := fun _ => noΛ) fun args p x h hp => by
  unfold sRatio at h
  split at h <;> try (cases h; done)
  rename_i a b
  cases h
  obtain ⟨h1, h2⟩ := hp _ rfl
  refine ⟨rfl, rfl, ?_⟩
  refine Eq.mpr (vcRatio a b _) ?_
  refine sel_of (fun g => ?_) fun g => ?_
  · have g : b = 0 := by simpa using g
    unfold ratV ratF
    rw [if_pos g, if_pos g, noneV_cmp]; rfl
  · have g : b ≠ 0 := by simpa using g
    unfold ratV ratF
    rw [if_neg g, if_neg g]
    have ua := iabs_u64 h1
    have ub := iabs_u64 h2
    have la := iabs_le h1
    have hb : 0 < iabs b := by unfold iabs; split <;> omega
    have hs := ratE_sv a b
    rw [MM_0]
    obtain ⟨ua0, ua1⟩ := ua
    generalize hX : iabs a * 4294967296 = X at *
    have X0 : 0 ≤ X := by omega
    have hY0 : 0 ≤ X / 18446744073709551616 := by omega
    obtain ⟨t1, t2⟩ := two_step X0 hb
    rw [Int.tdiv_eq_ediv_of_nonneg hY0, Int.tmod_eq_emod_of_nonneg hY0]
    have hr0 : 0 ≤ X / 18446744073709551616 % iabs b := Int.emod_nonneg _ (by omega)
    have hr1 : X / 18446744073709551616 % iabs b < iabs b := Int.emod_lt_of_pos _ hb
    have hq0 : 0 ≤ X / 18446744073709551616 / iabs b := Int.ediv_nonneg hY0 ub.1
    have hq1 : X / 18446744073709551616 / iabs b ≤ X / 18446744073709551616 := Int.ediv_le_self _ hY0
    have uq : U64 (X / 18446744073709551616 / iabs b) := ⟨hq0, by omega⟩
    rw [u64_in uq, t1]
    have x0 : 0 ≤ X / iabs b := Int.ediv_nonneg X0 ub.1
    refine ⟨h1, ⟨⟨ua0, ua1⟩, ⟨by omega, by omega⟩, by omega⟩, h2, by omega, by omega, ⟨⟨hr0, by have := ub.2; omega⟩, mod_u64 _, ub, hr1⟩, ⟨t2, uq⟩, ?_⟩
    rw [fitV_E _ x0, fitF_G (!(decide (a < 0) == decide (b < 0))) _ x0, hs]; rfl
theorem ΓY2_ok : ∀ f g, ΓY2 f = some g → g.ok Try.prog f := addCtr_ok (addCtr_ok ΓC_ok (pure_ok Try.func34 (by kernel_rfl) (by kernel_rfl) Ratio_spec)) (ro_ok Try.func42 (by kernel_rfl) (by kernel_rfl) Flags_spec)
theorem Div_spec : PureSpec Try.prog 29 sDiv := vc_spec hm ΓY2_ok Try.func29 (Λ := fun _ => noΛ) fun args p x h hp => by
  unfold sDiv at h
  split at h <;> try (cases h; done)
  rename_i v f u g
  cases h
  obtain ⟨h1, h2⟩ := hp _ rfl
  refine ⟨rfl, rfl, ?_⟩
  refine Eq.mpr (vcDiv v f u g _) ?_
  refine ⟨⟨sndV_i64 h1, sndV_i64 h2⟩, sel_of (fun hf => num_mk rfl ?_) fun hf => ⟨⟨⟨trivial, trivial, trivial⟩, rfl, by decide⟩, num_mk rfl ?_⟩⟩
  · rw [hf, Bool.true_or]
  · rw [hf, Bool.false_or]; simp [anyF, rowF]
theorem Mul_spec : PureSpec Try.prog 30 sMul := vc_spec hm ΓY2_ok Try.func30 (Λ := fun _ => noΛ) fun args p x h hp => by
  unfold sMul at h
  split at h <;> try (cases h; done)
  rename_i v f u g
  cases h
  obtain ⟨h1, h2⟩ := hp _ rfl
  have h1 := sndV_i64 h1
  have h2 := sndV_i64 h2
  refine ⟨rfl, rfl, ?_⟩
  refine Eq.mpr (vcMul v f u g _) ?_
  rw [MM_split, MM_split]
  have l1 := iabs_mul_lt h1 h2
  have n1 := iabs_mul (a := sndV v) (b := sndV u)
  have s1 := sgn_mul (sndV v) (sndV u)
  generalize iabs (sndV v) * iabs (sndV u) = m at *
  have e : sv (!(decide (sndV v < 0) == decide (sndV u < 0))) (m / 4294967296) = mulE (sndV v) (sndV u) := by rw [sv_tdiv _ n1, s1]; rfl
  refine ⟨⟨h1, h2⟩, ⟨mod_u64 _, div_u64 n1 (by omega)⟩, ⟨⟨trivial, trivial, trivial⟩, rfl, by decide⟩, ⟨mod_u64 _, div_u64 (by omega) (by omega)⟩, num_mk ?_ ?_⟩
  · rw [fitV_E _ (by omega), e]
  · rw [fitF_G (!(decide (sndV v < 0) == decide (sndV u < 0))) _ (by omega), e]
    simp [anyF, rowF]
end Go.Proofs.Ytlcfnlhognegcaa
end
section
namespace Go.Proofs.Ytlcfnlhognegcaa
open Go.SE Go.RowKit
def nrB (e n : Nat) (v : Nat → Int) (f : Nat → Bool) : Blk := { elem := e, size := 2, rw := false, lock := false, lit := false, flat := true, n, row := rowsN v f, ext := 0 }
def nrOk (S : Blk) : Bool := S.flat && !S.rw && !S.dead && Nat.beq S.size 2 && Nat.beq S.ext 0 && !S.whole
def iB (n : Nat) (g : Nat → Int) : Blk := { elem := 2, size := 1, rw := true, lock := false, lit := false, flat := true, n, row := fun i => [.v (.int .i64 (g i))] }
def sValues (args : List SV) (bs : List Blk) : Option Eff := match args, bs with
  | [.sl 0 2 0 n _], [S] => bif nrOk S then some (.det (some (okAll isN (rowsOf n S.row) ∧ S.n = n ∧ n < 1099511627776)) (.tup [.sl 1000 1 0 n n, .v (.bool (anyG (rowsOf n S.row)))]) [(1000, iB n fun i => sndV (rowV (S.row i)))]) else none
  | _, _ => none
def extN (o a : Int) : List (List SV) → Int
  | [] => a
  | r :: t => extN o (if cmpI (rowI r) a * o < 0 then rowI r else a) t
def sExt : List SV → List Ro → Option (Option Prop × SV)
  | [.v (.int .i64 o), .v (.int .i64 a), .sl 0 1 0 n _], [⟨1, n', row⟩] => some (some (okAll isI (rowsOf n' row) ∧ n' = n ∧ n < 1099511627776 ∧ -1 ≤ o ∧ o ≤ 1), .v (.int .i64 (extN o a (rowsOf n row))))
  | _, _ => none
def extG (o a : Int) : List (List SV) → Int
  | [] => a
  | r :: t => extG o (if cmpI (sndV (rowV r)) a * o < 0 then sndV (rowV r) else a) t
def mostV (o : Int) : List (List SV) → Int
  | [] => 0
  | r :: t => extG o (sndV (rowV r)) t
def sMost : List SV → List Ro → Option (Option Prop × SV)
  | [.v (.int .i64 o), .sl 0 2 0 n _], [⟨2, n', row⟩] => some (some (okAll isN (rowsOf n' row) ∧ n' = n ∧ n < 1099511627776 ∧ -1 ≤ o ∧ o ≤ 1), numS (mostV o (rowsOf n row)) (anyG (rowsOf n row)))
  | _, _ => none
def sMinMax (o : Int) : List SV → List Ro → Option (Option Prop × SV)
  | [.sl 0 2 0 n _], [⟨2, n', row⟩] => some (some (okAll isN (rowsOf n' row) ∧ n' = n ∧ n < 1099511627776), numS (mostV o (rowsOf n row)) (anyG (rowsOf n row)))
  | _, _ => none
def isNI : List SV → Prop
  | [.v (.int .i64 a), .v (.bool _)] => I64 a
  | _ => False
def sumG : List (List SV) → Int
  | [] => 0
  | r :: t => sndV (rowV r) + sumG t
def sSum : List SV → List Ro → Option (Option Prop × SV)
  | [.sl 0 2 0 n _], [⟨2, n', row⟩] => some (some (okAll isNI (rowsOf n' row) ∧ n' = n ∧ n < 1099511627776), numS (fitE (sumG (rowsOf n row))) (fitG (sumG (rowsOf n row)) (anyG (rowsOf n row))))
  | _, _ => none
noncomputable def ΛValues (n : Nat) (g : Nat → Int) (fl : Nat → Bool) : Nat → Option LoopSpec := addPr (addLoop noΛ Try.f58 0 Nat (fun k => k ≤ n) (fun k => n - k) [(13, fun k => .v (.int .i64 k)), (5, fun k => .v (.bool (fl k)))] [(96, fun k => iB n fun i => if i < k then g i else 0)]) 6 [(10, fun _ => 96)]
theorem vcValues (e n c : Nat) (v g : Nat→Int) (f fl : Nat→Bool) (b : Bool) : (vcFn Try.prog ΓC (ΛValues n g fl) Try.f58 [.sl 0 2 0 n c] (heapOf [nrB e n v f]) 64 (fun y h' => FinE [nrB e n v f] (.det none (.tup [.sl 1000 1 0 n n,.v (.bool b)]) [(1000,iB n g)]) y h')) = ((((0 : Int) ≤ ((↑n : Int)))∧(((((↑n : Int)) : Int) ≤ ((↑n : Int)))∧(((8 * (↑n : Int)) : Int) ≤ 140737488355328)))∧((∃ x : Nat,((Nat.le x n)∧((((SV.v (.int .i64 0)) = (SV.v (.int .i64 ((↑x : Int)))))∧((SV.v (.bool false)) = (SV.v (.bool (fl x)))))∧((((Int.toNat (↑n : Int)) : Nat) = n)∧(((n : Nat) ≤ (Int.toNat (↑n : Int)))∧(∀ i : Nat,(((i : Nat) < n)→([(SV.v (.int .i64 0))] = [(SV.v (.int .i64 (if i < x then g i else 0)))]))))))))∧(∀ x : Nat,((Nat.le x n)→(sel (decide ((↑x : Int) < (↑n : Int))) ((((0 : Int) ≤ ((↑x : Int)))∧((((↑x : Int)) : Int) < ((↑n : Int))))∧(sel (fl x) ((((0 : Int) ≤ ((↑x : Int)))∧((((↑x : Int)) : Int) < ((↑(Int.toNat (↑n : Int)) : Int))))∧(∃ x' : Nat,(((Nat.le x' n)∧((((SV.v (.int .i64 (IntKind.wrap IntKind.i64 ((↑x : Int) + 1)))) = (SV.v (.int .i64 ((↑x' : Int)))))∧((SV.v (.bool true)) = (SV.v (.bool (fl x')))))∧(((n : Nat) = n)∧(((n : Nat) ≤ n)∧(∀ i : Nat,(((i : Nat) < n)→([(SV.v (.int .i64 (bop (Nat.beq i (0 + Int.toNat (↑x : Int))) (sndV (v (0 + Int.toNat (↑x : Int)))) (if i < x then g i else 0))))] = [(SV.v (.int .i64 (if i < x' then g i else 0)))])))))))∧(((n - x') : Nat) < (n - x))))) ((((0 : Int) ≤ ((↑x : Int)))∧((((↑x : Int)) : Int) < ((↑(Int.toNat (↑n : Int)) : Int))))∧(∃ x' : Nat,(((Nat.le x' n)∧((((SV.v (.int .i64 (IntKind.wrap IntKind.i64 ((↑x : Int) + 1)))) = (SV.v (.int .i64 ((↑x' : Int)))))∧((SV.v (.bool (sndF (v (0 + Int.toNat (↑x : Int))) (f (0 + Int.toNat (↑x : Int)))))) = (SV.v (.bool (fl x')))))∧(((n : Nat) = n)∧(((n : Nat) ≤ n)∧(∀ i : Nat,(((i : Nat) < n)→([(SV.v (.int .i64 (bop (Nat.beq i (0 + Int.toNat (↑x : Int))) (sndV (v (0 + Int.toNat (↑x : Int)))) (if i < x then g i else 0))))] = [(SV.v (.int .i64 (if i < x' then g i else 0)))])))))))∧(((n - x') : Nat) < (n - x))))))) ((((SV.sl 96 1 0 (Int.toNat (↑n : Int)) (Int.toNat (↑n : Int))) = (SV.sl 96 1 0 n n))∧((SV.v (.bool (fl x))) = (SV.v (.bool b))))∧(((n : Nat) = n)∧(((n : Nat) ≤ n)∧(∀ i : Nat,(((i : Nat) < n)→([(SV.v (.int .i64 (if i < x then g i else 0)))] = [(SV.v (.int .i64 (g i)))]))))))))))):=by kernel_rfl
structure KI where
  k : Nat
  a : Int
noncomputable def ΛExt (n : Nat) (o a : Int) (row : Nat → List SV) : Nat → Option LoopSpec := addLoop noΛ Try.f68 0 KI (fun x => x.k ≤ n ∧ extN o x.a (rowsOf (n - x.k) fun i => row (x.k + i)) = extN o a (rowsOf n row)) (fun x => n - x.k) [(11, fun x => .v (.int .i64 x.k)), (1, fun x => .v (.int .i64 x.a))] []
theorem vcExt (o a : Int) (n n' c : Nat) (g : Nat→Int) (R : SV→Prop) : (vcFn Try.prog ΓC (ΛExt n o a fun i => [.v (.int .i64 (g i))]) Try.f68 [.v (.int .i64 o),.v (.int .i64 a),.sl 0 1 0 n c] (roHeap [⟨1,n',fun i => [.v (.int .i64 (g i))]⟩]) 64 (fun y _ => R y)) = ((∃ x : KI,(((((KI.k x) : Nat) ≤ n)∧(((extN o (KI.a x) (rowsOf (n - KI.k x) fun i => [SV.v (.int .i64 (g (KI.k x + i)))])) : Int) = (extN o a (rowsOf n fun i => [SV.v (.int .i64 (g i))]))))∧((((SV.v (.int .i64 0)) = (SV.v (.int .i64 ((↑(KI.k x) : Int)))))∧((SV.v (.int .i64 a)) = (SV.v (.int .i64 (KI.a x)))))∧True)))∧(∀ x : KI,(((((KI.k x) : Nat) ≤ n)∧(((extN o (KI.a x) (rowsOf (n - KI.k x) fun i => [SV.v (.int .i64 (g (KI.k x + i)))])) : Int) = (extN o a (rowsOf n fun i => [SV.v (.int .i64 (g i))]))))→(sel (decide ((↑(KI.k x) : Int) < (↑n : Int))) ((((0 : Int) ≤ ((↑(KI.k x) : Int)))∧((((↑(KI.k x) : Int)) : Int) < ((↑n : Int))))∧(sel (decide (IntKind.wrap IntKind.i64 (cmpI (g (0 + Int.toNat (↑(KI.k x) : Int))) (KI.a x) * o) < 0)) (∃ x' : KI,((((((KI.k x') : Nat) ≤ n)∧(((extN o (KI.a x') (rowsOf (n - KI.k x') fun i => [SV.v (.int .i64 (g (KI.k x' + i)))])) : Int) = (extN o a (rowsOf n fun i => [SV.v (.int .i64 (g i))]))))∧((((SV.v (.int .i64 (IntKind.wrap IntKind.i64 ((↑(KI.k x) : Int) + 1)))) = (SV.v (.int .i64 ((↑(KI.k x') : Int)))))∧((SV.v (.int .i64 (g (0 + Int.toNat (↑(KI.k x) : Int))))) = (SV.v (.int .i64 (KI.a x')))))∧True))∧(((n - KI.k x') : Nat) < (n - KI.k x)))) (∃ x' : KI,((((((KI.k x') : Nat) ≤ n)∧(((extN o (KI.a x') (rowsOf (n - KI.k x') fun i => [SV.v (.int .i64 (g (KI.k x' + i)))])) : Int) = (extN o a (rowsOf n fun i => [SV.v (.int .i64 (g i))]))))∧((((SV.v (.int .i64 (IntKind.wrap IntKind.i64 ((↑(KI.k x) : Int) + 1)))) = (SV.v (.int .i64 ((↑(KI.k x') : Int)))))∧((SV.v (.int .i64 (KI.a x))) = (SV.v (.int .i64 (KI.a x')))))∧True))∧(((n - KI.k x') : Nat) < (n - KI.k x)))))) (R (SV.v (.int .i64 (KI.a x)))))))):=by kernel_rfl
def ΓZ0 : Ctrs := addCtr (addCtr ΓC 58 (hpCtr false sValues)) 68 (roCtr sExt)
theorem vcMost (o : Int) (n n' c : Nat) (v : Nat→Int) (f : Nat→Bool) (R : SV→Prop) : (vcFn Try.prog ΓZ0 noΛ Try.f60 [.v (.int .i64 o),.sl 0 2 0 n c] (roHeap [⟨2,n',rowsN v f⟩]) 64 (fun y _ => R y)) = (sel ((↑n : Int) == 0) (R (SV.agg [(SV.v (.int .i64 0)),(SV.v (.bool false))])) (((okAll isN (rowsOf n fun y => [SV.v (.int .i64 (v (0 + y))),SV.v (.bool (f (0 + y)))]))∧(((n : Nat) = n)∧((n : Nat) < 1099511627776)))∧((((0 : Int) ≤ 0)∧((0 : Int) < ((↑n : Int))))∧((((0 : Int) ≤ 1)∧(((1 : Int) ≤ (Option.getD none (↑n : Int)))∧((((Option.getD none (↑n : Int)) : Int) ≤ ((↑n : Int)))∧((n : Nat) ≤ n))))∧(((okAll isI (rowsOf (Int.toNat (Option.getD none (↑n : Int)) - 1) fun y => [SV.v (.int .i64 ((fun i => sndV (rowV [SV.v (.int .i64 (v (0 + i))),SV.v (.bool (f (0 + i)))])) (1 + y)))]))∧((((Int.toNat (Option.getD none (↑n : Int)) - 1) : Nat) = (Int.toNat (Option.getD none (↑n : Int)) - 1))∧((((Int.toNat (Option.getD none (↑n : Int)) - 1) : Nat) < 1099511627776)∧((((-1) : Int) ≤ o)∧((o : Int) ≤ 1)))))∧(R (SV.agg [(SV.v (.int .i64 (extN o (sndV (rowV [SV.v (.int .i64 (v 0)),SV.v (.bool (f 0))])) (rowsOf (Int.toNat (Option.getD none (↑n : Int)) - 1) fun y => [SV.v (.int .i64 ((fun i => sndV (rowV [SV.v (.int .i64 (v (0 + i))),SV.v (.bool (f (0 + i)))])) (1 + y)))])))),(SV.v (.bool (anyG (rowsOf n fun y => [SV.v (.int .i64 (v (0 + y))),SV.v (.bool (f (0 + y)))]))))]))))))):=by kernel_rfl
def ΓZ1 : Ctrs := addCtr ΓC 60 (roCtr sMost)
theorem vcMin (n n' c : Nat) (v : Nat→Int) (f : Nat→Bool) (R : SV→Prop) : (vcFn Try.prog ΓZ1 noΛ Try.f49 [.sl 0 2 0 n c] (roHeap [⟨2,n',rowsN v f⟩]) 64 (fun y _ => R y)) = (((okAll isN (rowsOf n fun y => [SV.v (.int .i64 (v (0 + y))),SV.v (.bool (f (0 + y)))]))∧(((n : Nat) = n)∧(((n : Nat) < 1099511627776)∧((((-1) : Int) ≤ 1)∧((1 : Int) ≤ 1)))))∧(R (SV.agg [(SV.v (.int .i64 (mostV 1 (rowsOf n fun y => [SV.v (.int .i64 (v (0 + y))),SV.v (.bool (f (0 + y)))])))),(SV.v (.bool (anyG (rowsOf n fun y => [SV.v (.int .i64 (v (0 + y))),SV.v (.bool (f (0 + y)))]))))]))):=by kernel_rfl
theorem vcMax (n n' c : Nat) (v : Nat→Int) (f : Nat→Bool) (R : SV→Prop) : (vcFn Try.prog ΓZ1 noΛ Try.f48 [.sl 0 2 0 n c] (roHeap [⟨2,n',rowsN v f⟩]) 64 (fun y _ => R y)) = (((okAll isN (rowsOf n fun y => [SV.v (.int .i64 (v (0 + y))),SV.v (.bool (f (0 + y)))]))∧(((n : Nat) = n)∧(((n : Nat) < 1099511627776)∧((((-1) : Int) ≤ (-1))∧(((-1) : Int) ≤ 1)))))∧(R (SV.agg [(SV.v (.int .i64 (mostV (-1) (rowsOf n fun y => [SV.v (.int .i64 (v (0 + y))),SV.v (.bool (f (0 + y)))])))),(SV.v (.bool (anyG (rowsOf n fun y => [SV.v (.int .i64 (v (0 + y))),SV.v (.bool (f (0 + y)))]))))]))):=by kernel_rfl
structure KE where
  k : Nat
  n : Bool
  m : Int
structure invS (n : Nat) (row : Nat → List SV) (x : KE) : Prop where
  le : x.k ≤ n
  m0 : 0 ≤ x.m
  m1 : x.m ≤ 9223372036854775808 * (x.k : Int)
  sum : sv x.n x.m = sumG (rowsOf x.k row)
noncomputable def ΛSum (n : Nat) (row : Nat → List SV) : Nat → Option LoopSpec := addLoop noΛ Try.f40 0 KE (invS n row) (fun x => n - x.k) [(15, fun x => .v (.int .i64 x.k))] [(128, fun x => varBlk 77 [.v (.bool x.n), .v (.int .u64 (x.m % 18446744073709551616)), .v (.int .u64 (x.m / 18446744073709551616))])]
def ΓZ2 : Ctrs := addCtr ΓC 58 (hpCtr false sValues)
theorem vcSum (n n' c : Nat) (v : Nat→Int) (f : Nat→Bool) (R : SV→Prop) : (vcFn Try.prog ΓZ2 (ΛSum n (rowsN v f)) Try.f40 [.sl 0 2 0 n c] (roHeap [⟨2,n',rowsN v f⟩]) 64 (fun y _ => R y)) = (((okAll isN (rowsOf n fun y => [SV.v (.int .i64 (v (0 + y))),SV.v (.bool (f (0 + y)))]))∧(((n : Nat) = n)∧((n : Nat) < 1099511627776)))∧((∃ x : KE,((invS n (fun i => [SV.v (.int .i64 (v i)),SV.v (.bool (f i))]) x)∧(((SV.v (.int .i64 0)) = (SV.v (.int .i64 ((↑(KE.k x) : Int)))))∧(((1 : Nat) = 1)∧(((1 : Nat) ≤ 1)∧(∀ i : Nat,(((i : Nat) < 1)→([(SV.v (.bool false)),(SV.v (.int .u64 0)),(SV.v (.int .u64 0))] = [(SV.v (.bool (KE.n x))),(SV.v (.int .u64 (KE.m x % 18446744073709551616))),(SV.v (.int .u64 (KE.m x / 18446744073709551616)))]))))))))∧(∀ x : KE,((invS n (fun i => [SV.v (.int .i64 (v i)),SV.v (.bool (f i))]) x)→(sel (decide ((↑(KE.k x) : Int) < (↑n : Int))) ((((0 : Int) ≤ ((↑(KE.k x) : Int)))∧((((↑(KE.k x) : Int)) : Int) < ((↑n : Int))))∧((I64 (sndV (rowV [SV.v (.int .i64 (v (0 + (0 + Int.toNat (↑(KE.k x) : Int))))),SV.v (.bool (f (0 + (0 + Int.toNat (↑(KE.k x) : Int)))))])))∧((((U64 (KE.m x % 18446744073709551616))∧(U64 (KE.m x / 18446744073709551616)))∧(((U64 (iabs (sndV (rowV [SV.v (.int .i64 (v (0 + (0 + Int.toNat (↑(KE.k x) : Int))))),SV.v (.bool (f (0 + (0 + Int.toNat (↑(KE.k x) : Int)))))]))))∧(U64 0))∧(((MM (KE.m x % 18446744073709551616) (KE.m x / 18446744073709551616) + MM (iabs (sndV (rowV [SV.v (.int .i64 (v (0 + (0 + Int.toNat (↑(KE.k x) : Int))))),SV.v (.bool (f (0 + (0 + Int.toNat (↑(KE.k x) : Int)))))]))) 0) : Int) < 340282366920938463463374607431768211456)))∧(∃ x' : KE,(((invS n (fun i => [SV.v (.int .i64 (v i)),SV.v (.bool (f i))]) x')∧(((SV.v (.int .i64 (IntKind.wrap IntKind.i64 ((↑(KE.k x) : Int) + 1)))) = (SV.v (.int .i64 ((↑(KE.k x') : Int)))))∧(((1 : Nat) = 1)∧(((1 : Nat) ≤ 1)∧(∀ i : Nat,(((i : Nat) < 1)→([(SV.v (.bool (plN (KE.n x) (MM (KE.m x % 18446744073709551616) (KE.m x / 18446744073709551616)) (decide (sndV (rowV [SV.v (.int .i64 (v (0 + (0 + Int.toNat (↑(KE.k x) : Int))))),SV.v (.bool (f (0 + (0 + Int.toNat (↑(KE.k x) : Int)))))]) < 0)) (MM (iabs (sndV (rowV [SV.v (.int .i64 (v (0 + (0 + Int.toNat (↑(KE.k x) : Int))))),SV.v (.bool (f (0 + (0 + Int.toNat (↑(KE.k x) : Int)))))]))) 0)))),(SV.v (.int .u64 (plM (KE.n x) (MM (KE.m x % 18446744073709551616) (KE.m x / 18446744073709551616)) (decide (sndV (rowV [SV.v (.int .i64 (v (0 + (0 + Int.toNat (↑(KE.k x) : Int))))),SV.v (.bool (f (0 + (0 + Int.toNat (↑(KE.k x) : Int)))))]) < 0)) (MM (iabs (sndV (rowV [SV.v (.int .i64 (v (0 + (0 + Int.toNat (↑(KE.k x) : Int))))),SV.v (.bool (f (0 + (0 + Int.toNat (↑(KE.k x) : Int)))))]))) 0) % 18446744073709551616))),(SV.v (.int .u64 (plM (KE.n x) (MM (KE.m x % 18446744073709551616) (KE.m x / 18446744073709551616)) (decide (sndV (rowV [SV.v (.int .i64 (v (0 + (0 + Int.toNat (↑(KE.k x) : Int))))),SV.v (.bool (f (0 + (0 + Int.toNat (↑(KE.k x) : Int)))))]) < 0)) (MM (iabs (sndV (rowV [SV.v (.int .i64 (v (0 + (0 + Int.toNat (↑(KE.k x) : Int))))),SV.v (.bool (f (0 + (0 + Int.toNat (↑(KE.k x) : Int)))))]))) 0) / 18446744073709551616)))] = [(SV.v (.bool (KE.n x'))),(SV.v (.int .u64 (KE.m x' % 18446744073709551616))),(SV.v (.int .u64 (KE.m x' / 18446744073709551616)))])))))))∧(((n - KE.k x') : Nat) < (n - KE.k x))))))) (((U64 (KE.m x % 18446744073709551616))∧(U64 (KE.m x / 18446744073709551616)))∧(R (SV.agg [(SV.v (.int .i64 (fitV (KE.n x) (MM (KE.m x % 18446744073709551616) (KE.m x / 18446744073709551616))))),(SV.v (.bool (fitF (MM (KE.m x % 18446744073709551616) (KE.m x / 18446744073709551616)) (anyG (rowsOf n fun y => [SV.v (.int .i64 (v (0 + y))),SV.v (.bool (f (0 + y)))])))))])))))))):=by kernel_rfl
theorem rowsOf_cons (n : Nat) (row : Nat → List SV) : rowsOf (n + 1) row = row 0 :: rowsOf n fun i => row (i + 1) := by
  refine List.ext_getElem? fun i => ?_
  cases i with
  | zero => rw [rowsOf_get]; simp
  | succ i => rw [rowsOf_get, List.getElem?_cons_succ, rowsOf_get]; simp
theorem rowsOf_drop {n k : Nat} (h : k < n) (row : Nat → List SV) : (rowsOf (n - k) fun i => row (k + i)) = row k :: rowsOf (n - (k + 1)) fun i => row (k + 1 + i) := by
  rw [show n - k = (n - (k + 1)) + 1 by omega, rowsOf_cons]
  congr 1
  exact rowsOf_congr fun i _ => by rw [show k + (i + 1) = k + 1 + i by omega]
theorem rowsOf_zero (row : Nat → List SV) : rowsOf 0 row = [] := rfl
theorem same_nrB {S : Blk} {m : Nat} (hS : nrOk S = true) (h1 : S.n = m) (h2 : ∀ i, i < m → isN (S.row i)) : BlkSame S (nrB S.elem m (fun i => rowV (S.row i)) fun i => rowF (S.row i)) := by
  simp only [nrOk, Bool.and_eq_true, Bool.not_eq_true'] at hS
  obtain ⟨⟨⟨⟨⟨a1, a2⟩, a3⟩, a4⟩, a5⟩, a6⟩ := hS
  exact ⟨Nat.eq_of_beq_eq_true a4, a2, a1, h1, Nat.eq_of_beq_eq_true a5, a3, rfl, a6, fun i hi => isN_row (h2 i (by omega))⟩
theorem Values_spec : HpSpec Try.prog 58 sValues := hp_spec hm ΓC_ok Try.func58 (Λ := fun args bs => match args, bs with | [.sl 0 2 0 n _], [S] => ΛValues n (fun i => sndV (rowV (S.row i))) (fun k => anyG (rowsOf k S.row)) | _, _ => noΛ) fun args bs e hs hp => by
  unfold sValues at hs
  split at hs <;> try (cases hs; done)
  rename_i n c S
  cases hS : nrOk S with
  | false => rw [hS] at hs; cases hs
  | true =>
    rw [hS] at hs
    cases hs
    obtain ⟨p1, p2, p3⟩ := hp _ rfl
    have p1 := okAll_rows.1 p1
    refine ⟨[nrB S.elem n (fun i => rowV (S.row i)) fun i => rowF (S.row i)], ⟨same_nrB hS p2 p1, trivial⟩, ?_⟩
    refine Eq.mpr (vcValues S.elem n c (fun i => rowV (S.row i)) (fun i => sndV (rowV (S.row i))) (fun i => rowF (S.row i)) (fun k => anyG (rowsOf k S.row)) (anyG (rowsOf n S.row))) ?_
    refine ⟨⟨by omega, by omega, by omega⟩, ⟨0, ⟨Nat.zero_le _, ⟨rfl, rfl⟩, by simp, by simp, fun i hi => by rw [if_neg (by omega)]⟩⟩, fun x hx => ?_⟩
    have hx : x ≤ n := hx
    have hsucc : anyG (rowsOf (x + 1) S.row) = (anyG (rowsOf x S.row) || sndF (rowV (S.row x)) (rowF (S.row x))) := by rw [rowsOf_succ, anyG_append]; simp [anyG]
    refine sel_of (fun g => ?_) fun g => ?_
    · have g := of_decide_eq_true g
      have e1 : IntKind.i64.wrap ((x : Int) + 1) = ((x + 1 : Nat) : Int) := by rw [wrap_i64 ⟨by omega, by omega⟩]; omega
      have row : ∀ i, i < n → [SV.v (Value.int .i64 (bop (Nat.beq i (0 + Int.toNat (x : Int))) (sndV (rowV (S.row (0 + Int.toNat (x : Int))))) (if i < x then sndV (rowV (S.row i)) else 0)))] = [SV.v (Value.int .i64 (if i < x + 1 then sndV (rowV (S.row i)) else 0))] := by
        intro i hi
        rw [Int.toNat_natCast, Nat.zero_add]
        have b1 : ∀ (a b : Int), bop true a b = a := fun _ _ => rfl
        have b2 : ∀ (a b : Int), bop false a b = b := fun _ _ => rfl
        by_cases h : i = x
        · subst h
          have hb : Nat.beq i i = true := Nat.beq_eq ▸ rfl
          rw [hb, b1, if_pos (by omega)]
        · have hb : Nat.beq i x = false := by
            cases hb : Nat.beq i x with
            | false => rfl
            | true => exact absurd (Nat.eq_of_beq_eq_true hb) h
          rw [hb, b2]
          by_cases h' : i < x
          · rw [if_pos h', if_pos (by omega)]
          · rw [if_neg h', if_neg (by omega)]
      refine ⟨⟨by omega, by omega⟩, sel_of (fun hf => ?_) fun hf => ?_⟩
      · exact ⟨⟨by omega, by simp; omega⟩, x + 1, ⟨Nat.succ_le_of_lt (by omega), ⟨int_mk e1, bool_mk (by rw [hsucc, hf]; rfl)⟩, rfl, Nat.le_refl _, row⟩, by omega⟩
      · refine ⟨⟨by omega, by simp; omega⟩, x + 1, ⟨Nat.succ_le_of_lt (by omega), ⟨int_mk e1, bool_mk ?_⟩, rfl, Nat.le_refl _, row⟩, by omega⟩
        rw [hsucc, hf, Int.toNat_natCast, Nat.zero_add, Bool.false_or]
    · have g := of_decide_eq_false g
      have e : x = n := by omega
      subst e
      refine ⟨⟨by simp, rfl⟩, rfl, Nat.le_refl _, fun i hi => by rw [if_pos hi]⟩
theorem Ext_spec : RoSpec Try.prog 68 sExt := ro_spec hm ΓC_ok Try.func68 (Λ := fun args bs => match args, bs with | [.v (.int .i64 o), .v (.int .i64 a), .sl 0 1 0 n _], [⟨1, _, row⟩] => ΛExt n o a (fun i => [.v (.int .i64 (rowI (row i)))]) | _, _ => noΛ) fun args bs p x h hp => by
  unfold sExt at h
  split at h <;> try (cases h; done)
  rename_i o a n c n' row
  cases h
  obtain ⟨h1, rfl, h3, h4⟩ := hp _ rfl
  have h1 := okAll_rows.1 h1
  refine ⟨rfl, [⟨1, n', fun i => [.v (.int .i64 (rowI (row i)))]⟩], ⟨⟨rfl, rfl, fun i hi => isI_row (h1 i hi)⟩, trivial⟩, ?_⟩
  show vcFn _ _ (ΛExt n' o a fun i => [.v (.int .i64 (rowI (row i)))]) _ _ _ _ _
  refine Eq.mpr (vcExt o a n' n' c (fun i => rowI (row i)) _) ?_
  have hrow : rowsOf n' row = rowsOf n' fun i => [SV.v (Value.int .i64 (rowI (row i)))] := rowsOf_congr fun i hi => isI_row (h1 i hi)
  rw [hrow]
  refine ⟨⟨⟨0, a⟩, ⟨Nat.zero_le _, by simp⟩, ⟨rfl, rfl⟩, trivial⟩, fun x ⟨x1, x2⟩ => ?_⟩
  refine sel_of (fun g => ?_) fun g => ?_
  · have g := of_decide_eq_true g
    have e1 : IntKind.i64.wrap ((x.k : Int) + 1) = ((x.k + 1 : Nat) : Int) := by rw [wrap_i64 ⟨by omega, by omega⟩]; omega
    have hd := rowsOf_drop (n := n') (k := x.k) (by omega) fun i => [SV.v (Value.int .i64 (rowI (row i)))]
    have hc : ∀ z, -1 ≤ cmpI z x.a ∧ cmpI z x.a ≤ 1 := fun z => by unfold cmpI; split <;> (try split) <;> omega
    have hw : ∀ z, IntKind.i64.wrap (cmpI z x.a * o) = cmpI z x.a * o := fun z => by
      have hz := hc z
      have h5 : cmpI z x.a * o = o ∨ cmpI z x.a * o = 0 ∨ cmpI z x.a * o = -o := by
        have : cmpI z x.a = 1 ∨ cmpI z x.a = 0 ∨ cmpI z x.a = -1 := by omega
        rcases this with e | e | e <;> rw [e] <;> omega
      exact wrap_i64 ⟨by omega, by omega⟩
    rw [hd] at x2
    rw [e1, Int.toNat_natCast, Nat.zero_add, hw]
    have x2' : extN o (if cmpI (rowI (row x.k)) x.a * o < 0 then rowI (row x.k) else x.a) (rowsOf (n' - (x.k + 1)) fun i => [SV.v (Value.int .i64 (rowI (row (x.k + 1 + i))))]) = extN o a (rowsOf n' fun i => [SV.v (Value.int .i64 (rowI (row i)))]) := x2
    refine ⟨⟨by omega, by omega⟩, sel_of (fun hf => ?_) fun hf => ?_⟩
    · rw [if_pos (of_decide_eq_true hf)] at x2'
      exact ⟨⟨x.k + 1, rowI (row x.k)⟩, ⟨⟨by show x.k + 1 ≤ n'; omega, x2'⟩, ⟨rfl, rfl⟩, trivial⟩, by show n' - (x.k + 1) < _; omega⟩
    · rw [if_neg (of_decide_eq_false hf)] at x2'
      exact ⟨⟨x.k + 1, x.a⟩, ⟨⟨by show x.k + 1 ≤ n'; omega, x2'⟩, ⟨rfl, rfl⟩, trivial⟩, by show n' - (x.k + 1) < _; omega⟩
  · have g := of_decide_eq_false g
    have e : x.k = n' := by omega
    rw [e, Nat.sub_self, rowsOf_zero] at x2
    exact int_mk x2
theorem ΓZ0_ok : ∀ f g, ΓZ0 f = some g → g.ok Try.prog f := addCtr_ok (addCtr_ok ΓC_ok (hp_ok Try.func58 (by kernel_rfl) (by kernel_rfl) Values_spec)) (ro_ok Try.func68 (by kernel_rfl) (by kernel_rfl) Ext_spec)
theorem extN_G (o : Int) (g : Nat → List SV) : ∀ (m : Nat) (k : Nat) (a : Int), extN o a (rowsOf m fun i => [SV.v (Value.int .i64 (sndV (rowV (g (k + i)))))]) = extG o a (rowsOf m fun i => g (k + i))
  | 0, _, _ => rfl
  | m + 1, k, a => by
    rw [rowsOf_cons, rowsOf_cons]
    show extN o (if cmpI (sndV (rowV (g (k + 0)))) a * o < 0 then sndV (rowV (g (k + 0))) else a) _ = extG o (if cmpI (sndV (rowV (g (k + 0)))) a * o < 0 then sndV (rowV (g (k + 0))) else a) _
    have := extN_G o g m (k + 1) (if cmpI (sndV (rowV (g (k + 0)))) a * o < 0 then sndV (rowV (g (k + 0))) else a)
    have e : ∀ i, k + 1 + i = k + (i + 1) := fun i => by omega
    simp only [e] at this
    exact this
theorem rowsN_eq {n : Nat} {row : Nat → List SV} (h : ∀ i, i < n → isN (row i)) : rowsOf n row = rowsOf n fun i => [SV.v (Value.int .i64 (rowV (row i))), SV.v (Value.bool (rowF (row i)))] := rowsOf_congr fun i hi => isN_row (h i hi)
theorem okAll_N (n : Nat) (v : Nat → Int) (f : Nat → Bool) : okAll isN (rowsOf n fun i => [SV.v (Value.int .i64 (v i)), SV.v (Value.bool (f i))]) := okAll_rows.2 fun _ _ => trivial
theorem okAll_I (n : Nat) (v : Nat → Int) : okAll isI (rowsOf n fun i => [SV.v (Value.int .i64 (v i))]) := okAll_rows.2 fun _ _ => trivial
theorem Most_spec : RoSpec Try.prog 60 sMost := ro_spec hm ΓZ0_ok Try.func60 (Λ := fun _ _ => noΛ) fun args bs p x h hp => by
  unfold sMost at h
  split at h <;> try (cases h; done)
  rename_i o n c n' row
  cases h
  obtain ⟨h1, rfl, h3, h4⟩ := hp _ rfl
  have h1 := okAll_rows.1 h1
  refine ⟨rfl, [⟨2, n', rowsN (fun i => rowV (row i)) fun i => rowF (row i)⟩], ⟨⟨rfl, rfl, fun i hi => isN_row (h1 i hi)⟩, trivial⟩, ?_⟩
  refine Eq.mpr (vcMost o n' n' c (fun i => rowV (row i)) (fun i => rowF (row i)) _) ?_
  rw [rowsN_eq h1]
  refine sel_of (fun g => ?_) fun g => ?_
  · have g : n' = 0 := by simpa using g
    subst g
    rfl
  · have g : n' ≠ 0 := by simpa using g
    obtain ⟨m, rfl⟩ : ∃ m, n' = m + 1 := ⟨n' - 1, by omega⟩
    simp only [Option.getD_none, Int.toNat_natCast, Nat.zero_add, Nat.add_sub_cancel]
    refine ⟨⟨okAll_N _ _ _, by trivial, h3⟩, ⟨by omega, by omega⟩, ⟨by omega, by omega, by omega, Nat.le_refl _⟩, ⟨okAll_I _ _, by trivial, by omega, h4⟩, num_mk ?_ rfl⟩
    rw [rowsOf_cons]
    show _ = extG o (sndV (rowV (row 0))) _
    have := extN_G o (fun i => [SV.v (Value.int .i64 (rowV (row i))), SV.v (Value.bool (rowF (row i)))]) m 1 (sndV (rowV (row 0)))
    have e : ∀ i, 1 + i = i + 1 := fun i => by omega
    simp only [e] at this ⊢
    exact this
theorem ΓZ1_ok : ∀ f g, ΓZ1 f = some g → g.ok Try.prog f := addCtr_ok ΓC_ok (ro_ok Try.func60 (by kernel_rfl) (by kernel_rfl) Most_spec)
theorem Min_spec : RoSpec Try.prog 49 (sMinMax 1) := ro_spec hm ΓZ1_ok Try.func49 (Λ := fun _ _ => noΛ) fun args bs p x h hp => by
  unfold sMinMax at h
  split at h <;> try (cases h; done)
  rename_i n c n' row
  cases h
  obtain ⟨h1, rfl, h3⟩ := hp _ rfl
  have h1 := okAll_rows.1 h1
  refine ⟨rfl, [⟨2, n', rowsN (fun i => rowV (row i)) fun i => rowF (row i)⟩], ⟨⟨rfl, rfl, fun i hi => isN_row (h1 i hi)⟩, trivial⟩, ?_⟩
  refine Eq.mpr (vcMin n' n' c (fun i => rowV (row i)) (fun i => rowF (row i)) _) ?_
  rw [rowsN_eq h1]
  exact ⟨⟨okAll_N _ _ _, rfl, h3, by decide, by decide⟩, num_mk (by simp only [Nat.zero_add]) (by simp only [Nat.zero_add])⟩
theorem Max_spec : RoSpec Try.prog 48 (sMinMax (-1)) := ro_spec hm ΓZ1_ok Try.func48 (Λ := fun _ _ => noΛ) fun args bs p x h hp => by
  unfold sMinMax at h
  split at h <;> try (cases h; done)
  rename_i n c n' row
  cases h
  obtain ⟨h1, rfl, h3⟩ := hp _ rfl
  have h1 := okAll_rows.1 h1
  refine ⟨rfl, [⟨2, n', rowsN (fun i => rowV (row i)) fun i => rowF (row i)⟩], ⟨⟨rfl, rfl, fun i hi => isN_row (h1 i hi)⟩, trivial⟩, ?_⟩
  refine Eq.mpr (vcMax n' n' c (fun i => rowV (row i)) (fun i => rowF (row i)) _) ?_
  rw [rowsN_eq h1]
  exact ⟨⟨okAll_N _ _ _, rfl, h3, by decide, by decide⟩, num_mk (by simp only [Nat.zero_add]) (by simp only [Nat.zero_add])⟩
theorem cmpI_1 (a b : Int) : (cmpI a b * 1 < 0) ↔ a < b := by unfold cmpI; split <;> (try split) <;> omega
theorem cmpI_m1 (a b : Int) : (cmpI a b * -1 < 0) ↔ b < a := by unfold cmpI; split <;> (try split) <;> omega
theorem isNI_row {r : List SV} (h : isNI r) : isN r ∧ I64 (rowV r) := by
  unfold isNI at h
  split at h
  · exact ⟨trivial, h⟩
  · exact h.elim
theorem sumG_append (a b : List (List SV)) : sumG (a ++ b) = sumG a + sumG b := by
  induction a with
  | nil => simp [sumG]
  | cons r t ih => simp only [List.cons_append, sumG, ih]; omega
theorem sumG_succ (n : Nat) (row : Nat → List SV) : sumG (rowsOf (n + 1) row) = sumG (rowsOf n row) + sndV (rowV (row n)) := by
  rw [rowsOf_succ, sumG_append]; simp [sumG]
theorem plM_le {n1 n2 : Bool} {m1 m2 : Int} (h1 : 0 ≤ m1) (h2 : 0 ≤ m2) : plM n1 m1 n2 m2 ≤ m1 + m2 := by unfold plM iabs; split <;> (try split) <;> omega
theorem invS_next {n : Nat} {row : Nat → List SV} {x : KE} (h : invS n row x) (hx : x.k < n) (hv : I64 (sndV (rowV (row x.k)))) {b : Bool} (hb : sv b (plM x.n x.m (decide (sndV (rowV (row x.k)) < 0)) (iabs (sndV (rowV (row x.k))))) = sv x.n x.m + sndV (rowV (row x.k))) : invS n row ⟨x.k + 1, b, plM x.n x.m (decide (sndV (rowV (row x.k)) < 0)) (iabs (sndV (rowV (row x.k))))⟩ := by
  have i0 := iabs_nonneg (sndV (rowV (row x.k)))
  have i1 := iabs_le hv
  refine ⟨hx, plM_nonneg h.m0 i0, ?_, ?_⟩
  · have := plM_le (n1 := x.n) (n2 := decide (sndV (rowV (row x.k)) < 0)) h.m0 i0
    have := h.m1
    show plM _ _ _ _ ≤ 9223372036854775808 * ((x.k + 1 : Nat) : Int)
    omega
  · show sv b _ = sumG (rowsOf (x.k + 1) row)
    rw [hb, sumG_succ, h.sum]
theorem Sum_ok2 : ∀ f g, ΓZ2 f = some g → g.ok Try.prog f := addCtr_ok ΓC_ok (hp_ok Try.func58 (by kernel_rfl) (by kernel_rfl) Values_spec)
theorem Sum_spec : RoSpec Try.prog 40 sSum := ro_spec hm Sum_ok2 Try.func40 (Λ := fun args bs => match args, bs with | [.sl 0 2 0 n _], [⟨2, _, row⟩] => ΛSum n (rowsN (fun i => rowV (row i)) fun i => rowF (row i)) | _, _ => noΛ) fun args bs p x h hp => by
  unfold sSum at h
  split at h <;> try (cases h; done)
  rename_i n c n' row
  cases h
  obtain ⟨h0, rfl, h3⟩ := hp _ rfl
  have h0 := okAll_rows.1 h0
  have h1 : ∀ i, i < n' → isN (row i) := fun i hi => (isNI_row (h0 i hi)).1
  have hv : ∀ i, i < n' → I64 (rowV (row i)) := fun i hi => (isNI_row (h0 i hi)).2
  refine ⟨rfl, [⟨2, n', rowsN (fun i => rowV (row i)) fun i => rowF (row i)⟩], ⟨⟨rfl, rfl, fun i hi => isN_row (h1 i hi)⟩, trivial⟩, ?_⟩
  refine Eq.mpr (vcSum n' n' c (fun i => rowV (row i)) (fun i => rowF (row i)) _) ?_
  rw [rowsN_eq h1]
  refine ⟨⟨okAll_N _ _ _, rfl, h3⟩, ⟨⟨0, false, 0⟩, ⟨Nat.zero_le _, by decide, by show (0 : Int) ≤ _; simp, rfl⟩, rfl, rfl, Nat.le_refl _, fun i hi => rfl⟩, fun x hx => ?_⟩
  have x1 := hx.le
  have x2 := hx.m0
  have x3 := hx.m1
  refine sel_of (fun g => ?_) fun g => ?_
  · have g := of_decide_eq_true g
    have e1 : IntKind.i64.wrap ((x.k : Int) + 1) = ((x.k + 1 : Nat) : Int) := by rw [wrap_i64 ⟨by omega, by omega⟩]; omega
    rw [e1, Int.toNat_natCast, Nat.zero_add, Nat.zero_add, MM_split, MM_0]
    have vv : I64 (sndV (rowV (row x.k))) := sndV_i64 (hv x.k (by omega))
    have hs := pl_sv x.n x.m (decide (sndV (rowV (row x.k)) < 0)) (iabs (sndV (rowV (row x.k))))
    rw [sv_of] at hs
    have hle := iabs_le vv
    exact ⟨⟨by omega, by omega⟩, vv, ⟨⟨mod_u64 _, div_u64 x2 (by omega)⟩, ⟨iabs_u64 vv, by decide, by decide⟩, by show x.m + iabs (sndV (rowV (row x.k))) < _; omega⟩, ⟨_, ⟨invS_next hx (by omega) vv hs, rfl, rfl, Nat.le_refl _, fun i hi => rfl⟩, by show n' - (x.k + 1) < _; omega⟩⟩
  · have g := of_decide_eq_false g
    have e : x.k = n' := by omega
    have hs := hx.sum
    rw [e] at hs
    have hs' : sv x.n x.m = sumG (rowsOf n' fun i => [SV.v (Value.int .i64 (rowV (row i))), SV.v (Value.bool (rowF (row i)))]) := hs
    rw [MM_split]
    refine ⟨⟨mod_u64 _, div_u64 x2 (by omega)⟩, num_mk ?_ ?_⟩
    · rw [fitV_E _ x2, hs']
    · rw [fitF_G x.n _ x2, hs']; simp only [Nat.zero_add]
end Go.Proofs.Ytlcfnlhognegcaa
end
section
namespace Go.Proofs.Ytlcfnlhognegcaa
open Go.SE Go.RowKit
def sAdd : List SV → Option (Option Prop × SV)
  | [.agg [.v (.int .i64 v), .v (.bool f)], .agg [.v (.int .i64 u), .v (.bool g)]] => some (some (I64 v ∧ I64 u), numS (fitE (sndV v + sndV u)) (fitG (sndV v + sndV u) (sndF v f || sndF u g)))
  | _ => none
def minE (a b : Int) : Int := if b < a then b else a
def maxE (a b : Int) : Int := if a < b then b else a
def sClamp : List SV → Option (Option Prop × SV)
  | [.agg [.v (.int .i64 v), .v (.bool f)], .agg [.v (.int .i64 l), .v (.bool g)], .agg [.v (.int .i64 h), .v (.bool k)]] => some (some (I64 v ∧ I64 l ∧ I64 h), numS (maxE (sndV l) (minE (sndV v) (sndV h))) (sndF l g || (sndF v f || sndF h k)))
  | _ => none
def ΓF0 : Ctrs := addCtr (addCtr (addCtr (addCtr ΓC 40 (roCtr sSum)) 49 (roCtr (sMinMax 1))) 48 (roCtr (sMinMax (-1)))) 28 (pureCtr sNeg)
theorem vcAdd (v : Int) (f : Bool) (u : Int) (g : Bool) (R : SV→Prop) : (vcPure Try.prog ΓF0 noΛ Try.f25 [numS v f,numS u g] R) = ((((isNI [SV.v (.int .i64 v),SV.v (.bool f)])∧((isNI [SV.v (.int .i64 u),SV.v (.bool g)])∧True))∧(((2 : Nat) = 2)∧((2 : Nat) < 1099511627776)))∧(R (SV.agg [(SV.v (.int .i64 (fitE (sumG [[SV.v (.int .i64 v),SV.v (.bool f)],[SV.v (.int .i64 u),SV.v (.bool g)]])))),(SV.v (.bool (fitG (sumG [[SV.v (.int .i64 v),SV.v (.bool f)],[SV.v (.int .i64 u),SV.v (.bool g)]]) (anyG [[SV.v (.int .i64 v),SV.v (.bool f)],[SV.v (.int .i64 u),SV.v (.bool g)]]))))]))):=by kernel_rfl
theorem vcClamp (v : Int) (f : Bool) (u : Int) (g : Bool) (h : Int) (k : Bool) (R : SV→Prop) : (vcPure Try.prog ΓF0 noΛ Try.f32 [numS v f,numS u g,numS h k] R) = ((((isN [SV.v (.int .i64 v),SV.v (.bool f)])∧((isN [SV.v (.int .i64 h),SV.v (.bool k)])∧True))∧(((2 : Nat) = 2)∧((2 : Nat) < 1099511627776)))∧((((isN [SV.v (.int .i64 u),SV.v (.bool g)])∧((isN [SV.v (.int .i64 (mostV 1 [[SV.v (.int .i64 v),SV.v (.bool f)],[SV.v (.int .i64 h),SV.v (.bool k)]])),SV.v (.bool (anyG [[SV.v (.int .i64 v),SV.v (.bool f)],[SV.v (.int .i64 h),SV.v (.bool k)]]))])∧True))∧(((2 : Nat) = 2)∧((2 : Nat) < 1099511627776)))∧(R (SV.agg [(SV.v (.int .i64 (mostV (-1) [[SV.v (.int .i64 u),SV.v (.bool g)],[SV.v (.int .i64 (mostV 1 [[SV.v (.int .i64 v),SV.v (.bool f)],[SV.v (.int .i64 h),SV.v (.bool k)]])),SV.v (.bool (anyG [[SV.v (.int .i64 v),SV.v (.bool f)],[SV.v (.int .i64 h),SV.v (.bool k)]]))]]))),(SV.v (.bool (anyG [[SV.v (.int .i64 u),SV.v (.bool g)],[SV.v (.int .i64 (mostV 1 [[SV.v (.int .i64 v),SV.v (.bool f)],[SV.v (.int .i64 h),SV.v (.bool k)]])),SV.v (.bool (anyG [[SV.v (.int .i64 v),SV.v (.bool f)],[SV.v (.int .i64 h),SV.v (.bool k)]]))]])))])))):=by kernel_rfl
theorem ΓF0_ok : ∀ f g, ΓF0 f = some g → g.ok Try.prog f := addCtr_ok (addCtr_ok (addCtr_ok (addCtr_ok ΓC_ok (ro_ok Try.func40 (by kernel_rfl) (by kernel_rfl) Sum_spec)) (ro_ok Try.func49 (by kernel_rfl) (by kernel_rfl) Min_spec)) (ro_ok Try.func48 (by kernel_rfl) (by kernel_rfl) Max_spec)) (pure_ok Try.func28 (by kernel_rfl) (by kernel_rfl) Neg_spec)
theorem sum2 (v u : Int) (f g : Bool) : sumG [[SV.v (Value.int .i64 v), SV.v (Value.bool f)], [SV.v (Value.int .i64 u), SV.v (Value.bool g)]] = sndV v + sndV u := by simp [sumG, rowV]
theorem any2 (v u : Int) (f g : Bool) : anyG [[SV.v (Value.int .i64 v), SV.v (Value.bool f)], [SV.v (Value.int .i64 u), SV.v (Value.bool g)]] = (sndF v f || sndF u g) := by simp [anyG, rowV, rowF]
theorem most2 (o v u : Int) (f g : Bool) : mostV o [[SV.v (Value.int .i64 v), SV.v (Value.bool f)], [SV.v (Value.int .i64 u), SV.v (Value.bool g)]] = if cmpI (sndV u) (sndV v) * o < 0 then sndV u else sndV v := rfl
theorem minE_2 (a b : Int) : (if cmpI b a * 1 < 0 then b else a) = minE a b := by unfold minE; simp only [cmpI_1]
theorem maxE_2 (a b : Int) : (if cmpI b a * -1 < 0 then b else a) = maxE a b := by unfold maxE; simp only [cmpI_m1]
theorem minE_r {a b l h : Int} (h1 : l ≤ a ∧ a ≤ h) (h2 : l ≤ b ∧ b ≤ h) : l ≤ minE a b ∧ minE a b ≤ h := by unfold minE; split <;> omega
theorem Add_spec : PureSpec Try.prog 25 sAdd := vc_spec hm ΓF0_ok Try.func25 (Λ := fun _ => noΛ) fun args p x h hp => by
  unfold sAdd at h
  split at h <;> try (cases h; done)
  rename_i v f u g
  cases h
  obtain ⟨h1, h2⟩ := hp _ rfl
  refine ⟨rfl, rfl, ?_⟩
  refine Eq.mpr (vcAdd v f u g _) ?_
  rw [sum2, any2]
  exact ⟨⟨⟨h1, h2, trivial⟩, rfl, by decide⟩, rfl⟩
theorem Clamp_spec : PureSpec Try.prog 32 sClamp := vc_spec hm ΓF0_ok Try.func32 (Λ := fun _ => noΛ) fun args p x h hp => by
  unfold sClamp at h
  split at h <;> try (cases h; done)
  rename_i v f l g h k
  cases h
  obtain ⟨h1, h2, h3⟩ := hp _ rfl
  refine ⟨rfl, rfl, ?_⟩
  refine Eq.mpr (vcClamp v f l g h k _) ?_
  rw [most2, most2, any2, any2, minE_2]
  have hm := minE_r (sndV_in h1) (sndV_in h3)
  rw [sndV_self hm.1, sndF_self hm.1, maxE_2]
  exact ⟨⟨⟨trivial, trivial, trivial⟩, rfl, by decide⟩, ⟨⟨trivial, trivial, trivial⟩, rfl, by decide⟩, rfl⟩
end Go.Proofs.Ytlcfnlhognegcaa
end
section
namespace Go.Proofs.Ytlcfnlhognegcaa
open Go.SE
def rt : Nat → Int → Int → Int
  | 0, r, _ => r
  | k + 1, r, m => if (r + 2 ^ k) * (r + 2 ^ k) ≤ m then rt k (r + 2 ^ k) m else rt k r m
def isq (m : Int) : Int := rt 64 0 m
theorem sq_le {a b : Int} (h0 : 0 ≤ a) (h : a ≤ b) : a * a ≤ b * b := Int.mul_le_mul h h h0 (by omega)
theorem sq_lt {a b : Int} (h0 : 0 ≤ a) (h : a < b) : a * a < b * b := by
  have h1 := sq_le (a := a + 1) (b := b) (by omega) (by omega)
  have e : (a + 1) * (a + 1) = a * a + 2 * a + 1 := by rw [Int.add_mul, Int.mul_add]; omega
  omega
theorem sq_lt_of {a b : Int} (h0 : 0 ≤ b) (h : a * a < b * b) : a < b := by
  rcases Int.lt_or_le a b with h1 | h1
  · exact h1
  · have := sq_le h0 h1; omega
theorem sq_le_of {a b : Int} (h0 : 0 ≤ b) (h : a * a ≤ b * b) : a ≤ b := by
  rcases Int.lt_or_le b a with h1 | h1
  · have := sq_lt h0 h1; omega
  · exact h1
theorem two_pos (k : Nat) : (0 : Int) < 2 ^ k := by exact_mod_cast Nat.two_pow_pos k
theorem rt_in : ∀ (k : Nat) (r m : Int), 0 ≤ r → r * r ≤ m → m < (r + 2 ^ k) * (r + 2 ^ k) → r ≤ rt k r m ∧ rt k r m < r + 2 ^ k ∧ rt k r m * rt k r m ≤ m ∧ m < (rt k r m + 1) * (rt k r m + 1)
  | 0, r, m, _, h1, h2 => by
    rw [Int.pow_zero] at h2
    exact ⟨Int.le_refl _, by rw [Int.pow_zero]; show r < r + 1; omega, h1, h2⟩
  | k + 1, r, m, h0, h1, h2 => by
    have hp := two_pos k
    have e : r + 2 ^ (k + 1) = r + 2 ^ k + 2 ^ k := by rw [Int.pow_succ]; omega
    unfold rt
    by_cases h : (r + 2 ^ k) * (r + 2 ^ k) ≤ m
    · rw [if_pos h]
      obtain ⟨a, b, c, d⟩ := rt_in k (r + 2 ^ k) m (by omega) h (by rw [← e]; exact h2)
      exact ⟨by omega, by omega, c, d⟩
    · rw [if_neg h]
      obtain ⟨a, b, c, d⟩ := rt_in k r m h0 h1 (by omega)
      exact ⟨a, by omega, c, d⟩
theorem isq_in {m : Int} (h0 : 0 ≤ m) (h1 : m < 340282366920938463463374607431768211456) : 0 ≤ isq m ∧ isq m < 18446744073709551616 ∧ isq m * isq m ≤ m ∧ m < (isq m + 1) * (isq m + 1) := by
  have := rt_in 64 0 m (Int.le_refl _) (by simpa using h0) (by show m < (0 + 2 ^ 64) * (0 + 2 ^ 64); exact Int.lt_of_lt_of_le h1 (by decide))
  obtain ⟨a, b, c, d⟩ := this
  exact ⟨a, by have e : (0 : Int) + 2 ^ 64 = 18446744073709551616 := by decide
               rw [e] at b; exact b, c, d⟩
theorem isq_eq {m r : Int} (h0 : 0 ≤ m) (h1 : m < 340282366920938463463374607431768211456) (hr : 0 ≤ r) (h2 : r * r ≤ m) (h3 : m < (r + 1) * (r + 1)) : r = isq m := by
  obtain ⟨a, b, c, d⟩ := isq_in h0 h1
  have x := sq_lt_of (a := isq m) (b := r + 1) (by omega) (by omega)
  have y := sq_lt_of (a := r) (b := isq m + 1) (by omega) (by omega)
  omega
theorem newton_end {m r : Int} (h0 : 0 ≤ m) (h1 : m < 340282366920938463463374607431768211456) (hr : isq m ≤ r) (h : r * r ≤ m) : r = isq m := by
  obtain ⟨a, b, c, d⟩ := isq_in h0 h1
  have := sq_lt_of (a := r) (b := isq m + 1) (by omega) (by omega)
  omega
theorem newton_next {m r : Int} (h0 : 0 ≤ m) (h1 : m < 340282366920938463463374607431768211456) (hr : 0 < r) : isq m ≤ (r + m / r) / 2 := by
  obtain ⟨a, b, c, d⟩ := isq_in h0 h1
  have hq : m < (m / r + 1) * r := Int.lt_ediv_add_one_mul_self m hr
  generalize m / r = q at *
  generalize isq m = s at *
  rcases Int.lt_or_le (r + q) (2 * s) with h | h
  · exfalso
    have e1 : (q + 1) * r ≤ (2 * s - r) * r := Int.mul_le_mul_of_nonneg_right (by omega) (by omega)
    have e2 : 0 ≤ (s - r) * (s - r) := by
      rcases Int.le_total 0 (s - r) with h | h
      · exact Int.mul_nonneg h h
      · have := Int.mul_nonneg (show 0 ≤ -(s - r) by omega) (show 0 ≤ -(s - r) by omega); rw [Int.neg_mul_neg] at this; exact this
    have e3 : (s - r) * (s - r) = s * s - 2 * s * r + r * r := by rw [Int.sub_mul, Int.mul_sub, Int.mul_sub, Int.mul_comm r s, Int.mul_assoc 2 s r]; omega
    have e4 : (2 * s - r) * r = 2 * s * r - r * r := Int.sub_mul _ _ _
    omega
  · omega
theorem rt_first {m : Int} {L h : Nat} (h0 : 0 ≤ m) (h1 : m < 2 ^ L) (h2 : L ≤ 2 * h) (h3 : m < 340282366920938463463374607431768211456) : isq m ≤ 2 ^ h := by
  obtain ⟨a, b, c, d⟩ := isq_in h0 h3
  have e : (2 : Int) ^ L ≤ 2 ^ h * 2 ^ h := by
    rw [← Int.pow_add]
    exact_mod_cast Nat.pow_le_pow_right (by decide) (by omega)
  have := sq_lt_of (a := isq m) (b := 2 ^ h) (Int.le_of_lt (two_pos h)) (by omega)
  omega
end Go.Proofs.Ytlcfnlhognegcaa
end
section
namespace Go.Proofs.Ytlcfnlhognegcaa
open Go.SE Go.RowKit
def sRoot : List SV → Option (Option Prop × SV)
  | [.agg [.v (.int .u64 lo), .v (.int .u64 hi)]] => some (some (U64 lo ∧ U64 hi), .v (.int .u64 (isq (MM lo hi))))
  | _ => none
def sRRoot : List SV → Option (Option Prop × SV)
  | [.agg [.v (.bool _), .v (.int .u64 hi), .v (.int .u64 lo)]] => some (some (U64 lo ∧ U64 hi), wiS false 0 (isq (MM lo hi)))
  | _ => none
def sqrtV (v : Int) : Int := if sndV v < 0 then 0 else isq (sndV v * 4294967296)
def sqrtF (v : Int) (f : Bool) : Bool := if sndV v < 0 then true else f
def sSqrt : List SV → Option (Option Prop × SV)
  | [.agg [.v (.int .i64 v), .v (.bool f)]] => some (some (I64 v), numS (sqrtV v) (sqrtF v f))
  | _ => none
def hypE (a b : Int) : Int := isq (a * a + b * b)
def sHypot : List SV → Option (Option Prop × SV)
  | [.agg [.v (.int .i64 v), .v (.bool f)], .agg [.v (.int .i64 u), .v (.bool g)]] => some (some (I64 v ∧ I64 u), numS (fitE (hypE (sndV v) (sndV u))) (fitG (hypE (sndV v) (sndV u)) (sndF v f || sndF u g)))
  | _ => none
def dotE (a b c d : Int) : Int := Int.tdiv (a * b + c * d) 4294967296
noncomputable def ΛRoot (m : Int) : Nat → Option LoopSpec := addLoop noΛ Try.f55 0 Int (fun r => isq m ≤ r ∧ 0 < r ∧ r < 18446744073709551616) (fun r => r.toNat) [(4, fun r => .v (.int .u64 r))] []
def ΓR0 : Ctrs := addCtr ΓY0 67 (pureCtr sLen64)
theorem vcRoot (m lo hi : Int) (R : SV→Prop) : (vcPure Try.prog ΓR0 (ΛRoot m) Try.f55 [woS lo hi] R) = (sel (hi == 0) (sel (lo == 0) (R (SV.v (.int .u64 0))) ((U64 lo)∧(sel (hi != 0) ((U64 hi)∧(sel (decide (IntKind.wrap IntKind.i64 (Int.tdiv (IntKind.wrap IntKind.i64 (IntKind.wrap IntKind.i64 (64 + lenI hi) + 1)) 2) < 64)) (((0 : Int) ≤ (IntKind.wrap IntKind.i64 (Int.tdiv (IntKind.wrap IntKind.i64 (IntKind.wrap IntKind.i64 (64 + lenI hi) + 1)) 2)))∧((∃ x : Int,(((((isq m) : Int) ≤ x)∧(((0 : Int) < x)∧((x : Int) < 18446744073709551616)))∧(((SV.v (.int .u64 (IntKind.wrap IntKind.u64 (1 * 2 ^ min (Int.toNat (IntKind.wrap IntKind.i64 (Int.tdiv (IntKind.wrap IntKind.i64 (IntKind.wrap IntKind.i64 (64 + lenI hi) + 1)) 2))) 64)))) = (SV.v (.int .u64 x)))∧True)))∧(∀ x : Int,(((((isq m) : Int) ≤ x)∧(((0 : Int) < x)∧((x : Int) < 18446744073709551616)))→(sel (decide (hi ≥ x)) (R (SV.v (.int .u64 x))) (((U64 hi)∧((U64 lo)∧((U64 x)∧((hi : Int) < x))))∧(sel (decide (MM lo hi / x ≥ x)) (R (SV.v (.int .u64 x))) (((U64 x)∧((U64 (MM lo hi / x))∧(((0 : Int) ≤ 0)∧((0 : Int) ≤ 1))))∧(∃ x' : Int,((((((isq m) : Int) ≤ x')∧(((0 : Int) < x')∧((x' : Int) < 18446744073709551616)))∧(((SV.v (.int .u64 (bits BinOp.or IntKind.u64 ((x + MM lo hi / x + 0) % 18446744073709551616 / 2) (IntKind.wrap IntKind.u64 ((x + MM lo hi / x + 0) / 18446744073709551616 * 9223372036854775808))))) = (SV.v (.int .u64 x')))∧True))∧(((Int.toNat x') : Nat) < (Int.toNat x)))))))))))) ((∃ x : Int,(((((isq m) : Int) ≤ x)∧(((0 : Int) < x)∧((x : Int) < 18446744073709551616)))∧(((SV.v (.int .u64 18446744073709551615)) = (SV.v (.int .u64 x)))∧True)))∧(∀ x : Int,(((((isq m) : Int) ≤ x)∧(((0 : Int) < x)∧((x : Int) < 18446744073709551616)))→(sel (decide (hi ≥ x)) (R (SV.v (.int .u64 x))) (((U64 hi)∧((U64 lo)∧((U64 x)∧((hi : Int) < x))))∧(sel (decide (MM lo hi / x ≥ x)) (R (SV.v (.int .u64 x))) (((U64 x)∧((U64 (MM lo hi / x))∧(((0 : Int) ≤ 0)∧((0 : Int) ≤ 1))))∧(∃ x' : Int,((((((isq m) : Int) ≤ x')∧(((0 : Int) < x')∧((x' : Int) < 18446744073709551616)))∧(((SV.v (.int .u64 (bits BinOp.or IntKind.u64 ((x + MM lo hi / x + 0) % 18446744073709551616 / 2) (IntKind.wrap IntKind.u64 ((x + MM lo hi / x + 0) / 18446744073709551616 * 9223372036854775808))))) = (SV.v (.int .u64 x')))∧True))∧(((Int.toNat x') : Nat) < (Int.toNat x))))))))))))) (sel (decide (IntKind.wrap IntKind.i64 (Int.tdiv (IntKind.wrap IntKind.i64 (lenI lo + 1)) 2) < 64)) (((0 : Int) ≤ (IntKind.wrap IntKind.i64 (Int.tdiv (IntKind.wrap IntKind.i64 (lenI lo + 1)) 2)))∧((∃ x : Int,(((((isq m) : Int) ≤ x)∧(((0 : Int) < x)∧((x : Int) < 18446744073709551616)))∧(((SV.v (.int .u64 (IntKind.wrap IntKind.u64 (1 * 2 ^ min (Int.toNat (IntKind.wrap IntKind.i64 (Int.tdiv (IntKind.wrap IntKind.i64 (lenI lo + 1)) 2))) 64)))) = (SV.v (.int .u64 x)))∧True)))∧(∀ x : Int,(((((isq m) : Int) ≤ x)∧(((0 : Int) < x)∧((x : Int) < 18446744073709551616)))→(sel (decide (hi ≥ x)) (R (SV.v (.int .u64 x))) (((U64 hi)∧((U64 lo)∧((U64 x)∧((hi : Int) < x))))∧(sel (decide (MM lo hi / x ≥ x)) (R (SV.v (.int .u64 x))) (((U64 x)∧((U64 (MM lo hi / x))∧(((0 : Int) ≤ 0)∧((0 : Int) ≤ 1))))∧(∃ x' : Int,((((((isq m) : Int) ≤ x')∧(((0 : Int) < x')∧((x' : Int) < 18446744073709551616)))∧(((SV.v (.int .u64 (bits BinOp.or IntKind.u64 ((x + MM lo hi / x + 0) % 18446744073709551616 / 2) (IntKind.wrap IntKind.u64 ((x + MM lo hi / x + 0) / 18446744073709551616 * 9223372036854775808))))) = (SV.v (.int .u64 x')))∧True))∧(((Int.toNat x') : Nat) < (Int.toNat x)))))))))))) ((∃ x : Int,(((((isq m) : Int) ≤ x)∧(((0 : Int) < x)∧((x : Int) < 18446744073709551616)))∧(((SV.v (.int .u64 18446744073709551615)) = (SV.v (.int .u64 x)))∧True)))∧(∀ x : Int,(((((isq m) : Int) ≤ x)∧(((0 : Int) < x)∧((x : Int) < 18446744073709551616)))→(sel (decide (hi ≥ x)) (R (SV.v (.int .u64 x))) (((U64 hi)∧((U64 lo)∧((U64 x)∧((hi : Int) < x))))∧(sel (decide (MM lo hi / x ≥ x)) (R (SV.v (.int .u64 x))) (((U64 x)∧((U64 (MM lo hi / x))∧(((0 : Int) ≤ 0)∧((0 : Int) ≤ 1))))∧(∃ x' : Int,((((((isq m) : Int) ≤ x')∧(((0 : Int) < x')∧((x' : Int) < 18446744073709551616)))∧(((SV.v (.int .u64 (bits BinOp.or IntKind.u64 ((x + MM lo hi / x + 0) % 18446744073709551616 / 2) (IntKind.wrap IntKind.u64 ((x + MM lo hi / x + 0) / 18446744073709551616 * 9223372036854775808))))) = (SV.v (.int .u64 x')))∧True))∧(((Int.toNat x') : Nat) < (Int.toNat x))))))))))))))) ((U64 lo)∧(sel (hi != 0) ((U64 hi)∧(sel (decide (IntKind.wrap IntKind.i64 (Int.tdiv (IntKind.wrap IntKind.i64 (IntKind.wrap IntKind.i64 (64 + lenI hi) + 1)) 2) < 64)) (((0 : Int) ≤ (IntKind.wrap IntKind.i64 (Int.tdiv (IntKind.wrap IntKind.i64 (IntKind.wrap IntKind.i64 (64 + lenI hi) + 1)) 2)))∧((∃ x : Int,(((((isq m) : Int) ≤ x)∧(((0 : Int) < x)∧((x : Int) < 18446744073709551616)))∧(((SV.v (.int .u64 (IntKind.wrap IntKind.u64 (1 * 2 ^ min (Int.toNat (IntKind.wrap IntKind.i64 (Int.tdiv (IntKind.wrap IntKind.i64 (IntKind.wrap IntKind.i64 (64 + lenI hi) + 1)) 2))) 64)))) = (SV.v (.int .u64 x)))∧True)))∧(∀ x : Int,(((((isq m) : Int) ≤ x)∧(((0 : Int) < x)∧((x : Int) < 18446744073709551616)))→(sel (decide (hi ≥ x)) (R (SV.v (.int .u64 x))) (((U64 hi)∧((U64 lo)∧((U64 x)∧((hi : Int) < x))))∧(sel (decide (MM lo hi / x ≥ x)) (R (SV.v (.int .u64 x))) (((U64 x)∧((U64 (MM lo hi / x))∧(((0 : Int) ≤ 0)∧((0 : Int) ≤ 1))))∧(∃ x' : Int,((((((isq m) : Int) ≤ x')∧(((0 : Int) < x')∧((x' : Int) < 18446744073709551616)))∧(((SV.v (.int .u64 (bits BinOp.or IntKind.u64 ((x + MM lo hi / x + 0) % 18446744073709551616 / 2) (IntKind.wrap IntKind.u64 ((x + MM lo hi / x + 0) / 18446744073709551616 * 9223372036854775808))))) = (SV.v (.int .u64 x')))∧True))∧(((Int.toNat x') : Nat) < (Int.toNat x)))))))))))) ((∃ x : Int,(((((isq m) : Int) ≤ x)∧(((0 : Int) < x)∧((x : Int) < 18446744073709551616)))∧(((SV.v (.int .u64 18446744073709551615)) = (SV.v (.int .u64 x)))∧True)))∧(∀ x : Int,(((((isq m) : Int) ≤ x)∧(((0 : Int) < x)∧((x : Int) < 18446744073709551616)))→(sel (decide (hi ≥ x)) (R (SV.v (.int .u64 x))) (((U64 hi)∧((U64 lo)∧((U64 x)∧((hi : Int) < x))))∧(sel (decide (MM lo hi / x ≥ x)) (R (SV.v (.int .u64 x))) (((U64 x)∧((U64 (MM lo hi / x))∧(((0 : Int) ≤ 0)∧((0 : Int) ≤ 1))))∧(∃ x' : Int,((((((isq m) : Int) ≤ x')∧(((0 : Int) < x')∧((x' : Int) < 18446744073709551616)))∧(((SV.v (.int .u64 (bits BinOp.or IntKind.u64 ((x + MM lo hi / x + 0) % 18446744073709551616 / 2) (IntKind.wrap IntKind.u64 ((x + MM lo hi / x + 0) / 18446744073709551616 * 9223372036854775808))))) = (SV.v (.int .u64 x')))∧True))∧(((Int.toNat x') : Nat) < (Int.toNat x))))))))))))) (sel (decide (IntKind.wrap IntKind.i64 (Int.tdiv (IntKind.wrap IntKind.i64 (lenI lo + 1)) 2) < 64)) (((0 : Int) ≤ (IntKind.wrap IntKind.i64 (Int.tdiv (IntKind.wrap IntKind.i64 (lenI lo + 1)) 2)))∧((∃ x : Int,(((((isq m) : Int) ≤ x)∧(((0 : Int) < x)∧((x : Int) < 18446744073709551616)))∧(((SV.v (.int .u64 (IntKind.wrap IntKind.u64 (1 * 2 ^ min (Int.toNat (IntKind.wrap IntKind.i64 (Int.tdiv (IntKind.wrap IntKind.i64 (lenI lo + 1)) 2))) 64)))) = (SV.v (.int .u64 x)))∧True)))∧(∀ x : Int,(((((isq m) : Int) ≤ x)∧(((0 : Int) < x)∧((x : Int) < 18446744073709551616)))→(sel (decide (hi ≥ x)) (R (SV.v (.int .u64 x))) (((U64 hi)∧((U64 lo)∧((U64 x)∧((hi : Int) < x))))∧(sel (decide (MM lo hi / x ≥ x)) (R (SV.v (.int .u64 x))) (((U64 x)∧((U64 (MM lo hi / x))∧(((0 : Int) ≤ 0)∧((0 : Int) ≤ 1))))∧(∃ x' : Int,((((((isq m) : Int) ≤ x')∧(((0 : Int) < x')∧((x' : Int) < 18446744073709551616)))∧(((SV.v (.int .u64 (bits BinOp.or IntKind.u64 ((x + MM lo hi / x + 0) % 18446744073709551616 / 2) (IntKind.wrap IntKind.u64 ((x + MM lo hi / x + 0) / 18446744073709551616 * 9223372036854775808))))) = (SV.v (.int .u64 x')))∧True))∧(((Int.toNat x') : Nat) < (Int.toNat x)))))))))))) ((∃ x : Int,(((((isq m) : Int) ≤ x)∧(((0 : Int) < x)∧((x : Int) < 18446744073709551616)))∧(((SV.v (.int .u64 18446744073709551615)) = (SV.v (.int .u64 x)))∧True)))∧(∀ x : Int,(((((isq m) : Int) ≤ x)∧(((0 : Int) < x)∧((x : Int) < 18446744073709551616)))→(sel (decide (hi ≥ x)) (R (SV.v (.int .u64 x))) (((U64 hi)∧((U64 lo)∧((U64 x)∧((hi : Int) < x))))∧(sel (decide (MM lo hi / x ≥ x)) (R (SV.v (.int .u64 x))) (((U64 x)∧((U64 (MM lo hi / x))∧(((0 : Int) ≤ 0)∧((0 : Int) ≤ 1))))∧(∃ x' : Int,((((((isq m) : Int) ≤ x')∧(((0 : Int) < x')∧((x' : Int) < 18446744073709551616)))∧(((SV.v (.int .u64 (bits BinOp.or IntKind.u64 ((x + MM lo hi / x + 0) % 18446744073709551616 / 2) (IntKind.wrap IntKind.u64 ((x + MM lo hi / x + 0) / 18446744073709551616 * 9223372036854775808))))) = (SV.v (.int .u64 x')))∧True))∧(((Int.toNat x') : Nat) < (Int.toNat x))))))))))))))):=by kernel_rfl
def ΓR1 : Ctrs := addCtr (addCtr ΓC 55 (pureCtr sRoot)) 42 (roCtr sFlags)
theorem vcHypot (v : Int) (f : Bool) (u : Int) (g : Bool) (R : SV→Prop) : (vcPure Try.prog ΓR1 noΛ Try.f36 [numS v f,numS u g] R) = (((I64 (sndV v))∧(I64 (sndV v)))∧(((I64 (sndV u))∧(I64 (sndV u)))∧((((U64 (iabs (sndV v) * iabs (sndV v) % 18446744073709551616))∧(U64 (iabs (sndV v) * iabs (sndV v) / 18446744073709551616)))∧(((U64 (iabs (sndV u) * iabs (sndV u) % 18446744073709551616))∧(U64 (iabs (sndV u) * iabs (sndV u) / 18446744073709551616)))∧(((MM (iabs (sndV v) * iabs (sndV v) % 18446744073709551616) (iabs (sndV v) * iabs (sndV v) / 18446744073709551616) + MM (iabs (sndV u) * iabs (sndV u) % 18446744073709551616) (iabs (sndV u) * iabs (sndV u) / 18446744073709551616)) : Int) < 340282366920938463463374607431768211456)))∧(((U64 (plM (!decide (sndV v < 0) == decide (sndV v < 0)) (MM (iabs (sndV v) * iabs (sndV v) % 18446744073709551616) (iabs (sndV v) * iabs (sndV v) / 18446744073709551616)) (!decide (sndV u < 0) == decide (sndV u < 0)) (MM (iabs (sndV u) * iabs (sndV u) % 18446744073709551616) (iabs (sndV u) * iabs (sndV u) / 18446744073709551616)) % 18446744073709551616))∧(U64 (plM (!decide (sndV v < 0) == decide (sndV v < 0)) (MM (iabs (sndV v) * iabs (sndV v) % 18446744073709551616) (iabs (sndV v) * iabs (sndV v) / 18446744073709551616)) (!decide (sndV u < 0) == decide (sndV u < 0)) (MM (iabs (sndV u) * iabs (sndV u) % 18446744073709551616) (iabs (sndV u) * iabs (sndV u) / 18446744073709551616)) / 18446744073709551616)))∧((((isN [SV.v (.int .i64 (sndV v)),SV.v (.bool (sndF v f))])∧((isN [SV.v (.int .i64 (sndV u)),SV.v (.bool (sndF u g))])∧True))∧(((2 : Nat) = 2)∧((2 : Nat) < 4611686018427387904)))∧(((U64 (isq (MM (plM (!decide (sndV v < 0) == decide (sndV v < 0)) (MM (iabs (sndV v) * iabs (sndV v) % 18446744073709551616) (iabs (sndV v) * iabs (sndV v) / 18446744073709551616)) (!decide (sndV u < 0) == decide (sndV u < 0)) (MM (iabs (sndV u) * iabs (sndV u) % 18446744073709551616) (iabs (sndV u) * iabs (sndV u) / 18446744073709551616)) % 18446744073709551616) (plM (!decide (sndV v < 0) == decide (sndV v < 0)) (MM (iabs (sndV v) * iabs (sndV v) % 18446744073709551616) (iabs (sndV v) * iabs (sndV v) / 18446744073709551616)) (!decide (sndV u < 0) == decide (sndV u < 0)) (MM (iabs (sndV u) * iabs (sndV u) % 18446744073709551616) (iabs (sndV u) * iabs (sndV u) / 18446744073709551616)) / 18446744073709551616))))∧(U64 0))∧(R (SV.agg [(SV.v (.int .i64 (fitV false (MM (isq (MM (plM (!decide (sndV v < 0) == decide (sndV v < 0)) (MM (iabs (sndV v) * iabs (sndV v) % 18446744073709551616) (iabs (sndV v) * iabs (sndV v) / 18446744073709551616)) (!decide (sndV u < 0) == decide (sndV u < 0)) (MM (iabs (sndV u) * iabs (sndV u) % 18446744073709551616) (iabs (sndV u) * iabs (sndV u) / 18446744073709551616)) % 18446744073709551616) (plM (!decide (sndV v < 0) == decide (sndV v < 0)) (MM (iabs (sndV v) * iabs (sndV v) % 18446744073709551616) (iabs (sndV v) * iabs (sndV v) / 18446744073709551616)) (!decide (sndV u < 0) == decide (sndV u < 0)) (MM (iabs (sndV u) * iabs (sndV u) % 18446744073709551616) (iabs (sndV u) * iabs (sndV u) / 18446744073709551616)) / 18446744073709551616))) 0)))),(SV.v (.bool (fitF (MM (isq (MM (plM (!decide (sndV v < 0) == decide (sndV v < 0)) (MM (iabs (sndV v) * iabs (sndV v) % 18446744073709551616) (iabs (sndV v) * iabs (sndV v) / 18446744073709551616)) (!decide (sndV u < 0) == decide (sndV u < 0)) (MM (iabs (sndV u) * iabs (sndV u) % 18446744073709551616) (iabs (sndV u) * iabs (sndV u) / 18446744073709551616)) % 18446744073709551616) (plM (!decide (sndV v < 0) == decide (sndV v < 0)) (MM (iabs (sndV v) * iabs (sndV v) % 18446744073709551616) (iabs (sndV v) * iabs (sndV v) / 18446744073709551616)) (!decide (sndV u < 0) == decide (sndV u < 0)) (MM (iabs (sndV u) * iabs (sndV u) % 18446744073709551616) (iabs (sndV u) * iabs (sndV u) / 18446744073709551616)) / 18446744073709551616))) 0) (anyF [[SV.v (.int .i64 (sndV v)),SV.v (.bool (sndF v f))],[SV.v (.int .i64 (sndV u)),SV.v (.bool (sndF u g))]]))))])))))))):=by kernel_rfl
theorem u64_zero : U64 0 := ⟨by decide, by decide⟩
theorem sv_false (m : Int) : sv false m = m := by simp [sv]
theorem half_or {t : Int} (h0 : 0 ≤ t) (h1 : t < 36893488147419103232) : bits .or .u64 (t % 18446744073709551616 / 2) (IntKind.u64.wrap (t / 18446744073709551616 * 9223372036854775808)) = t / 2 := by
  have e : IntKind.u64.wrap (t / 18446744073709551616 * 9223372036854775808) = t / 18446744073709551616 * 9223372036854775808 := u64_in ⟨by omega, by omega⟩
  rw [e, u64_or _ _ (by omega) (by omega) (by omega) (by omega), Nat.or_comm, nat_join 63 _ _ (by omega) (by omega)]
  omega
theorem root_loop {lo hi : Int} (h1 : U64 lo) (h2 : U64 hi) (hpos : 0 < MM lo hi) : ∀ x : Int, (isq (MM lo hi) ≤ x ∧ 0 < x ∧ x < 18446744073709551616) → sel (decide (hi ≥ x)) (SV.v (.int .u64 x) = SV.v (.int .u64 (isq (MM lo hi)))) ((U64 hi ∧ U64 lo ∧ U64 x ∧ hi < x) ∧
    sel (decide (MM lo hi / x ≥ x)) (SV.v (.int .u64 x) = SV.v (.int .u64 (isq (MM lo hi)))) ((U64 x ∧ U64 (MM lo hi / x) ∧ (0 : Int) ≤ 0 ∧ (0 : Int) ≤ 1) ∧ ∃ x' : Int, ((isq (MM lo hi) ≤ x' ∧ 0 < x' ∧ x' < 18446744073709551616) ∧
      (SV.v (.int .u64 (bits .or .u64 ((x + MM lo hi / x + 0) % 18446744073709551616 / 2) (IntKind.u64.wrap ((x + MM lo hi / x + 0) / 18446744073709551616 * 9223372036854775808)))) = SV.v (.int .u64 x')) ∧ True) ∧ x'.toNat < x.toNat)) := by
  intro x ⟨x1, x2, x3⟩
  have m0 := MM_nonneg h1 h2
  have m1 := MM_lt h1 h2
  have hM : MM lo hi = hi * 18446744073709551616 + lo := rfl
  obtain ⟨l0, l1⟩ := h1
  obtain ⟨i0, i1⟩ := h2
  refine sel_of (fun g => ?_) fun g => ?_
  · have g := of_decide_eq_true g
    refine int_mk (newton_end m0 m1 x1 ?_)
    have a1 : x * x ≤ hi * x := Int.mul_le_mul_of_nonneg_right g (by omega)
    have a2 : hi * x ≤ hi * 18446744073709551616 := Int.mul_le_mul_of_nonneg_left (by omega) i0
    omega
  · have g := of_decide_eq_false g
    have q0 : 0 ≤ MM lo hi / x := Int.ediv_nonneg m0 (by omega)
    have q1 : MM lo hi / x < 18446744073709551616 := Int.ediv_lt_of_lt_mul x2 (by
      have : hi + 1 ≤ x := by omega
      have := Int.mul_le_mul_of_nonneg_left this (show (0 : Int) ≤ 18446744073709551616 by decide)
      omega)
    refine ⟨⟨⟨i0, i1⟩, ⟨l0, l1⟩, ⟨by omega, x3⟩, by omega⟩, sel_of (fun g' => ?_) fun g' => ?_⟩
    · have g' := of_decide_eq_true g'
      refine int_mk (newton_end m0 m1 x1 ?_)
      have a1 := Int.mul_le_of_le_ediv x2 g'
      exact a1
    · have g' := of_decide_eq_false g'
      have n1 := newton_next m0 m1 x2
      have n0 : 0 ≤ MM lo hi / x := q0
      rw [Int.add_zero, half_or (by omega) (by omega)]
      refine ⟨⟨⟨by omega, x3⟩, ⟨q0, q1⟩, by decide, by decide⟩, (x + MM lo hi / x) / 2, ⟨⟨n1, ?_, by omega⟩, rfl, trivial⟩, by omega⟩
      rcases Int.lt_or_le 0 ((x + MM lo hi / x) / 2) with h | h
      · exact h
      · exfalso
        have hx : x = 1 := by omega
        subst hx
        rw [Int.ediv_one] at g' h
        omega
theorem root_first {m L : Int} {A : Prop} (hm0 : 0 < m) (hm1 : m < 340282366920938463463374607431768211456) (hL0 : 0 ≤ L) (hL1 : L ≤ 128) (hL : m < 2 ^ L.toNat) (hA : A) : sel (decide (IntKind.i64.wrap (Int.tdiv (IntKind.i64.wrap (L + 1)) 2) < 64))
    ((0 : Int) ≤ IntKind.i64.wrap (Int.tdiv (IntKind.i64.wrap (L + 1)) 2) ∧ (∃ x : Int, (isq m ≤ x ∧ 0 < x ∧ x < 18446744073709551616) ∧ (SV.v (.int .u64 (IntKind.u64.wrap (1 * 2 ^ min (Int.toNat (IntKind.i64.wrap (Int.tdiv (IntKind.i64.wrap (L + 1)) 2))) 64))) = SV.v (.int .u64 x)) ∧ True) ∧ A)
    ((∃ x : Int, (isq m ≤ x ∧ 0 < x ∧ x < 18446744073709551616) ∧ (SV.v (.int .u64 18446744073709551615) = SV.v (.int .u64 x)) ∧ True) ∧ A) := by
  have e : IntKind.i64.wrap (Int.tdiv (IntKind.i64.wrap (L + 1)) 2) = (L + 1) / 2 := by
    rw [wrap_i64 (n := L + 1) ⟨by omega, by omega⟩, Int.tdiv_eq_ediv_of_nonneg (by omega), wrap_i64 ⟨by omega, by omega⟩]
  rw [e]
  refine sel_of (fun g => ?_) fun g => ?_
  · have g := of_decide_eq_true g
    rw [Nat.min_eq_left (by omega)]
    have p := two_pos ((L + 1) / 2).toNat
    have p2 : (2 : Int) ^ ((L + 1) / 2).toNat ≤ 2 ^ 63 := by exact_mod_cast Nat.pow_le_pow_right (by decide) (by omega)
    have p2 : (2 : Int) ^ ((L + 1) / 2).toNat ≤ 9223372036854775808 := p2
    rw [Int.one_mul, u64_in ⟨by omega, by omega⟩]
    exact ⟨by omega, ⟨_, ⟨rt_first (by omega) hL (by omega) hm1, p, by omega⟩, rfl, trivial⟩, hA⟩
  · have := (isq_in (m := m) (by omega) hm1).2.1
    exact ⟨⟨_, ⟨by omega, by decide, by decide⟩, rfl, trivial⟩, hA⟩
theorem len_lo {lo : Int} (h : U64 lo) (h0 : lo ≠ 0) : 0 ≤ lenI lo ∧ lenI lo ≤ 64 ∧ lo < 2 ^ (lenI lo).toNat := by
  obtain ⟨a, b⟩ := lenI_64 h
  obtain ⟨n, e, l1, l2⟩ := lenI_ge (x := lo) (by have := h.1; omega)
  refine ⟨a, b, ?_⟩
  rw [e]
  have : ((n : Int) + 1).toNat = n + 1 := by omega
  rw [this]; exact l2
theorem len_hi {lo hi : Int} (h1 : U64 lo) (h2 : U64 hi) (h0 : hi ≠ 0) : 0 ≤ 64 + lenI hi ∧ 64 + lenI hi ≤ 128 ∧ MM lo hi < 2 ^ (64 + lenI hi).toNat := by
  obtain ⟨a, b, c⟩ := len_lo h2 h0
  refine ⟨by omega, by omega, ?_⟩
  rw [show (64 + lenI hi).toNat = (lenI hi).toNat + 64 by omega, Int.pow_add]
  generalize (2 : Int) ^ (lenI hi).toNat = p at *
  have e : (2 : Int) ^ 64 = 18446744073709551616 := by decide
  rw [e]
  obtain ⟨_, _⟩ := h1
  unfold MM
  have : (hi + 1) * 18446744073709551616 ≤ p * 18446744073709551616 := Int.mul_le_mul_of_nonneg_right (by omega) (by decide)
  omega
theorem ΓR0_ok : ∀ f g, ΓR0 f = some g → g.ok Try.prog f := addCtr_ok ΓY0_ok (pure_ok Try.func67 (by kernel_rfl) (by kernel_rfl) Len64_spec)
theorem Root_spec : PureSpec Try.prog 55 sRoot := vc_spec hm ΓR0_ok Try.func55 (Λ := fun args => match args with | [.agg [.v (.int .u64 lo), .v (.int .u64 hi)]] => ΛRoot (MM lo hi) | _ => noΛ) fun args p x h hp => by
  unfold sRoot at h
  split at h <;> try (cases h; done)
  rename_i lo hi
  cases h
  obtain ⟨h1, h2⟩ := hp _ rfl
  refine ⟨rfl, rfl, ?_⟩
  refine Eq.mpr (vcRoot (MM lo hi) lo hi _) ?_
  have m1 := MM_lt h1 h2
  have m0 := MM_nonneg h1 h2
  have hM : MM lo hi = hi * 18446744073709551616 + lo := rfl
  have tail : ∀ {A : Prop}, 0 < MM lo hi → A → U64 lo ∧ sel (hi != 0) (U64 hi ∧ sel (decide (IntKind.i64.wrap (Int.tdiv (IntKind.i64.wrap (IntKind.i64.wrap (64 + lenI hi) + 1)) 2) < 64))
    ((0 : Int) ≤ IntKind.i64.wrap (Int.tdiv (IntKind.i64.wrap (IntKind.i64.wrap (64 + lenI hi) + 1)) 2) ∧ (∃ x : Int, (isq (MM lo hi) ≤ x ∧ 0 < x ∧ x < 18446744073709551616) ∧ (SV.v (.int .u64 (IntKind.u64.wrap (1 * 2 ^ min (Int.toNat (IntKind.i64.wrap (Int.tdiv (IntKind.i64.wrap (IntKind.i64.wrap (64 + lenI hi) + 1)) 2))) 64))) = SV.v (.int .u64 x)) ∧ True) ∧ A)
    ((∃ x : Int, (isq (MM lo hi) ≤ x ∧ 0 < x ∧ x < 18446744073709551616) ∧ (SV.v (.int .u64 18446744073709551615) = SV.v (.int .u64 x)) ∧ True) ∧ A)) (sel (decide (IntKind.i64.wrap (Int.tdiv (IntKind.i64.wrap (lenI lo + 1)) 2) < 64))
    ((0 : Int) ≤ IntKind.i64.wrap (Int.tdiv (IntKind.i64.wrap (lenI lo + 1)) 2) ∧ (∃ x : Int, (isq (MM lo hi) ≤ x ∧ 0 < x ∧ x < 18446744073709551616) ∧ (SV.v (.int .u64 (IntKind.u64.wrap (1 * 2 ^ min (Int.toNat (IntKind.i64.wrap (Int.tdiv (IntKind.i64.wrap (lenI lo + 1)) 2))) 64))) = SV.v (.int .u64 x)) ∧ True) ∧ A)
    ((∃ x : Int, (isq (MM lo hi) ≤ x ∧ 0 < x ∧ x < 18446744073709551616) ∧ (SV.v (.int .u64 18446744073709551615) = SV.v (.int .u64 x)) ∧ True) ∧ A)) := by
    intro A hpos hA
    refine ⟨h1, sel_of (fun g => ?_) fun g => ?_⟩
    · have g : hi ≠ 0 := by simpa using g
      obtain ⟨a, b, c⟩ := len_hi h1 h2 g
      rw [wrap_i64 (n := 64 + lenI hi) ⟨by omega, by omega⟩]
      exact ⟨h2, root_first hpos m1 a b c hA⟩
    · have g : hi = 0 := by simpa using g
      subst g
      rw [MM_0] at *
      obtain ⟨a, b, c⟩ := len_lo h1 (by omega)
      exact root_first hpos m1 a (by omega) c hA
  refine sel_of (fun g => sel_of (fun g' => ?_) fun g' => ?_) fun g => ?_
  · have g : hi = 0 := by simpa using g
    have g' : lo = 0 := by simpa using g'
    subst g g'
    exact int_mk (by decide +kernel)
  · have g' : lo ≠ 0 := by simpa using g'
    exact tail (by have := h1.1; have := h2.1; omega) (root_loop h1 h2 (by have := h1.1; have := h2.1; omega))
  · have g : hi ≠ 0 := by simpa using g
    exact tail (by have := h1.1; have := h2.1; omega) (root_loop h1 h2 (by have := h1.1; have := h2.1; omega))
theorem ΓR1_ok : ∀ f g, ΓR1 f = some g → g.ok Try.prog f := addCtr_ok (addCtr_ok ΓC_ok (pure_ok Try.func55 (by kernel_rfl) (by kernel_rfl) Root_spec)) (ro_ok Try.func42 (by kernel_rfl) (by kernel_rfl) Flags_spec)
theorem pl_mul (a b c d : Int) : plM (!(decide (a < 0) == decide (b < 0))) (iabs a * iabs b) (!(decide (c < 0) == decide (d < 0))) (iabs c * iabs d) = iabs (a * b + c * d) := by rw [plM_eq iabs_mul iabs_mul, sgn_mul, sgn_mul]
theorem sq_nonneg (a : Int) : 0 ≤ a * a := by
  rcases Int.le_total 0 a with h | h
  · exact Int.mul_nonneg h h
  · have := Int.mul_nonneg (show 0 ≤ -a by omega) (show 0 ≤ -a by omega); rwa [Int.neg_mul_neg] at this
theorem iabs_sq (a : Int) : iabs a * iabs a = a * a := by unfold iabs; split; rw [Int.neg_mul_neg]; rfl
theorem hyp_in {a b : Int} (ha : I64 a) (hb : I64 b) : 0 ≤ a * a + b * b ∧ a * a + b * b ≤ 170141183460469231731687303715884105728 := by
  have h1 := iabs_mul_lt ha ha
  have h2 := iabs_mul_lt hb hb
  rw [iabs_sq] at h1 h2
  have := sq_nonneg a
  have := sq_nonneg b
  omega
theorem Hypot_spec : PureSpec Try.prog 36 sHypot := vc_spec hm ΓR1_ok Try.func36 (Λ := fun _ => noΛ) fun args p x h hp => by
  unfold sHypot at h
  split at h <;> try (cases h; done)
  rename_i v f u g
  cases h
  obtain ⟨h1, h2⟩ := hp _ rfl
  have h1 := sndV_i64 h1
  have h2 := sndV_i64 h2
  refine ⟨rfl, rfl, ?_⟩
  refine Eq.mpr (vcHypot v f u g _) ?_
  simp only [MM_split, MM_0, pl_mul]
  have l1 := iabs_mul_lt h1 h1
  have l2 := iabs_mul_lt h2 h2
  have n1 := iabs_mul (a := sndV v) (b := sndV v)
  have n2 := iabs_mul (a := sndV u) (b := sndV u)
  obtain ⟨y0, y1⟩ := hyp_in h1 h2
  have ea : iabs (sndV v * sndV v + sndV u * sndV u) = sndV v * sndV v + sndV u * sndV u := iabs_pos (by omega)
  rw [ea]
  obtain ⟨a, b, _, _⟩ := isq_in y0 (by omega)
  refine ⟨⟨h1, h1⟩, ⟨h2, h2⟩, ⟨⟨mod_u64 _, div_u64 n1 (by omega)⟩, ⟨mod_u64 _, div_u64 n2 (by omega)⟩, by omega⟩, ⟨mod_u64 _, div_u64 y0 (by omega)⟩, ⟨⟨trivial, trivial, trivial⟩, trivial, by decide⟩, ⟨⟨a, b⟩, u64_zero⟩, num_mk ?_ ?_⟩
  · rw [fitV_E false a, sv_false]; rfl
  · rw [fitF_G false _ a, sv_false]; simp [anyF, rowF, hypE]
end Go.Proofs.Ytlcfnlhognegcaa
end
section
namespace Go.Proofs.Ytlcfnlhognegcaa
open Go.SE
structure NB where
  v : Int
  f : Bool
def nS (a : NB) : SV := numS a.v a.f
def snd (a : NB) : NB := ⟨sndV a.v, sndF a.v a.f⟩
def fitN (e : Int) (f : Bool) : NB := ⟨fitE e, fitG e f⟩
def intN (n : Int) : NB := fitN (n * 4294967296) false
def negN (a : NB) : NB := ⟨-sndV a.v, sndF a.v a.f⟩
def addN (a b : NB) : NB := fitN (sndV a.v + sndV b.v) (sndF a.v a.f || sndF b.v b.f)
def subN (a b : NB) : NB := fitN (sndV a.v - sndV b.v) (sndF a.v a.f || sndF b.v b.f)
def mulN (a b : NB) : NB := fitN (mulE (sndV a.v) (sndV b.v)) (sndF a.v a.f || sndF b.v b.f)
def ratN (a b : Int) : NB := ⟨ratV a b, ratF a b⟩
def divN (a b : NB) : NB := ⟨ratV (sndV a.v) (sndV b.v), ratF (sndV a.v) (sndV b.v) || (sndF a.v a.f || sndF b.v b.f)⟩
def wrapN (a : NB) : NB := ⟨wrapT (sndV a.v), sndF a.v a.f⟩
def clampN (x l h : NB) : NB := ⟨maxE (sndV l.v) (minE (sndV x.v) (sndV h.v)), sndF l.v l.f || (sndF x.v x.f || sndF h.v h.f)⟩
def hypN (a b : NB) : NB := fitN (hypE (sndV a.v) (sndV b.v)) (sndF a.v a.f || sndF b.v b.f)
def dotN (a b c d : NB) : NB := fitN (dotE (sndV a.v) (sndV b.v) (sndV c.v) (sndV d.v)) ((sndF a.v a.f || sndF b.v b.f) || (sndF c.v c.f || sndF d.v d.f))
def foldT (v : Int) : Int := if v > 6746518852 then 13493037704 - v else if v < -6746518852 then -13493037704 - v else v
def foldN (a : NB) : NB := ⟨foldT a.v, a.f⟩
def sinStep (y t : NB) (k : Nat) : NB := negN (divN (mulN (mulN t y) y) (intN ((2 * (k + 1)) * (2 * (k + 1) + 1))))
def sinT (y : NB) : Nat → NB
  | 0 => y
  | k + 1 => sinStep y (sinT y k) k
def sinU (y : NB) : Nat → NB
  | 0 => y
  | k + 1 => addN (sinU y k) (sinT y (k + 1))
def sinY (a : NB) : NB := foldN (wrapN a)
def sinN (a : NB) : NB := clampN (sinU (sinY a) 8) ⟨-4294967296, false⟩ ⟨4294967296, false⟩
def cosN (a : NB) : NB := sinN (addN (wrapN a) ⟨6746518852, false⟩)
def Sd (v : Int) : Prop := -9223372036854775807 ≤ v ∧ v ≤ 9223372036854775807
theorem Sd.i64 {v : Int} (h : Sd v) : I64 v := by obtain ⟨_, _⟩ := h; exact ⟨by omega, by omega⟩
theorem Sd.self {v : Int} (h : Sd v) : sndV v = v := sndV_self h.1
theorem Sd.flag {v : Int} {f : Bool} (h : Sd v) : sndF v f = f := sndF_self h.1
theorem sndV_sd {v : Int} (h : I64 v) : Sd (sndV v) := sndV_in h
theorem fitE_sd (e : Int) : Sd (fitE e) := by unfold fitE; constructor <;> (repeat' split) <;> omega
theorem noneV_sd (a : Int) : Sd (noneV a) := by unfold noneV; constructor <;> (repeat' split) <;> omega
theorem ratV_sd (a b : Int) : Sd (ratV a b) := by unfold ratV; split; exact noneV_sd a; exact fitE_sd _
theorem neg_sd {v : Int} (h : Sd v) : Sd (-v) := by obtain ⟨_, _⟩ := h; exact ⟨by omega, by omega⟩
theorem wrapT_in {v : Int} : -13493037704 ≤ wrapT v ∧ wrapT v ≤ 13493037704 := by
  have h1 := Int.tmod_lt_of_pos v (show (0 : Int) < 26986075409 by decide)
  have h2 : -26986075409 < Int.tmod v 26986075409 := by
    have := Int.neg_tmod v 26986075409
    have h3 := Int.tmod_lt_of_pos (-v) (show (0 : Int) < 26986075409 by decide)
    omega
  unfold wrapT
  constructor <;> (repeat' split) <;> omega
theorem foldT_in {v : Int} (h : -13493037704 ≤ v ∧ v ≤ 13493037704) : -6746518852 ≤ foldT v ∧ foldT v ≤ 6746518852 := by obtain ⟨_, _⟩ := h; unfold foldT; constructor <;> (repeat' split) <;> omega
theorem sinY_in (a : NB) : -6746518852 ≤ (sinY a).v ∧ (sinY a).v ≤ 6746518852 := foldT_in wrapT_in
theorem sinY_sd (a : NB) : Sd (sinY a).v := by have := sinY_in a; exact ⟨by omega, by omega⟩
theorem sinT_sd {y : NB} (h : Sd y.v) : ∀ k, Sd (sinT y k).v
  | 0 => h
  | k + 1 => neg_sd (by
      have := ratV_sd (sndV (mulN (mulN (sinT y k) y) y).v) (sndV (intN ((2 * ((k : Int) + 1)) * (2 * ((k : Int) + 1) + 1))).v)
      show Sd (sndV (ratV _ _))
      rw [this.self]; exact this)
theorem sinU_sd {y : NB} (h : Sd y.v) : ∀ k, Sd (sinU y k).v
  | 0 => h
  | _ + 1 => fitE_sd _
theorem clampN_in (x : NB) : -4294967296 ≤ (clampN x ⟨-4294967296, false⟩ ⟨4294967296, false⟩).v ∧ (clampN x ⟨-4294967296, false⟩ ⟨4294967296, false⟩).v ≤ 4294967296 := by
  have e1 : sndV (-4294967296) = -4294967296 := by decide
  have e2 : sndV 4294967296 = 4294967296 := by decide
  show -4294967296 ≤ maxE (sndV (-4294967296)) (minE (sndV x.v) (sndV 4294967296)) ∧ maxE (sndV (-4294967296)) (minE (sndV x.v) (sndV 4294967296)) ≤ 4294967296
  rw [e1, e2]
  unfold maxE minE
  constructor <;> (repeat' split) <;> omega
theorem sinN_in (a : NB) : -4294967296 ≤ (sinN a).v ∧ (sinN a).v ≤ 4294967296 := clampN_in _
end Go.Proofs.Ytlcfnlhognegcaa
end
section
namespace Go.Proofs.Ytlcfnlhognegcaa
open Go.SE Go.RowKit
def ΓS0 : Ctrs := addCtr (addCtr (addCtr (addCtr (addCtr (addCtr (addCtr ΓC 26 (pureCtr sWrap)) 30 (pureCtr sMul)) 31 (pureCtr sInt)) 29 (pureCtr sDiv)) 28 (pureCtr sNeg)) 25 (pureCtr sAdd)) 32 (pureCtr sClamp)
def sSin : List SV → Option (Option Prop × SV)
  | [.agg [.v (.int .i64 v), .v (.bool f)]] => some (some (I64 v), nS (sinN ⟨v, f⟩))
  | _ => none
def sCos : List SV → Option (Option Prop × SV)
  | [.agg [.v (.int .i64 v), .v (.bool f)]] => some (some (I64 v), nS (cosN ⟨v, f⟩))
  | _ => none
def vN (a : NB) : Blk := varBlk 25 [.v (.int .i64 a.v), .v (.bool a.f)]
noncomputable def ΛSin (y : NB) : Nat → Option LoopSpec := addPr (addLoop noΛ Try.f11 1 Nat (fun k => k ≤ 8) (fun k => 8 - k) [(28, fun k => .v (.int .i64 k))] [(272, fun k => vN (sinT y k)), (280, fun k => vN (sinU y k))]) 6 [(4, fun nx => nx + 16), (5, fun nx => nx + 24)]
theorem vcSin (y : NB) (v : Int) (f : Bool) (R : SV→Prop) : (vcPure Try.prog ΓS0 (ΛSin y) Try.f11 [numS v f] R) = ((I64 v)∧(sel (decide (wrapT (sndV v) > 6746518852)) ((∃ x : Nat,((Nat.le x 8)∧(((SV.v (.int .i64 0)) = (SV.v (.int .i64 ((↑x : Int)))))∧((((1 : Nat) = 1)∧(((1 : Nat) ≤ 1)∧(∀ i : Nat,(((i : Nat) < 1)→([(SV.v (.int .i64 (IntKind.wrap IntKind.i64 (13493037704 - wrapT (sndV v))))),(SV.v (.bool (sndF v f)))] = [(SV.v (.int .i64 (NB.v (sinT y x)))),(SV.v (.bool (NB.f (sinT y x))))])))))∧(((1 : Nat) = 1)∧(((1 : Nat) ≤ 1)∧(∀ i : Nat,(((i : Nat) < 1)→([(SV.v (.int .i64 (IntKind.wrap IntKind.i64 (13493037704 - wrapT (sndV v))))),(SV.v (.bool (sndF v f)))] = [(SV.v (.int .i64 (NB.v (sinU y x)))),(SV.v (.bool (NB.f (sinU y x))))])))))))))∧(∀ x : Nat,((Nat.le x 8)→(sel (decide ((↑x : Int) < 8)) (((I64 (NB.v (sinT y x)))∧(I64 (IntKind.wrap IntKind.i64 (13493037704 - wrapT (sndV v)))))∧(((I64 (fitE (mulE (sndV (NB.v (sinT y x))) (sndV (IntKind.wrap IntKind.i64 (13493037704 - wrapT (sndV v)))))))∧(I64 (IntKind.wrap IntKind.i64 (13493037704 - wrapT (sndV v)))))∧((I64 (IntKind.wrap IntKind.i64 (IntKind.wrap IntKind.i64 (2 * IntKind.wrap IntKind.i64 ((↑x : Int) + 1)) * IntKind.wrap IntKind.i64 (IntKind.wrap IntKind.i64 (2 * IntKind.wrap IntKind.i64 ((↑x : Int) + 1)) + 1))))∧(((I64 (fitE (mulE (sndV (fitE (mulE (sndV (NB.v (sinT y x))) (sndV (IntKind.wrap IntKind.i64 (13493037704 - wrapT (sndV v))))))) (sndV (IntKind.wrap IntKind.i64 (13493037704 - wrapT (sndV v)))))))∧(I64 (fitE (IntKind.wrap IntKind.i64 (IntKind.wrap IntKind.i64 (2 * IntKind.wrap IntKind.i64 ((↑x : Int) + 1)) * IntKind.wrap IntKind.i64 (IntKind.wrap IntKind.i64 (2 * IntKind.wrap IntKind.i64 ((↑x : Int) + 1)) + 1)) * 4294967296))))∧((I64 (ratV (sndV (fitE (mulE (sndV (fitE (mulE (sndV (NB.v (sinT y x))) (sndV (IntKind.wrap IntKind.i64 (13493037704 - wrapT (sndV v))))))) (sndV (IntKind.wrap IntKind.i64 (13493037704 - wrapT (sndV v))))))) (sndV (fitE (IntKind.wrap IntKind.i64 (IntKind.wrap IntKind.i64 (2 * IntKind.wrap IntKind.i64 ((↑x : Int) + 1)) * IntKind.wrap IntKind.i64 (IntKind.wrap IntKind.i64 (2 * IntKind.wrap IntKind.i64 ((↑x : Int) + 1)) + 1)) * 4294967296)))))∧(((I64 (NB.v (sinU y x)))∧(I64 (-sndV (ratV (sndV (fitE (mulE (sndV (fitE (mulE (sndV (NB.v (sinT y x))) (sndV (IntKind.wrap IntKind.i64 (13493037704 - wrapT (sndV v))))))) (sndV (IntKind.wrap IntKind.i64 (13493037704 - wrapT (sndV v))))))) (sndV (fitE (IntKind.wrap IntKind.i64 (IntKind.wrap IntKind.i64 (2 * IntKind.wrap IntKind.i64 ((↑x : Int) + 1)) * IntKind.wrap IntKind.i64 (IntKind.wrap IntKind.i64 (2 * IntKind.wrap IntKind.i64 ((↑x : Int) + 1)) + 1)) * 4294967296)))))))∧(∃ x' : Nat,(((Nat.le x' 8)∧(((SV.v (.int .i64 (IntKind.wrap IntKind.i64 ((↑x : Int) + 1)))) = (SV.v (.int .i64 ((↑x' : Int)))))∧((((1 : Nat) = 1)∧(((1 : Nat) ≤ 1)∧(∀ i : Nat,(((i : Nat) < 1)→([(SV.v (.int .i64 (-sndV (ratV (sndV (fitE (mulE (sndV (fitE (mulE (sndV (NB.v (sinT y x))) (sndV (IntKind.wrap IntKind.i64 (13493037704 - wrapT (sndV v))))))) (sndV (IntKind.wrap IntKind.i64 (13493037704 - wrapT (sndV v))))))) (sndV (fitE (IntKind.wrap IntKind.i64 (IntKind.wrap IntKind.i64 (2 * IntKind.wrap IntKind.i64 ((↑x : Int) + 1)) * IntKind.wrap IntKind.i64 (IntKind.wrap IntKind.i64 (2 * IntKind.wrap IntKind.i64 ((↑x : Int) + 1)) + 1)) * 4294967296))))))),(SV.v (.bool (sndF (ratV (sndV (fitE (mulE (sndV (fitE (mulE (sndV (NB.v (sinT y x))) (sndV (IntKind.wrap IntKind.i64 (13493037704 - wrapT (sndV v))))))) (sndV (IntKind.wrap IntKind.i64 (13493037704 - wrapT (sndV v))))))) (sndV (fitE (IntKind.wrap IntKind.i64 (IntKind.wrap IntKind.i64 (2 * IntKind.wrap IntKind.i64 ((↑x : Int) + 1)) * IntKind.wrap IntKind.i64 (IntKind.wrap IntKind.i64 (2 * IntKind.wrap IntKind.i64 ((↑x : Int) + 1)) + 1)) * 4294967296)))) (ratF (sndV (fitE (mulE (sndV (fitE (mulE (sndV (NB.v (sinT y x))) (sndV (IntKind.wrap IntKind.i64 (13493037704 - wrapT (sndV v))))))) (sndV (IntKind.wrap IntKind.i64 (13493037704 - wrapT (sndV v))))))) (sndV (fitE (IntKind.wrap IntKind.i64 (IntKind.wrap IntKind.i64 (2 * IntKind.wrap IntKind.i64 ((↑x : Int) + 1)) * IntKind.wrap IntKind.i64 (IntKind.wrap IntKind.i64 (2 * IntKind.wrap IntKind.i64 ((↑x : Int) + 1)) + 1)) * 4294967296)))||(sndF (fitE (mulE (sndV (fitE (mulE (sndV (NB.v (sinT y x))) (sndV (IntKind.wrap IntKind.i64 (13493037704 - wrapT (sndV v))))))) (sndV (IntKind.wrap IntKind.i64 (13493037704 - wrapT (sndV v)))))) (fitG (mulE (sndV (fitE (mulE (sndV (NB.v (sinT y x))) (sndV (IntKind.wrap IntKind.i64 (13493037704 - wrapT (sndV v))))))) (sndV (IntKind.wrap IntKind.i64 (13493037704 - wrapT (sndV v))))) (sndF (fitE (mulE (sndV (NB.v (sinT y x))) (sndV (IntKind.wrap IntKind.i64 (13493037704 - wrapT (sndV v)))))) (fitG (mulE (sndV (NB.v (sinT y x))) (sndV (IntKind.wrap IntKind.i64 (13493037704 - wrapT (sndV v))))) (sndF (NB.v (sinT y x)) (NB.f (sinT y x))||sndF (IntKind.wrap IntKind.i64 (13493037704 - wrapT (sndV v))) (sndF v f)))||sndF (IntKind.wrap IntKind.i64 (13493037704 - wrapT (sndV v))) (sndF v f)))||sndF (fitE (IntKind.wrap IntKind.i64 (IntKind.wrap IntKind.i64 (2 * IntKind.wrap IntKind.i64 ((↑x : Int) + 1)) * IntKind.wrap IntKind.i64 (IntKind.wrap IntKind.i64 (2 * IntKind.wrap IntKind.i64 ((↑x : Int) + 1)) + 1)) * 4294967296)) (fitG (IntKind.wrap IntKind.i64 (IntKind.wrap IntKind.i64 (2 * IntKind.wrap IntKind.i64 ((↑x : Int) + 1)) * IntKind.wrap IntKind.i64 (IntKind.wrap IntKind.i64 (2 * IntKind.wrap IntKind.i64 ((↑x : Int) + 1)) + 1)) * 4294967296) false))))))] = [(SV.v (.int .i64 (NB.v (sinT y x')))),(SV.v (.bool (NB.f (sinT y x'))))])))))∧(((1 : Nat) = 1)∧(((1 : Nat) ≤ 1)∧(∀ i : Nat,(((i : Nat) < 1)→([(SV.v (.int .i64 (fitE (sndV (NB.v (sinU y x)) + sndV (-sndV (ratV (sndV (fitE (mulE (sndV (fitE (mulE (sndV (NB.v (sinT y x))) (sndV (IntKind.wrap IntKind.i64 (13493037704 - wrapT (sndV v))))))) (sndV (IntKind.wrap IntKind.i64 (13493037704 - wrapT (sndV v))))))) (sndV (fitE (IntKind.wrap IntKind.i64 (IntKind.wrap IntKind.i64 (2 * IntKind.wrap IntKind.i64 ((↑x : Int) + 1)) * IntKind.wrap IntKind.i64 (IntKind.wrap IntKind.i64 (2 * IntKind.wrap IntKind.i64 ((↑x : Int) + 1)) + 1)) * 4294967296))))))))),(SV.v (.bool (fitG (sndV (NB.v (sinU y x)) + sndV (-sndV (ratV (sndV (fitE (mulE (sndV (fitE (mulE (sndV (NB.v (sinT y x))) (sndV (IntKind.wrap IntKind.i64 (13493037704 - wrapT (sndV v))))))) (sndV (IntKind.wrap IntKind.i64 (13493037704 - wrapT (sndV v))))))) (sndV (fitE (IntKind.wrap IntKind.i64 (IntKind.wrap IntKind.i64 (2 * IntKind.wrap IntKind.i64 ((↑x : Int) + 1)) * IntKind.wrap IntKind.i64 (IntKind.wrap IntKind.i64 (2 * IntKind.wrap IntKind.i64 ((↑x : Int) + 1)) + 1)) * 4294967296)))))) (sndF (NB.v (sinU y x)) (NB.f (sinU y x))||sndF (-sndV (ratV (sndV (fitE (mulE (sndV (fitE (mulE (sndV (NB.v (sinT y x))) (sndV (IntKind.wrap IntKind.i64 (13493037704 - wrapT (sndV v))))))) (sndV (IntKind.wrap IntKind.i64 (13493037704 - wrapT (sndV v))))))) (sndV (fitE (IntKind.wrap IntKind.i64 (IntKind.wrap IntKind.i64 (2 * IntKind.wrap IntKind.i64 ((↑x : Int) + 1)) * IntKind.wrap IntKind.i64 (IntKind.wrap IntKind.i64 (2 * IntKind.wrap IntKind.i64 ((↑x : Int) + 1)) + 1)) * 4294967296))))) (sndF (ratV (sndV (fitE (mulE (sndV (fitE (mulE (sndV (NB.v (sinT y x))) (sndV (IntKind.wrap IntKind.i64 (13493037704 - wrapT (sndV v))))))) (sndV (IntKind.wrap IntKind.i64 (13493037704 - wrapT (sndV v))))))) (sndV (fitE (IntKind.wrap IntKind.i64 (IntKind.wrap IntKind.i64 (2 * IntKind.wrap IntKind.i64 ((↑x : Int) + 1)) * IntKind.wrap IntKind.i64 (IntKind.wrap IntKind.i64 (2 * IntKind.wrap IntKind.i64 ((↑x : Int) + 1)) + 1)) * 4294967296)))) (ratF (sndV (fitE (mulE (sndV (fitE (mulE (sndV (NB.v (sinT y x))) (sndV (IntKind.wrap IntKind.i64 (13493037704 - wrapT (sndV v))))))) (sndV (IntKind.wrap IntKind.i64 (13493037704 - wrapT (sndV v))))))) (sndV (fitE (IntKind.wrap IntKind.i64 (IntKind.wrap IntKind.i64 (2 * IntKind.wrap IntKind.i64 ((↑x : Int) + 1)) * IntKind.wrap IntKind.i64 (IntKind.wrap IntKind.i64 (2 * IntKind.wrap IntKind.i64 ((↑x : Int) + 1)) + 1)) * 4294967296)))||(sndF (fitE (mulE (sndV (fitE (mulE (sndV (NB.v (sinT y x))) (sndV (IntKind.wrap IntKind.i64 (13493037704 - wrapT (sndV v))))))) (sndV (IntKind.wrap IntKind.i64 (13493037704 - wrapT (sndV v)))))) (fitG (mulE (sndV (fitE (mulE (sndV (NB.v (sinT y x))) (sndV (IntKind.wrap IntKind.i64 (13493037704 - wrapT (sndV v))))))) (sndV (IntKind.wrap IntKind.i64 (13493037704 - wrapT (sndV v))))) (sndF (fitE (mulE (sndV (NB.v (sinT y x))) (sndV (IntKind.wrap IntKind.i64 (13493037704 - wrapT (sndV v)))))) (fitG (mulE (sndV (NB.v (sinT y x))) (sndV (IntKind.wrap IntKind.i64 (13493037704 - wrapT (sndV v))))) (sndF (NB.v (sinT y x)) (NB.f (sinT y x))||sndF (IntKind.wrap IntKind.i64 (13493037704 - wrapT (sndV v))) (sndF v f)))||sndF (IntKind.wrap IntKind.i64 (13493037704 - wrapT (sndV v))) (sndF v f)))||sndF (fitE (IntKind.wrap IntKind.i64 (IntKind.wrap IntKind.i64 (2 * IntKind.wrap IntKind.i64 ((↑x : Int) + 1)) * IntKind.wrap IntKind.i64 (IntKind.wrap IntKind.i64 (2 * IntKind.wrap IntKind.i64 ((↑x : Int) + 1)) + 1)) * 4294967296)) (fitG (IntKind.wrap IntKind.i64 (IntKind.wrap IntKind.i64 (2 * IntKind.wrap IntKind.i64 ((↑x : Int) + 1)) * IntKind.wrap IntKind.i64 (IntKind.wrap IntKind.i64 (2 * IntKind.wrap IntKind.i64 ((↑x : Int) + 1)) + 1)) * 4294967296) false))))))))] = [(SV.v (.int .i64 (NB.v (sinU y x')))),(SV.v (.bool (NB.f (sinU y x'))))]))))))))∧(((8 - x') : Nat) < (8 - x)))))))))) ((I64 (-1))∧((I64 1)∧(((I64 (NB.v (sinU y x)))∧((I64 (-4294967296))∧(I64 4294967296)))∧(R (SV.agg [(SV.v (.int .i64 (maxE (-4294967296) (minE (sndV (NB.v (sinU y x))) 4294967296)))),(SV.v (.bool (false||(sndF (NB.v (sinU y x)) (NB.f (sinU y x))||false))))]))))))))) (sel (decide (wrapT (sndV v) < -6746518852)) ((∃ x : Nat,((Nat.le x 8)∧(((SV.v (.int .i64 0)) = (SV.v (.int .i64 ((↑x : Int)))))∧((((1 : Nat) = 1)∧(((1 : Nat) ≤ 1)∧(∀ i : Nat,(((i : Nat) < 1)→([(SV.v (.int .i64 (IntKind.wrap IntKind.i64 (-13493037704 - wrapT (sndV v))))),(SV.v (.bool (sndF v f)))] = [(SV.v (.int .i64 (NB.v (sinT y x)))),(SV.v (.bool (NB.f (sinT y x))))])))))∧(((1 : Nat) = 1)∧(((1 : Nat) ≤ 1)∧(∀ i : Nat,(((i : Nat) < 1)→([(SV.v (.int .i64 (IntKind.wrap IntKind.i64 (-13493037704 - wrapT (sndV v))))),(SV.v (.bool (sndF v f)))] = [(SV.v (.int .i64 (NB.v (sinU y x)))),(SV.v (.bool (NB.f (sinU y x))))])))))))))∧(∀ x : Nat,((Nat.le x 8)→(sel (decide ((↑x : Int) < 8)) (((I64 (NB.v (sinT y x)))∧(I64 (IntKind.wrap IntKind.i64 (-13493037704 - wrapT (sndV v)))))∧(((I64 (fitE (mulE (sndV (NB.v (sinT y x))) (sndV (IntKind.wrap IntKind.i64 (-13493037704 - wrapT (sndV v)))))))∧(I64 (IntKind.wrap IntKind.i64 (-13493037704 - wrapT (sndV v)))))∧((I64 (IntKind.wrap IntKind.i64 (IntKind.wrap IntKind.i64 (2 * IntKind.wrap IntKind.i64 ((↑x : Int) + 1)) * IntKind.wrap IntKind.i64 (IntKind.wrap IntKind.i64 (2 * IntKind.wrap IntKind.i64 ((↑x : Int) + 1)) + 1))))∧(((I64 (fitE (mulE (sndV (fitE (mulE (sndV (NB.v (sinT y x))) (sndV (IntKind.wrap IntKind.i64 (-13493037704 - wrapT (sndV v))))))) (sndV (IntKind.wrap IntKind.i64 (-13493037704 - wrapT (sndV v)))))))∧(I64 (fitE (IntKind.wrap IntKind.i64 (IntKind.wrap IntKind.i64 (2 * IntKind.wrap IntKind.i64 ((↑x : Int) + 1)) * IntKind.wrap IntKind.i64 (IntKind.wrap IntKind.i64 (2 * IntKind.wrap IntKind.i64 ((↑x : Int) + 1)) + 1)) * 4294967296))))∧((I64 (ratV (sndV (fitE (mulE (sndV (fitE (mulE (sndV (NB.v (sinT y x))) (sndV (IntKind.wrap IntKind.i64 (-13493037704 - wrapT (sndV v))))))) (sndV (IntKind.wrap IntKind.i64 (-13493037704 - wrapT (sndV v))))))) (sndV (fitE (IntKind.wrap IntKind.i64 (IntKind.wrap IntKind.i64 (2 * IntKind.wrap IntKind.i64 ((↑x : Int) + 1)) * IntKind.wrap IntKind.i64 (IntKind.wrap IntKind.i64 (2 * IntKind.wrap IntKind.i64 ((↑x : Int) + 1)) + 1)) * 4294967296)))))∧(((I64 (NB.v (sinU y x)))∧(I64 (-sndV (ratV (sndV (fitE (mulE (sndV (fitE (mulE (sndV (NB.v (sinT y x))) (sndV (IntKind.wrap IntKind.i64 (-13493037704 - wrapT (sndV v))))))) (sndV (IntKind.wrap IntKind.i64 (-13493037704 - wrapT (sndV v))))))) (sndV (fitE (IntKind.wrap IntKind.i64 (IntKind.wrap IntKind.i64 (2 * IntKind.wrap IntKind.i64 ((↑x : Int) + 1)) * IntKind.wrap IntKind.i64 (IntKind.wrap IntKind.i64 (2 * IntKind.wrap IntKind.i64 ((↑x : Int) + 1)) + 1)) * 4294967296)))))))∧(∃ x' : Nat,(((Nat.le x' 8)∧(((SV.v (.int .i64 (IntKind.wrap IntKind.i64 ((↑x : Int) + 1)))) = (SV.v (.int .i64 ((↑x' : Int)))))∧((((1 : Nat) = 1)∧(((1 : Nat) ≤ 1)∧(∀ i : Nat,(((i : Nat) < 1)→([(SV.v (.int .i64 (-sndV (ratV (sndV (fitE (mulE (sndV (fitE (mulE (sndV (NB.v (sinT y x))) (sndV (IntKind.wrap IntKind.i64 (-13493037704 - wrapT (sndV v))))))) (sndV (IntKind.wrap IntKind.i64 (-13493037704 - wrapT (sndV v))))))) (sndV (fitE (IntKind.wrap IntKind.i64 (IntKind.wrap IntKind.i64 (2 * IntKind.wrap IntKind.i64 ((↑x : Int) + 1)) * IntKind.wrap IntKind.i64 (IntKind.wrap IntKind.i64 (2 * IntKind.wrap IntKind.i64 ((↑x : Int) + 1)) + 1)) * 4294967296))))))),(SV.v (.bool (sndF (ratV (sndV (fitE (mulE (sndV (fitE (mulE (sndV (NB.v (sinT y x))) (sndV (IntKind.wrap IntKind.i64 (-13493037704 - wrapT (sndV v))))))) (sndV (IntKind.wrap IntKind.i64 (-13493037704 - wrapT (sndV v))))))) (sndV (fitE (IntKind.wrap IntKind.i64 (IntKind.wrap IntKind.i64 (2 * IntKind.wrap IntKind.i64 ((↑x : Int) + 1)) * IntKind.wrap IntKind.i64 (IntKind.wrap IntKind.i64 (2 * IntKind.wrap IntKind.i64 ((↑x : Int) + 1)) + 1)) * 4294967296)))) (ratF (sndV (fitE (mulE (sndV (fitE (mulE (sndV (NB.v (sinT y x))) (sndV (IntKind.wrap IntKind.i64 (-13493037704 - wrapT (sndV v))))))) (sndV (IntKind.wrap IntKind.i64 (-13493037704 - wrapT (sndV v))))))) (sndV (fitE (IntKind.wrap IntKind.i64 (IntKind.wrap IntKind.i64 (2 * IntKind.wrap IntKind.i64 ((↑x : Int) + 1)) * IntKind.wrap IntKind.i64 (IntKind.wrap IntKind.i64 (2 * IntKind.wrap IntKind.i64 ((↑x : Int) + 1)) + 1)) * 4294967296)))||(sndF (fitE (mulE (sndV (fitE (mulE (sndV (NB.v (sinT y x))) (sndV (IntKind.wrap IntKind.i64 (-13493037704 - wrapT (sndV v))))))) (sndV (IntKind.wrap IntKind.i64 (-13493037704 - wrapT (sndV v)))))) (fitG (mulE (sndV (fitE (mulE (sndV (NB.v (sinT y x))) (sndV (IntKind.wrap IntKind.i64 (-13493037704 - wrapT (sndV v))))))) (sndV (IntKind.wrap IntKind.i64 (-13493037704 - wrapT (sndV v))))) (sndF (fitE (mulE (sndV (NB.v (sinT y x))) (sndV (IntKind.wrap IntKind.i64 (-13493037704 - wrapT (sndV v)))))) (fitG (mulE (sndV (NB.v (sinT y x))) (sndV (IntKind.wrap IntKind.i64 (-13493037704 - wrapT (sndV v))))) (sndF (NB.v (sinT y x)) (NB.f (sinT y x))||sndF (IntKind.wrap IntKind.i64 (-13493037704 - wrapT (sndV v))) (sndF v f)))||sndF (IntKind.wrap IntKind.i64 (-13493037704 - wrapT (sndV v))) (sndF v f)))||sndF (fitE (IntKind.wrap IntKind.i64 (IntKind.wrap IntKind.i64 (2 * IntKind.wrap IntKind.i64 ((↑x : Int) + 1)) * IntKind.wrap IntKind.i64 (IntKind.wrap IntKind.i64 (2 * IntKind.wrap IntKind.i64 ((↑x : Int) + 1)) + 1)) * 4294967296)) (fitG (IntKind.wrap IntKind.i64 (IntKind.wrap IntKind.i64 (2 * IntKind.wrap IntKind.i64 ((↑x : Int) + 1)) * IntKind.wrap IntKind.i64 (IntKind.wrap IntKind.i64 (2 * IntKind.wrap IntKind.i64 ((↑x : Int) + 1)) + 1)) * 4294967296) false))))))] = [(SV.v (.int .i64 (NB.v (sinT y x')))),(SV.v (.bool (NB.f (sinT y x'))))])))))∧(((1 : Nat) = 1)∧(((1 : Nat) ≤ 1)∧(∀ i : Nat,(((i : Nat) < 1)→([(SV.v (.int .i64 (fitE (sndV (NB.v (sinU y x)) + sndV (-sndV (ratV (sndV (fitE (mulE (sndV (fitE (mulE (sndV (NB.v (sinT y x))) (sndV (IntKind.wrap IntKind.i64 (-13493037704 - wrapT (sndV v))))))) (sndV (IntKind.wrap IntKind.i64 (-13493037704 - wrapT (sndV v))))))) (sndV (fitE (IntKind.wrap IntKind.i64 (IntKind.wrap IntKind.i64 (2 * IntKind.wrap IntKind.i64 ((↑x : Int) + 1)) * IntKind.wrap IntKind.i64 (IntKind.wrap IntKind.i64 (2 * IntKind.wrap IntKind.i64 ((↑x : Int) + 1)) + 1)) * 4294967296))))))))),(SV.v (.bool (fitG (sndV (NB.v (sinU y x)) + sndV (-sndV (ratV (sndV (fitE (mulE (sndV (fitE (mulE (sndV (NB.v (sinT y x))) (sndV (IntKind.wrap IntKind.i64 (-13493037704 - wrapT (sndV v))))))) (sndV (IntKind.wrap IntKind.i64 (-13493037704 - wrapT (sndV v))))))) (sndV (fitE (IntKind.wrap IntKind.i64 (IntKind.wrap IntKind.i64 (2 * IntKind.wrap IntKind.i64 ((↑x : Int) + 1)) * IntKind.wrap IntKind.i64 (IntKind.wrap IntKind.i64 (2 * IntKind.wrap IntKind.i64 ((↑x : Int) + 1)) + 1)) * 4294967296)))))) (sndF (NB.v (sinU y x)) (NB.f (sinU y x))||sndF (-sndV (ratV (sndV (fitE (mulE (sndV (fitE (mulE (sndV (NB.v (sinT y x))) (sndV (IntKind.wrap IntKind.i64 (-13493037704 - wrapT (sndV v))))))) (sndV (IntKind.wrap IntKind.i64 (-13493037704 - wrapT (sndV v))))))) (sndV (fitE (IntKind.wrap IntKind.i64 (IntKind.wrap IntKind.i64 (2 * IntKind.wrap IntKind.i64 ((↑x : Int) + 1)) * IntKind.wrap IntKind.i64 (IntKind.wrap IntKind.i64 (2 * IntKind.wrap IntKind.i64 ((↑x : Int) + 1)) + 1)) * 4294967296))))) (sndF (ratV (sndV (fitE (mulE (sndV (fitE (mulE (sndV (NB.v (sinT y x))) (sndV (IntKind.wrap IntKind.i64 (-13493037704 - wrapT (sndV v))))))) (sndV (IntKind.wrap IntKind.i64 (-13493037704 - wrapT (sndV v))))))) (sndV (fitE (IntKind.wrap IntKind.i64 (IntKind.wrap IntKind.i64 (2 * IntKind.wrap IntKind.i64 ((↑x : Int) + 1)) * IntKind.wrap IntKind.i64 (IntKind.wrap IntKind.i64 (2 * IntKind.wrap IntKind.i64 ((↑x : Int) + 1)) + 1)) * 4294967296)))) (ratF (sndV (fitE (mulE (sndV (fitE (mulE (sndV (NB.v (sinT y x))) (sndV (IntKind.wrap IntKind.i64 (-13493037704 - wrapT (sndV v))))))) (sndV (IntKind.wrap IntKind.i64 (-13493037704 - wrapT (sndV v))))))) (sndV (fitE (IntKind.wrap IntKind.i64 (IntKind.wrap IntKind.i64 (2 * IntKind.wrap IntKind.i64 ((↑x : Int) + 1)) * IntKind.wrap IntKind.i64 (IntKind.wrap IntKind.i64 (2 * IntKind.wrap IntKind.i64 ((↑x : Int) + 1)) + 1)) * 4294967296)))||(sndF (fitE (mulE (sndV (fitE (mulE (sndV (NB.v (sinT y x))) (sndV (IntKind.wrap IntKind.i64 (-13493037704 - wrapT (sndV v))))))) (sndV (IntKind.wrap IntKind.i64 (-13493037704 - wrapT (sndV v)))))) (fitG (mulE (sndV (fitE (mulE (sndV (NB.v (sinT y x))) (sndV (IntKind.wrap IntKind.i64 (-13493037704 - wrapT (sndV v))))))) (sndV (IntKind.wrap IntKind.i64 (-13493037704 - wrapT (sndV v))))) (sndF (fitE (mulE (sndV (NB.v (sinT y x))) (sndV (IntKind.wrap IntKind.i64 (-13493037704 - wrapT (sndV v)))))) (fitG (mulE (sndV (NB.v (sinT y x))) (sndV (IntKind.wrap IntKind.i64 (-13493037704 - wrapT (sndV v))))) (sndF (NB.v (sinT y x)) (NB.f (sinT y x))||sndF (IntKind.wrap IntKind.i64 (-13493037704 - wrapT (sndV v))) (sndF v f)))||sndF (IntKind.wrap IntKind.i64 (-13493037704 - wrapT (sndV v))) (sndF v f)))||sndF (fitE (IntKind.wrap IntKind.i64 (IntKind.wrap IntKind.i64 (2 * IntKind.wrap IntKind.i64 ((↑x : Int) + 1)) * IntKind.wrap IntKind.i64 (IntKind.wrap IntKind.i64 (2 * IntKind.wrap IntKind.i64 ((↑x : Int) + 1)) + 1)) * 4294967296)) (fitG (IntKind.wrap IntKind.i64 (IntKind.wrap IntKind.i64 (2 * IntKind.wrap IntKind.i64 ((↑x : Int) + 1)) * IntKind.wrap IntKind.i64 (IntKind.wrap IntKind.i64 (2 * IntKind.wrap IntKind.i64 ((↑x : Int) + 1)) + 1)) * 4294967296) false))))))))] = [(SV.v (.int .i64 (NB.v (sinU y x')))),(SV.v (.bool (NB.f (sinU y x'))))]))))))))∧(((8 - x') : Nat) < (8 - x)))))))))) ((I64 (-1))∧((I64 1)∧(((I64 (NB.v (sinU y x)))∧((I64 (-4294967296))∧(I64 4294967296)))∧(R (SV.agg [(SV.v (.int .i64 (maxE (-4294967296) (minE (sndV (NB.v (sinU y x))) 4294967296)))),(SV.v (.bool (false||(sndF (NB.v (sinU y x)) (NB.f (sinU y x))||false))))]))))))))) ((∃ x : Nat,((Nat.le x 8)∧(((SV.v (.int .i64 0)) = (SV.v (.int .i64 ((↑x : Int)))))∧((((1 : Nat) = 1)∧(((1 : Nat) ≤ 1)∧(∀ i : Nat,(((i : Nat) < 1)→([(SV.v (.int .i64 (wrapT (sndV v)))),(SV.v (.bool (sndF v f)))] = [(SV.v (.int .i64 (NB.v (sinT y x)))),(SV.v (.bool (NB.f (sinT y x))))])))))∧(((1 : Nat) = 1)∧(((1 : Nat) ≤ 1)∧(∀ i : Nat,(((i : Nat) < 1)→([(SV.v (.int .i64 (wrapT (sndV v)))),(SV.v (.bool (sndF v f)))] = [(SV.v (.int .i64 (NB.v (sinU y x)))),(SV.v (.bool (NB.f (sinU y x))))])))))))))∧(∀ x : Nat,((Nat.le x 8)→(sel (decide ((↑x : Int) < 8)) (((I64 (NB.v (sinT y x)))∧(I64 (wrapT (sndV v))))∧(((I64 (fitE (mulE (sndV (NB.v (sinT y x))) (sndV (wrapT (sndV v))))))∧(I64 (wrapT (sndV v))))∧((I64 (IntKind.wrap IntKind.i64 (IntKind.wrap IntKind.i64 (2 * IntKind.wrap IntKind.i64 ((↑x : Int) + 1)) * IntKind.wrap IntKind.i64 (IntKind.wrap IntKind.i64 (2 * IntKind.wrap IntKind.i64 ((↑x : Int) + 1)) + 1))))∧(((I64 (fitE (mulE (sndV (fitE (mulE (sndV (NB.v (sinT y x))) (sndV (wrapT (sndV v)))))) (sndV (wrapT (sndV v))))))∧(I64 (fitE (IntKind.wrap IntKind.i64 (IntKind.wrap IntKind.i64 (2 * IntKind.wrap IntKind.i64 ((↑x : Int) + 1)) * IntKind.wrap IntKind.i64 (IntKind.wrap IntKind.i64 (2 * IntKind.wrap IntKind.i64 ((↑x : Int) + 1)) + 1)) * 4294967296))))∧((I64 (ratV (sndV (fitE (mulE (sndV (fitE (mulE (sndV (NB.v (sinT y x))) (sndV (wrapT (sndV v)))))) (sndV (wrapT (sndV v)))))) (sndV (fitE (IntKind.wrap IntKind.i64 (IntKind.wrap IntKind.i64 (2 * IntKind.wrap IntKind.i64 ((↑x : Int) + 1)) * IntKind.wrap IntKind.i64 (IntKind.wrap IntKind.i64 (2 * IntKind.wrap IntKind.i64 ((↑x : Int) + 1)) + 1)) * 4294967296)))))∧(((I64 (NB.v (sinU y x)))∧(I64 (-sndV (ratV (sndV (fitE (mulE (sndV (fitE (mulE (sndV (NB.v (sinT y x))) (sndV (wrapT (sndV v)))))) (sndV (wrapT (sndV v)))))) (sndV (fitE (IntKind.wrap IntKind.i64 (IntKind.wrap IntKind.i64 (2 * IntKind.wrap IntKind.i64 ((↑x : Int) + 1)) * IntKind.wrap IntKind.i64 (IntKind.wrap IntKind.i64 (2 * IntKind.wrap IntKind.i64 ((↑x : Int) + 1)) + 1)) * 4294967296)))))))∧(∃ x' : Nat,(((Nat.le x' 8)∧(((SV.v (.int .i64 (IntKind.wrap IntKind.i64 ((↑x : Int) + 1)))) = (SV.v (.int .i64 ((↑x' : Int)))))∧((((1 : Nat) = 1)∧(((1 : Nat) ≤ 1)∧(∀ i : Nat,(((i : Nat) < 1)→([(SV.v (.int .i64 (-sndV (ratV (sndV (fitE (mulE (sndV (fitE (mulE (sndV (NB.v (sinT y x))) (sndV (wrapT (sndV v)))))) (sndV (wrapT (sndV v)))))) (sndV (fitE (IntKind.wrap IntKind.i64 (IntKind.wrap IntKind.i64 (2 * IntKind.wrap IntKind.i64 ((↑x : Int) + 1)) * IntKind.wrap IntKind.i64 (IntKind.wrap IntKind.i64 (2 * IntKind.wrap IntKind.i64 ((↑x : Int) + 1)) + 1)) * 4294967296))))))),(SV.v (.bool (sndF (ratV (sndV (fitE (mulE (sndV (fitE (mulE (sndV (NB.v (sinT y x))) (sndV (wrapT (sndV v)))))) (sndV (wrapT (sndV v)))))) (sndV (fitE (IntKind.wrap IntKind.i64 (IntKind.wrap IntKind.i64 (2 * IntKind.wrap IntKind.i64 ((↑x : Int) + 1)) * IntKind.wrap IntKind.i64 (IntKind.wrap IntKind.i64 (2 * IntKind.wrap IntKind.i64 ((↑x : Int) + 1)) + 1)) * 4294967296)))) (ratF (sndV (fitE (mulE (sndV (fitE (mulE (sndV (NB.v (sinT y x))) (sndV (wrapT (sndV v)))))) (sndV (wrapT (sndV v)))))) (sndV (fitE (IntKind.wrap IntKind.i64 (IntKind.wrap IntKind.i64 (2 * IntKind.wrap IntKind.i64 ((↑x : Int) + 1)) * IntKind.wrap IntKind.i64 (IntKind.wrap IntKind.i64 (2 * IntKind.wrap IntKind.i64 ((↑x : Int) + 1)) + 1)) * 4294967296)))||(sndF (fitE (mulE (sndV (fitE (mulE (sndV (NB.v (sinT y x))) (sndV (wrapT (sndV v)))))) (sndV (wrapT (sndV v))))) (fitG (mulE (sndV (fitE (mulE (sndV (NB.v (sinT y x))) (sndV (wrapT (sndV v)))))) (sndV (wrapT (sndV v)))) (sndF (fitE (mulE (sndV (NB.v (sinT y x))) (sndV (wrapT (sndV v))))) (fitG (mulE (sndV (NB.v (sinT y x))) (sndV (wrapT (sndV v)))) (sndF (NB.v (sinT y x)) (NB.f (sinT y x))||sndF (wrapT (sndV v)) (sndF v f)))||sndF (wrapT (sndV v)) (sndF v f)))||sndF (fitE (IntKind.wrap IntKind.i64 (IntKind.wrap IntKind.i64 (2 * IntKind.wrap IntKind.i64 ((↑x : Int) + 1)) * IntKind.wrap IntKind.i64 (IntKind.wrap IntKind.i64 (2 * IntKind.wrap IntKind.i64 ((↑x : Int) + 1)) + 1)) * 4294967296)) (fitG (IntKind.wrap IntKind.i64 (IntKind.wrap IntKind.i64 (2 * IntKind.wrap IntKind.i64 ((↑x : Int) + 1)) * IntKind.wrap IntKind.i64 (IntKind.wrap IntKind.i64 (2 * IntKind.wrap IntKind.i64 ((↑x : Int) + 1)) + 1)) * 4294967296) false))))))] = [(SV.v (.int .i64 (NB.v (sinT y x')))),(SV.v (.bool (NB.f (sinT y x'))))])))))∧(((1 : Nat) = 1)∧(((1 : Nat) ≤ 1)∧(∀ i : Nat,(((i : Nat) < 1)→([(SV.v (.int .i64 (fitE (sndV (NB.v (sinU y x)) + sndV (-sndV (ratV (sndV (fitE (mulE (sndV (fitE (mulE (sndV (NB.v (sinT y x))) (sndV (wrapT (sndV v)))))) (sndV (wrapT (sndV v)))))) (sndV (fitE (IntKind.wrap IntKind.i64 (IntKind.wrap IntKind.i64 (2 * IntKind.wrap IntKind.i64 ((↑x : Int) + 1)) * IntKind.wrap IntKind.i64 (IntKind.wrap IntKind.i64 (2 * IntKind.wrap IntKind.i64 ((↑x : Int) + 1)) + 1)) * 4294967296))))))))),(SV.v (.bool (fitG (sndV (NB.v (sinU y x)) + sndV (-sndV (ratV (sndV (fitE (mulE (sndV (fitE (mulE (sndV (NB.v (sinT y x))) (sndV (wrapT (sndV v)))))) (sndV (wrapT (sndV v)))))) (sndV (fitE (IntKind.wrap IntKind.i64 (IntKind.wrap IntKind.i64 (2 * IntKind.wrap IntKind.i64 ((↑x : Int) + 1)) * IntKind.wrap IntKind.i64 (IntKind.wrap IntKind.i64 (2 * IntKind.wrap IntKind.i64 ((↑x : Int) + 1)) + 1)) * 4294967296)))))) (sndF (NB.v (sinU y x)) (NB.f (sinU y x))||sndF (-sndV (ratV (sndV (fitE (mulE (sndV (fitE (mulE (sndV (NB.v (sinT y x))) (sndV (wrapT (sndV v)))))) (sndV (wrapT (sndV v)))))) (sndV (fitE (IntKind.wrap IntKind.i64 (IntKind.wrap IntKind.i64 (2 * IntKind.wrap IntKind.i64 ((↑x : Int) + 1)) * IntKind.wrap IntKind.i64 (IntKind.wrap IntKind.i64 (2 * IntKind.wrap IntKind.i64 ((↑x : Int) + 1)) + 1)) * 4294967296))))) (sndF (ratV (sndV (fitE (mulE (sndV (fitE (mulE (sndV (NB.v (sinT y x))) (sndV (wrapT (sndV v)))))) (sndV (wrapT (sndV v)))))) (sndV (fitE (IntKind.wrap IntKind.i64 (IntKind.wrap IntKind.i64 (2 * IntKind.wrap IntKind.i64 ((↑x : Int) + 1)) * IntKind.wrap IntKind.i64 (IntKind.wrap IntKind.i64 (2 * IntKind.wrap IntKind.i64 ((↑x : Int) + 1)) + 1)) * 4294967296)))) (ratF (sndV (fitE (mulE (sndV (fitE (mulE (sndV (NB.v (sinT y x))) (sndV (wrapT (sndV v)))))) (sndV (wrapT (sndV v)))))) (sndV (fitE (IntKind.wrap IntKind.i64 (IntKind.wrap IntKind.i64 (2 * IntKind.wrap IntKind.i64 ((↑x : Int) + 1)) * IntKind.wrap IntKind.i64 (IntKind.wrap IntKind.i64 (2 * IntKind.wrap IntKind.i64 ((↑x : Int) + 1)) + 1)) * 4294967296)))||(sndF (fitE (mulE (sndV (fitE (mulE (sndV (NB.v (sinT y x))) (sndV (wrapT (sndV v)))))) (sndV (wrapT (sndV v))))) (fitG (mulE (sndV (fitE (mulE (sndV (NB.v (sinT y x))) (sndV (wrapT (sndV v)))))) (sndV (wrapT (sndV v)))) (sndF (fitE (mulE (sndV (NB.v (sinT y x))) (sndV (wrapT (sndV v))))) (fitG (mulE (sndV (NB.v (sinT y x))) (sndV (wrapT (sndV v)))) (sndF (NB.v (sinT y x)) (NB.f (sinT y x))||sndF (wrapT (sndV v)) (sndF v f)))||sndF (wrapT (sndV v)) (sndF v f)))||sndF (fitE (IntKind.wrap IntKind.i64 (IntKind.wrap IntKind.i64 (2 * IntKind.wrap IntKind.i64 ((↑x : Int) + 1)) * IntKind.wrap IntKind.i64 (IntKind.wrap IntKind.i64 (2 * IntKind.wrap IntKind.i64 ((↑x : Int) + 1)) + 1)) * 4294967296)) (fitG (IntKind.wrap IntKind.i64 (IntKind.wrap IntKind.i64 (2 * IntKind.wrap IntKind.i64 ((↑x : Int) + 1)) * IntKind.wrap IntKind.i64 (IntKind.wrap IntKind.i64 (2 * IntKind.wrap IntKind.i64 ((↑x : Int) + 1)) + 1)) * 4294967296) false))))))))] = [(SV.v (.int .i64 (NB.v (sinU y x')))),(SV.v (.bool (NB.f (sinU y x'))))]))))))))∧(((8 - x') : Nat) < (8 - x)))))))))) ((I64 (-1))∧((I64 1)∧(((I64 (NB.v (sinU y x)))∧((I64 (-4294967296))∧(I64 4294967296)))∧(R (SV.agg [(SV.v (.int .i64 (maxE (-4294967296) (minE (sndV (NB.v (sinU y x))) 4294967296)))),(SV.v (.bool (false||(sndF (NB.v (sinU y x)) (NB.f (sinU y x))||false))))])))))))))))):=by kernel_rfl
def ΓS1 : Ctrs := addCtr (addCtr ΓS0 27 (pureCtr sOfN)) 11 (pureCtr sSin)
theorem vcCos (v : Int) (f : Bool) (R : SV→Prop) : (vcPure Try.prog ΓS1 noΛ Try.f10 [numS v f] R) = ((I64 v)∧(((I64 (wrapT (sndV v)))∧(I64 6746518852))∧((I64 (fitE (sndV (wrapT (sndV v)) + 6746518852)))∧(R (SV.agg [(SV.v (.int .i64 (NB.v (sinN {v:=fitE (sndV (wrapT (sndV v)) + 6746518852),f:=fitG (sndV (wrapT (sndV v)) + 6746518852) (sndF (wrapT (sndV v)) (sndF v f)||false)})))),(SV.v (.bool (NB.f (sinN {v:=fitE (sndV (wrapT (sndV v)) + 6746518852),f:=fitG (sndV (wrapT (sndV v)) + 6746518852) (sndF (wrapT (sndV v)) (sndF v f)||false)}))))]))))):=by kernel_rfl
theorem den_wrap {k : Nat} (h : k ≤ 8) : IntKind.i64.wrap (IntKind.i64.wrap (2 * ((k : Int) + 1)) * IntKind.i64.wrap (IntKind.i64.wrap (2 * ((k : Int) + 1)) + 1)) = (2 * ((k : Int) + 1)) * (2 * ((k : Int) + 1) + 1) := by
  rw [wrap_i64 (n := 2 * ((k : Int) + 1)) ⟨by omega, by omega⟩, wrap_i64 (n := 2 * ((k : Int) + 1) + 1) ⟨by omega, by omega⟩]
  have h1 := Int.mul_le_mul (a := 2 * ((k : Int) + 1)) (b := 2 * ((k : Int) + 1) + 1) (c := 18) (d := 19) (by omega) (by omega) (by omega) (by decide)
  have h0 := Int.mul_nonneg (a := 2 * ((k : Int) + 1)) (b := 2 * ((k : Int) + 1) + 1) (by omega) (by omega)
  exact wrap_i64 ⟨by omega, by omega⟩
theorem den_i64 {k : Nat} (h : k ≤ 8) : I64 ((2 * ((k : Int) + 1)) * (2 * ((k : Int) + 1) + 1)) := by
  have h1 := Int.mul_le_mul (a := 2 * ((k : Int) + 1)) (b := 2 * ((k : Int) + 1) + 1) (c := 18) (d := 19) (by omega) (by omega) (by omega) (by decide)
  have h0 := Int.mul_nonneg (a := 2 * ((k : Int) + 1)) (b := 2 * ((k : Int) + 1) + 1) (by omega) (by omega)
  exact ⟨by omega, by omega⟩
theorem ΓS0_ok : ∀ f g, ΓS0 f = some g → g.ok Try.prog f := addCtr_ok (addCtr_ok (addCtr_ok (addCtr_ok (addCtr_ok (addCtr_ok (addCtr_ok ΓC_ok (pure_ok Try.func26 (by kernel_rfl) (by kernel_rfl) Wrap_spec)) (pure_ok Try.func30 (by kernel_rfl) (by kernel_rfl) Mul_spec)) (pure_ok Try.func31 (by kernel_rfl) (by kernel_rfl) Int_spec)) (pure_ok Try.func29 (by kernel_rfl) (by kernel_rfl) Div_spec)) (pure_ok Try.func28 (by kernel_rfl) (by kernel_rfl) Neg_spec)) (pure_ok Try.func25 (by kernel_rfl) (by kernel_rfl) Add_spec)) (pure_ok Try.func32 (by kernel_rfl) (by kernel_rfl) Clamp_spec)
theorem Sin_spec : PureSpec Try.prog 11 sSin := vc_spec hm ΓS0_ok Try.func11 (Λ := fun args => match args with | [.agg [.v (.int .i64 v), .v (.bool f)]] => ΛSin (sinY ⟨v, f⟩) | _ => noΛ) fun args p x h hp => by
  unfold sSin at h
  split at h <;> try (cases h; done)
  rename_i v f
  cases h
  have h1 : I64 v := hp _ rfl
  refine ⟨rfl, rfl, ?_⟩
  refine Eq.mpr (vcSin (sinY ⟨v, f⟩) v f _) ?_
  have hN : sinN ⟨v, f⟩ = ⟨maxE (-4294967296) (minE (sndV (sinU (sinY ⟨v, f⟩) 8).v) 4294967296), false || (sndF (sinU (sinY ⟨v, f⟩) 8).v (sinU (sinY ⟨v, f⟩) 8).f || false)⟩ := rfl
  rw [hN]
  have hs := sinY_sd ⟨v, f⟩
  have hw := wrapT_in (v := sndV v)
  have hy : (sinY ⟨v, f⟩).v = foldT (wrapT (sndV v)) := rfl
  have hf : (sinY ⟨v, f⟩).f = sndF v f := rfl
  generalize sinY ⟨v, f⟩ = y at *
  have y0 : [SV.v (Value.int .i64 y.v), SV.v (Value.bool y.f)] = [SV.v (Value.int .i64 (sinT y 0).v), SV.v (Value.bool (sinT y 0).f)] := rfl
  rw [← hf]
  unfold foldT at hy
  refine ⟨h1, sel_of (fun g => ?_) fun g => sel_of (fun g' => ?_) fun g' => ?_⟩
  · have g := of_decide_eq_true g
    rw [if_pos g] at hy
    rw [wrap_i64 ⟨by omega, by omega⟩, ← hy]
    refine ⟨⟨0, Nat.zero_le _, rfl, ⟨rfl, Nat.le_refl _, fun i _ => y0⟩, rfl, Nat.le_refl _, fun i _ => y0⟩, fun k hk => ?_⟩
    have hk : k ≤ 8 := hk
    have st := sinT_sd hs k
    have su := sinU_sd hs k
    refine sel_of (fun gk => ?_) fun gk => ?_
    · have gk := of_decide_eq_true gk
      have e1 : IntKind.i64.wrap ((k : Int) + 1) = (k : Int) + 1 := wrap_i64 ⟨by omega, by omega⟩
      rw [e1, den_wrap hk]
      refine ⟨⟨st.i64, hs.i64⟩, ⟨(fitE_sd _).i64, hs.i64⟩, den_i64 hk, ⟨(fitE_sd _).i64, (fitE_sd _).i64⟩, (ratV_sd _ _).i64, ⟨su.i64, (sinT_sd hs (k + 1)).i64⟩, k + 1, ⟨by show k + 1 ≤ 8; omega, int_mk (by omega), ⟨rfl, Nat.le_refl _, fun i _ => ?_⟩, rfl, Nat.le_refl _, fun i _ => ?_⟩, by show 8 - (k + 1) < 8 - k; omega⟩ <;> simp only [sinT, sinU, sinStep, negN, divN, mulN, addN, intN, fitN]
    · have gk := of_decide_eq_false gk
      obtain rfl : k = 8 := by omega
      exact ⟨⟨by decide, by decide⟩, ⟨by decide, by decide⟩, ⟨su.i64, ⟨by decide, by decide⟩, ⟨by decide, by decide⟩⟩, rfl⟩
  · have g := of_decide_eq_false g
    have g' := of_decide_eq_true g'
    rw [if_neg g, if_pos g'] at hy
    rw [wrap_i64 ⟨by omega, by omega⟩, ← hy]
    refine ⟨⟨0, Nat.zero_le _, rfl, ⟨rfl, Nat.le_refl _, fun i _ => y0⟩, rfl, Nat.le_refl _, fun i _ => y0⟩, fun k hk => ?_⟩
    have hk : k ≤ 8 := hk
    have st := sinT_sd hs k
    have su := sinU_sd hs k
    refine sel_of (fun gk => ?_) fun gk => ?_
    · have gk := of_decide_eq_true gk
      have e1 : IntKind.i64.wrap ((k : Int) + 1) = (k : Int) + 1 := wrap_i64 ⟨by omega, by omega⟩
      rw [e1, den_wrap hk]
      refine ⟨⟨st.i64, hs.i64⟩, ⟨(fitE_sd _).i64, hs.i64⟩, den_i64 hk, ⟨(fitE_sd _).i64, (fitE_sd _).i64⟩, (ratV_sd _ _).i64, ⟨su.i64, (sinT_sd hs (k + 1)).i64⟩, k + 1, ⟨by show k + 1 ≤ 8; omega, int_mk (by omega), ⟨rfl, Nat.le_refl _, fun i _ => ?_⟩, rfl, Nat.le_refl _, fun i _ => ?_⟩, by show 8 - (k + 1) < 8 - k; omega⟩ <;> simp only [sinT, sinU, sinStep, negN, divN, mulN, addN, intN, fitN]
    · have gk := of_decide_eq_false gk
      obtain rfl : k = 8 := by omega
      exact ⟨⟨by decide, by decide⟩, ⟨by decide, by decide⟩, ⟨su.i64, ⟨by decide, by decide⟩, ⟨by decide, by decide⟩⟩, rfl⟩
  · have g := of_decide_eq_false g
    have g' := of_decide_eq_false g'
    rw [if_neg g, if_neg g'] at hy
    rw [← hy]
    refine ⟨⟨0, Nat.zero_le _, rfl, ⟨rfl, Nat.le_refl _, fun i _ => y0⟩, rfl, Nat.le_refl _, fun i _ => y0⟩, fun k hk => ?_⟩
    have hk : k ≤ 8 := hk
    have st := sinT_sd hs k
    have su := sinU_sd hs k
    refine sel_of (fun gk => ?_) fun gk => ?_
    · have gk := of_decide_eq_true gk
      have e1 : IntKind.i64.wrap ((k : Int) + 1) = (k : Int) + 1 := wrap_i64 ⟨by omega, by omega⟩
      rw [e1, den_wrap hk]
      refine ⟨⟨st.i64, hs.i64⟩, ⟨(fitE_sd _).i64, hs.i64⟩, den_i64 hk, ⟨(fitE_sd _).i64, (fitE_sd _).i64⟩, (ratV_sd _ _).i64, ⟨su.i64, (sinT_sd hs (k + 1)).i64⟩, k + 1, ⟨by show k + 1 ≤ 8; omega, int_mk (by omega), ⟨rfl, Nat.le_refl _, fun i _ => ?_⟩, rfl, Nat.le_refl _, fun i _ => ?_⟩, by show 8 - (k + 1) < 8 - k; omega⟩ <;> simp only [sinT, sinU, sinStep, negN, divN, mulN, addN, intN, fitN]
    · have gk := of_decide_eq_false gk
      obtain rfl : k = 8 := by omega
      exact ⟨⟨by decide, by decide⟩, ⟨by decide, by decide⟩, ⟨su.i64, ⟨by decide, by decide⟩, ⟨by decide, by decide⟩⟩, rfl⟩
theorem ΓS1_ok : ∀ f g, ΓS1 f = some g → g.ok Try.prog f := addCtr_ok (addCtr_ok ΓS0_ok (pure_ok Try.func27 (by kernel_rfl) (by kernel_rfl) Of2_spec)) (pure_ok Try.func11 (by kernel_rfl) (by kernel_rfl) Sin_spec)
theorem Cos_spec : PureSpec Try.prog 10 sCos := vc_spec hm ΓS1_ok Try.func10 (Λ := fun _ => noΛ) fun args p x h hp => by
  unfold sCos at h
  split at h <;> try (cases h; done)
  rename_i v f
  cases h
  have h1 : I64 v := hp _ rfl
  refine ⟨rfl, rfl, ?_⟩
  refine Eq.mpr (vcCos v f _) ?_
  have hw := wrapT_in (v := sndV v)
  exact ⟨h1, ⟨⟨by omega, by omega⟩, by decide, by decide⟩, (fitE_sd _).i64, rfl⟩
end Go.Proofs.Ytlcfnlhognegcaa
end
section
namespace Go.Proofs.Ytlcfnlhognegcaa
open Go.SE Go.RowKit
structure VB where
  x : NB
  y : NB
def vS (a : VB) : SV := .agg [.v (.int .i64 a.x.v), .v (.bool a.x.f), .v (.int .i64 a.y.v), .v (.bool a.y.f)]
def i1B (f : Int → NB) : List SV → Option (Option Prop × SV)
  | [.v (.int .i64 v)] => some (some (I64 v), nS (f v))
  | _ => none
def i2B (f : Int → Int → NB) : List SV → Option (Option Prop × SV)
  | [.v (.int .i64 a), .v (.int .i64 b)] => some (some (I64 a ∧ I64 b), nS (f a b))
  | _ => none
def n1B (f : NB → NB) : List SV → Option (Option Prop × SV)
  | [.agg [.v (.int .i64 v), .v (.bool f1)]] => some (some (I64 v), nS (f ⟨v, f1⟩))
  | _ => none
def n2B (f : NB → NB → NB) : List SV → Option (Option Prop × SV)
  | [.agg [.v (.int .i64 v), .v (.bool f1)], .agg [.v (.int .i64 u), .v (.bool f2)]] => some (some (I64 v ∧ I64 u), nS (f ⟨v, f1⟩ ⟨u, f2⟩))
  | _ => none
end Go.Proofs.Ytlcfnlhognegcaa
end
