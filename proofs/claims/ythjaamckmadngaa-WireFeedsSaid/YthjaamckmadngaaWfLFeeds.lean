/-
  WireFeeds answers true, whatever the input. No condition.
-/
import Derived.Test.YthjaamckmadngaaZq14


set_option maxRecDepth 100000
set_option linter.unusedVariables false
namespace Go.Proofs.Ythjaamckmadngaa
open Go.ChangeShapes Go.WideShapes Go.ChangeAt Go.RowKit Go.SE

section
variable {H : Type} {enc : TypeId × Value → H}
/-- A law's frame, at the arguments given. -/
theorem law_frame1 {f : FuncId} {fn : Func} {s : ChangeSpec} {apart fresh handsOn : Bool} (hn : s.vars = []) (hr : fn.resultTypes = #[4])
    (hts : (fn.params.toList.all fun t => Try.prog.readableRec t && decide (t < Try.prog.types.size)) = true)
    (hspec : ∀ ds : List (DataW H), ds.length = fn.params.size → s.fn H ds = { results := [.lit (.bool true)], args := ds })
    (W : World) (args : Array Value) (ds gs : List (DataW H)) (before : List MemPlace)
    (hc : ∀ ps, DataW.TrodAll enc Try.prog W 0 (fun _ => true) true fn.params.toList args.toList ds ps → Calls Try.prog f args W fun e W' => e = .returned (.bool true) ∧ Below W.heap.size W W')
    (hW : DataW.Whole enc Try.prog fn.params.toList s.vars apart W args.toList ds gs before) :
    Calls Try.prog f args W fun e W' => ∃ v, e = .returned v ∧ s.post enc Try.prog fn apart fresh handsOn false W args v W' := by
  have hW' := hW
  obtain ⟨p, q, hA, hV, rfl, hfz, hnd⟩ := hW
  rw [hn] at hV
  obtain ⟨rfl, rfl⟩ := trodVars_none hV
  have hlen : ds.length = fn.params.size := by rw [trodAll_len hA, Array.length_toList]
  have hlt : ∀ x ∈ p, x.block < W.heap.size := fun x hx => by simpa using hW'.lt x (by simpa using hx)
  refine (hc p hA).mono fun e W' ⟨he, hb⟩ => ⟨.bool true, he, ds, [], p ++ [], [], p, [], hW', ?_, ?_, ?_, hb.frame _, fun h => by cases h⟩
  · rw [hr, List.append_nil, hspec ds hlen]
    exact trodAll_mk1 (shut_bool Try.underlying4 true)
  · rw [List.append_nil, hspec ds hlen]
    refine trodAll_below Try.laidOut hb (fun t ht => ?_) hA hlt
    have := List.all_eq_true.1 hts t ht
    simp only [Bool.and_eq_true, decide_eq_true_eq] at this
    exact this
  · rw [hn, List.append_nil, hspec ds hlen]
    exact rfl
end

theorem feeds_calls {W : World} {v : Value} {n c : Nat} {a1 : Int} (h1 : I64 a1) {Ln Cn : Nat → Nat} {Gn : Nat → Nat → Int} {l : SE.Loc} {L : Nat → SE.Loc} (hn : n ≤ 9223372036854775807)
    (hL : ∀ j, Ln (j + 4096) ≤ 140737488355328 ∧ bytesIn (Ln (j + 4096)) (Gn (j + 4096)))
    (hd : ∀ δ : Dict, δ 0 = some l → (∀ j, δ (j + 4096) = some (L j)) → absV δ (.sl 0 1 0 n c) v ∧ Live δ (nsB n Ln Cn) W l ∧ ∀ j, Live δ (pcB Ln Gn (j + 4096)) W (L j)) :
    Calls Try.prog 3 #[v, .int .i64 a1] W fun e W' => e = .returned (.bool true) ∧ Below W.heap.size W W' := by
  let δ : Dict := fun k => bif Nat.beq k 0 then some l else bif Nat.blt k 4096 then none else some (L (k - 4096))
  have e0 : δ 0 = some l := rfl
  have bl : ∀ j, Nat.blt (j + 4096) 4096 = false := fun j => Bool.eq_false_iff.2 fun h => by rw [blt_iff] at h; omega
  have ej : ∀ j, δ (j + 4096) = some (L j) := fun j => by
    show (bif Nat.beq (j + 4096) 0 then some l else bif Nat.blt (j + 4096) 4096 then none else some (L (j + 4096 - 4096))) = _
    rw [bl j, Nat.add_sub_cancel]
    rfl
  obtain ⟨hv, hl0, hlj⟩ := hd δ e0 ej
  have hh : ∀ k b, nsH n Ln Cn Gn k = some b → (k = 0 ∧ b = nsB n Ln Cn) ∨ ∃ j, k = j + 4096 ∧ b = pcB Ln Gn (j + 4096) := fun k b hb => by
    unfold nsH at hb
    cases hk : Nat.beq k 0 with
    | true =>
      rw [hk] at hb
      exact Or.inl ⟨Nat.eq_of_beq_eq_true hk, (Option.some.inj hb).symm⟩
    | false =>
      rw [hk, cond_false] at hb
      cases hk2 : Nat.blt k 4096 with
      | true => rw [hk2] at hb; cases hb
      | false =>
        rw [hk2, cond_false] at hb
        have : ¬ k < 4096 := fun h => by rw [(blt_iff _ _).2 h] at hk2; cases hk2
        exact Or.inr ⟨k - 4096, by omega, by rw [show k - 4096 + 4096 = k by omega]; exact (Option.some.inj hb).symm⟩
  have hnw : ∀ k b, nsH n Ln Cn Gn k = some b → b.rw = true → False := fun k b hb hw => by
    rcases hh k b hb with ⟨_, rfl⟩ | ⟨j, _, rfl⟩ <;> cases hw
  refine (fn_calls hm ΓFd_ok Try.func3 (δ := δ) (vals := [v, .int .i64 a1]) (by simp only [absL]; exact ⟨hv, (absV_plain _ _ rfl).2 rfl, trivial⟩) ⟨fun k b hb => ?_, fun k k' r b _ _ hb hw => (hnw k b hb hw).elim⟩ (fun k hk => ?_) (feeds_vc c hn hL)).mono fun e W' ⟨r, x, δ', h', he, hR, hx, _, _, hrel, _⟩ => ?_
  · rcases hh k b hb with ⟨rfl, rfl⟩ | ⟨j, rfl, rfl⟩
    · exact ⟨l, e0, fun _ => hl0⟩
    · exact ⟨L j, ej j, fun _ => hlj j⟩
  · show (bif Nat.beq k 0 then some l else bif Nat.blt k 4096 then none else some (L (k - 4096))) = none
    unfold nsH at hk
    cases h0 : Nat.beq k 0 with
    | true => rw [h0] at hk; cases hk
    | false =>
      rw [h0, cond_false] at hk
      rw [cond_false]
      cases h2 : Nat.blt k 4096 with
      | true => rfl
      | false => rw [h2] at hk; cases hk
  · subst hR
    have hx : absV δ' (.v (.bool true)) r := hx
    simp only [absV] at hx
    subst hx
    exact ⟨he, hrel.os, hrel.tape, hrel.output, hrel.size, fun k hk => hrel.block k hk (by
      rintro ⟨k', b, hb, hw, _⟩
      exact hnw k' b hb hw)⟩

theorem wireFeeds_lifted (os : Os) (started : os.Started) (H : Type) (enc : TypeId × Value → H) :
    ReturnsInHanded {} Try.checked os 3 .any (Rows.wireFeedsSpec.pre6 enc Try.prog Try.f3 Rows.wireFeedsRow.domain false) (Rows.wireFeedsSpec.post enc Try.prog Try.f3 false true false false) := by
  refine returnsInHanded_of_change_shaped (C := Try.checked) Try.own started (by kernel_rfl) Try.func3
    (ChangeSpec.witness6 (enc := enc) (C := Try.checked) false ⟨#[], #[.slice none 0 0, .int .i64 0], []⟩ 8 (by kernel_rfl) (by kernel_rfl) (by kernel_rfl) (by kernel_rfl)) ?_
  intro W base args ds gs before hval hW _ hz _ _
  refine law_frame1 rfl rfl (by kernel_rfl) (fun ds hl => ?_) W args ds gs before (fun ps hA => ?_) hW
  · match ds, hl with
    | [_, _], _ => rfl
  · have hA0 : DataW.TrodAll enc Try.prog W 0 (fun _ => true) true [22, 3] args.toList ds ps := hA
    obtain ⟨vs⟩ := args
    obtain ⟨v0, vs, d0, _, p0, _, rfl, rfl, rfl, k0, hA0⟩ := trodAll_cons hA0
    obtain ⟨v1, vs, d1, _, p1, _, rfl, rfl, rfl, k1, hA0⟩ := trodAll_cons hA0
    obtain ⟨rfl, rfl, rfl⟩ := trodAll_nil hA0
    have hw : ∀ w ∈ d0.weights Try.prog 22, w ≤ reachBytes := fun w hw => by
      have := List.all_eq_true.1 hz w (DataW.weights_mem_each (j := 0) (t := 22) (d := d0) rfl rfl w hw)
      simpa using this
    obtain ⟨a1, rfl, h1⟩ := int_open (by kernel_rfl) (hval 1 3 _ rfl rfl) k1
    obtain ⟨n, c, Ln, Cn, Gn, l, L, hn, hL, hd⟩ := pieces_open (hval 0 22 _ rfl rfl) k0 hw
    exact feeds_calls h1 hn hL hd

theorem wireFeeds_holds : Rows.WireFeedsSaid :=
  OpenClaim.holds_of_wide 3 Try.f3 rfl rfl rfl rfl rfl rfl rfl ⟨rfl, rfl, rfl, rfl, rfl⟩ rfl rfl rfl rfl rfl (by kernel_rfl) Try.func3 (by kernel_rfl)
    (of_decide_eq_true (by kernel_rfl)) (by unfold Func.isWrapper; rw [if_neg (by decide +kernel)]; exact ⟨rfl, rfl⟩)
    (fun os started H enc _ => wireFeeds_lifted os started H enc)

#print axioms wireFeeds_holds
end Go.Proofs.Ythjaamckmadngaa
