/-
  What the proof uses, part 14.
-/
import Derived.Test.YtjdldadmaaeimaaZa13

section
section
set_option maxRecDepth 100000
set_option linter.unusedSimpArgs false
set_option linter.unusedVariables false
namespace Go.Proofs.Ytjdldadmaaeimaa
open Go.SE Go.RowKit

def aI : At := ⟨8, fun _ => false, 4⟩
def aC : At := ⟨4, fun v => decide (2147483647 < v), 4⟩
def aV : At := ⟨8, fun v => decide (1099511627776 < v), 4⟩
def aF : At := ⟨1, fun v => decide (1 < v), 4⟩
def aS : At := ⟨1, fun v => decide (255 < v), 4⟩
def aN : At := ⟨1, fun v => decide (8 < v), 4⟩
def aM : At := ⟨8, fun v => IntKind.i64.wrap v == -9223372036854775808, 4⟩
def aKd (low : Int) : At := ⟨1, fun v => !(decide (low ≤ v) && decide (v ≤ 10)), 8⟩
def flN (b : Bool) : Int := bif b then 1 else 0
def spA : Nat → List At
  | 0 => []
  | n + 1 => spA n ++ [aI, aI]
def spVs (g : Nat → Int × Int) : Nat → List Int
  | 0 => []
  | n + 1 => spVs g n ++ [(g n).1 % 18446744073709551616, (g n).2 % 18446744073709551616]
def at1 (n : Nat) : List At := [aS, aI, aI, aI, aN] ++ (spA n ++ [aM, aF, aM, aF, aM, aF, aM, aF, aM, aF, aM, aF, aM, aF, aI, aF])
def vs1 (c : CV) (n : Nat) (g : Nat → Int × Int) : List Int := [c.sk, c.sr % 18446744073709551616, c.sw % 18446744073709551616, c.sh % 18446744073709551616, (n : Int)] ++ (spVs g n ++ [c.p0v % 18446744073709551616, flN c.p0f, c.p1v % 18446744073709551616, flN c.p1f, c.p2v % 18446744073709551616, flN c.p2f, c.p3v % 18446744073709551616, flN c.p3f, c.v0v % 18446744073709551616, flN c.v0f, c.v1v % 18446744073709551616, flN c.v1f, c.w0v % 18446744073709551616, flN c.w0f, c.dn % 18446744073709551616, flN c.mv])
def at2 (n : Nat) : List At := [aC, aC, aV]
def vs2 (c : CV) (n : Nat) (g : Nat → Int × Int) : List Int := [c.bs % 4294967296, c.bg % 4294967296, c.ver % 18446744073709551616]
def at3 (n : Nat) : List At := [aC, aC, aV, aM, aF, aM, aF, aM, aF, aM, aF]
def vs3 (c : CV) (n : Nat) (g : Nat → Int × Int) : List Int := [c.bs % 4294967296, c.bg % 4294967296, c.ver % 18446744073709551616, c.a0v % 18446744073709551616, flN c.a0f, c.a1v % 18446744073709551616, flN c.a1f, c.t0v % 18446744073709551616, flN c.t0f, c.t1v % 18446744073709551616, flN c.t1f]
def at4 (n : Nat) : List At := [aC, aC, aV, aM, aF, aM, aF]
def vs4 (c : CV) (n : Nat) (g : Nat → Int × Int) : List Int := [c.bs % 4294967296, c.bg % 4294967296, c.ver % 18446744073709551616, c.a0v % 18446744073709551616, flN c.a0f, c.a1v % 18446744073709551616, flN c.a1f]
def at5 (n : Nat) : List At := [aC, aM, aF, aM, aF]
def vs5 (c : CV) (n : Nat) (g : Nat → Int × Int) : List Int := [c.gr % 4294967296, c.t0v % 18446744073709551616, flN c.t0f, c.t1v % 18446744073709551616, flN c.t1f]
def at6 (n : Nat) : List At := [aC]
def vs6 (c : CV) (n : Nat) (g : Nat → Int × Int) : List Int := [c.gr % 4294967296]
def at7 (n : Nat) : List At := [aC, aC]
def vs7 (c : CV) (n : Nat) (g : Nat → Int × Int) : List Int := [c.bs % 4294967296, c.bg % 4294967296]
def at8 (n : Nat) : List At := [aI, aI, aI, aI]
def vs8 (c : CV) (n : Nat) (g : Nat → Int × Int) : List Int := [c.b0 % 18446744073709551616, c.b1 % 18446744073709551616, c.b2 % 18446744073709551616, c.b3 % 18446744073709551616]
def at9 (n : Nat) : List At := [aI, aI, aI, aI]
def vs9 (c : CV) (n : Nat) (g : Nat → Int × Int) : List Int := [c.f0 % 18446744073709551616, c.f1 % 18446744073709551616, c.u0 % 18446744073709551616, c.u1 % 18446744073709551616]
def at10 (n : Nat) : List At := []
def vs10 (c : CV) (n : Nat) (g : Nat → Int × Int) : List Int := []
def atK (k : Int) (n : Nat) : List At := bif k == 1 then at1 n else (bif k == 2 then at2 n else (bif k == 3 then at3 n else (bif k == 4 then at4 n else (bif k == 5 then at5 n else (bif k == 6 then at6 n else (bif k == 7 then at7 n else (bif k == 8 then at8 n else (bif k == 9 then at9 n else (at10 n)))))))))
def vsK (k : Int) (c : CV) (n : Nat) (g : Nat → Int × Int) : List Int := bif k == 1 then vs1 c n g else (bif k == 2 then vs2 c n g else (bif k == 3 then vs3 c n g else (bif k == 4 then vs4 c n g else (bif k == 5 then vs5 c n g else (bif k == 6 then vs6 c n g else (bif k == 7 then vs7 c n g else (bif k == 8 then vs8 c n g else (bif k == 9 then vs9 c n g else (vs10 c n g)))))))))
def atC (k : Int) (n : Nat) : List At := aKd 1 :: aC :: atK k n
def vsC (k : Int) (c : CV) (n : Nat) (g : Nat → Int × Int) : List Int := k :: c.id % 4294967296 :: vsK k c n g
theorem be1 (v : Int) : be v 1 = [v % 256] := by rw [be_snoc]; rfl
theorem flN_be (f : Bool) : flB f = be (flN f) 1 := by rw [be1]; cases f <;> rfl
theorem spt_run {s : ByteArray} {k : Int} : ∀ {n : Nat} {F : Int → Pz}, (sptP s k n).seq (F (k + 16 * (n : Int))) = runA s F k (spA n)
  | 0, F => by
    rw [show k + 16 * ((0 : Nat) : Int) = k by omega]
    rfl
  | n + 1, F => by
    simp only [sptP, spA]
    rw [seq_assoc, runA_app, ← spt_run (n := n) (F := fun k' => runA s F k' [aI, aI])]
    show _ = (sptP s k n).seq ((tkP s (k + 16 * (n : Int)) 8).seq ((tkP s (k + 16 * (n : Int) + 8) 8).seq (F (k + 16 * (n : Int) + 8 + 8))))
    unfold spP
    rw [seq_assoc, show k + 16 * ((n + 1 : Nat) : Int) = k + 16 * (n : Int) + 8 + 8 by omega]
theorem sh_run {s : ByteArray} {k : Int} {F : Int → Pz} : (shP s k).seq (F (shEnd s k)) = runA s F k ([aS, aI, aI, aI, aN] ++ spA (shC s k)) := by
  rw [runA_app]
  unfold shP upP
  simp only [seq_assoc]
  unfold shEnd
  rw [spt_run (n := shC s k) (F := F)]
  rfl
theorem spA_len : ∀ n : Nat, atL (spA n) = 16 * n
  | 0 => rfl
  | n + 1 => by
    simp only [spA]
    rw [atL_app, spA_len n]
    show 16 * n + 16 = _
    omega
theorem spA_length : ∀ n : Nat, (spA n).length = 2 * n
  | 0 => rfl
  | n + 1 => by simp only [spA, List.length_append, spA_length n, List.length_cons, List.length_nil]; omega
theorem spVs_length (g : Nat → Int × Int) : ∀ n : Nat, (spVs g n).length = 2 * n
  | 0 => rfl
  | n + 1 => by simp only [spVs, List.length_append, spVs_length g n, List.length_cons, List.length_nil]; omega
theorem spots_enc (g : Nat → Int × Int) : ∀ n : Nat, spotsL (fun i => (g i).1) (fun i => (g i).2) n = enc (spA n) (spVs g n)
  | 0 => rfl
  | n + 1 => by
    simp only [spotsL, spA, spVs]
    rw [enc_app (by rw [spVs_length, spA_length]), spots_enc g n]
    simp only [enc, List.append_nil]
    rfl
theorem spots_vok (g : Nat → Int × Int) : ∀ n : Nat, vok (spA n) (spVs g n)
  | 0 => trivial
  | n + 1 => by
    simp only [spA, spVs]
    rw [vok_app (by rw [spVs_length, spA_length])]
    refine ⟨spots_vok g n, ⟨⟨Int.emod_nonneg _ (by decide), Int.emod_lt_of_pos _ (by decide)⟩, rfl⟩, ⟨⟨Int.emod_nonneg _ (by decide), Int.emod_lt_of_pos _ (by decide)⟩, rfl⟩, trivial⟩
theorem wrap_mod {x : Int} (h : I64 x) : IntKind.i64.wrap (x % 18446744073709551616) = x := by
  obtain ⟨h1, h2⟩ := h
  rw [wrap_i64e]
  omega
theorem fC {r x : Int} (h : r = x % 4294967296) (hx : 0 ≤ x ∧ x ≤ 2147483647) : r = x := by omega
theorem fV {r x : Int} (h : r = x % 18446744073709551616) (hx : 0 ≤ x ∧ x ≤ 1099511627776) : r = x := by omega
theorem fI {s : ByteArray} {p x : Int} (h : rdT s p 8 = x % 18446744073709551616) (hx : I64 x) : rdI s p = x := by rw [rdI_eq, h, wrap_mod hx]
theorem fF {s : ByteArray} {p : Int} {f : Bool} (h : rdT s p 1 = flN f) : rdF s p = f := by
  unfold rdF
  rw [h]
  cases f <;> rfl
theorem cP1_run (s : ByteArray) : cP1 s 0 = runA s (enP s) (0 + 1 + 4) (at1 (shC s (0 + 1 + 4))) := by
  have e : ∀ e : Int, (psP s (e)).seq ((vcP s (e + 8 + 1 + 8 + 1 + 8 + 1 + 8 + 1)).seq ((nuP s (e + 8 + 1 + 8 + 1 + 8 + 1 + 8 + 1 + 8 + 1 + 8 + 1)).seq ((tkP s (e + 8 + 1 + 8 + 1 + 8 + 1 + 8 + 1 + 8 + 1 + 8 + 1 + 8 + 1) 8).seq ((upP s (e + 8 + 1 + 8 + 1 + 8 + 1 + 8 + 1 + 8 + 1 + 8 + 1 + 8 + 1 + 8) 1 1).seq (enP s (e + 8 + 1 + 8 + 1 + 8 + 1 + 8 + 1 + 8 + 1 + 8 + 1 + 8 + 1 + 8 + 1)))))) = runA s (enP s) e [aM, aF, aM, aF, aM, aF, aM, aF, aM, aF, aM, aF, aM, aF, aI, aF] := fun e => by
    unfold psP vcP nuP upP
    simp only [seq_assoc, rdI_eq]
    rfl
  unfold cP1 at1
  rw [← List.append_assoc, runA_app, ← sh_run (F := fun e => runA s (enP s) e [aM, aF, aM, aF, aM, aF, aM, aF, aM, aF, aM, aF, aM, aF, aI, aF]), ← e]
theorem cP2_run (s : ByteArray) (n : Nat) : cP2 s 0 = runA s (enP s) (0 + 1 + 4) (at2 n) := by
  unfold cP2 at2
  try unfold haP
  try unfold vcP
  try unfold spP
  try unfold nuP
  try unfold upP
  try simp only [seq_assoc]
  try simp only [rdI_eq]
  rfl
theorem cP3_run (s : ByteArray) (n : Nat) : cP3 s 0 = runA s (enP s) (0 + 1 + 4) (at3 n) := by
  unfold cP3 at3
  try unfold haP
  try unfold vcP
  try unfold spP
  try unfold nuP
  try unfold upP
  try simp only [seq_assoc]
  try simp only [rdI_eq]
  rfl
theorem cP4_run (s : ByteArray) (n : Nat) : cP4 s 0 = runA s (enP s) (0 + 1 + 4) (at4 n) := by
  unfold cP4 at4
  try unfold haP
  try unfold vcP
  try unfold spP
  try unfold nuP
  try unfold upP
  try simp only [seq_assoc]
  try simp only [rdI_eq]
  rfl
theorem cP5_run (s : ByteArray) (n : Nat) : cP5 s 0 = runA s (enP s) (0 + 1 + 4) (at5 n) := by
  unfold cP5 at5
  try unfold haP
  try unfold vcP
  try unfold spP
  try unfold nuP
  try unfold upP
  try simp only [seq_assoc]
  try simp only [rdI_eq]
  rfl
theorem cP6_run (s : ByteArray) (n : Nat) : cP6 s 0 = runA s (enP s) (0 + 1 + 4) (at6 n) := by
  unfold cP6 at6
  try unfold haP
  try unfold vcP
  try unfold spP
  try unfold nuP
  try unfold upP
  try simp only [seq_assoc]
  try simp only [rdI_eq]
  rfl
theorem cP7_run (s : ByteArray) (n : Nat) : cP7 s 0 = runA s (enP s) (0 + 1 + 4) (at7 n) := by
  unfold cP7 at7
  try unfold haP
  try unfold vcP
  try unfold spP
  try unfold nuP
  try unfold upP
  try simp only [seq_assoc]
  try simp only [rdI_eq]
  rfl
theorem cP8_run (s : ByteArray) (n : Nat) : cP8 s 0 = runA s (enP s) (0 + 1 + 4) (at8 n) := by
  unfold cP8 at8
  try unfold haP
  try unfold vcP
  try unfold spP
  try unfold nuP
  try unfold upP
  try simp only [seq_assoc]
  try simp only [rdI_eq]
  rfl
theorem cP9_run (s : ByteArray) (n : Nat) : cP9 s 0 = runA s (enP s) (0 + 1 + 4) (at9 n) := by
  unfold cP9 at9
  try unfold haP
  try unfold vcP
  try unfold spP
  try unfold nuP
  try unfold upP
  try simp only [seq_assoc]
  try simp only [rdI_eq]
  rfl
theorem cP10_run (s : ByteArray) (n : Nat) : cP10 s 0 = runA s (enP s) (0 + 1 + 4) (at10 n) := by
  unfold cP10 at10
  try unfold haP
  try unfold vcP
  try unfold spP
  try unfold nuP
  try unfold upP
  try simp only [seq_assoc]
  try simp only [rdI_eq]
  rfl
theorem caP_run {s : ByteArray} (h1 : 1 ≤ rdT s 0 1) (h2 : rdT s 0 1 ≤ 10) : caP s 0 = runA s (enP s) 0 (atC (rdT s 0 1) (caN s 0)) := by
  have e : caR s 0 = runA s (enP s) (0 + 1 + 4) (atK (rdT s 0 1) (caN s 0)) := by
    have hk : rdT s 0 1 = 1 ∨ rdT s 0 1 = 2 ∨ rdT s 0 1 = 3 ∨ rdT s 0 1 = 4 ∨ rdT s 0 1 = 5 ∨ rdT s 0 1 = 6 ∨ rdT s 0 1 = 7 ∨ rdT s 0 1 = 8 ∨ rdT s 0 1 = 9 ∨ rdT s 0 1 = 10 := by omega
    unfold caR caN atK
    rcases hk with h | h | h | h | h | h | h | h | h | h <;> rw [h]
    · exact cP1_run s
    · exact cP2_run s 0
    · exact cP3_run s 0
    · exact cP4_run s 0
    · exact cP5_run s 0
    · exact cP6_run s 0
    · exact cP7_run s 0
    · exact cP8_run s 0
    · exact cP9_run s 0
    · exact cP10_run s 0
  unfold caP kiP upP atC
  simp only [seq_assoc, runA]
  rw [e]
  rfl
end Go.Proofs.Ytjdldadmaaeimaa
end

section
set_option maxRecDepth 100000
set_option linter.unusedSimpArgs false
set_option linter.unusedVariables false
namespace Go.Proofs.Ytjdldadmaaeimaa
open Go.SE Go.RowKit

theorem caT1_len (c : CV) (n : Nat) (x y : Nat → Int) : (caT1 c n x y).length = caN1 n := by
  unfold caT1 caN1
  first | rfl | (simp only [List.length_append, hLl, i8l, c4l, vLl, aLl, tLl, poLl, shLl, numl, vecl, List.length_cons, List.length_nil, flB_len]; done) | (simp only [List.length_append, hLl, i8l, c4l, vLl, aLl, tLl, poLl, shLl, numl, vecl, List.length_cons, List.length_nil, flB_len]; omega)
theorem caT2_len (c : CV) (n : Nat) (x y : Nat → Int) : (caT2 c n x y).length = caN2 n := by
  unfold caT2 caN2
  first | rfl | (simp only [List.length_append, hLl, i8l, c4l, vLl, aLl, tLl, poLl, shLl, numl, vecl, List.length_cons, List.length_nil, flB_len]; done) | (simp only [List.length_append, hLl, i8l, c4l, vLl, aLl, tLl, poLl, shLl, numl, vecl, List.length_cons, List.length_nil, flB_len]; omega)
theorem caT3_len (c : CV) (n : Nat) (x y : Nat → Int) : (caT3 c n x y).length = caN3 n := by
  unfold caT3 caN3
  first | rfl | (simp only [List.length_append, hLl, i8l, c4l, vLl, aLl, tLl, poLl, shLl, numl, vecl, List.length_cons, List.length_nil, flB_len]; done) | (simp only [List.length_append, hLl, i8l, c4l, vLl, aLl, tLl, poLl, shLl, numl, vecl, List.length_cons, List.length_nil, flB_len]; omega)
theorem caT4_len (c : CV) (n : Nat) (x y : Nat → Int) : (caT4 c n x y).length = caN4 n := by
  unfold caT4 caN4
  first | rfl | (simp only [List.length_append, hLl, i8l, c4l, vLl, aLl, tLl, poLl, shLl, numl, vecl, List.length_cons, List.length_nil, flB_len]; done) | (simp only [List.length_append, hLl, i8l, c4l, vLl, aLl, tLl, poLl, shLl, numl, vecl, List.length_cons, List.length_nil, flB_len]; omega)
theorem caT5_len (c : CV) (n : Nat) (x y : Nat → Int) : (caT5 c n x y).length = caN5 n := by
  unfold caT5 caN5
  first | rfl | (simp only [List.length_append, hLl, i8l, c4l, vLl, aLl, tLl, poLl, shLl, numl, vecl, List.length_cons, List.length_nil, flB_len]; done) | (simp only [List.length_append, hLl, i8l, c4l, vLl, aLl, tLl, poLl, shLl, numl, vecl, List.length_cons, List.length_nil, flB_len]; omega)
theorem caT6_len (c : CV) (n : Nat) (x y : Nat → Int) : (caT6 c n x y).length = caN6 n := by
  unfold caT6 caN6
  first | rfl | (simp only [List.length_append, hLl, i8l, c4l, vLl, aLl, tLl, poLl, shLl, numl, vecl, List.length_cons, List.length_nil, flB_len]; done) | (simp only [List.length_append, hLl, i8l, c4l, vLl, aLl, tLl, poLl, shLl, numl, vecl, List.length_cons, List.length_nil, flB_len]; omega)
theorem caT7_len (c : CV) (n : Nat) (x y : Nat → Int) : (caT7 c n x y).length = caN7 n := by
  unfold caT7 caN7
  first | rfl | (simp only [List.length_append, hLl, i8l, c4l, vLl, aLl, tLl, poLl, shLl, numl, vecl, List.length_cons, List.length_nil, flB_len]; done) | (simp only [List.length_append, hLl, i8l, c4l, vLl, aLl, tLl, poLl, shLl, numl, vecl, List.length_cons, List.length_nil, flB_len]; omega)
theorem caT8_len (c : CV) (n : Nat) (x y : Nat → Int) : (caT8 c n x y).length = caN8 n := by
  unfold caT8 caN8
  first | rfl | (simp only [List.length_append, hLl, i8l, c4l, vLl, aLl, tLl, poLl, shLl, numl, vecl, List.length_cons, List.length_nil, flB_len]; done) | (simp only [List.length_append, hLl, i8l, c4l, vLl, aLl, tLl, poLl, shLl, numl, vecl, List.length_cons, List.length_nil, flB_len]; omega)
theorem caT9_len (c : CV) (n : Nat) (x y : Nat → Int) : (caT9 c n x y).length = caN9 n := by
  unfold caT9 caN9
  first | rfl | (simp only [List.length_append, hLl, i8l, c4l, vLl, aLl, tLl, poLl, shLl, numl, vecl, List.length_cons, List.length_nil, flB_len]; done) | (simp only [List.length_append, hLl, i8l, c4l, vLl, aLl, tLl, poLl, shLl, numl, vecl, List.length_cons, List.length_nil, flB_len]; omega)
theorem caT10_len (c : CV) (n : Nat) (x y : Nat → Int) : (caT10 c n x y).length = caN10 n := by
  unfold caT10 caN10
  first | rfl | (simp only [List.length_append, hLl, i8l, c4l, vLl, aLl, tLl, poLl, shLl, numl, vecl, List.length_cons, List.length_nil, flB_len]; done) | (simp only [List.length_append, hLl, i8l, c4l, vLl, aLl, tLl, poLl, shLl, numl, vecl, List.length_cons, List.length_nil, flB_len]; omega)
theorem kT_len {k : Int} (hk : 1 ≤ k ∧ k ≤ 10) (c : CV) (n : Nat) (x y : Nat → Int) : (kT k c n x y).length = kN k n := by
  rcases ten hk with rfl | rfl | rfl | rfl | rfl | rfl | rfl | rfl | rfl | rfl
  · exact caT1_len c n x y
  · exact caT2_len c n x y
  · exact caT3_len c n x y
  · exact caT4_len c n x y
  · exact caT5_len c n x y
  · exact caT6_len c n x y
  · exact caT7_len c n x y
  · exact caT8_len c n x y
  · exact caT9_len c n x y
  · exact caT10_len c n x y
theorem callBs_eq {k : Int} (hk : 1 ≤ k ∧ k ≤ 10) (c : CV) (n : Nat) (g : Nat → Int × Int) : callBs k c n g = strOfNums (caL k c (kT k c n (fun i => (g i).1) (fun i => (g i).2))) := by
  unfold callBs
  have hl : (caL k c (kT k c n (fun i => (g i).1) (fun i => (g i).2))).length = 5 + kN k n := by
    unfold caL
    simp only [List.length_append, c4l, kT_len hk, List.length_cons, List.length_nil]
    omega
  rw [strOf_lst]
  congr 1
  have := lstG_list (caL k c (kT k c n (fun i => (g i).1) (fun i => (g i).2)))
  rw [hl] at this
  exact this
theorem notIn_f {x m : Int} (h : notIn x m = false) : 0 ≤ x ∧ x ≤ m := by
  unfold notIn at h
  have h : (decide (0 ≤ x) && decide (x ≤ m)) = true := by
    cases hb : (decide (0 ≤ x) && decide (x ≤ m)) with
    | true => rfl
    | false => rw [hb] at h; cases h
  rw [Bool.and_eq_true] at h
  exact ⟨of_decide_eq_true h.1, of_decide_eq_true h.2⟩
theorem notIn_of {x m : Int} (h : 0 ≤ x ∧ x ≤ m) : notIn x m = false := by
  unfold notIn
  rw [decide_eq_true h.1, decide_eq_true h.2]
  rfl
theorem vC {x : Int} (h : notIn x 2147483647 = false) : (0 ≤ x % 4294967296 ∧ x % 4294967296 < 256 ^ aC.n) ∧ aC.bd (x % 4294967296) = false := by
  have h := notIn_f h
  have e : x % 4294967296 = x := by omega
  rw [e]
  exact ⟨⟨h.1, by show x < 4294967296; omega⟩, decide_eq_false (by omega)⟩
theorem vV {x : Int} (h : notIn x 1099511627776 = false) : (0 ≤ x % 18446744073709551616 ∧ x % 18446744073709551616 < 256 ^ aV.n) ∧ aV.bd (x % 18446744073709551616) = false := by
  have h := notIn_f h
  have e : x % 18446744073709551616 = x := by omega
  rw [e]
  exact ⟨⟨h.1, by show x < 18446744073709551616; omega⟩, decide_eq_false (by omega)⟩
theorem vI {x : Int} : (0 ≤ x % 18446744073709551616 ∧ x % 18446744073709551616 < 256 ^ aI.n) ∧ aI.bd (x % 18446744073709551616) = false :=
  ⟨⟨Int.emod_nonneg _ (by decide), Int.emod_lt_of_pos _ (by decide)⟩, rfl⟩
theorem vM {x : Int} (hx : I64 x) (h : isMin x = false) : (0 ≤ x % 18446744073709551616 ∧ x % 18446744073709551616 < 256 ^ aM.n) ∧ aM.bd (x % 18446744073709551616) = false :=
  ⟨⟨Int.emod_nonneg _ (by decide), Int.emod_lt_of_pos _ (by decide)⟩, by
    show (IntKind.i64.wrap (x % 18446744073709551616) == -9223372036854775808) = false
    rw [wrap_mod hx]
    exact h⟩
theorem vF {f : Bool} : (0 ≤ flN f ∧ flN f < 256 ^ aF.n) ∧ aF.bd (flN f) = false := by cases f <;> exact ⟨⟨by decide, by decide⟩, rfl⟩
theorem vS {x : Int} (h : notIn x 255 = false) : (0 ≤ x ∧ x < 256 ^ aS.n) ∧ aS.bd x = false := by
  have h := notIn_f h
  exact ⟨⟨h.1, by show x < 256; omega⟩, decide_eq_false (by omega)⟩
theorem vN {n : Nat} (h : notIn (n : Int) 8 = false) : (0 ≤ (n : Int) ∧ (n : Int) < 256 ^ aN.n) ∧ aN.bd (n : Int) = false := by
  have h := notIn_f h
  exact ⟨⟨h.1, by show (n : Int) < 256; omega⟩, decide_eq_false (by omega)⟩
theorem vKd {k low : Int} (h0 : 0 ≤ low) (h1 : low ≤ k) (h2 : k ≤ 10) : (0 ≤ k ∧ k < 256 ^ (aKd low).n) ∧ (aKd low).bd k = false :=
  ⟨⟨by omega, by show k < 256; omega⟩, by
    show (!(decide (low ≤ k) && decide (k ≤ 10))) = false
    rw [decide_eq_true h1, decide_eq_true h2]
    rfl⟩
theorem rds_length {s : ByteArray} : ∀ {l : List At} {k : Int}, (rds s k l).length = l.length
  | [], _ => rfl
  | a :: l, k => by simp only [rds, List.length_cons, rds_length]
theorem spots_back {s : ByteArray} {k : Int} {g : Nat → Int × Int} : ∀ {n : Nat}, rds s k (spA n) = spVs g n → (∀ i, i < n → I64 (g i).1 ∧ I64 (g i).2) → ∀ i, i < n → rdSp s k i = g i
  | 0, _, _, i, hi => absurd hi (Nat.not_lt_zero _)
  | n + 1, h, hg, i, hi => by
    simp only [spA, spVs] at h
    rw [rds_app] at h
    obtain ⟨h1, h2⟩ := List.append_inj h (by rw [rds_length, spA_length, spVs_length])
    by_cases hin : i = n
    · subst hin
      rw [spA_len] at h2
      simp only [rds, List.cons.injEq, and_true] at h2
      have e1 : k + ((16 * i : Nat) : Int) = k + 16 * (i : Int) := by omega
      rw [e1] at h2
      have g1 := fI h2.1 (hg i hi).1
      have g2 : rdI s (k + 16 * (i : Int) + 8) = (g i).2 := fI h2.2 (hg i hi).2
      unfold rdSp
      rw [g1, g2]
    · exact spots_back h1 (fun m hm => hg m (by omega)) i (by omega)
theorem spVs_congr {g h : Nat → Int × Int} : ∀ {n : Nat}, (∀ i, i < n → g i = h i) → spVs g n = spVs h n
  | 0, _ => rfl
  | n + 1, e => by
    simp only [spVs]
    rw [spVs_congr (fun i hi => e i (by omega)), e n (by omega)]
theorem T_enc_1 (c : CV) {n : Nat} (hn : n ≤ 8) (g : Nat → Int × Int) : caT1 c n (fun i => (g i).1) (fun i => (g i).2) = enc (at1 n) (vs1 c n g) := by
  unfold caT1 at1 vs1 shL poL vL vecL numL i8
  rw [enc_app rfl, enc_app (by rw [spVs_length, spA_length]), ← spots_enc, show Nat.ble n 8 = true from Nat.ble_eq_true_of_le hn]
  simp only [flN_be, enc, cond_true, List.append_assoc, List.append_nil, ← be1]
  rfl
theorem vok_1 {c : CV} {n : Nat} (g : Nat → Int × Int) (hc : cvOk c) (h : caB1 c n = false) : vok (at1 n) (vs1 c n g) := by
  simp only [caB1, hBad, shBad, Bool.or_eq_false_iff, and_assoc] at h
  obtain ⟨h_sk, h_n, h_p0v, h_p1v, h_p2v, h_p3v, h_v0v, h_v1v, h_w0v⟩ := h
  obtain ⟨_, _, _, _, _, _, _, _, i_p0v, i_p1v, i_p2v, i_p3v, i_v0v, i_v1v, i_w0v, _, _, _, _, _, _, _, _, _, _, _, _, _, _⟩ := hc
  unfold at1 vs1
  rw [vok_app rfl, vok_app (by rw [spVs_length, spA_length])]
  exact ⟨⟨vS h_sk, vI, vI, vI, vN h_n, trivial⟩, spots_vok g n, vM i_p0v h_p0v, vF, vM i_p1v h_p1v, vF, vM i_p2v h_p2v, vF, vM i_p3v h_p3v, vF, vM i_v0v h_v0v, vF, vM i_v1v h_v1v, vF, vM i_w0v h_w0v, vF, vI, vF, trivial⟩
theorem T_enc_2 (c : CV) (n : Nat) (g : Nat → Int × Int) : caT2 c n (fun i => (g i).1) (fun i => (g i).2) = enc (at2 n) (vs2 c n g) := by
  unfold caT2 at2 vs2
  try unfold hL
  try unfold atL'
  try unfold toL
  try unfold vecL
  try unfold numL
  try unfold c4
  try unfold i8
  simp only [flN_be, enc, List.append_assoc, List.append_nil]
  try rfl
theorem vok_2 {c : CV} {n : Nat} (g : Nat → Int × Int) (hc : cvOk c) (h : caB2 c n = false) : vok (at2 n) (vs2 c n g) := by
  simp only [caB2, hBad, shBad, Bool.or_eq_false_iff, and_assoc] at h
  obtain ⟨h_bs, h_bg, h_ver⟩ := h
  exact ⟨vC h_bs, vC h_bg, vV h_ver, trivial⟩
theorem T_enc_3 (c : CV) (n : Nat) (g : Nat → Int × Int) : caT3 c n (fun i => (g i).1) (fun i => (g i).2) = enc (at3 n) (vs3 c n g) := by
  unfold caT3 at3 vs3
  try unfold hL
  try unfold atL'
  try unfold toL
  try unfold vecL
  try unfold numL
  try unfold c4
  try unfold i8
  simp only [flN_be, enc, List.append_assoc, List.append_nil]
  try rfl
theorem vok_3 {c : CV} {n : Nat} (g : Nat → Int × Int) (hc : cvOk c) (h : caB3 c n = false) : vok (at3 n) (vs3 c n g) := by
  simp only [caB3, hBad, shBad, Bool.or_eq_false_iff, and_assoc] at h
  obtain ⟨h_bs, h_bg, h_ver, h_a0v, h_a1v, h_t0v, h_t1v⟩ := h
  obtain ⟨_, _, _, _, _, _, _, _, _, _, _, _, _, _, _, _, i_a0v, i_a1v, i_t0v, i_t1v, _, _, _, _, _, _, _, _, _⟩ := hc
  exact ⟨vC h_bs, vC h_bg, vV h_ver, vM i_a0v h_a0v, vF, vM i_a1v h_a1v, vF, vM i_t0v h_t0v, vF, vM i_t1v h_t1v, vF, trivial⟩
theorem T_enc_4 (c : CV) (n : Nat) (g : Nat → Int × Int) : caT4 c n (fun i => (g i).1) (fun i => (g i).2) = enc (at4 n) (vs4 c n g) := by
  unfold caT4 at4 vs4
  try unfold hL
  try unfold atL'
  try unfold toL
  try unfold vecL
  try unfold numL
  try unfold c4
  try unfold i8
  simp only [flN_be, enc, List.append_assoc, List.append_nil]
  try rfl
theorem vok_4 {c : CV} {n : Nat} (g : Nat → Int × Int) (hc : cvOk c) (h : caB4 c n = false) : vok (at4 n) (vs4 c n g) := by
  simp only [caB4, hBad, shBad, Bool.or_eq_false_iff, and_assoc] at h
  obtain ⟨h_bs, h_bg, h_ver, h_a0v, h_a1v⟩ := h
  obtain ⟨_, _, _, _, _, _, _, _, _, _, _, _, _, _, _, _, i_a0v, i_a1v, _, _, _, _, _, _, _, _, _, _, _⟩ := hc
  exact ⟨vC h_bs, vC h_bg, vV h_ver, vM i_a0v h_a0v, vF, vM i_a1v h_a1v, vF, trivial⟩
theorem T_enc_5 (c : CV) (n : Nat) (g : Nat → Int × Int) : caT5 c n (fun i => (g i).1) (fun i => (g i).2) = enc (at5 n) (vs5 c n g) := by
  unfold caT5 at5 vs5
  try unfold hL
  try unfold atL'
  try unfold toL
  try unfold vecL
  try unfold numL
  try unfold c4
  try unfold i8
  simp only [flN_be, enc, List.append_assoc, List.append_nil]
  try rfl
theorem vok_5 {c : CV} {n : Nat} (g : Nat → Int × Int) (hc : cvOk c) (h : caB5 c n = false) : vok (at5 n) (vs5 c n g) := by
  simp only [caB5, hBad, shBad, Bool.or_eq_false_iff, and_assoc] at h
  obtain ⟨h_gr, h_t0v, h_t1v⟩ := h
  obtain ⟨_, _, _, _, _, _, _, _, _, _, _, _, _, _, _, _, _, _, i_t0v, i_t1v, _, _, _, _, _, _, _, _, _⟩ := hc
  exact ⟨vC h_gr, vM i_t0v h_t0v, vF, vM i_t1v h_t1v, vF, trivial⟩
theorem T_enc_6 (c : CV) (n : Nat) (g : Nat → Int × Int) : caT6 c n (fun i => (g i).1) (fun i => (g i).2) = enc (at6 n) (vs6 c n g) := by
  unfold caT6 at6 vs6
  try unfold hL
  try unfold atL'
  try unfold toL
  try unfold vecL
  try unfold numL
  try unfold c4
  try unfold i8
  simp only [flN_be, enc, List.append_assoc, List.append_nil]
  try rfl
theorem vok_6 {c : CV} {n : Nat} (g : Nat → Int × Int) (hc : cvOk c) (h : caB6 c n = false) : vok (at6 n) (vs6 c n g) := by
  simp only [caB6, hBad, shBad, Bool.or_eq_false_iff, and_assoc] at h
  have h_gr := h
  exact ⟨vC h_gr, trivial⟩
theorem T_enc_7 (c : CV) (n : Nat) (g : Nat → Int × Int) : caT7 c n (fun i => (g i).1) (fun i => (g i).2) = enc (at7 n) (vs7 c n g) := by
  unfold caT7 at7 vs7
  try unfold hL
  try unfold atL'
  try unfold toL
  try unfold vecL
  try unfold numL
  try unfold c4
  try unfold i8
  simp only [flN_be, enc, List.append_assoc, List.append_nil]
  try rfl
theorem vok_7 {c : CV} {n : Nat} (g : Nat → Int × Int) (hc : cvOk c) (h : caB7 c n = false) : vok (at7 n) (vs7 c n g) := by
  simp only [caB7, hBad, shBad, Bool.or_eq_false_iff, and_assoc] at h
  obtain ⟨h_bs, h_bg⟩ := h
  exact ⟨vC h_bs, vC h_bg, trivial⟩
theorem T_enc_8 (c : CV) (n : Nat) (g : Nat → Int × Int) : caT8 c n (fun i => (g i).1) (fun i => (g i).2) = enc (at8 n) (vs8 c n g) := by
  unfold caT8 at8 vs8
  try unfold hL
  try unfold atL'
  try unfold toL
  try unfold vecL
  try unfold numL
  try unfold c4
  try unfold i8
  simp only [flN_be, enc, List.append_assoc, List.append_nil]
  try rfl
theorem vok_8 {c : CV} {n : Nat} (g : Nat → Int × Int) (hc : cvOk c) (h : caB8 c n = false) : vok (at8 n) (vs8 c n g) := by
  exact ⟨vI, vI, vI, vI, trivial⟩
theorem T_enc_9 (c : CV) (n : Nat) (g : Nat → Int × Int) : caT9 c n (fun i => (g i).1) (fun i => (g i).2) = enc (at9 n) (vs9 c n g) := by
  unfold caT9 at9 vs9
  try unfold hL
  try unfold atL'
  try unfold toL
  try unfold vecL
  try unfold numL
  try unfold c4
  try unfold i8
  simp only [flN_be, enc, List.append_assoc, List.append_nil]
  try rfl
theorem vok_9 {c : CV} {n : Nat} (g : Nat → Int × Int) (hc : cvOk c) (h : caB9 c n = false) : vok (at9 n) (vs9 c n g) := by
  exact ⟨vI, vI, vI, vI, trivial⟩
theorem T_enc_10 (c : CV) (n : Nat) (g : Nat → Int × Int) : caT10 c n (fun i => (g i).1) (fun i => (g i).2) = enc (at10 n) (vs10 c n g) := by
  unfold caT10 at10 vs10
  try unfold hL
  try unfold atL'
  try unfold toL
  try unfold vecL
  try unfold numL
  try unfold c4
  try unfold i8
  simp only [flN_be, enc, List.append_assoc, List.append_nil]
  try rfl
theorem vok_10 {c : CV} {n : Nat} (g : Nat → Int × Int) (hc : cvOk c) (h : caB10 c n = false) : vok (at10 n) (vs10 c n g) := by
  trivial
end Go.Proofs.Ytjdldadmaaeimaa
end

section
set_option maxRecDepth 100000
set_option linter.unusedSimpArgs false
set_option linter.unusedVariables false
namespace Go.Proofs.Ytjdldadmaaeimaa
open Go.SE Go.RowKit

theorem cv_eq {k1 k2 : Int} {a b : CV} {s : Bool} (h : sameCB k1 k2 a b s = true) (hs : eqSh (shOf a) (shOf b) = true) : a = b := by
  simp only [sameCB, Bool.and_eq_true, beq_iff_eq, and_assoc] at h
  simp only [eqSh, shOf, Bool.and_eq_true, beq_iff_eq] at hs
  obtain ⟨hk, e_id, e_bs, e_bg, e_ver, e_S, e_p0v, e_p0f, e_p1v, e_p1f, e_p2v, e_p2f, e_p3v, e_p3f, e_v0v, e_v0f, e_v1v, e_v1f, e_w0v, e_w0f, e_dn, e_mv, e_a0v, e_a0f, e_a1v, e_a1f, e_t0v, e_t0f, e_t1v, e_t1f, e_gr, e_b0, e_b1, e_b2, e_b3, e_f0, e_f1, e_u0, e_u1⟩ := h
  obtain ⟨e_sk, e_sr, e_sw, e_sh⟩ := hs
  obtain ⟨a_id, a_bs, a_bg, a_ver, a_sk, a_sr, a_sw, a_sh, a_p0v, a_p0f, a_p1v, a_p1f, a_p2v, a_p2f, a_p3v, a_p3f, a_v0v, a_v0f, a_v1v, a_v1f, a_w0v, a_w0f, a_dn, a_mv, a_a0v, a_a0f, a_a1v, a_a1f, a_t0v, a_t0f, a_t1v, a_t1f, a_gr, a_b0, a_b1, a_b2, a_b3, a_f0, a_f1, a_u0, a_u1⟩ := a
  obtain ⟨b_id, b_bs, b_bg, b_ver, b_sk, b_sr, b_sw, b_sh, b_p0v, b_p0f, b_p1v, b_p1f, b_p2v, b_p2f, b_p3v, b_p3f, b_v0v, b_v0f, b_v1v, b_v1f, b_w0v, b_w0f, b_dn, b_mv, b_a0v, b_a0f, b_a1v, b_a1f, b_t0v, b_t0f, b_t1v, b_t1f, b_gr, b_b0, b_b1, b_b2, b_b3, b_f0, b_f1, b_u0, b_u1⟩ := b
  simp only at e_id e_bs e_bg e_ver e_sk e_sr e_sw e_sh e_p0v e_p0f e_p1v e_p1f e_p2v e_p2f e_p3v e_p3f e_v0v e_v0f e_v1v e_v1f e_w0v e_w0f e_dn e_mv e_a0v e_a0f e_a1v e_a1f e_t0v e_t0f e_t1v e_t1f e_gr e_b0 e_b1 e_b2 e_b3 e_f0 e_f1 e_u0 e_u1
  subst e_id e_bs e_bg e_ver e_sk e_sr e_sw e_sh e_p0v e_p0f e_p1v e_p1f e_p2v e_p2f e_p3v e_p3f e_v0v e_v0f e_v1v e_v1f e_w0v e_w0f e_dn e_mv e_a0v e_a0f e_a1v e_a1f e_t0v e_t0f e_t1v e_t1f e_gr e_b0 e_b1 e_b2 e_b3 e_f0 e_f1 e_u0 e_u1
  rfl
theorem cv_s {k1 k2 : Int} {a b : CV} {s : Bool} (h : sameCB k1 k2 a b s = true) : s = true := by
  simp only [sameCB, Bool.and_eq_true, beq_iff_eq] at h
  exact h.2.2.2.2.1
theorem cv_self (k : Int) (a : CV) : sameCB k k a a true = true := by
  simp only [sameCB, beq_self_eq_true, Bool.and_self]
theorem callE0 {k : Int} {c : CV} {n : Nat} {g : Nat → Int × Int} (h : callE k c n g = 0) : (1 ≤ k ∧ k ≤ 10) ∧ formB k c n g = true ∧ badB k c n = false := by
  unfold callE at h
  cases h1 : kindOk k with
  | false => rw [h1] at h; cases h
  | true =>
    rw [h1] at h
    cases h2 : formB k c n g with
    | false => rw [h2] at h; cases h
    | true =>
      rw [h2] at h
      cases h3 : badB k c n with
      | true => rw [h3] at h; cases h
      | false =>
        unfold kindOk at h1
        rw [Bool.and_eq_true] at h1
        exact ⟨⟨of_decide_eq_true h1.1, of_decide_eq_true h1.2⟩, rfl, rfl⟩
theorem callE_of {k : Int} {c : CV} {n : Nat} {g : Nat → Int × Int} (hk : 1 ≤ k ∧ k ≤ 10) (h2 : formB k c n g = true) (h3 : badB k c n = false) : callE k c n g = 0 ∧ callT k c n g = callBs k c n g := by
  unfold callE callT kindOk
  rw [decide_eq_true hk.1, decide_eq_true hk.2, h2, h3]
  exact ⟨rfl, rfl⟩
theorem form_eq {k : Int} {c : CV} {n : Nat} {g : Nat → Int × Int} (hk : 1 ≤ k ∧ k ≤ 10) (h : formB k c n g = true) : ucK k c = c ∧ (k ≠ 1 → n = 0) := by
  unfold formB at h
  by_cases h1 : k = 1
  · subst h1
    have h : sameCB 1 1 (uc1 c) c (sameS (shOf (uc1 c)) n g (shOf c) n g) = true := h
    have hs := cv_s h
    unfold sameS at hs
    rw [Bool.and_eq_true] at hs
    exact ⟨cv_eq h hs.1, fun h => absurd rfl h⟩
  · rw [decide_eq_false h1, cond_false] at h
    have hs := cv_s h
    rw [Bool.and_eq_true] at hs
    exact ⟨cv_eq h hs.1, fun _ => Nat.eq_of_beq_eq_true hs.2⟩
theorem sameP_self (n : Nat) (g : Nat → Int × Int) : sameP n g n g = true := by
  unfold sameP
  rw [Nat.beq_refl, Bool.true_and]
  exact List.all_eq_true.2 fun i _ => by unfold eqP; rw [beq_self_eq_true, beq_self_eq_true]; rfl
theorem eqSh_self (a : ShB) : eqSh a a = true := by
  unfold eqSh
  simp only [beq_self_eq_true, Bool.and_self]
theorem form_of {k : Int} {c : CV} {n : Nat} {g : Nat → Int × Int} (h1 : ucK k c = c) (h2 : k ≠ 1 → n = 0) : formB k c n g = true := by
  unfold formB
  by_cases h : k = 1
  · subst h
    have h1 : uc1 c = c := h1
    rw [h1]
    show sameCB 1 1 c c (sameS (shOf c) n g (shOf c) n g) = true
    unfold sameS
    rw [eqSh_self, sameP_self]
    exact cv_self 1 c
  · rw [decide_eq_false h, cond_false, h1, eqSh_self, h2 h]
    exact cv_self k c
theorem bytes_enc {k : Int} {c : CV} {n : Nat} {g : Nat → Int × Int} (hk : 1 ≤ k ∧ k ≤ 10) (hn : k = 1 → n ≤ 8) : byt (callBs k c n g) = enc (atC k n) (vsC k c n g) := by
  have e : caL k c (kT k c n (fun i => (g i).1) (fun i => (g i).2)) = enc (atC k n) (vsC k c n g) := by
    have et : kT k c n (fun i => (g i).1) (fun i => (g i).2) = enc (atK k n) (vsK k c n g) := by
      rcases ten hk with h | h | h | h | h | h | h | h | h | h <;> subst h
      · exact T_enc_1 c (hn rfl) g
      · exact T_enc_2 c n g
      · exact T_enc_3 c n g
      · exact T_enc_4 c n g
      · exact T_enc_5 c n g
      · exact T_enc_6 c n g
      · exact T_enc_7 c n g
      · exact T_enc_8 c n g
      · exact T_enc_9 c n g
      · exact T_enc_10 c n g
    unfold caL atC vsC
    rw [et]
    unfold c4
    rw [← be1]
    rfl
  rw [callBs_eq hk, e]
  exact byt_str (enc_rng _ _)
theorem bad_n {c : CV} {n : Nat} (h : badB 1 c n = false) : n ≤ 8 := by
  have h : caB c (caB1 c n) = false := h
  simp only [caB, caB1, shBad, Bool.or_eq_false_iff] at h
  have := notIn_f h.2.1.2
  omega
theorem vok_all {k : Int} {c : CV} {n : Nat} (g : Nat → Int × Int) (hk : 1 ≤ k ∧ k ≤ 10) (hc : cvOk c) (h : badB k c n = false) : vok (atC k n) (vsC k c n g) := by
  have h : caB c (kB k c n) = false := h
  simp only [caB, Bool.or_eq_false_iff] at h
  refine ⟨vKd (by omega) hk.1 hk.2, vC h.1, ?_⟩
  have h2 := h.2
  rcases ten hk with h | h | h | h | h | h | h | h | h | h <;> subst h
  · exact vok_1 (n := n) g hc h2
  · exact vok_2 (n := n) g hc h2
  · exact vok_3 (n := n) g hc h2
  · exact vok_4 (n := n) g hc h2
  · exact vok_5 (n := n) g hc h2
  · exact vok_6 (n := n) g hc h2
  · exact vok_7 (n := n) g hc h2
  · exact vok_8 (n := n) g hc h2
  · exact vok_9 (n := n) g hc h2
  · exact vok_10 (n := n) g hc h2
theorem back_2 {s : ByteArray} {c : CV} {n : Nat} {g : Nat → Int × Int} (hc : cvOk c) (hb : badB 2 c n = false) (hu : uc2 c = c) (hr : rds s 0 (atC 2 n) = vsC 2 c n g) : rdT s 0 1 = 2 ∧ cV2 s 0 = c := by
  have hr : [rdT s 0 1, rdT s (0 + 1) 4, rdT s (0 + 1 + 4) 4, rdT s (0 + 1 + 4 + 4) 4, rdT s (0 + 1 + 4 + 4 + 4) 8] = [2, c.id % 4294967296, c.bs % 4294967296, c.bg % 4294967296, c.ver % 18446744073709551616] := hr
  simp only [List.cons.injEq, and_true] at hr
  obtain ⟨r_k, r_id, r_bs, r_bg, r_ver⟩ := hr
  have hb : caB c (caB2 c n) = false := hb
  simp only [caB, caB2, hBad, Bool.or_eq_false_iff, and_assoc] at hb
  obtain ⟨h_id, h_bs, h_bg, h_ver⟩ := hb
  refine ⟨r_k, ?_⟩
  rw [← hu]
  unfold cV2
  rw [fC r_id (notIn_f h_id), fC r_bs (notIn_f h_bs), fC r_bg (notIn_f h_bg), fV r_ver (notIn_f h_ver)]
  rfl
theorem back_3 {s : ByteArray} {c : CV} {n : Nat} {g : Nat → Int × Int} (hc : cvOk c) (hb : badB 3 c n = false) (hu : uc3 c = c) (hr : rds s 0 (atC 3 n) = vsC 3 c n g) : rdT s 0 1 = 3 ∧ cV3 s 0 = c := by
  have hr : [rdT s 0 1, rdT s (0 + 1) 4, rdT s (0 + 1 + 4) 4, rdT s (0 + 1 + 4 + 4) 4, rdT s (0 + 1 + 4 + 4 + 4) 8, rdT s (0 + 1 + 4 + 4 + 4 + 8) 8, rdT s (0 + 1 + 4 + 4 + 4 + 8 + 8) 1, rdT s (0 + 1 + 4 + 4 + 4 + 8 + 8 + 1) 8, rdT s (0 + 1 + 4 + 4 + 4 + 8 + 8 + 1 + 8) 1, rdT s (0 + 1 + 4 + 4 + 4 + 8 + 8 + 1 + 8 + 1) 8, rdT s (0 + 1 + 4 + 4 + 4 + 8 + 8 + 1 + 8 + 1 + 8) 1, rdT s (0 + 1 + 4 + 4 + 4 + 8 + 8 + 1 + 8 + 1 + 8 + 1) 8, rdT s (0 + 1 + 4 + 4 + 4 + 8 + 8 + 1 + 8 + 1 + 8 + 1 + 8) 1] = [3, c.id % 4294967296, c.bs % 4294967296, c.bg % 4294967296, c.ver % 18446744073709551616, c.a0v % 18446744073709551616, flN c.a0f, c.a1v % 18446744073709551616, flN c.a1f, c.t0v % 18446744073709551616, flN c.t0f, c.t1v % 18446744073709551616, flN c.t1f] := hr
  simp only [List.cons.injEq, and_true] at hr
  obtain ⟨r_k, r_id, r_bs, r_bg, r_ver, r_a0v, r_a0f, r_a1v, r_a1f, r_t0v, r_t0f, r_t1v, r_t1f⟩ := hr
  have hb : caB c (caB3 c n) = false := hb
  simp only [caB, caB3, hBad, Bool.or_eq_false_iff, and_assoc] at hb
  obtain ⟨h_id, h_bs, h_bg, h_ver, h_a0v, h_a1v, h_t0v, h_t1v⟩ := hb
  obtain ⟨_, _, _, _, _, _, _, _, _, _, _, _, _, _, _, _, i_a0v, i_a1v, i_t0v, i_t1v, _, _, _, _, _, _, _, _, _⟩ := hc
  refine ⟨r_k, ?_⟩
  rw [← hu]
  unfold cV3
  rw [fC r_id (notIn_f h_id), fC r_bs (notIn_f h_bs), fC r_bg (notIn_f h_bg), fV r_ver (notIn_f h_ver), fI r_a0v i_a0v, fF r_a0f, fI r_a1v i_a1v, fF r_a1f, fI r_t0v i_t0v, fF r_t0f, fI r_t1v i_t1v, fF r_t1f]
  rfl
theorem back_4 {s : ByteArray} {c : CV} {n : Nat} {g : Nat → Int × Int} (hc : cvOk c) (hb : badB 4 c n = false) (hu : uc4 c = c) (hr : rds s 0 (atC 4 n) = vsC 4 c n g) : rdT s 0 1 = 4 ∧ cV4 s 0 = c := by
  have hr : [rdT s 0 1, rdT s (0 + 1) 4, rdT s (0 + 1 + 4) 4, rdT s (0 + 1 + 4 + 4) 4, rdT s (0 + 1 + 4 + 4 + 4) 8, rdT s (0 + 1 + 4 + 4 + 4 + 8) 8, rdT s (0 + 1 + 4 + 4 + 4 + 8 + 8) 1, rdT s (0 + 1 + 4 + 4 + 4 + 8 + 8 + 1) 8, rdT s (0 + 1 + 4 + 4 + 4 + 8 + 8 + 1 + 8) 1] = [4, c.id % 4294967296, c.bs % 4294967296, c.bg % 4294967296, c.ver % 18446744073709551616, c.a0v % 18446744073709551616, flN c.a0f, c.a1v % 18446744073709551616, flN c.a1f] := hr
  simp only [List.cons.injEq, and_true] at hr
  obtain ⟨r_k, r_id, r_bs, r_bg, r_ver, r_a0v, r_a0f, r_a1v, r_a1f⟩ := hr
  have hb : caB c (caB4 c n) = false := hb
  simp only [caB, caB4, hBad, Bool.or_eq_false_iff, and_assoc] at hb
  obtain ⟨h_id, h_bs, h_bg, h_ver, h_a0v, h_a1v⟩ := hb
  obtain ⟨_, _, _, _, _, _, _, _, _, _, _, _, _, _, _, _, i_a0v, i_a1v, _, _, _, _, _, _, _, _, _, _, _⟩ := hc
  refine ⟨r_k, ?_⟩
  rw [← hu]
  unfold cV4
  rw [fC r_id (notIn_f h_id), fC r_bs (notIn_f h_bs), fC r_bg (notIn_f h_bg), fV r_ver (notIn_f h_ver), fI r_a0v i_a0v, fF r_a0f, fI r_a1v i_a1v, fF r_a1f]
  rfl
theorem back_5 {s : ByteArray} {c : CV} {n : Nat} {g : Nat → Int × Int} (hc : cvOk c) (hb : badB 5 c n = false) (hu : uc5 c = c) (hr : rds s 0 (atC 5 n) = vsC 5 c n g) : rdT s 0 1 = 5 ∧ cV5 s 0 = c := by
  have hr : [rdT s 0 1, rdT s (0 + 1) 4, rdT s (0 + 1 + 4) 4, rdT s (0 + 1 + 4 + 4) 8, rdT s (0 + 1 + 4 + 4 + 8) 1, rdT s (0 + 1 + 4 + 4 + 8 + 1) 8, rdT s (0 + 1 + 4 + 4 + 8 + 1 + 8) 1] = [5, c.id % 4294967296, c.gr % 4294967296, c.t0v % 18446744073709551616, flN c.t0f, c.t1v % 18446744073709551616, flN c.t1f] := hr
  simp only [List.cons.injEq, and_true] at hr
  obtain ⟨r_k, r_id, r_gr, r_t0v, r_t0f, r_t1v, r_t1f⟩ := hr
  have hb : caB c (caB5 c n) = false := hb
  simp only [caB, caB5, hBad, Bool.or_eq_false_iff, and_assoc] at hb
  obtain ⟨h_id, h_gr, h_t0v, h_t1v⟩ := hb
  obtain ⟨_, _, _, _, _, _, _, _, _, _, _, _, _, _, _, _, _, _, i_t0v, i_t1v, _, _, _, _, _, _, _, _, _⟩ := hc
  refine ⟨r_k, ?_⟩
  rw [← hu]
  unfold cV5
  rw [fC r_id (notIn_f h_id), fC r_gr (notIn_f h_gr), fI r_t0v i_t0v, fF r_t0f, fI r_t1v i_t1v, fF r_t1f]
  rfl
theorem back_6 {s : ByteArray} {c : CV} {n : Nat} {g : Nat → Int × Int} (hc : cvOk c) (hb : badB 6 c n = false) (hu : uc6 c = c) (hr : rds s 0 (atC 6 n) = vsC 6 c n g) : rdT s 0 1 = 6 ∧ cV6 s 0 = c := by
  have hr : [rdT s 0 1, rdT s (0 + 1) 4, rdT s (0 + 1 + 4) 4] = [6, c.id % 4294967296, c.gr % 4294967296] := hr
  simp only [List.cons.injEq, and_true] at hr
  obtain ⟨r_k, r_id, r_gr⟩ := hr
  have hb : caB c (caB6 c n) = false := hb
  simp only [caB, caB6, hBad, Bool.or_eq_false_iff, and_assoc] at hb
  obtain ⟨h_id, h_gr⟩ := hb
  refine ⟨r_k, ?_⟩
  rw [← hu]
  unfold cV6
  rw [fC r_id (notIn_f h_id), fC r_gr (notIn_f h_gr)]
  rfl
theorem back_7 {s : ByteArray} {c : CV} {n : Nat} {g : Nat → Int × Int} (hc : cvOk c) (hb : badB 7 c n = false) (hu : uc7 c = c) (hr : rds s 0 (atC 7 n) = vsC 7 c n g) : rdT s 0 1 = 7 ∧ cV7 s 0 = c := by
  have hr : [rdT s 0 1, rdT s (0 + 1) 4, rdT s (0 + 1 + 4) 4, rdT s (0 + 1 + 4 + 4) 4] = [7, c.id % 4294967296, c.bs % 4294967296, c.bg % 4294967296] := hr
  simp only [List.cons.injEq, and_true] at hr
  obtain ⟨r_k, r_id, r_bs, r_bg⟩ := hr
  have hb : caB c (caB7 c n) = false := hb
  simp only [caB, caB7, hBad, Bool.or_eq_false_iff, and_assoc] at hb
  obtain ⟨h_id, h_bs, h_bg⟩ := hb
  refine ⟨r_k, ?_⟩
  rw [← hu]
  unfold cV7
  rw [fC r_id (notIn_f h_id), fC r_bs (notIn_f h_bs), fC r_bg (notIn_f h_bg)]
  rfl
theorem back_8 {s : ByteArray} {c : CV} {n : Nat} {g : Nat → Int × Int} (hc : cvOk c) (hb : badB 8 c n = false) (hu : uc8 c = c) (hr : rds s 0 (atC 8 n) = vsC 8 c n g) : rdT s 0 1 = 8 ∧ cV8 s 0 = c := by
  have hr : [rdT s 0 1, rdT s (0 + 1) 4, rdT s (0 + 1 + 4) 8, rdT s (0 + 1 + 4 + 8) 8, rdT s (0 + 1 + 4 + 8 + 8) 8, rdT s (0 + 1 + 4 + 8 + 8 + 8) 8] = [8, c.id % 4294967296, c.b0 % 18446744073709551616, c.b1 % 18446744073709551616, c.b2 % 18446744073709551616, c.b3 % 18446744073709551616] := hr
  simp only [List.cons.injEq, and_true] at hr
  obtain ⟨r_k, r_id, r_b0, r_b1, r_b2, r_b3⟩ := hr
  have hb : caB c (caB8 c n) = false := hb
  simp only [caB, caB8, hBad, Bool.or_eq_false_iff, and_assoc] at hb
  have h_id := hb.1
  obtain ⟨_, _, _, _, _, _, _, _, _, _, _, _, _, _, _, _, _, _, _, _, _, i_b0, i_b1, i_b2, i_b3, _, _, _, _⟩ := hc
  refine ⟨r_k, ?_⟩
  rw [← hu]
  unfold cV8
  rw [fC r_id (notIn_f h_id), fI r_b0 i_b0, fI r_b1 i_b1, fI r_b2 i_b2, fI r_b3 i_b3]
  rfl
theorem back_9 {s : ByteArray} {c : CV} {n : Nat} {g : Nat → Int × Int} (hc : cvOk c) (hb : badB 9 c n = false) (hu : uc9 c = c) (hr : rds s 0 (atC 9 n) = vsC 9 c n g) : rdT s 0 1 = 9 ∧ cV9 s 0 = c := by
  have hr : [rdT s 0 1, rdT s (0 + 1) 4, rdT s (0 + 1 + 4) 8, rdT s (0 + 1 + 4 + 8) 8, rdT s (0 + 1 + 4 + 8 + 8) 8, rdT s (0 + 1 + 4 + 8 + 8 + 8) 8] = [9, c.id % 4294967296, c.f0 % 18446744073709551616, c.f1 % 18446744073709551616, c.u0 % 18446744073709551616, c.u1 % 18446744073709551616] := hr
  simp only [List.cons.injEq, and_true] at hr
  obtain ⟨r_k, r_id, r_f0, r_f1, r_u0, r_u1⟩ := hr
  have hb : caB c (caB9 c n) = false := hb
  simp only [caB, caB9, hBad, Bool.or_eq_false_iff, and_assoc] at hb
  have h_id := hb.1
  obtain ⟨_, _, _, _, _, _, _, _, _, _, _, _, _, _, _, _, _, _, _, _, _, _, _, _, _, i_f0, i_f1, i_u0, i_u1⟩ := hc
  refine ⟨r_k, ?_⟩
  rw [← hu]
  unfold cV9
  rw [fC r_id (notIn_f h_id), fI r_f0 i_f0, fI r_f1 i_f1, fI r_u0 i_u0, fI r_u1 i_u1]
  rfl
theorem back_10 {s : ByteArray} {c : CV} {n : Nat} {g : Nat → Int × Int} (hc : cvOk c) (hb : badB 10 c n = false) (hu : uc10 c = c) (hr : rds s 0 (atC 10 n) = vsC 10 c n g) : rdT s 0 1 = 10 ∧ cV10 s 0 = c := by
  have hr : [rdT s 0 1, rdT s (0 + 1) 4] = [10, c.id % 4294967296] := hr
  simp only [List.cons.injEq, and_true] at hr
  obtain ⟨r_k, r_id⟩ := hr
  have hb : caB c (caB10 c n) = false := hb
  simp only [caB, caB10, hBad, Bool.or_eq_false_iff, and_assoc] at hb
  have h_id := hb.1
  refine ⟨r_k, ?_⟩
  rw [← hu]
  unfold cV10
  rw [fC r_id (notIn_f h_id)]
  rfl
theorem back_1 {s : ByteArray} {c : CV} {n : Nat} {g : Nat → Int × Int} (hc : cvOk c) (hb : badB 1 c n = false) (hu : uc1 c = c) (hg : ∀ i, i < n → I64 (g i).1 ∧ I64 (g i).2) (hr : rds s 0 (atC 1 n) = vsC 1 c n g) : (rdT s 0 1 = 1 ∧ cV1 s 0 = c) ∧ shC s (0 + 1 + 4) = n ∧ ∀ i, i < n → caSp s 0 i = g i := by
  have hr : rds s 0 ([aKd 1, aC, aS, aI, aI, aI, aN] ++ (spA n ++ [aM, aF, aM, aF, aM, aF, aM, aF, aM, aF, aM, aF, aM, aF, aI, aF])) = [1, c.id % 4294967296, c.sk, c.sr % 18446744073709551616, c.sw % 18446744073709551616, c.sh % 18446744073709551616, (n : Int)] ++ (spVs g n ++ [c.p0v % 18446744073709551616, flN c.p0f, c.p1v % 18446744073709551616, flN c.p1f, c.p2v % 18446744073709551616, flN c.p2f, c.p3v % 18446744073709551616, flN c.p3f, c.v0v % 18446744073709551616, flN c.v0f, c.v1v % 18446744073709551616, flN c.v1f, c.w0v % 18446744073709551616, flN c.w0f, c.dn % 18446744073709551616, flN c.mv]) := hr
  rw [rds_app, rds_app, spA_len] at hr
  obtain ⟨hr1, hr⟩ := List.append_inj hr rfl
  obtain ⟨hr2, hr3⟩ := List.append_inj hr (by rw [rds_length, spA_length, spVs_length])
  have hr1 : [rdT s 0 1, rdT s (0 + 1) 4, rdT s (0 + 1 + 4) 1, rdT s (0 + 1 + 4 + 1) 8, rdT s (0 + 1 + 4 + 1 + 8) 8, rdT s (0 + 1 + 4 + 1 + 8 + 8) 8, rdT s (0 + 1 + 4 + 1 + 8 + 8 + 8) 1] = [1, c.id % 4294967296, c.sk, c.sr % 18446744073709551616, c.sw % 18446744073709551616, c.sh % 18446744073709551616, (n : Int)] := hr1
  simp only [List.cons.injEq, and_true] at hr1
  obtain ⟨r_k, r_id, r_sk, r_sr, r_sw, r_sh, r_n⟩ := hr1
  have hC : shC s (0 + 1 + 4) = n := by
    have := shC_int s (0 + 1 + 4)
    rw [r_n] at this
    omega
  have hP : (0 : Int) + ((atL [aKd 1, aC, aS, aI, aI, aI, aN] : Nat) : Int) + ((16 * n : Nat) : Int) = shEnd s (0 + 1 + 4) := by
    unfold shEnd
    rw [hC]
    show (31 : Int) + _ = 31 + _
    omega
  rw [hP] at hr3
  have hr3 : [rdT s (shEnd s (0 + 1 + 4)) 8, rdT s (shEnd s (0 + 1 + 4) + 8) 1, rdT s (shEnd s (0 + 1 + 4) + 8 + 1) 8, rdT s (shEnd s (0 + 1 + 4) + 8 + 1 + 8) 1, rdT s (shEnd s (0 + 1 + 4) + 8 + 1 + 8 + 1) 8, rdT s (shEnd s (0 + 1 + 4) + 8 + 1 + 8 + 1 + 8) 1, rdT s (shEnd s (0 + 1 + 4) + 8 + 1 + 8 + 1 + 8 + 1) 8, rdT s (shEnd s (0 + 1 + 4) + 8 + 1 + 8 + 1 + 8 + 1 + 8) 1, rdT s (shEnd s (0 + 1 + 4) + 8 + 1 + 8 + 1 + 8 + 1 + 8 + 1) 8, rdT s (shEnd s (0 + 1 + 4) + 8 + 1 + 8 + 1 + 8 + 1 + 8 + 1 + 8) 1, rdT s (shEnd s (0 + 1 + 4) + 8 + 1 + 8 + 1 + 8 + 1 + 8 + 1 + 8 + 1) 8, rdT s (shEnd s (0 + 1 + 4) + 8 + 1 + 8 + 1 + 8 + 1 + 8 + 1 + 8 + 1 + 8) 1, rdT s (shEnd s (0 + 1 + 4) + 8 + 1 + 8 + 1 + 8 + 1 + 8 + 1 + 8 + 1 + 8 + 1) 8, rdT s (shEnd s (0 + 1 + 4) + 8 + 1 + 8 + 1 + 8 + 1 + 8 + 1 + 8 + 1 + 8 + 1 + 8) 1, rdT s (shEnd s (0 + 1 + 4) + 8 + 1 + 8 + 1 + 8 + 1 + 8 + 1 + 8 + 1 + 8 + 1 + 8 + 1) 8, rdT s (shEnd s (0 + 1 + 4) + 8 + 1 + 8 + 1 + 8 + 1 + 8 + 1 + 8 + 1 + 8 + 1 + 8 + 1 + 8) 1] = [c.p0v % 18446744073709551616, flN c.p0f, c.p1v % 18446744073709551616, flN c.p1f, c.p2v % 18446744073709551616, flN c.p2f, c.p3v % 18446744073709551616, flN c.p3f, c.v0v % 18446744073709551616, flN c.v0f, c.v1v % 18446744073709551616, flN c.v1f, c.w0v % 18446744073709551616, flN c.w0f, c.dn % 18446744073709551616, flN c.mv] := hr3
  simp only [List.cons.injEq, and_true] at hr3
  obtain ⟨r_p0v, r_p0f, r_p1v, r_p1f, r_p2v, r_p2f, r_p3v, r_p3f, r_v0v, r_v0f, r_v1v, r_v1f, r_w0v, r_w0f, r_dn, r_mv⟩ := hr3
  have hb : caB c (caB1 c n) = false := hb
  simp only [caB, caB1, hBad, shBad, Bool.or_eq_false_iff, and_assoc] at hb
  obtain ⟨h_id, h_sk, h_n, h_p0v, h_p1v, h_p2v, h_p3v, h_v0v, h_v1v, h_w0v⟩ := hb
  obtain ⟨_, _, _, _, _, i_sr, i_sw, i_sh, i_p0v, i_p1v, i_p2v, i_p3v, i_v0v, i_v1v, i_w0v, i_dn, _, _, _, _, _, _, _, _, _, _, _, _, _⟩ := hc
  refine ⟨⟨r_k, ?_⟩, hC, fun i hi => spots_back hr2 hg i hi⟩
  have s4 : shB4 s (0 + 1 + 4) = ⟨c.sk, c.sr, c.sw, c.sh⟩ := by
    unfold shB4
    rw [r_sk, fI r_sr i_sr, fI r_sw i_sw, fI r_sh i_sh]
  rw [← hu]
  unfold cV1
  rw [fC r_id (notIn_f h_id), s4, fI r_p0v i_p0v, fF r_p0f, fI r_p1v i_p1v, fF r_p1f, fI r_p2v i_p2v, fF r_p2f, fI r_p3v i_p3v, fF r_p3f, fI r_v0v i_v0v, fF r_v0f, fI r_v1v i_v1v, fF r_v1f, fI r_w0v i_w0v, fF r_w0f, fI r_dn i_dn, fF r_mv]
  rfl
end Go.Proofs.Ytjdldadmaaeimaa
end

section
set_option maxRecDepth 100000
set_option linter.unusedSimpArgs false
set_option linter.unusedVariables false
namespace Go.Proofs.Ytjdldadmaaeimaa
open Go.SE Go.RowKit

theorem i0 : I64 0 := ⟨by decide, by decide⟩
theorem call_back {k : Int} {c : CV} {n : Nat} {g : Nat → Int × Int} (hc : cvOk c) (hg : ∀ i, i < n → I64 (g i).1 ∧ I64 (g i).2) (h : callE k c n g = 0) : (caP (callT k c n g) 0).bad = false ∧ rdT (callT k c n g) 0 1 = k ∧ caV (callT k c n g) 0 = c ∧ caN (callT k c n g) 0 = n ∧ ∀ i, i < n → caSp (callT k c n g) 0 i = g i := by
  obtain ⟨hk, hf, hb⟩ := callE0 h
  obtain ⟨hu, hn0⟩ := form_eq hk hf
  have eT := (callE_of hk hf hb).2
  have hB : byt (callT k c n g) = enc (atC k n) (vsC k c n g) := by
    rw [eT]
    exact bytes_enc hk fun h1 => bad_n (h1 ▸ hb)
  have hv := vok_all g hk hc hb
  have hlen := enc_len hv
  generalize callT k c n g = s at hB ⊢
  have hsz : s.size = atL (atC k n) := by rw [← byt_len, hB, hlen]
  obtain ⟨r1, r2⟩ := run_enc (s := s) (X := []) (fin := enP s) (P := []) (by rw [List.append_nil]; exact hB) hv
  have r1 : runA s (enP s) 0 (atC k n) = enP s ((0 + atL (atC k n) : Nat) : Int) := r1
  have r2 : rds s 0 (atC k n) = vsC k c n g := r2
  have hend : (enP s ((0 + atL (atC k n) : Nat) : Int)).bad = false := by
    show (!(((0 + atL (atC k n) : Nat) : Int) == (s.size : Int))) = false
    rw [hsz, Nat.zero_add, beq_self_eq_true]
    rfl
  have fields : rdT s 0 1 = k ∧ caV s 0 = c ∧ caN s 0 = n ∧ ∀ i, i < n → caSp s 0 i = g i := by
    rcases ten hk with e | e | e | e | e | e | e | e | e | e <;> subst e
    · obtain ⟨⟨b1, b2⟩, b3, b4⟩ := back_1 hc hb hu hg r2
      exact ⟨b1, by unfold caV; rw [b1]; exact b2, by unfold caN; rw [b1]; exact b3, b4⟩
    · obtain ⟨b1, b2⟩ := back_2 hc hb hu r2
      have hn := hn0 (by decide)
      exact ⟨b1, by unfold caV; rw [b1]; exact b2, by unfold caN; rw [b1, hn]; rfl, fun i hi => by omega⟩
    · obtain ⟨b1, b2⟩ := back_3 hc hb hu r2
      have hn := hn0 (by decide)
      exact ⟨b1, by unfold caV; rw [b1]; exact b2, by unfold caN; rw [b1, hn]; rfl, fun i hi => by omega⟩
    · obtain ⟨b1, b2⟩ := back_4 hc hb hu r2
      have hn := hn0 (by decide)
      exact ⟨b1, by unfold caV; rw [b1]; exact b2, by unfold caN; rw [b1, hn]; rfl, fun i hi => by omega⟩
    · obtain ⟨b1, b2⟩ := back_5 hc hb hu r2
      have hn := hn0 (by decide)
      exact ⟨b1, by unfold caV; rw [b1]; exact b2, by unfold caN; rw [b1, hn]; rfl, fun i hi => by omega⟩
    · obtain ⟨b1, b2⟩ := back_6 hc hb hu r2
      have hn := hn0 (by decide)
      exact ⟨b1, by unfold caV; rw [b1]; exact b2, by unfold caN; rw [b1, hn]; rfl, fun i hi => by omega⟩
    · obtain ⟨b1, b2⟩ := back_7 hc hb hu r2
      have hn := hn0 (by decide)
      exact ⟨b1, by unfold caV; rw [b1]; exact b2, by unfold caN; rw [b1, hn]; rfl, fun i hi => by omega⟩
    · obtain ⟨b1, b2⟩ := back_8 hc hb hu r2
      have hn := hn0 (by decide)
      exact ⟨b1, by unfold caV; rw [b1]; exact b2, by unfold caN; rw [b1, hn]; rfl, fun i hi => by omega⟩
    · obtain ⟨b1, b2⟩ := back_9 hc hb hu r2
      have hn := hn0 (by decide)
      exact ⟨b1, by unfold caV; rw [b1]; exact b2, by unfold caN; rw [b1, hn]; rfl, fun i hi => by omega⟩
    · obtain ⟨b1, b2⟩ := back_10 hc hb hu r2
      have hn := hn0 (by decide)
      exact ⟨b1, by unfold caV; rw [b1]; exact b2, by unfold caN; rw [b1, hn]; rfl, fun i hi => by omega⟩
  refine ⟨?_, fields⟩
  have := caP_run (s := s) (by omega) (by omega)
  rw [fields.1, fields.2.2.1, r1] at this
  rw [this]
  exact hend
end Go.Proofs.Ytjdldadmaaeimaa
end

section
set_option maxRecDepth 100000
set_option linter.unusedSimpArgs false
set_option linter.unusedVariables false
namespace Go.Proofs.Ytjdldadmaaeimaa
open Go.SE Go.RowKit

def srB (n cap : Nat) (a : Int) : Blk := { elem := 114, size := 2, rw := true, lock := false, lit := true, flat := false, n := 1, row := fun _ => [.sl 1 1 0 n cap, .v (.int .i64 a)], ext := 1, whole := true }
def srOk (b : Blk) : Bool := Nat.beq b.elem 114 && Nat.beq b.size 2 && b.rw && !b.dead && Nat.beq b.n 1 && Nat.beq b.ext 1 && b.whole && !b.flat
def niB (e m : Nat) (g : Nat → Int) (x : Nat) (wh : Bool) : Blk := { elem := e, size := 1, rw := false, lock := false, lit := false, flat := true, n := m, row := fun i => [.v (.int .i64 (g i))], ext := x, whole := wh }
def niOk (b : Blk) : Bool := Nat.beq b.size 1 && !b.rw && !b.dead && b.flat
def isI1 : List SV → Prop
  | [.v (.int .i64 a)] => I64 a
  | _ => False
def i1 : List SV → Int
  | [.v (.int _ a)] => a
  | _ => 0
def gI (D : Blk) : Nat → Int := fun i => i1 (D.row i)
def niPre (n : Nat) (D : Blk) : Prop := (D.n = n ∧ True) ∧ ∀ i, i < n → isI1 (D.row i)
def gOk (n : Nat) (g : Nat → Int) : Prop := True ∧ ∀ i, i < n → I64 (g i)
noncomputable def nxV (n : Nat) (g : Nat → Int) (a : Int) : Int := hide (bif decide (a < (n : Int)) then g a.toNat else 0)
noncomputable def frV (m x : Int) : Int := hide ((x.tmod (m + 1)).natAbs : Int)
noncomputable def nuV (x : Int) : Int := hide (bif decide (x = -9223372036854775808) then 0 else x)
noncomputable def nuF (x : Int) : Bool := hide (decide ((nuV x).tmod 7 = 3))
def sSr (F : List SV → Nat → (Nat → Int) → Int → Option (Prop × SV × Int)) (args : List SV) (bs : List Blk) : Option Eff := match args, bs with
  | .vp 0 0 :: rest, [S, D] => match S.row 0 with
    | [.sl 1 1 0 n cap, .v (.int .i64 a)] => match F rest n (gI D) a with
      | some (q, x, a') => bif srOk S && niOk D then some (.det (some ((niPre n D ∧ 0 ≤ a ∧ a' ≤ 4611686018427387904) ∧ q)) x [(0, srB n cap a')]) else none
      | none => none
    | _ => none
  | _, _ => none
def s0 (f : Nat → (Nat → Int) → Int → SV × Int) : List SV → Nat → (Nat → Int) → Int → Option (Prop × SV × Int)
  | [], n, g, a => some (True, (f n g a).1, (f n g a).2)
  | _, _, _, _ => none
noncomputable def sFrom : List SV → Nat → (Nat → Int) → Int → Option (Prop × SV × Int)
  | [.v (.int .i64 m)], n, g, a => some (0 ≤ m ∧ m ≤ 4611686018427387904, .v (.int .i64 (frV m (nxV n g a))), a + 1)
  | _, _, _, _ => none
noncomputable def yNext (n : Nat) (g : Nat → Int) (a : Int) : SV × Int := (.v (.int .i64 (nxV n g a)), a + 1)
noncomputable def nuC2 (n : Nat) (g : Nat → Int) (a : Int) : List SV := [.v (.int .i64 (nuV (nxV n g a))), .v (.bool (nuF (nxV n g a)))]
noncomputable def yNum (n : Nat) (g : Nat → Int) (a : Int) : SV × Int := (.agg (nuC2 n g a), a + 1)
noncomputable def yVec (n : Nat) (g : Nat → Int) (a : Int) : SV × Int := (.agg (nuC2 n g a ++ nuC2 n g (a + 1)), a + 1 + 1)
noncomputable def yPose (n : Nat) (g : Nat → Int) (a : Int) : SV × Int := (.agg (nuC2 n g a ++ (nuC2 n g (a + 1) ++ (nuC2 n g (a + 1 + 1) ++ nuC2 n g (a + 1 + 1 + 1)))), a + 1 + 1 + 1 + 1)
noncomputable def ySpot (n : Nat) (g : Nat → Int) (a : Int) : SV × Int := (.agg [.v (.int .i64 (nxV n g a)), .v (.int .i64 (nxV n g (a + 1)))], a + 1 + 1)
noncomputable def yHandle (n : Nat) (g : Nat → Int) (a : Int) : SV × Int := (.agg [.v (.int .i64 (frV 2147483647 (nxV n g a))), .v (.int .i64 (frV 2147483647 (nxV n g (a + 1))))], a + 1 + 1)
noncomputable def ΓSa : Ctrs := addCtr noCtrs 66 (hpCtr true (sSr (s0 yNext)))
noncomputable def ΓSb : Ctrs := addCtr (addCtr ΓSa 61 (hpCtr true (sSr sFrom))) 65 (hpCtr true (sSr (s0 yNum)))
noncomputable def ΓSc : Ctrs := addCtr ΓSb 64 (hpCtr true (sSr (s0 yVec)))
noncomputable def ΓSd : Ctrs := addCtr (addCtr (addCtr ΓSc 63 (hpCtr true (sSr (s0 yPose)))) 68 (hpCtr true (sSr (s0 ySpot)))) 67 (hpCtr true (sSr (s0 yHandle)))
noncomputable def srC (n : Nat) (g : Nat → Int) (a : Int) : Nat := hide (frV 8 (nxV n g (a + 1 + 1 + 1 + 1))).toNat
def srA (a : Int) : Int := a + 1 + 1 + 1 + 1 + 1
noncomputable def srEnd (n : Nat) (g : Nat → Int) (a : Int) : Int := srA a + 2 * (srC n g a : Int)
noncomputable def srSp (n : Nat) (g : Nat → Int) (a : Int) : Nat → Int × Int := fun i => (nxV n g (srA a + 2 * (i : Int)), nxV n g (srA a + 2 * (i : Int) + 1))
noncomputable def srS4 (n : Nat) (g : Nat → Int) (a : Int) : ShB := ⟨frV 255 (nxV n g a), nxV n g (a + 1), nxV n g (a + 1 + 1), nxV n g (a + 1 + 1 + 1)⟩
noncomputable def srShE (q : Prop) (n cap : Nat) (g : Nat → Int) (a : Int) : Eff := .nd q Nat 0 (fun c => shS (srS4 n g a) (.sl 1000 2 0 (srC n g a) (srC n g a + c))) fun c => [(0, srB n cap (srEnd n g a)), (1000, spW (srC n g a) (srC n g a + c) (srSp n g a))]
noncomputable def sSrSh (args : List SV) (bs : List Blk) : Option Eff := match args, bs with
  | [.vp 0 0], [S, D] => match S.row 0 with
    | [.sl 1 1 0 n cap, .v (.int .i64 a)] => bif srOk S && niOk D then some (srShE (niPre n D ∧ 0 ≤ a ∧ a ≤ 4611686018427387000) n cap (gI D) a) else none
    | _ => none
  | _, _ => none
noncomputable def ΛSrSh (n cap e m xt : Nat) (g : Nat → Int) (a : Int) (wh : Bool) : Nat → Option LoopSpec := addPrs (addLoopN noΛ Try.f62 0 SX (fun x => x.i ≤ srC n g a ∧ x.i ≤ x.c) (fun x => srC n g a - x.i) [(4, fun x => .v (.int .i64 ((srC n g a : Int) - (x.i : Int))))] [(0, fun x => srB n cap (srA a + 2 * (x.i : Int))), (1, fun _ => niB e m g xt wh), (112, fun x => varBlk 35 [.v (.int .i64 (srS4 n g a).k), .v (.int .i64 (srS4 n g a).r), .v (.int .i64 (srS4 n g a).w), .v (.int .i64 (srS4 n g a).h), .sl 40 2 0 x.i x.c])] [(40, fun x => spW x.i x.c (srSp n g a), inVar 112 4)]) 7 [(1, fun _ => [112]), (3, fun _ => [0, 1])]
noncomputable def md (a b : Int) : Int := hide (a % b)
noncomputable def sModH : List SV → Option (Option Prop × SV)
  | [.v (.int .i64 a), .v (.int .i64 b)] => some (some (I64 a ∧ 0 < b ∧ b < 4611686018427387904), .v (.int .i64 (md a b)))
  | _ => none
theorem vcNext (n cap e m x : Nat) (g : Nat → Int) (a : Int) (wh : Bool) : (vcFn Try.prog noCtrs noΛ Try.f66 [.vp 0 0] (heapOf [srB n cap a, niB e m g x wh]) 64 (fun y h' => FinE [srB n cap a, niB e m g x wh] (.det none (yNext n g a).1 [(0, srB n cap (yNext n g a).2)]) y h')) =

(sel (decide (IntKind.wrap IntKind.i64 (a + 1) > (↑n : Int))) (((SV.v (Value.int IntKind.i64 0)) = (SV.v (Value.int IntKind.i64 (nxV n g a)))) ∧ (((1 : Nat) = 1) ∧ (((1 : Nat) ≤ 1) ∧ (((SV.sl 1 1 0 n cap) = (SV.sl 1 1 0 n cap)) ∧ ((SV.v (Value.int IntKind.i64 (IntKind.wrap IntKind.i64 (a + 1)))) = (SV.v (Value.int IntKind.i64 (Prod.snd (yNext n g a))))))))) ((((0 : Int) ≤ (IntKind.wrap IntKind.i64 (IntKind.wrap IntKind.i64 (a + 1) - 1))) ∧ (((IntKind.wrap IntKind.i64 (IntKind.wrap IntKind.i64 (a + 1) - 1)) : Int) < ((↑n : Int)))) ∧ (((SV.v (Value.int IntKind.i64 (g (0 + Int.toNat (IntKind.wrap IntKind.i64 (IntKind.wrap IntKind.i64 (a + 1) - 1)))))) = (SV.v (Value.int IntKind.i64 (nxV n g a)))) ∧ (((1 : Nat) = 1) ∧ (((1 : Nat) ≤ 1) ∧ (((SV.sl 1 1 0 n cap) = (SV.sl 1 1 0 n cap)) ∧ ((SV.v (Value.int IntKind.i64 (IntKind.wrap IntKind.i64 (a + 1)))) = (SV.v (Value.int IntKind.i64 (Prod.snd (yNext n g a))))))))))) := by kernel_rfl
theorem vcFrom (n cap e m x : Nat) (g : Nat → Int) (a most : Int) (wh : Bool) : (vcFn Try.prog ΓSa noΛ Try.f61 [.vp 0 0, .v (.int .i64 most)] (heapOf [srB n cap a, niB e m g x wh]) 64 (fun y h' => FinE [srB n cap a, niB e m g x wh] (.det none (.v (.int .i64 (frV most (nxV n g a)))) [(0, srB n cap (a + 1))]) y h')) =
((((niPre n (winBlk (niB e m g x wh) 1 0 n)) ∧ (((0 : Int) ≤ a) ∧ (((Prod.snd (yNext n (gI (winBlk (niB e m g x wh) 1 0 n)) a)) : Int) ≤ 4611686018427387904))) ∧ True) ∧ ((((IntKind.wrap IntKind.i64 (most + 1)) : Int) ≠ 0) ∧ 
(sel (decide (Int.tmod (nxV n (gI (winBlk (niB e m g x wh) 1 0 n)) a) (IntKind.wrap IntKind.i64 (most + 1)) < 0)) (((SV.v (Value.int IntKind.i64 (IntKind.wrap IntKind.i64 (0 - Int.tmod (nxV n (gI (winBlk (niB e m g x wh) 1 0 n)) a) (IntKind.wrap IntKind.i64 (most + 1)))))) = (SV.v (Value.int IntKind.i64 (frV most (nxV n g a))))) ∧ (((1 : Nat) = 1) ∧ (((1 : Nat) ≤ 1) ∧ (((SV.sl 1 1 0 n cap) = (SV.sl 1 1 0 n cap)) ∧ ((SV.v (Value.int IntKind.i64 (Prod.snd (yNext n (gI (winBlk (niB e m g x wh) 1 0 n)) a)))) = (SV.v (Value.int IntKind.i64 (a + 1)))))))) (((SV.v (Value.int IntKind.i64 (Int.tmod (nxV n (gI (winBlk (niB e m g x wh) 1 0 n)) a) (IntKind.wrap IntKind.i64 (most + 1))))) = (SV.v (Value.int IntKind.i64 (frV most (nxV n g a))))) ∧ (((1 : Nat) = 1) ∧ (((1 : Nat) ≤ 1) ∧ (((SV.sl 1 1 0 n cap) = (SV.sl 1 1 0 n cap)) ∧ ((SV.v (Value.int IntKind.i64 (Prod.snd (yNext n (gI (winBlk (niB e m g x wh) 1 0 n)) a)))) = (SV.v (Value.int IntKind.i64 (a + 1))))))))))) := by kernel_rfl
theorem vcSNum (n cap e m x : Nat) (g : Nat → Int) (a : Int) (wh : Bool) : (vcFn Try.prog ΓSa noΛ Try.f65 [.vp 0 0] (heapOf [srB n cap a, niB e m g x wh]) 64 (fun y h' => FinE [srB n cap a, niB e m g x wh] (.det none (yNum n g a).1 [(0, srB n cap (yNum n g a).2)]) y h')) =
((((niPre n (winBlk (niB e m g x wh) 1 0 n)) ∧ (((0 : Int) ≤ a) ∧ (((Prod.snd (yNext n (gI (winBlk (niB e m g x wh) 1 0 n)) a)) : Int) ≤ 4611686018427387904))) ∧ True) ∧ 
(sel (nxV n (gI (winBlk (niB e m g x wh) 1 0 n)) a == -9223372036854775808) ((((SV.v (Value.int IntKind.i64 0)) = (SV.v (Value.int IntKind.i64 (nuV (nxV n g a))))) ∧ ((SV.v (Value.bool false)) = (SV.v (Value.bool (nuF (nxV n g a)))))) ∧ (((1 : Nat) = 1) ∧ (((1 : Nat) ≤ 1) ∧ (((SV.sl 1 1 0 n cap) = (SV.sl 1 1 0 n cap)) ∧ ((SV.v (Value.int IntKind.i64 (Prod.snd (yNext n (gI (winBlk (niB e m g x wh) 1 0 n)) a)))) = (SV.v (Value.int IntKind.i64 (Prod.snd (yNum n g a))))))))) ((((SV.v (Value.int IntKind.i64 (nxV n (gI (winBlk (niB e m g x wh) 1 0 n)) a))) = (SV.v (Value.int IntKind.i64 (nuV (nxV n g a))))) ∧ ((SV.v (Value.bool (Int.tmod (nxV n (gI (winBlk (niB e m g x wh) 1 0 n)) a) 7 == 3))) = (SV.v (Value.bool (nuF (nxV n g a)))))) ∧ (((1 : Nat) = 1) ∧ (((1 : Nat) ≤ 1) ∧ (((SV.sl 1 1 0 n cap) = (SV.sl 1 1 0 n cap)) ∧ ((SV.v (Value.int IntKind.i64 (Prod.snd (yNext n (gI (winBlk (niB e m g x wh) 1 0 n)) a)))) = (SV.v (Value.int IntKind.i64 (Prod.snd (yNum n g a))))))))))) := by kernel_rfl
theorem vcSVec (n cap e m x : Nat) (g : Nat → Int) (a : Int) (wh : Bool) : (vcFn Try.prog ΓSb (addPrs noΛ 2 [(0, fun _ => [88]), (2, fun _ => [0, 1])]) Try.f64 [.vp 0 0] (heapOf [srB n cap a, niB e m g x wh]) 64 (fun y h' => FinE [srB n cap a, niB e m g x wh] (.det none (yVec n g a).1 [(0, srB n cap (yVec n g a).2)]) y h')) =
((((niPre n (winBlk (niB e m g x wh) 1 0 n)) ∧ (((0 : Int) ≤ a) ∧ (((Prod.snd (yNum n (gI (winBlk (niB e m g x wh) 1 0 n)) a)) : Int) ≤ 4611686018427387904))) ∧ True) ∧ ((((niPre n (winBlk (niB e m g x wh) 1 0 n)) ∧ (((0 : Int) ≤ (Prod.snd (yNum n (gI (winBlk (niB e m g x wh) 1 0 n)) a))) ∧ (((Prod.snd (yNum n (gI (winBlk (niB e m g x wh) 1 0 n)) (Prod.snd (yNum n (gI (winBlk (niB e m g x wh) 1 0 n)) a)))) : Int) ≤ 4611686018427387904))) ∧ True) ∧ ((((SV.v (Value.int IntKind.i64 (nuV (nxV n (gI (winBlk (niB e m g x wh) 1 0 n)) a)))) = (SV.v (Value.int IntKind.i64 (nuV (nxV n g a))))) ∧ (((SV.v (Value.bool (nuF (nxV n (gI (winBlk (niB e m g x wh) 1 0 n)) a)))) = (SV.v (Value.bool (nuF (nxV n g a))))) ∧ (((SV.v (Value.int IntKind.i64 (nuV (nxV n (gI (winBlk (niB e m g x wh) 1 0 n)) (Prod.snd (yNum n (gI (winBlk (niB e m g x wh) 1 0 n)) a)))))) = (SV.v (Value.int IntKind.i64 (nuV (nxV n g (a + 1)))))) ∧ ((SV.v (Value.bool (nuF (nxV n (gI (winBlk (niB e m g x wh) 1 0 n)) (Prod.snd (yNum n (gI (winBlk (niB e m g x wh) 1 0 n)) a)))))) = (SV.v (Value.bool (nuF (nxV n g (a + 1))))))))) ∧ (((1 : Nat) = 1) ∧ (((1 : Nat) ≤ 1) ∧ (((SV.sl 1 1 0 n cap) = (SV.sl 1 1 0 n cap)) ∧ ((SV.v (Value.int IntKind.i64 (Prod.snd (yNum n (gI (winBlk (niB e m g x wh) 1 0 n)) (Prod.snd (yNum n (gI (winBlk (niB e m g x wh) 1 0 n)) a)))))) = (SV.v (Value.int IntKind.i64 (Prod.snd (yVec n g a))))))))))) := by kernel_rfl
theorem vcSPose (n cap e m x : Nat) (g : Nat → Int) (a : Int) (wh : Bool) : (vcFn Try.prog ΓSc (addPrs noΛ 3 [(0, fun _ => [88]), (1, fun _ => [120]), (3, fun _ => [0, 1])]) Try.f63 [.vp 0 0] (heapOf [srB n cap a, niB e m g x wh]) 64 (fun y h' => FinE [srB n cap a, niB e m g x wh] (.det none (yPose n g a).1 [(0, srB n cap (yPose n g a).2)]) y h')) =
((((niPre n (winBlk (niB e m g x wh) 1 0 n)) ∧ (((0 : Int) ≤ a) ∧ (((Prod.snd (yVec n (gI (winBlk (niB e m g x wh) 1 0 n)) a)) : Int) ≤ 4611686018427387904))) ∧ True) ∧ ((((niPre n (winBlk (niB e m g x wh) 1 0 n)) ∧ (((0 : Int) ≤ (Prod.snd (yVec n (gI (winBlk (niB e m g x wh) 1 0 n)) a))) ∧ (((Prod.snd (yNum n (gI (winBlk (niB e m g x wh) 1 0 n)) (Prod.snd (yVec n (gI (winBlk (niB e m g x wh) 1 0 n)) a)))) : Int) ≤ 4611686018427387904))) ∧ True) ∧ ((((niPre n (winBlk (niB e m g x wh) 1 0 n)) ∧ (((0 : Int) ≤ (Prod.snd (yNum n (gI (winBlk (niB e m g x wh) 1 0 n)) (Prod.snd (yVec n (gI (winBlk (niB e m g x wh) 1 0 n)) a))))) ∧ (((Prod.snd (yNum n (gI (winBlk (niB e m g x wh) 1 0 n)) (Prod.snd (yNum n (gI (winBlk (niB e m g x wh) 1 0 n)) (Prod.snd (yVec n (gI (winBlk (niB e m g x wh) 1 0 n)) a)))))) : Int) ≤ 4611686018427387904))) ∧ True) ∧ ((((SV.v (Value.int IntKind.i64 (nuV (nxV n (gI (winBlk (niB e m g x wh) 1 0 n)) a)))) = (SV.v (Value.int IntKind.i64 (nuV (nxV n g a))))) ∧ (((SV.v (Value.bool (nuF (nxV n (gI (winBlk (niB e m g x wh) 1 0 n)) a)))) = (SV.v (Value.bool (nuF (nxV n g a))))) ∧ (((SV.v (Value.int IntKind.i64 (nuV (nxV n (gI (winBlk (niB e m g x wh) 1 0 n)) (a + 1))))) = (SV.v (Value.int IntKind.i64 (nuV (nxV n g (a + 1)))))) ∧ (((SV.v (Value.bool (nuF (nxV n (gI (winBlk (niB e m g x wh) 1 0 n)) (a + 1))))) = (SV.v (Value.bool (nuF (nxV n g (a + 1)))))) ∧ (((SV.v (Value.int IntKind.i64 (nuV (nxV n (gI (winBlk (niB e m g x wh) 1 0 n)) (Prod.snd (yVec n (gI (winBlk (niB e m g x wh) 1 0 n)) a)))))) = (SV.v (Value.int IntKind.i64 (nuV (nxV n g (a + 1 + 1)))))) ∧ (((SV.v (Value.bool (nuF (nxV n (gI (winBlk (niB e m g x wh) 1 0 n)) (Prod.snd (yVec n (gI (winBlk (niB e m g x wh) 1 0 n)) a)))))) = (SV.v (Value.bool (nuF (nxV n g (a + 1 + 1)))))) ∧ (((SV.v (Value.int IntKind.i64 (nuV (nxV n (gI (winBlk (niB e m g x wh) 1 0 n)) (Prod.snd (yNum n (gI (winBlk (niB e m g x wh) 1 0 n)) (Prod.snd (yVec n (gI (winBlk (niB e m g x wh) 1 0 n)) a)))))))) = (SV.v (Value.int IntKind.i64 (nuV (nxV n g (a + 1 + 1 + 1)))))) ∧ ((SV.v (Value.bool (nuF (nxV n (gI (winBlk (niB e m g x wh) 1 0 n)) (Prod.snd (yNum n (gI (winBlk (niB e m g x wh) 1 0 n)) (Prod.snd (yVec n (gI (winBlk (niB e m g x wh) 1 0 n)) a)))))))) = (SV.v (Value.bool (nuF (nxV n g (a + 1 + 1 + 1))))))))))))) ∧ (((1 : Nat) = 1) ∧ (((1 : Nat) ≤ 1) ∧ (((SV.sl 1 1 0 n cap) = (SV.sl 1 1 0 n cap)) ∧ ((SV.v (Value.int IntKind.i64 (Prod.snd (yNum n (gI (winBlk (niB e m g x wh) 1 0 n)) (Prod.snd (yNum n (gI (winBlk (niB e m g x wh) 1 0 n)) (Prod.snd (yVec n (gI (winBlk (niB e m g x wh) 1 0 n)) a)))))))) = (SV.v (Value.int IntKind.i64 (Prod.snd (yPose n g a)))))))))))) := by kernel_rfl
theorem vcSSpot (n cap e m x : Nat) (g : Nat → Int) (a : Int) (wh : Bool) : (vcFn Try.prog ΓSa noΛ Try.f68 [.vp 0 0] (heapOf [srB n cap a, niB e m g x wh]) 64 (fun y h' => FinE [srB n cap a, niB e m g x wh] (.det none (ySpot n g a).1 [(0, srB n cap (ySpot n g a).2)]) y h')) =
((((niPre n (winBlk (niB e m g x wh) 1 0 n)) ∧ (((0 : Int) ≤ a) ∧ (((Prod.snd (yNext n (gI (winBlk (niB e m g x wh) 1 0 n)) a)) : Int) ≤ 4611686018427387904))) ∧ True) ∧ ((((niPre n (winBlk (niB e m g x wh) 1 0 n)) ∧ (((0 : Int) ≤ (Prod.snd (yNext n (gI (winBlk (niB e m g x wh) 1 0 n)) a))) ∧ (((Prod.snd (yNext n (gI (winBlk (niB e m g x wh) 1 0 n)) (Prod.snd (yNext n (gI (winBlk (niB e m g x wh) 1 0 n)) a)))) : Int) ≤ 4611686018427387904))) ∧ True) ∧ ((((SV.v (Value.int IntKind.i64 (nxV n (gI (winBlk (niB e m g x wh) 1 0 n)) a))) = (SV.v (Value.int IntKind.i64 (nxV n g a)))) ∧ ((SV.v (Value.int IntKind.i64 (nxV n (gI (winBlk (niB e m g x wh) 1 0 n)) (Prod.snd (yNext n (gI (winBlk (niB e m g x wh) 1 0 n)) a))))) = (SV.v (Value.int IntKind.i64 (nxV n g (a + 1)))))) ∧ (((1 : Nat) = 1) ∧ (((1 : Nat) ≤ 1) ∧ (((SV.sl 1 1 0 n cap) = (SV.sl 1 1 0 n cap)) ∧ ((SV.v (Value.int IntKind.i64 (Prod.snd (yNext n (gI (winBlk (niB e m g x wh) 1 0 n)) (Prod.snd (yNext n (gI (winBlk (niB e m g x wh) 1 0 n)) a)))))) = (SV.v (Value.int IntKind.i64 (Prod.snd (ySpot n g a))))))))))) := by kernel_rfl
theorem vcSHandle (n cap e m x : Nat) (g : Nat → Int) (a : Int) (wh : Bool) : (vcFn Try.prog ΓSb noΛ Try.f67 [.vp 0 0] (heapOf [srB n cap a, niB e m g x wh]) 64 (fun y h' => FinE [srB n cap a, niB e m g x wh] (.det none (yHandle n g a).1 [(0, srB n cap (yHandle n g a).2)]) y h')) =
((((niPre n (winBlk (niB e m g x wh) 1 0 n)) ∧ (((0 : Int) ≤ a) ∧ (((a + 1) : Int) ≤ 4611686018427387904))) ∧ (((0 : Int) ≤ 2147483647) ∧ ((2147483647 : Int) ≤ 4611686018427387904))) ∧ ((((niPre n (winBlk (niB e m g x wh) 1 0 n)) ∧ (((0 : Int) ≤ (a + 1)) ∧ (((a + 1 + 1) : Int) ≤ 4611686018427387904))) ∧ (((0 : Int) ≤ 2147483647) ∧ ((2147483647 : Int) ≤ 4611686018427387904))) ∧ ((((SV.v (Value.int IntKind.i64 (frV 2147483647 (nxV n (gI (winBlk (niB e m g x wh) 1 0 n)) a)))) = (SV.v (Value.int IntKind.i64 (frV 2147483647 (nxV n g a))))) ∧ ((SV.v (Value.int IntKind.i64 (frV 2147483647 (nxV n (gI (winBlk (niB e m g x wh) 1 0 n)) (a + 1))))) = (SV.v (Value.int IntKind.i64 (frV 2147483647 (nxV n g (a + 1))))))) ∧ (((1 : Nat) = 1) ∧ (((1 : Nat) ≤ 1) ∧ (((SV.sl 1 1 0 n cap) = (SV.sl 1 1 0 n cap)) ∧ ((SV.v (Value.int IntKind.i64 (a + 1 + 1))) = (SV.v (Value.int IntKind.i64 (Prod.snd (yHandle n g a))))))))))) := by kernel_rfl
theorem vcSShape (n cap e m x : Nat) (g : Nat → Int) (a : Int) (wh : Bool) : (vcFn Try.prog ΓSd (ΛSrSh n cap e m x g a wh) Try.f62 [.vp 0 0] (heapOf [srB n cap a, niB e m g x wh]) 64 (fun y h' => FinE [srB n cap a, niB e m g x wh] (srShE True n cap g a) y h')) =
((((niPre n (winBlk (niB e m g x wh) 1 0 n)) ∧ (((0 : Int) ≤ a) ∧ (((a + 1) : Int) ≤ 4611686018427387904))) ∧ (((0 : Int) ≤ 255) ∧ ((255 : Int) ≤ 4611686018427387904))) ∧ ((((niPre n (winBlk (niB e m g x wh) 1 0 n)) ∧ (((0 : Int) ≤ (a + 1)) ∧ (((Prod.snd (yNext n (gI (winBlk (niB e m g x wh) 1 0 n)) (a + 1))) : Int) ≤ 4611686018427387904))) ∧ True) ∧ ((((niPre n (winBlk (niB e m g x wh) 1 0 n)) ∧ (((0 : Int) ≤ (Prod.snd (yNext n (gI (winBlk (niB e m g x wh) 1 0 n)) (a + 1)))) ∧ (((Prod.snd (yNext n (gI (winBlk (niB e m g x wh) 1 0 n)) (Prod.snd (yNext n (gI (winBlk (niB e m g x wh) 1 0 n)) (a + 1))))) : Int) ≤ 4611686018427387904))) ∧ True) ∧ ((((niPre n (winBlk (niB e m g x wh) 1 0 n)) ∧ (((0 : Int) ≤ (Prod.snd (yNext n (gI (winBlk (niB e m g x wh) 1 0 n)) (Prod.snd (yNext n (gI (winBlk (niB e m g x wh) 1 0 n)) (a + 1)))))) ∧ (((Prod.snd (yNext n (gI (winBlk (niB e m g x wh) 1 0 n)) (Prod.snd (yNext n (gI (winBlk (niB e m g x wh) 1 0 n)) (Prod.snd (yNext n (gI (winBlk (niB e m g x wh) 1 0 n)) (a + 1))))))) : Int) ≤ 4611686018427387904))) ∧ True) ∧ ((((niPre n (winBlk (niB e m g x wh) 1 0 n)) ∧ (((0 : Int) ≤ (Prod.snd (yNext n (gI (winBlk (niB e m g x wh) 1 0 n)) (Prod.snd (yNext n (gI (winBlk (niB e m g x wh) 1 0 n)) (Prod.snd (yNext n (gI (winBlk (niB e m g x wh) 1 0 n)) (a + 1)))))))) ∧ (((Prod.snd (yNext n (gI (winBlk (niB e m g x wh) 1 0 n)) (Prod.snd (yNext n (gI (winBlk (niB e m g x wh) 1 0 n)) (Prod.snd (yNext n (gI (winBlk (niB e m g x wh) 1 0 n)) (a + 1)))))) + 1) : Int) ≤ 4611686018427387904))) ∧ (((0 : Int) ≤ 8) ∧ ((8 : Int) ≤ 4611686018427387904))) ∧ ((∃ x_1 : SX, (((((SX.i x_1) : Nat) ≤ (srC n g a)) ∧ (((SX.i x_1) : Nat) ≤ (SX.c x_1))) ∧ (((SV.v (Value.int IntKind.i64 (frV 8 (nxV n (gI (winBlk (niB e m g x wh) 1 0 n)) (Prod.snd (yNext n (gI (winBlk (niB e m g x wh) 1 0 n)) (Prod.snd (yNext n (gI (winBlk (niB e m g x wh) 1 0 n)) (Prod.snd (yNext n (gI (winBlk (niB e m g x wh) 1 0 n)) (a + 1))))))))))) = (SV.v (Value.int IntKind.i64 ((↑(srC n g a) : Int) - (↑(SX.i x_1) : Int))))) ∧ ((((1 : Nat) = 1) ∧ (((1 : Nat) ≤ 1) ∧ (((SV.sl 1 1 0 n cap) = (SV.sl 1 1 0 n cap)) ∧ ((SV.v (Value.int IntKind.i64 (Prod.snd (yNext n (gI (winBlk (niB e m g x wh) 1 0 n)) (Prod.snd (yNext n (gI (winBlk (niB e m g x wh) 1 0 n)) (Prod.snd (yNext n (gI (winBlk (niB e m g x wh) 1 0 n)) (a + 1)))))) + 1))) = (SV.v (Value.int IntKind.i64 (srA a + 2 * (↑(SX.i x_1) : Int)))))))) ∧ (
(sel (Nat.beq 1 1 && false == false && !false && !false && (true || !true) && !false && !false && (Nat.beq e 0 || Nat.beq e e) && (!wh || wh)) (((m : Nat) = m) ∧ (((x : Nat) ≤ x) ∧ (∀ i : Nat, (((i : Nat) < m) → ([(SV.v (Value.int IntKind.i64 (g i)))] = [(SV.v (Value.int IntKind.i64 (g i)))]))))) False) ∧ ((((1 : Nat) = 1) ∧ (((1 : Nat) ≤ 1) ∧ (((SV.v (Value.int IntKind.i64 (frV 255 (nxV n (gI (winBlk (niB e m g x wh) 1 0 n)) a)))) = (SV.v (Value.int IntKind.i64 (ShB.k (srS4 n g a))))) ∧ (((SV.v (Value.int IntKind.i64 (nxV n (gI (winBlk (niB e m g x wh) 1 0 n)) (a + 1)))) = (SV.v (Value.int IntKind.i64 (ShB.r (srS4 n g a))))) ∧ (((SV.v (Value.int IntKind.i64 (nxV n (gI (winBlk (niB e m g x wh) 1 0 n)) (Prod.snd (yNext n (gI (winBlk (niB e m g x wh) 1 0 n)) (a + 1)))))) = (SV.v (Value.int IntKind.i64 (ShB.w (srS4 n g a))))) ∧ (((SV.v (Value.int IntKind.i64 (nxV n (gI (winBlk (niB e m g x wh) 1 0 n)) (Prod.snd (yNext n (gI (winBlk (niB e m g x wh) 1 0 n)) (Prod.snd (yNext n (gI (winBlk (niB e m g x wh) 1 0 n)) (a + 1)))))))) = (SV.v (Value.int IntKind.i64 (ShB.h (srS4 n g a))))) ∧ (((SV.v (Value.slice none 0 0)) = (SV.v (Value.slice none 0 0))) ∧ (((0 : Nat) = 0) ∧ ((((SX.i x_1) : Nat) = 0) ∧ (((SX.c x_1) : Nat) = 0)))))))))) ∧ (((((SX.i x_1) : Nat) = 0) ∧ ((((SX.c x_1) : Nat) = 0) ∧ True)) ∧ True))))))) ∧ (∀ x_1 : SX, (((((SX.i x_1) : Nat) ≤ (srC n g a)) ∧ (((SX.i x_1) : Nat) ≤ (SX.c x_1))) → 
(sel (decide ((↑(srC n g a) : Int) - (↑(SX.i x_1) : Int) > 0)) ((((niPre n (winBlk (niB e m g x wh) 1 0 n)) ∧ (((0 : Int) ≤ (srA a + 2 * (↑(SX.i x_1) : Int))) ∧ (((Prod.snd (ySpot n (gI (winBlk (niB e m g x wh) 1 0 n)) (srA a + 2 * (↑(SX.i x_1) : Int)))) : Int) ≤ 4611686018427387904))) ∧ True) ∧ ((((((SX.i x_1 + 1) * 16) : Nat) ≤ 140737488355328) ∧ ((((0 + SX.c x_1) : Nat) ≤ (SX.c x_1)) ∧ (∀ y : Nat, (((y : Nat) < 1) → True)))) ∧ (∀ c : Nat, (∃ x' : SX, ((((((SX.i x') : Nat) ≤ (srC n g a)) ∧ (((SX.i x') : Nat) ≤ (SX.c x'))) ∧ (((SV.v (Value.int IntKind.i64 (IntKind.wrap IntKind.i64 ((↑(srC n g a) : Int) - (↑(SX.i x_1) : Int) - 1)))) = (SV.v (Value.int IntKind.i64 ((↑(srC n g a) : Int) - (↑(SX.i x') : Int))))) ∧ ((((1 : Nat) = 1) ∧ (((1 : Nat) ≤ 1) ∧ (((SV.sl 1 1 0 n cap) = (SV.sl 1 1 0 n cap)) ∧ ((SV.v (Value.int IntKind.i64 (Prod.snd (ySpot n (gI (winBlk (niB e m g x wh) 1 0 n)) (srA a + 2 * (↑(SX.i x_1) : Int)))))) = (SV.v (Value.int IntKind.i64 (srA a + 2 * (↑(SX.i x') : Int)))))))) ∧ (
(sel (Nat.beq 1 1 && false == false && !false && !false && (true || !true) && !false && !false && (Nat.beq e 0 || Nat.beq e e) && (!wh || wh)) (((m : Nat) = m) ∧ (((x : Nat) ≤ x) ∧ (∀ i : Nat, (((i : Nat) < m) → ([(SV.v (Value.int IntKind.i64 (g i)))] = [(SV.v (Value.int IntKind.i64 (g i)))]))))) False) ∧ ((((1 : Nat) = 1) ∧ (((1 : Nat) ≤ 1) ∧ (((SV.v (Value.int IntKind.i64 (ShB.k (srS4 n g a)))) = (SV.v (Value.int IntKind.i64 (ShB.k (srS4 n g a))))) ∧ (((SV.v (Value.int IntKind.i64 (ShB.r (srS4 n g a)))) = (SV.v (Value.int IntKind.i64 (ShB.r (srS4 n g a))))) ∧ (((SV.v (Value.int IntKind.i64 (ShB.w (srS4 n g a)))) = (SV.v (Value.int IntKind.i64 (ShB.w (srS4 n g a))))) ∧ (((SV.v (Value.int IntKind.i64 (ShB.h (srS4 n g a)))) = (SV.v (Value.int IntKind.i64 (ShB.h (srS4 n g a))))) ∧ ((SV.sl 272 2 0 (SX.i x_1 + 1) (SX.i x_1 + 1 + c)) = (SV.sl 272 2 0 (SX.i x') (SX.c x'))))))))) ∧ ((((SX.i x_1 + 1) : Nat) = (SX.i x')) ∧ ((((SX.c x') : Nat) ≤ (SX.i x_1 + 1 + c)) ∧ (∀ i : Nat, (((i : Nat) < (SX.i x')) → ([(SV.v (Value.int IntKind.i64 (bop (Nat.blt i (SX.i x_1)) (Prod.fst (srSp n g a (0 + i))) (nxV n (gI (winBlk (niB e m g x wh) 1 0 n)) (srA a + 2 * (↑(SX.i x_1) : Int)))))), (SV.v (Value.int IntKind.i64 (bop (Nat.blt i (SX.i x_1)) (Prod.snd (srSp n g a (0 + i))) (nxV n (gI (winBlk (niB e m g x wh) 1 0 n)) (srA a + 2 * (↑(SX.i x_1) : Int) + 1)))))] = [(SV.v (Value.int IntKind.i64 (Prod.fst (srSp n g a i)))), (SV.v (Value.int IntKind.i64 (Prod.snd (srSp n g a i))))])))))))))) ∧ (((srC n g a - SX.i x') : Nat) < (srC n g a - SX.i x_1))))))) (∃ c : Nat, ((((SV.v (Value.int IntKind.i64 (ShB.k (srS4 n g a)))) = (SV.v (Value.int IntKind.i64 (ShB.k (srS4 n g a))))) ∧ (((SV.v (Value.int IntKind.i64 (ShB.r (srS4 n g a)))) = (SV.v (Value.int IntKind.i64 (ShB.r (srS4 n g a))))) ∧ (((SV.v (Value.int IntKind.i64 (ShB.w (srS4 n g a)))) = (SV.v (Value.int IntKind.i64 (ShB.w (srS4 n g a))))) ∧ (((SV.v (Value.int IntKind.i64 (ShB.h (srS4 n g a)))) = (SV.v (Value.int IntKind.i64 (ShB.h (srS4 n g a))))) ∧ ((SV.sl 40 2 0 (SX.i x_1) (SX.c x_1)) = (SV.sl 40 2 0 (srC n g a) (srC n g a + c))))))) ∧ ((((1 : Nat) = 1) ∧ (((1 : Nat) ≤ 1) ∧ (((SV.sl 1 1 0 n cap) = (SV.sl 1 1 0 n cap)) ∧ ((SV.v (Value.int IntKind.i64 (srA a + 2 * (↑(SX.i x_1) : Int)))) = (SV.v (Value.int IntKind.i64 (srEnd n g a))))))) ∧ ((((SX.i x_1) : Nat) = (srC n g a)) ∧ ((((srC n g a + c) : Nat) ≤ (SX.c x_1)) ∧ (∀ i : Nat, (((i : Nat) < (srC n g a)) → ([(SV.v (Value.int IntKind.i64 (Prod.fst (srSp n g a i)))), (SV.v (Value.int IntKind.i64 (Prod.snd (srSp n g a i))))] = [(SV.v (Value.int IntKind.i64 (Prod.fst (srSp n g a i)))), (SV.v (Value.int IntKind.i64 (Prod.snd (srSp n g a i))))]))))))))))))))))) := by kernel_rfl
theorem vcModH (a b : Int) (R : SV → Prop) : (vcPure Try.prog noCtrs noΛ Try.f39 [.v (.int .i64 a), .v (.int .i64 b)] R) =
(((b : Int) ≠ 0) ∧ 
(sel (decide (Int.tmod a b < 0)) (R (SV.v (Value.int IntKind.i64 (IntKind.wrap IntKind.i64 (Int.tmod a b + b))))) (R (SV.v (Value.int IntKind.i64 (Int.tmod a b)))))) := by kernel_rfl
theorem gI_win {e m n x : Nat} {g : Nat → Int} {wh : Bool} : gI (winBlk (niB e m g x wh) 1 0 n) = g := funext fun i => by
  show i1 [SV.v (.int .i64 (g (0 + i)))] = g i
  rw [Nat.zero_add]; rfl
theorem niPre_win {e m n x : Nat} {g : Nat → Int} {wh : Bool} (h : gOk n g) : niPre n (winBlk (niB e m g x wh) 1 0 n) := ⟨⟨rfl, h.1⟩, fun i hi => by
  show I64 (g (0 + i))
  rw [Nat.zero_add]; exact h.2 i hi⟩
theorem isI1_row {r : List SV} (h : isI1 r) : r = [.v (.int .i64 (i1 r))] ∧ I64 (i1 r) := by
  unfold isI1 at h
  split at h
  · exact ⟨rfl, h⟩
  · exact h.elim
theorem same_srB {S : Blk} {n cap : Nat} {a : Int} (h1 : srOk S = true) (h2 : S.row 0 = [.sl 1 1 0 n cap, .v (.int .i64 a)]) : BlkSame S (srB n cap a) := by
  simp only [srOk, Bool.and_eq_true, Bool.not_eq_true'] at h1
  obtain ⟨⟨⟨⟨⟨⟨⟨a1, a2⟩, a3⟩, a4⟩, a5⟩, a6⟩, a7⟩, a8⟩ := h1
  have hn := Nat.eq_of_beq_eq_true a5
  exact ⟨Nat.eq_of_beq_eq_true a2, a3, a8, hn, Nat.eq_of_beq_eq_true a6, a4, Nat.eq_of_beq_eq_true a1, a7, fun i hi => by
    have : i = 0 := by omega
    subst this
    exact h2⟩
theorem same_niB {D : Blk} {n : Nat} (h1 : niOk D = true) (h2 : niPre n D) : BlkSame D (niB D.elem n (gI D) D.ext D.whole) := by
  simp only [niOk, Bool.and_eq_true, Bool.not_eq_true'] at h1
  obtain ⟨⟨⟨a1, a2⟩, a3⟩, a4⟩ := h1
  exact ⟨Nat.eq_of_beq_eq_true a1, a2, a4, h2.1.1, rfl, a3, rfl, rfl, fun i hi => (isI1_row (h2.2 i (by rw [h2.1.1] at hi; exact hi))).1⟩
theorem niPre_ok {D : Blk} {n : Nat} (h : niPre n D) : gOk n (gI D) := ⟨h.1.2, fun i hi => (isI1_row (h.2 i hi)).2⟩
theorem sr_spec {Γ : Ctrs} (hΓ : ∀ f g, Γ f = some g → g.ok Try.prog f) {f : FuncId} {fn : Func} (hf : Try.prog.funcs[f]? = some fn) {F : List SV → Nat → (Nat → Int) → Int → Option (Prop × SV × Int)} {Λ : List SV → List Blk → Nat → Option LoopSpec}
    (h : ∀ rest n cap e x g a wh q y a' bs, F rest n g a = some (q, y, a') → q → gOk n g → 0 ≤ a → a' ≤ 4611686018427387904 → vcFn Try.prog Γ (Λ rest bs) fn (.vp 0 0 :: rest) (heapOf [srB n cap a, niB e n g x wh]) 64 (fun y' h' => FinE [srB n cap a, niB e n g x wh] (.det none y [(0, srB n cap a')]) y' h')) :
    HpSpec Try.prog f (sSr F) := hp_spec hm hΓ hf (Λ := fun args bs => match args with
      | _ :: rest => Λ rest bs
      | _ => noΛ) fun args bs e hs hp => by
  unfold sSr at hs
  split at hs <;> try (cases hs; done)
  rename_i rest S D
  split at hs <;> try (cases hs; done)
  rename_i n cap a hS
  split at hs <;> try (cases hs; done)
  rename_i q y a' hF
  obtain ⟨ha, he⟩ := bif_some hs
  subst he
  rw [Bool.and_eq_true] at ha
  obtain ⟨⟨h1, h2, h3⟩, hq⟩ := hp _ rfl
  exact ⟨[srB n cap a, niB D.elem n (gI D) D.ext D.whole], ⟨same_srB ha.1 hS, same_niB ha.2 h1, trivial⟩, h rest n cap D.elem D.ext (gI D) a D.whole q y a' _ hF hq (niPre_ok h1) h2 h3⟩
theorem s0_spec {Γ : Ctrs} (hΓ : ∀ f g, Γ f = some g → g.ok Try.prog f) {f : FuncId} {fn : Func} (hf : Try.prog.funcs[f]? = some fn) {F : Nat → (Nat → Int) → Int → SV × Int} {Λ : Nat → Option LoopSpec}
    (h : ∀ n cap e x g a wh, gOk n g → 0 ≤ a → (F n g a).2 ≤ 4611686018427387904 → vcFn Try.prog Γ Λ fn [.vp 0 0] (heapOf [srB n cap a, niB e n g x wh]) 64 (fun y' h' => FinE [srB n cap a, niB e n g x wh] (.det none (F n g a).1 [(0, srB n cap (F n g a).2)]) y' h')) :
    HpSpec Try.prog f (sSr (s0 F)) := sr_spec hΓ hf (Λ := fun _ _ => Λ) fun rest n cap e x g a wh q y a' bs hF hq hg h0 h1 => by
  unfold s0 at hF
  split at hF <;> try (cases hF; done)
  have hF := Option.some.inj hF
  obtain ⟨_, hF⟩ := Prod.mk.inj hF
  obtain ⟨e1, e2⟩ := Prod.mk.inj hF
  subst e1 e2
  exact h n cap e x g a wh hg h0 h1
theorem nxV_in {n : Nat} {g : Nat → Int} {a : Int} (h : a < (n : Int)) : nxV n g a = g a.toNat := by
  unfold nxV; rw [hide_eq, decide_eq_true h]; rfl
theorem nxV_out {n : Nat} {g : Nat → Int} {a : Int} (h : ¬ a < (n : Int)) : nxV n g a = 0 := by
  unfold nxV; rw [hide_eq, decide_eq_false h]; rfl
theorem nx_rng {n : Nat} {g : Nat → Int} {a : Int} (hg : gOk n g) (h0 : 0 ≤ a) : I64 (nxV n g a) := by
  by_cases h : a < (n : Int)
  · rw [nxV_in h]; exact hg.2 _ (by omega)
  · rw [nxV_out h]; exact ⟨by omega, by omega⟩
theorem Next_spec : HpSpec Try.prog 66 (sSr (s0 yNext)) := s0_spec noCtrs_ok Try.func66 (Λ := noΛ) fun n cap e x g a wh hg h0 h1 => by
  have h1 : a + 1 ≤ 4611686018427387904 := h1
  have e1 : IntKind.i64.wrap (a + 1) = a + 1 := wrap_i64 ⟨by omega, by omega⟩
  have e2 : IntKind.i64.wrap (a + 1 - 1) = a := by rw [wrap_i64 ⟨by omega, by omega⟩]; omega
  rw [vcNext, e1, e2]
  refine sel_of (fun h => ?_) fun h => ?_
  · have h := of_decide_eq_true h
    exact ⟨int_mk (nxV_out (by omega)).symm, rfl, Nat.le_refl _, rfl, rfl⟩
  · have h := of_decide_eq_false h
    refine ⟨⟨h0, by omega⟩, int_mk ?_, rfl, Nat.le_refl _, rfl, rfl⟩
    rw [nxV_in (by omega), Nat.zero_add]
theorem ΓSa_ok : ∀ f g, ΓSa f = some g → g.ok Try.prog f := addCtr_ok noCtrs_ok (hp_ok Try.func66 (by kernel_rfl) (by kernel_rfl) Next_spec)
theorem tmod_rng (x : Int) {b : Int} (hb : 0 < b) : -b < x.tmod b ∧ x.tmod b < b := by
  have h1 := Int.tmod_lt_of_pos x hb
  have h2 := Int.tmod_lt_of_pos (-x) hb
  rw [Int.neg_tmod] at h2
  omega
theorem fr_rng {m : Int} (hm : 0 ≤ m) (x : Int) : 0 ≤ frV m x ∧ frV m x ≤ m := by
  unfold frV
  rw [hide_eq]
  have := tmod_rng x (b := m + 1) (by omega)
  omega
theorem From_spec : HpSpec Try.prog 61 (sSr sFrom) := sr_spec ΓSa_ok Try.func61 (Λ := fun _ _ => noΛ) fun rest n cap e x g a wh q y a' bs hF hq hg h0 h1 => by
  unfold sFrom at hF
  split at hF <;> try (cases hF; done)
  rename_i m
  have hF := Option.some.inj hF
  obtain ⟨eq, hF⟩ := Prod.mk.inj hF
  obtain ⟨e1, e2⟩ := Prod.mk.inj hF
  subst eq e1 e2
  have ew : IntKind.i64.wrap (m + 1) = m + 1 := wrap_i64 ⟨by omega, by omega⟩
  refine Eq.mpr (vcFrom n cap e n x g a m wh) ?_
  rw [gI_win, ew]
  have ht := tmod_rng (nxV n g a) (b := m + 1) (by omega)
  refine ⟨⟨⟨niPre_win hg, h0, h1⟩, trivial⟩, by omega, sel_of (fun h => ?_) fun h => ?_⟩
  · have h := of_decide_eq_true h
    refine ⟨int_mk ?_, rfl, Nat.le_refl _, rfl, rfl⟩
    unfold frV
    rw [hide_eq, wrap_i64 ⟨by omega, by omega⟩]
    omega
  · have h := of_decide_eq_false h
    refine ⟨int_mk ?_, rfl, Nat.le_refl _, rfl, rfl⟩
    unfold frV
    rw [hide_eq]
    omega
theorem SNum_spec : HpSpec Try.prog 65 (sSr (s0 yNum)) := s0_spec ΓSa_ok Try.func65 (Λ := noΛ) fun n cap e x g a wh hg h0 h1 => by
  refine Eq.mpr (vcSNum n cap e n x g a wh) ?_
  rw [gI_win]
  refine ⟨⟨⟨niPre_win hg, h0, h1⟩, trivial⟩, sel_of (fun h => ?_) fun h => ?_⟩
  · have h : nxV n g a = -9223372036854775808 := by simpa using h
    have e1 : nuV (nxV n g a) = 0 := by unfold nuV; rw [hide_eq, decide_eq_true h]; rfl
    have e2 : nuF (nxV n g a) = false := by unfold nuF; rw [hide_eq, e1]; rfl
    exact ⟨⟨int_mk e1.symm, bool_mk e2.symm⟩, rfl, Nat.le_refl _, rfl, rfl⟩
  · have h : ¬ nxV n g a = -9223372036854775808 := by simpa using h
    have e1 : nuV (nxV n g a) = nxV n g a := by unfold nuV; rw [hide_eq, decide_eq_false h]; rfl
    have e2 : nuF (nxV n g a) = (Int.tmod (nxV n g a) 7 == 3) := by unfold nuF; rw [hide_eq, e1]; rfl
    exact ⟨⟨int_mk e1.symm, bool_mk e2.symm⟩, rfl, Nat.le_refl _, rfl, rfl⟩
theorem ΓSb_ok : ∀ f g, ΓSb f = some g → g.ok Try.prog f := addCtr_ok (addCtr_ok ΓSa_ok (hp_ok Try.func61 (by kernel_rfl) (by kernel_rfl) From_spec)) (hp_ok Try.func65 (by kernel_rfl) (by kernel_rfl) SNum_spec)
theorem SVec_spec : HpSpec Try.prog 64 (sSr (s0 yVec)) := s0_spec ΓSb_ok Try.func64 (Λ := addPrs noΛ 2 [(0, fun _ => [88]), (2, fun _ => [0, 1])]) fun n cap e x g a wh hg h0 h1 => by
  have h1 : a + 1 + 1 ≤ 4611686018427387904 := h1
  refine Eq.mpr (vcSVec n cap e n x g a wh) ?_
  rw [gI_win]
  exact ⟨⟨⟨niPre_win hg, h0, by show a + 1 ≤ _; omega⟩, trivial⟩, ⟨⟨niPre_win hg, by show 0 ≤ a + 1; omega, h1⟩, trivial⟩, ⟨rfl, rfl, rfl, rfl⟩, rfl, Nat.le_refl _, rfl, rfl⟩
theorem ΓSc_ok : ∀ f g, ΓSc f = some g → g.ok Try.prog f := addCtr_ok ΓSb_ok (hp_ok Try.func64 (by kernel_rfl) (by kernel_rfl) SVec_spec)
theorem SPose_spec : HpSpec Try.prog 63 (sSr (s0 yPose)) := s0_spec ΓSc_ok Try.func63 (Λ := addPrs noΛ 3 [(0, fun _ => [88]), (1, fun _ => [120]), (3, fun _ => [0, 1])]) fun n cap e x g a wh hg h0 h1 => by
  have h1 : a + 1 + 1 + 1 + 1 ≤ 4611686018427387904 := h1
  refine Eq.mpr (vcSPose n cap e n x g a wh) ?_
  rw [gI_win]
  exact ⟨⟨⟨niPre_win hg, h0, by show a + 1 + 1 ≤ _; omega⟩, trivial⟩, ⟨⟨niPre_win hg, by show 0 ≤ a + 1 + 1; omega, by show a + 1 + 1 + 1 ≤ _; omega⟩, trivial⟩, ⟨⟨niPre_win hg, by show 0 ≤ a + 1 + 1 + 1; omega, h1⟩, trivial⟩, ⟨rfl, rfl, rfl, rfl, rfl, rfl, rfl, rfl⟩, rfl, Nat.le_refl _, rfl, rfl⟩
theorem SSpot_spec : HpSpec Try.prog 68 (sSr (s0 ySpot)) := s0_spec ΓSa_ok Try.func68 (Λ := noΛ) fun n cap e x g a wh hg h0 h1 => by
  have h1 : a + 1 + 1 ≤ 4611686018427387904 := h1
  refine Eq.mpr (vcSSpot n cap e n x g a wh) ?_
  rw [gI_win]
  exact ⟨⟨⟨niPre_win hg, h0, by show a + 1 ≤ _; omega⟩, trivial⟩, ⟨⟨niPre_win hg, by show 0 ≤ a + 1; omega, h1⟩, trivial⟩, ⟨rfl, rfl⟩, rfl, Nat.le_refl _, rfl, rfl⟩
theorem SHandle_spec : HpSpec Try.prog 67 (sSr (s0 yHandle)) := s0_spec ΓSb_ok Try.func67 (Λ := noΛ) fun n cap e x g a wh hg h0 h1 => by
  have h1 : a + 1 + 1 ≤ 4611686018427387904 := h1
  refine Eq.mpr (vcSHandle n cap e n x g a wh) ?_
  rw [gI_win]
  exact ⟨⟨⟨niPre_win hg, h0, by omega⟩, by omega, by omega⟩, ⟨⟨niPre_win hg, by omega, h1⟩, by omega, by omega⟩, ⟨rfl, rfl⟩, rfl, Nat.le_refl _, rfl, rfl⟩
theorem ΓSd_ok : ∀ f g, ΓSd f = some g → g.ok Try.prog f := addCtr_ok (addCtr_ok (addCtr_ok ΓSc_ok (hp_ok Try.func63 (by kernel_rfl) (by kernel_rfl) SPose_spec)) (hp_ok Try.func68 (by kernel_rfl) (by kernel_rfl) SSpot_spec)) (hp_ok Try.func67 (by kernel_rfl) (by kernel_rfl) SHandle_spec)
theorem srC_int (n : Nat) (g : Nat → Int) (a : Int) : frV 8 (nxV n g (a + 1 + 1 + 1 + 1)) = (srC n g a : Int) := by
  have := fr_rng (m := 8) (by omega) (nxV n g (a + 1 + 1 + 1 + 1))
  unfold srC
  rw [hide_eq]
  omega
theorem srC_le (n : Nat) (g : Nat → Int) (a : Int) : srC n g a ≤ 8 := by
  have := fr_rng (m := 8) (by omega) (nxV n g (a + 1 + 1 + 1 + 1))
  have := srC_int n g a
  omega
theorem selT_of {b : Bool} {x y : Prop} (h : b = true) (hx : x) : sel b x y := by subst h; exact hx
theorem SShape_spec : HpSpec Try.prog 62 sSrSh := hp_spec hm ΓSd_ok Try.func62 (Λ := fun args bs => match bs with
    | [S, D] => match S.row 0 with
      | [.sl _ _ _ n cap, .v (.int _ a)] => ΛSrSh n cap D.elem n D.ext (gI D) a D.whole
      | _ => noΛ
    | _ => noΛ) fun args bs e hs hp => by
  unfold sSrSh at hs
  split at hs <;> try (cases hs; done)
  rename_i S D
  split at hs <;> try (cases hs; done)
  rename_i n cap a hS
  obtain ⟨ha, he⟩ := bif_some hs
  subst he
  rw [Bool.and_eq_true] at ha
  obtain ⟨h1, h2, h3⟩ := hp
  refine ⟨[srB n cap a, niB D.elem n (gI D) D.ext D.whole], ⟨same_srB ha.1 hS, same_niB ha.2 h1, trivial⟩, ?_⟩
  simp only [hS]
  have hg := niPre_ok h1
  generalize gI D = g at hg ⊢
  generalize D.elem = e
  generalize D.ext = x
  generalize D.whole = wh
  refine Eq.mpr (vcSShape n cap e n x g a wh) ?_
  rw [gI_win]
  have hC := srC_int n g a
  have hC8 := srC_le n g a
  have hc : ∀ (e : Nat) (wh : Bool), (Nat.beq 1 1 && false == false && !false && !false && (true || !true) && !false && !false && (Nat.beq e 0 || Nat.beq e e) && (!wh || wh)) = true := fun e wh => by
    rw [show Nat.beq e e = true from Nat.beq_refl e, Bool.or_true]; cases wh <;> rfl
  refine ⟨⟨⟨niPre_win hg, h2, by omega⟩, by omega, by omega⟩, ⟨⟨niPre_win hg, by omega, by show a + 1 + 1 ≤ _; omega⟩, trivial⟩, ⟨⟨niPre_win hg, by show 0 ≤ a + 1 + 1; omega, by show a + 1 + 1 + 1 ≤ _; omega⟩, trivial⟩, ⟨⟨niPre_win hg, by show 0 ≤ a + 1 + 1 + 1; omega, by show a + 1 + 1 + 1 + 1 ≤ _; omega⟩, trivial⟩, ⟨⟨niPre_win hg, by show 0 ≤ a + 1 + 1 + 1 + 1; omega, by show a + 1 + 1 + 1 + 1 + 1 ≤ _; omega⟩, by omega, by omega⟩,
    ⟨⟨0, 0⟩, ⟨Nat.zero_le _, Nat.le_refl _⟩, int_mk ?_, ⟨rfl, Nat.le_refl _, rfl, int_mk ?_⟩, selT_of (hc _ _) ⟨rfl, Nat.le_refl _, fun _ _ => rfl⟩, ⟨rfl, Nat.le_refl _, rfl, rfl, rfl, rfl, rfl, rfl, rfl, rfl⟩, ⟨rfl, rfl, trivial⟩, trivial⟩, fun x hx => sel_of (fun hlt => ?_) fun hge => ?_⟩
  · show frV 8 (nxV n g (a + 1 + 1 + 1 + 1)) = (srC n g a : Int) - ((0 : Nat) : Int)
    omega
  · show a + 1 + 1 + 1 + 1 + 1 = srA a + 2 * ((0 : Nat) : Int)
    unfold srA; omega
  · obtain ⟨hx1, hx2⟩ := hx
    have hlt := of_decide_eq_true hlt
    have hlt : x.i < srC n g a := by omega
    have eA : srA a = a + 1 + 1 + 1 + 1 + 1 := rfl
    refine ⟨⟨⟨niPre_win hg, by omega, by show srA a + 2 * (x.i : Int) + 1 + 1 ≤ _; omega⟩, trivial⟩, ⟨by omega, by omega, fun _ _ => trivial⟩, fun c => ⟨⟨x.i + 1, x.i + 1 + c⟩, ⟨⟨hlt, by show x.i + 1 ≤ x.i + 1 + c; omega⟩, int_mk ?_, ⟨rfl, Nat.le_refl _, rfl, int_mk ?_⟩, selT_of (hc _ _) ⟨rfl, Nat.le_refl _, fun _ _ => rfl⟩, ⟨rfl, Nat.le_refl _, rfl, rfl, rfl, rfl, rfl⟩, rfl, Nat.le_refl _, fun i hi => ?_⟩, by show srC n g a - (x.i + 1) < srC n g a - x.i; omega⟩⟩
    · show IntKind.i64.wrap _ = (srC n g a : Int) - ((x.i + 1 : Nat) : Int)
      rw [wrap_i64 ⟨by omega, by omega⟩]; omega
    · show srA a + 2 * (x.i : Int) + 1 + 1 = srA a + 2 * ((x.i + 1 : Nat) : Int)
      omega
    · have hi : i < x.i + 1 := hi
      by_cases hik : i < x.i
      · rw [blt_true hik, Nat.zero_add]
        rfl
      · have hik : i = x.i := by omega
        subst hik
        rw [blt_false (Nat.lt_irrefl _)]
        rfl
  · obtain ⟨hx1, hx2⟩ := hx
    have hge := of_decide_eq_false hge
    have hn : x.i = srC n g a := by omega
    rw [hn] at hx2 ⊢
    exact ⟨x.c - srC n g a, ⟨rfl, rfl, rfl, rfl, slT_eq rfl rfl (by omega)⟩, ⟨rfl, Nat.le_refl _, rfl, rfl⟩, rfl, by omega, fun _ _ => rfl⟩
theorem ModH_spec : PureSpec Try.prog 39 sModH := vc_spec hm noCtrs_ok Try.func39 (Λ := fun _ => noΛ) fun args p x h hp => by
  unfold sModH at h
  split at h
  · rename_i a b
    cases h
    obtain ⟨⟨ha1, ha2⟩, hb, hb2⟩ := hp _ rfl
    refine ⟨rfl, rfl, Eq.mpr (vcModH a b _) ?_⟩
    have e0 : md a b = a % b := hide_eq _
    rw [e0]
    have hb1 := Int.tmod_lt_of_pos a hb
    have hb3 : -b < Int.tmod a b := by
      have := Int.tmod_lt_of_pos (-a) hb
      rw [Int.neg_tmod] at this; omega
    refine ⟨by omega, sel_of (fun h => int_mk ?_) fun h => int_mk ?_⟩
    · have h := of_decide_eq_true h
      rw [wrap_i64 ⟨by omega, by omega⟩]
      have e := Int.tmod_add_tdiv_mul a b
      have : a = (Int.tmod a b + b) + (Int.tdiv a b - 1) * b := by rw [Int.sub_mul, Int.one_mul]; omega
      conv => rhs; rw [this]
      rw [Int.add_mul_emod_self_right, Int.emod_eq_of_lt (by omega) (by omega)]
    · have h := of_decide_eq_false h
      have e := Int.tmod_add_tdiv_mul a b
      conv => rhs; rw [← e]
      rw [Int.add_mul_emod_self_right, Int.emod_eq_of_lt (by omega) (by omega)]
  · cases h
end Go.Proofs.Ytjdldadmaaeimaa
end

section
set_option maxRecDepth 100000
set_option linter.unusedSimpArgs false
set_option linter.unusedVariables false
namespace Go.Proofs.Ytjdldadmaaeimaa
open Go.SE Go.RowKit
noncomputable def sV1 (n : Nat) (g : Nat → Int) : CV := ⟨frV 2147483647 (nxV n g 0), 0, 0, 0, (srS4 n g (0 + 1)).k, (srS4 n g (0 + 1)).r, (srS4 n g (0 + 1)).w, (srS4 n g (0 + 1)).h, nuV (nxV n g (srEnd n g (0 + 1))), nuF (nxV n g (srEnd n g (0 + 1))), nuV (nxV n g (srEnd n g (0 + 1) + 1)), nuF (nxV n g (srEnd n g (0 + 1) + 1)), nuV (nxV n g (srEnd n g (0 + 1) + 1 + 1)), nuF (nxV n g (srEnd n g (0 + 1) + 1 + 1)), nuV (nxV n g (srEnd n g (0 + 1) + 1 + 1 + 1)), nuF (nxV n g (srEnd n g (0 + 1) + 1 + 1 + 1)), nuV (nxV n g (srEnd n g (0 + 1) + 1 + 1 + 1 + 1)), nuF (nxV n g (srEnd n g (0 + 1) + 1 + 1 + 1 + 1)), nuV (nxV n g (srEnd n g (0 + 1) + 1 + 1 + 1 + 1 + 1)), nuF (nxV n g (srEnd n g (0 + 1) + 1 + 1 + 1 + 1 + 1)), nuV (nxV n g (srEnd n g (0 + 1) + 1 + 1 + 1 + 1 + 1 + 1)), nuF (nxV n g (srEnd n g (0 + 1) + 1 + 1 + 1 + 1 + 1 + 1)), nxV n g (srEnd n g (0 + 1) + 1 + 1 + 1 + 1 + 1 + 1 + 1), frV 1 (nxV n g (srEnd n g (0 + 1) + 1 + 1 + 1 + 1 + 1 + 1 + 1 + 1)) == 1, 0, false, 0, false, 0, false, 0, false, 0, 0, 0, 0, 0, 0, 0, 0, 0⟩
noncomputable def sV2 (n : Nat) (g : Nat → Int) : CV := ⟨frV 2147483647 (nxV n g 0), frV 2147483647 (nxV n g (0 + 1)), frV 2147483647 (nxV n g (0 + 1 + 1)), frV 1099511627776 (nxV n g (0 + 1 + 1 + 1)), 0, 0, 0, 0, 0, false, 0, false, 0, false, 0, false, 0, false, 0, false, 0, false, 0, false, 0, false, 0, false, 0, false, 0, false, 0, 0, 0, 0, 0, 0, 0, 0, 0⟩
noncomputable def sV3 (n : Nat) (g : Nat → Int) : CV := ⟨frV 2147483647 (nxV n g 0), frV 2147483647 (nxV n g (0 + 1)), frV 2147483647 (nxV n g (0 + 1 + 1)), frV 1099511627776 (nxV n g (0 + 1 + 1 + 1)), 0, 0, 0, 0, 0, false, 0, false, 0, false, 0, false, 0, false, 0, false, 0, false, 0, false, nuV (nxV n g (0 + 1 + 1 + 1 + 1)), nuF (nxV n g (0 + 1 + 1 + 1 + 1)), nuV (nxV n g (0 + 1 + 1 + 1 + 1 + 1)), nuF (nxV n g (0 + 1 + 1 + 1 + 1 + 1)), nuV (nxV n g (0 + 1 + 1 + 1 + 1 + 1 + 1)), nuF (nxV n g (0 + 1 + 1 + 1 + 1 + 1 + 1)), nuV (nxV n g (0 + 1 + 1 + 1 + 1 + 1 + 1 + 1)), nuF (nxV n g (0 + 1 + 1 + 1 + 1 + 1 + 1 + 1)), 0, 0, 0, 0, 0, 0, 0, 0, 0⟩
noncomputable def sV4 (n : Nat) (g : Nat → Int) : CV := ⟨frV 2147483647 (nxV n g 0), frV 2147483647 (nxV n g (0 + 1)), frV 2147483647 (nxV n g (0 + 1 + 1)), frV 1099511627776 (nxV n g (0 + 1 + 1 + 1)), 0, 0, 0, 0, 0, false, 0, false, 0, false, 0, false, 0, false, 0, false, 0, false, 0, false, nuV (nxV n g (0 + 1 + 1 + 1 + 1)), nuF (nxV n g (0 + 1 + 1 + 1 + 1)), nuV (nxV n g (0 + 1 + 1 + 1 + 1 + 1)), nuF (nxV n g (0 + 1 + 1 + 1 + 1 + 1)), 0, false, 0, false, 0, 0, 0, 0, 0, 0, 0, 0, 0⟩
noncomputable def sV5 (n : Nat) (g : Nat → Int) : CV := ⟨frV 2147483647 (nxV n g 0), 0, 0, 0, 0, 0, 0, 0, 0, false, 0, false, 0, false, 0, false, 0, false, 0, false, 0, false, 0, false, 0, false, 0, false, nuV (nxV n g (0 + 1 + 1)), nuF (nxV n g (0 + 1 + 1)), nuV (nxV n g (0 + 1 + 1 + 1)), nuF (nxV n g (0 + 1 + 1 + 1)), frV 2147483647 (nxV n g (0 + 1)), 0, 0, 0, 0, 0, 0, 0, 0⟩
noncomputable def sV6 (n : Nat) (g : Nat → Int) : CV := ⟨frV 2147483647 (nxV n g 0), 0, 0, 0, 0, 0, 0, 0, 0, false, 0, false, 0, false, 0, false, 0, false, 0, false, 0, false, 0, false, 0, false, 0, false, 0, false, 0, false, frV 2147483647 (nxV n g (0 + 1)), 0, 0, 0, 0, 0, 0, 0, 0⟩
noncomputable def sV7 (n : Nat) (g : Nat → Int) : CV := ⟨frV 2147483647 (nxV n g 0), frV 2147483647 (nxV n g (0 + 1)), frV 2147483647 (nxV n g (0 + 1 + 1)), 0, 0, 0, 0, 0, 0, false, 0, false, 0, false, 0, false, 0, false, 0, false, 0, false, 0, false, 0, false, 0, false, 0, false, 0, false, 0, 0, 0, 0, 0, 0, 0, 0, 0⟩
noncomputable def sV8 (n : Nat) (g : Nat → Int) : CV := ⟨frV 2147483647 (nxV n g 0), 0, 0, 0, 0, 0, 0, 0, 0, false, 0, false, 0, false, 0, false, 0, false, 0, false, 0, false, 0, false, 0, false, 0, false, 0, false, 0, false, 0, nxV n g (0 + 1), nxV n g (0 + 1 + 1), nxV n g (0 + 1 + 1 + 1), nxV n g (0 + 1 + 1 + 1 + 1), 0, 0, 0, 0⟩
noncomputable def sV9 (n : Nat) (g : Nat → Int) : CV := ⟨frV 2147483647 (nxV n g 0), 0, 0, 0, 0, 0, 0, 0, 0, false, 0, false, 0, false, 0, false, 0, false, 0, false, 0, false, 0, false, 0, false, 0, false, 0, false, 0, false, 0, 0, 0, 0, 0, nxV n g (0 + 1), nxV n g (0 + 1 + 1), nxV n g (0 + 1 + 1 + 1), nxV n g (0 + 1 + 1 + 1 + 1)⟩
noncomputable def sV10 (n : Nat) (g : Nat → Int) : CV := ⟨frV 2147483647 (nxV n g 0), 0, 0, 0, 0, 0, 0, 0, 0, false, 0, false, 0, false, 0, false, 0, false, 0, false, 0, false, 0, false, 0, false, 0, false, 0, false, 0, false, 0, 0, 0, 0, 0, 0, 0, 0, 0⟩
noncomputable def coK (kind : Int) : Int := 1 + md kind 10
noncomputable def coV (kind : Int) (n : Nat) (g : Nat → Int) : CV := bif coK kind == 1 then sV1 n g else (bif coK kind == 2 then sV2 n g else (bif coK kind == 3 then sV3 n g else (bif coK kind == 4 then sV4 n g else (bif coK kind == 5 then sV5 n g else (bif coK kind == 6 then sV6 n g else (bif coK kind == 7 then sV7 n g else (bif coK kind == 8 then sV8 n g else (bif coK kind == 9 then sV9 n g else (sV10 n g)))))))))
noncomputable def coN (kind : Int) (n : Nat) (g : Nat → Int) : Nat := bif coK kind == 1 then srC n g (0 + 1) else 0
noncomputable def coSp (n : Nat) (g : Nat → Int) : Nat → Int × Int := srSp n g (0 + 1)
noncomputable def coE (q : Prop) (kind : Int) (n : Nat) (g : Nat → Int) : Eff := .nd q Nat 0 (fun c => caS (coK kind) (coV kind n g) (.sl 1000 2 0 (coN kind n g) (coN kind n g + c))) fun c => [(1000, spW (coN kind n g) (coN kind n g + c) (coSp n g))]
noncomputable def sCallOf (args : List SV) (bs : List Blk) : Option Eff := match args, bs with
  | [.v (.int .i64 kind), .sl 0 1 0 n _], [D] => bif niOk D then some (coE (niPre n D ∧ I64 kind) kind n (gI D)) else none
  | _, _ => none
noncomputable def ΓSe : Ctrs := addCtr (addCtr ΓSd 62 (hpCtr true sSrSh)) 39 (pureCtr sModH)
theorem vcCallOf (kind : Int) (n cap e m x : Nat) (g : Nat → Int) (wh : Bool) : (vcFn Try.prog ΓSe noΛ Try.f23 [.v (.int .i64 kind), .sl 0 1 0 n cap] (heapOf [niB e m g x wh]) 64 (fun y h' => FinE [niB e m g x wh] (coE True kind n g) y h')) =
(((I64 kind) ∧ (((0 : Int) < 10) ∧ ((10 : Int) < 4611686018427387904))) ∧ ((((niPre n (winBlk (niB e m g x wh) 1 0 n)) ∧ (((0 : Int) ≤ 0) ∧ ((1 : Int) ≤ 4611686018427387904))) ∧ (((0 : Int) ≤ 2147483647) ∧ ((2147483647 : Int) ≤ 4611686018427387904))) ∧ 
(sel (IntKind.wrap IntKind.i64 (1 + md kind 10) == 1) (((niPre n (winBlk (niB e m g x wh) 1 0 n)) ∧ (((0 : Int) ≤ 1) ∧ ((1 : Int) ≤ 4611686018427387000))) ∧ (∀ c : Nat, ((((niPre n (winBlk (niB e m g x wh) 1 0 n)) ∧ (((0 : Int) ≤ (srEnd n (gI (winBlk (niB e m g x wh) 1 0 n)) 1)) ∧ (((Prod.snd (yPose n (gI (winBlk (niB e m g x wh) 1 0 n)) (srEnd n (gI (winBlk (niB e m g x wh) 1 0 n)) 1))) : Int) ≤ 4611686018427387904))) ∧ True) ∧ ((((niPre n (winBlk (niB e m g x wh) 1 0 n)) ∧ (((0 : Int) ≤ (Prod.snd (yPose n (gI (winBlk (niB e m g x wh) 1 0 n)) (srEnd n (gI (winBlk (niB e m g x wh) 1 0 n)) 1)))) ∧ (((Prod.snd (yVec n (gI (winBlk (niB e m g x wh) 1 0 n)) (Prod.snd (yPose n (gI (winBlk (niB e m g x wh) 1 0 n)) (srEnd n (gI (winBlk (niB e m g x wh) 1 0 n)) 1))))) : Int) ≤ 4611686018427387904))) ∧ True) ∧ ((((niPre n (winBlk (niB e m g x wh) 1 0 n)) ∧ (((0 : Int) ≤ (Prod.snd (yVec n (gI (winBlk (niB e m g x wh) 1 0 n)) (Prod.snd (yPose n (gI (winBlk (niB e m g x wh) 1 0 n)) (srEnd n (gI (winBlk (niB e m g x wh) 1 0 n)) 1)))))) ∧ (((Prod.snd (yNum n (gI (winBlk (niB e m g x wh) 1 0 n)) (Prod.snd (yVec n (gI (winBlk (niB e m g x wh) 1 0 n)) (Prod.snd (yPose n (gI (winBlk (niB e m g x wh) 1 0 n)) (srEnd n (gI (winBlk (niB e m g x wh) 1 0 n)) 1))))))) : Int) ≤ 4611686018427387904))) ∧ True) ∧ ((((niPre n (winBlk (niB e m g x wh) 1 0 n)) ∧ (((0 : Int) ≤ (Prod.snd (yNum n (gI (winBlk (niB e m g x wh) 1 0 n)) (Prod.snd (yVec n (gI (winBlk (niB e m g x wh) 1 0 n)) (Prod.snd (yPose n (gI (winBlk (niB e m g x wh) 1 0 n)) (srEnd n (gI (winBlk (niB e m g x wh) 1 0 n)) 1)))))))) ∧ (((Prod.snd (yNext n (gI (winBlk (niB e m g x wh) 1 0 n)) (Prod.snd (yNum n (gI (winBlk (niB e m g x wh) 1 0 n)) (Prod.snd (yVec n (gI (winBlk (niB e m g x wh) 1 0 n)) (Prod.snd (yPose n (gI (winBlk (niB e m g x wh) 1 0 n)) (srEnd n (gI (winBlk (niB e m g x wh) 1 0 n)) 1))))))))) : Int) ≤ 4611686018427387904))) ∧ True) ∧ ((((niPre n (winBlk (niB e m g x wh) 1 0 n)) ∧ (((0 : Int) ≤ (Prod.snd (yNext n (gI (winBlk (niB e m g x wh) 1 0 n)) (Prod.snd (yNum n (gI (winBlk (niB e m g x wh) 1 0 n)) (Prod.snd (yVec n (gI (winBlk (niB e m g x wh) 1 0 n)) (Prod.snd (yPose n (gI (winBlk (niB e m g x wh) 1 0 n)) (srEnd n (gI (winBlk (niB e m g x wh) 1 0 n)) 1)))))))))) ∧ (((Prod.snd (yNext n (gI (winBlk (niB e m g x wh) 1 0 n)) (Prod.snd (yNum n (gI (winBlk (niB e m g x wh) 1 0 n)) (Prod.snd (yVec n (gI (winBlk (niB e m g x wh) 1 0 n)) (Prod.snd (yPose n (gI (winBlk (niB e m g x wh) 1 0 n)) (srEnd n (gI (winBlk (niB e m g x wh) 1 0 n)) 1)))))))) + 1) : Int) ≤ 4611686018427387904))) ∧ (((0 : Int) ≤ 1) ∧ ((1 : Int) ≤ 4611686018427387904))) ∧ (∃ c_1 : Nat, ((((SV.v (Value.int IntKind.i64 (IntKind.wrap IntKind.i64 (1 + md kind 10)))) = (SV.v (Value.int IntKind.i64 (coK kind)))) ∧ (((SV.v (Value.int IntKind.i64 (frV 2147483647 (nxV n (gI (winBlk (niB e m g x wh) 1 0 n)) 0)))) = (SV.v (Value.int IntKind.i64 (CV.id (coV kind n g))))) ∧ (((SV.v (Value.int IntKind.i64 0)) = (SV.v (Value.int IntKind.i64 (CV.bs (coV kind n g))))) ∧ (((SV.v (Value.int IntKind.i64 0)) = (SV.v (Value.int IntKind.i64 (CV.bg (coV kind n g))))) ∧ (((SV.v (Value.int IntKind.i64 0)) = (SV.v (Value.int IntKind.i64 (CV.ver (coV kind n g))))) ∧ (((SV.v (Value.int IntKind.i64 (ShB.k (srS4 n (gI (winBlk (niB e m g x wh) 1 0 n)) 1)))) = (SV.v (Value.int IntKind.i64 (CV.sk (coV kind n g))))) ∧ (((SV.v (Value.int IntKind.i64 (ShB.r (srS4 n (gI (winBlk (niB e m g x wh) 1 0 n)) 1)))) = (SV.v (Value.int IntKind.i64 (CV.sr (coV kind n g))))) ∧ (((SV.v (Value.int IntKind.i64 (ShB.w (srS4 n (gI (winBlk (niB e m g x wh) 1 0 n)) 1)))) = (SV.v (Value.int IntKind.i64 (CV.sw (coV kind n g))))) ∧ (((SV.v (Value.int IntKind.i64 (ShB.h (srS4 n (gI (winBlk (niB e m g x wh) 1 0 n)) 1)))) = (SV.v (Value.int IntKind.i64 (CV.sh (coV kind n g))))) ∧ (((SV.sl 208 2 0 (srC n (gI (winBlk (niB e m g x wh) 1 0 n)) 1) (srC n (gI (winBlk (niB e m g x wh) 1 0 n)) 1 + c)) = (SV.sl 208 2 0 (coN kind n g) (coN kind n g + c_1))) ∧ (((SV.v (Value.int IntKind.i64 (nuV (nxV n (gI (winBlk (niB e m g x wh) 1 0 n)) (srEnd n (gI (winBlk (niB e m g x wh) 1 0 n)) 1))))) = (SV.v (Value.int IntKind.i64 (CV.p0v (coV kind n g))))) ∧ (((SV.v (Value.bool (nuF (nxV n (gI (winBlk (niB e m g x wh) 1 0 n)) (srEnd n (gI (winBlk (niB e m g x wh) 1 0 n)) 1))))) = (SV.v (Value.bool (CV.p0f (coV kind n g))))) ∧ (((SV.v (Value.int IntKind.i64 (nuV (nxV n (gI (winBlk (niB e m g x wh) 1 0 n)) (srEnd n (gI (winBlk (niB e m g x wh) 1 0 n)) 1 + 1))))) = (SV.v (Value.int IntKind.i64 (CV.p1v (coV kind n g))))) ∧ (((SV.v (Value.bool (nuF (nxV n (gI (winBlk (niB e m g x wh) 1 0 n)) (srEnd n (gI (winBlk (niB e m g x wh) 1 0 n)) 1 + 1))))) = (SV.v (Value.bool (CV.p1f (coV kind n g))))) ∧ (((SV.v (Value.int IntKind.i64 (nuV (nxV n (gI (winBlk (niB e m g x wh) 1 0 n)) (srEnd n (gI (winBlk (niB e m g x wh) 1 0 n)) 1 + 1 + 1))))) = (SV.v (Value.int IntKind.i64 (CV.p2v (coV kind n g))))) ∧ (((SV.v (Value.bool (nuF (nxV n (gI (winBlk (niB e m g x wh) 1 0 n)) (srEnd n (gI (winBlk (niB e m g x wh) 1 0 n)) 1 + 1 + 1))))) = (SV.v (Value.bool (CV.p2f (coV kind n g))))) ∧ (((SV.v (Value.int IntKind.i64 (nuV (nxV n (gI (winBlk (niB e m g x wh) 1 0 n)) (srEnd n (gI (winBlk (niB e m g x wh) 1 0 n)) 1 + 1 + 1 + 1))))) = (SV.v (Value.int IntKind.i64 (CV.p3v (coV kind n g))))) ∧ (((SV.v (Value.bool (nuF (nxV n (gI (winBlk (niB e m g x wh) 1 0 n)) (srEnd n (gI (winBlk (niB e m g x wh) 1 0 n)) 1 + 1 + 1 + 1))))) = (SV.v (Value.bool (CV.p3f (coV kind n g))))) ∧ (((SV.v (Value.int IntKind.i64 (nuV (nxV n (gI (winBlk (niB e m g x wh) 1 0 n)) (Prod.snd (yPose n (gI (winBlk (niB e m g x wh) 1 0 n)) (srEnd n (gI (winBlk (niB e m g x wh) 1 0 n)) 1))))))) = (SV.v (Value.int IntKind.i64 (CV.v0v (coV kind n g))))) ∧ (((SV.v (Value.bool (nuF (nxV n (gI (winBlk (niB e m g x wh) 1 0 n)) (Prod.snd (yPose n (gI (winBlk (niB e m g x wh) 1 0 n)) (srEnd n (gI (winBlk (niB e m g x wh) 1 0 n)) 1))))))) = (SV.v (Value.bool (CV.v0f (coV kind n g))))) ∧ (((SV.v (Value.int IntKind.i64 (nuV (nxV n (gI (winBlk (niB e m g x wh) 1 0 n)) (Prod.snd (yPose n (gI (winBlk (niB e m g x wh) 1 0 n)) (srEnd n (gI (winBlk (niB e m g x wh) 1 0 n)) 1)) + 1))))) = (SV.v (Value.int IntKind.i64 (CV.v1v (coV kind n g))))) ∧ (((SV.v (Value.bool (nuF (nxV n (gI (winBlk (niB e m g x wh) 1 0 n)) (Prod.snd (yPose n (gI (winBlk (niB e m g x wh) 1 0 n)) (srEnd n (gI (winBlk (niB e m g x wh) 1 0 n)) 1)) + 1))))) = (SV.v (Value.bool (CV.v1f (coV kind n g))))) ∧ (((SV.v (Value.int IntKind.i64 (nuV (nxV n (gI (winBlk (niB e m g x wh) 1 0 n)) (Prod.snd (yVec n (gI (winBlk (niB e m g x wh) 1 0 n)) (Prod.snd (yPose n (gI (winBlk (niB e m g x wh) 1 0 n)) (srEnd n (gI (winBlk (niB e m g x wh) 1 0 n)) 1))))))))) = (SV.v (Value.int IntKind.i64 (CV.w0v (coV kind n g))))) ∧ (((SV.v (Value.bool (nuF (nxV n (gI (winBlk (niB e m g x wh) 1 0 n)) (Prod.snd (yVec n (gI (winBlk (niB e m g x wh) 1 0 n)) (Prod.snd (yPose n (gI (winBlk (niB e m g x wh) 1 0 n)) (srEnd n (gI (winBlk (niB e m g x wh) 1 0 n)) 1))))))))) = (SV.v (Value.bool (CV.w0f (coV kind n g))))) ∧ (((SV.v (Value.int IntKind.i64 (nxV n (gI (winBlk (niB e m g x wh) 1 0 n)) (Prod.snd (yNum n (gI (winBlk (niB e m g x wh) 1 0 n)) (Prod.snd (yVec n (gI (winBlk (niB e m g x wh) 1 0 n)) (Prod.snd (yPose n (gI (winBlk (niB e m g x wh) 1 0 n)) (srEnd n (gI (winBlk (niB e m g x wh) 1 0 n)) 1)))))))))) = (SV.v (Value.int IntKind.i64 (CV.dn (coV kind n g))))) ∧ (((SV.v (Value.bool (frV 1 (nxV n (gI (winBlk (niB e m g x wh) 1 0 n)) (Prod.snd (yNext n (gI (winBlk (niB e m g x wh) 1 0 n)) (Prod.snd (yNum n (gI (winBlk (niB e m g x wh) 1 0 n)) (Prod.snd (yVec n (gI (winBlk (niB e m g x wh) 1 0 n)) (Prod.snd (yPose n (gI (winBlk (niB e m g x wh) 1 0 n)) (srEnd n (gI (winBlk (niB e m g x wh) 1 0 n)) 1)))))))))) == 1))) = (SV.v (Value.bool (CV.mv (coV kind n g))))) ∧ (((SV.v (Value.int IntKind.i64 0)) = (SV.v (Value.int IntKind.i64 (CV.a0v (coV kind n g))))) ∧ (((SV.v (Value.bool false)) = (SV.v (Value.bool (CV.a0f (coV kind n g))))) ∧ (((SV.v (Value.int IntKind.i64 0)) = (SV.v (Value.int IntKind.i64 (CV.a1v (coV kind n g))))) ∧ (((SV.v (Value.bool false)) = (SV.v (Value.bool (CV.a1f (coV kind n g))))) ∧ (((SV.v (Value.int IntKind.i64 0)) = (SV.v (Value.int IntKind.i64 (CV.t0v (coV kind n g))))) ∧ (((SV.v (Value.bool false)) = (SV.v (Value.bool (CV.t0f (coV kind n g))))) ∧ (((SV.v (Value.int IntKind.i64 0)) = (SV.v (Value.int IntKind.i64 (CV.t1v (coV kind n g))))) ∧ (((SV.v (Value.bool false)) = (SV.v (Value.bool (CV.t1f (coV kind n g))))) ∧ (((SV.v (Value.int IntKind.i64 0)) = (SV.v (Value.int IntKind.i64 (CV.gr (coV kind n g))))) ∧ (((SV.v (Value.int IntKind.i64 0)) = (SV.v (Value.int IntKind.i64 (CV.b0 (coV kind n g))))) ∧ (((SV.v (Value.int IntKind.i64 0)) = (SV.v (Value.int IntKind.i64 (CV.b1 (coV kind n g))))) ∧ (((SV.v (Value.int IntKind.i64 0)) = (SV.v (Value.int IntKind.i64 (CV.b2 (coV kind n g))))) ∧ (((SV.v (Value.int IntKind.i64 0)) = (SV.v (Value.int IntKind.i64 (CV.b3 (coV kind n g))))) ∧ (((SV.v (Value.int IntKind.i64 0)) = (SV.v (Value.int IntKind.i64 (CV.f0 (coV kind n g))))) ∧ (((SV.v (Value.int IntKind.i64 0)) = (SV.v (Value.int IntKind.i64 (CV.f1 (coV kind n g))))) ∧ (((SV.v (Value.int IntKind.i64 0)) = (SV.v (Value.int IntKind.i64 (CV.u0 (coV kind n g))))) ∧ ((SV.v (Value.int IntKind.i64 0)) = (SV.v (Value.int IntKind.i64 (CV.u1 (coV kind n g))))))))))))))))))))))))))))))))))))))))))))))) ∧ ((((srC n (gI (winBlk (niB e m g x wh) 1 0 n)) 1) : Nat) = (coN kind n g)) ∧ ((((coN kind n g + c_1) : Nat) ≤ (srC n (gI (winBlk (niB e m g x wh) 1 0 n)) 1 + c)) ∧ (∀ i : Nat, (((i : Nat) < (coN kind n g)) → ([(SV.v (Value.int IntKind.i64 (Prod.fst (srSp n (gI (winBlk (niB e m g x wh) 1 0 n)) 1 i)))), (SV.v (Value.int IntKind.i64 (Prod.snd (srSp n (gI (winBlk (niB e m g x wh) 1 0 n)) 1 i))))] = [(SV.v (Value.int IntKind.i64 (Prod.fst (coSp n g i)))), (SV.v (Value.int IntKind.i64 (Prod.snd (coSp n g i))))])))))))))))))) 
(sel (IntKind.wrap IntKind.i64 (1 + md kind 10) == 2) ((((niPre n (winBlk (niB e m g x wh) 1 0 n)) ∧ (((0 : Int) ≤ 1) ∧ (((Prod.snd (yHandle n (gI (winBlk (niB e m g x wh) 1 0 n)) 1)) : Int) ≤ 4611686018427387904))) ∧ True) ∧ ((((niPre n (winBlk (niB e m g x wh) 1 0 n)) ∧ (((0 : Int) ≤ (Prod.snd (yHandle n (gI (winBlk (niB e m g x wh) 1 0 n)) 1))) ∧ (((Prod.snd (yHandle n (gI (winBlk (niB e m g x wh) 1 0 n)) 1) + 1) : Int) ≤ 4611686018427387904))) ∧ (((0 : Int) ≤ 1099511627776) ∧ ((1099511627776 : Int) ≤ 4611686018427387904))) ∧ 
(sel (IntKind.wrap IntKind.i64 (1 + md kind 10) != 2) ((((niPre n (winBlk (niB e m g x wh) 1 0 n)) ∧ (((0 : Int) ≤ (Prod.snd (yHandle n (gI (winBlk (niB e m g x wh) 1 0 n)) 1) + 1)) ∧ (((Prod.snd (yVec n (gI (winBlk (niB e m g x wh) 1 0 n)) (Prod.snd (yHandle n (gI (winBlk (niB e m g x wh) 1 0 n)) 1) + 1))) : Int) ≤ 4611686018427387904))) ∧ True) ∧ 
(sel (IntKind.wrap IntKind.i64 (1 + md kind 10) == 3) ((((niPre n (winBlk (niB e m g x wh) 1 0 n)) ∧ (((0 : Int) ≤ (Prod.snd (yVec n (gI (winBlk (niB e m g x wh) 1 0 n)) (Prod.snd (yHandle n (gI (winBlk (niB e m g x wh) 1 0 n)) 1) + 1)))) ∧ (((Prod.snd (yVec n (gI (winBlk (niB e m g x wh) 1 0 n)) (Prod.snd (yVec n (gI (winBlk (niB e m g x wh) 1 0 n)) (Prod.snd (yHandle n (gI (winBlk (niB e m g x wh) 1 0 n)) 1) + 1))))) : Int) ≤ 4611686018427387904))) ∧ True) ∧ (∃ c : Nat, ((((SV.v (Value.int IntKind.i64 (IntKind.wrap IntKind.i64 (1 + md kind 10)))) = (SV.v (Value.int IntKind.i64 (coK kind)))) ∧ (((SV.v (Value.int IntKind.i64 (frV 2147483647 (nxV n (gI (winBlk (niB e m g x wh) 1 0 n)) 0)))) = (SV.v (Value.int IntKind.i64 (CV.id (coV kind n g))))) ∧ (((SV.v (Value.int IntKind.i64 (frV 2147483647 (nxV n (gI (winBlk (niB e m g x wh) 1 0 n)) 1)))) = (SV.v (Value.int IntKind.i64 (CV.bs (coV kind n g))))) ∧ (((SV.v (Value.int IntKind.i64 (frV 2147483647 (nxV n (gI (winBlk (niB e m g x wh) 1 0 n)) 2)))) = (SV.v (Value.int IntKind.i64 (CV.bg (coV kind n g))))) ∧ (((SV.v (Value.int IntKind.i64 (frV 1099511627776 (nxV n (gI (winBlk (niB e m g x wh) 1 0 n)) (Prod.snd (yHandle n (gI (winBlk (niB e m g x wh) 1 0 n)) 1)))))) = (SV.v (Value.int IntKind.i64 (CV.ver (coV kind n g))))) ∧ (((SV.v (Value.int IntKind.i64 0)) = (SV.v (Value.int IntKind.i64 (CV.sk (coV kind n g))))) ∧ (((SV.v (Value.int IntKind.i64 0)) = (SV.v (Value.int IntKind.i64 (CV.sr (coV kind n g))))) ∧ (((SV.v (Value.int IntKind.i64 0)) = (SV.v (Value.int IntKind.i64 (CV.sw (coV kind n g))))) ∧ (((SV.v (Value.int IntKind.i64 0)) = (SV.v (Value.int IntKind.i64 (CV.sh (coV kind n g))))) ∧ ((((SV.v (Value.slice none 0 0)) = (SV.v (Value.slice none 0 0))) ∧ (((0 : Nat) = 0) ∧ ((((coN kind n g) : Nat) = 0) ∧ (((coN kind n g + c) : Nat) = 0)))) ∧ (((SV.v (Value.int IntKind.i64 0)) = (SV.v (Value.int IntKind.i64 (CV.p0v (coV kind n g))))) ∧ (((SV.v (Value.bool false)) = (SV.v (Value.bool (CV.p0f (coV kind n g))))) ∧ (((SV.v (Value.int IntKind.i64 0)) = (SV.v (Value.int IntKind.i64 (CV.p1v (coV kind n g))))) ∧ (((SV.v (Value.bool false)) = (SV.v (Value.bool (CV.p1f (coV kind n g))))) ∧ (((SV.v (Value.int IntKind.i64 0)) = (SV.v (Value.int IntKind.i64 (CV.p2v (coV kind n g))))) ∧ (((SV.v (Value.bool false)) = (SV.v (Value.bool (CV.p2f (coV kind n g))))) ∧ (((SV.v (Value.int IntKind.i64 0)) = (SV.v (Value.int IntKind.i64 (CV.p3v (coV kind n g))))) ∧ (((SV.v (Value.bool false)) = (SV.v (Value.bool (CV.p3f (coV kind n g))))) ∧ (((SV.v (Value.int IntKind.i64 0)) = (SV.v (Value.int IntKind.i64 (CV.v0v (coV kind n g))))) ∧ (((SV.v (Value.bool false)) = (SV.v (Value.bool (CV.v0f (coV kind n g))))) ∧ (((SV.v (Value.int IntKind.i64 0)) = (SV.v (Value.int IntKind.i64 (CV.v1v (coV kind n g))))) ∧ (((SV.v (Value.bool false)) = (SV.v (Value.bool (CV.v1f (coV kind n g))))) ∧ (((SV.v (Value.int IntKind.i64 0)) = (SV.v (Value.int IntKind.i64 (CV.w0v (coV kind n g))))) ∧ (((SV.v (Value.bool false)) = (SV.v (Value.bool (CV.w0f (coV kind n g))))) ∧ (((SV.v (Value.int IntKind.i64 0)) = (SV.v (Value.int IntKind.i64 (CV.dn (coV kind n g))))) ∧ (((SV.v (Value.bool false)) = (SV.v (Value.bool (CV.mv (coV kind n g))))) ∧ (((SV.v (Value.int IntKind.i64 (nuV (nxV n (gI (winBlk (niB e m g x wh) 1 0 n)) (Prod.snd (yHandle n (gI (winBlk (niB e m g x wh) 1 0 n)) 1) + 1))))) = (SV.v (Value.int IntKind.i64 (CV.a0v (coV kind n g))))) ∧ (((SV.v (Value.bool (nuF (nxV n (gI (winBlk (niB e m g x wh) 1 0 n)) (Prod.snd (yHandle n (gI (winBlk (niB e m g x wh) 1 0 n)) 1) + 1))))) = (SV.v (Value.bool (CV.a0f (coV kind n g))))) ∧ (((SV.v (Value.int IntKind.i64 (nuV (nxV n (gI (winBlk (niB e m g x wh) 1 0 n)) (Prod.snd (yHandle n (gI (winBlk (niB e m g x wh) 1 0 n)) 1) + 1 + 1))))) = (SV.v (Value.int IntKind.i64 (CV.a1v (coV kind n g))))) ∧ (((SV.v (Value.bool (nuF (nxV n (gI (winBlk (niB e m g x wh) 1 0 n)) (Prod.snd (yHandle n (gI (winBlk (niB e m g x wh) 1 0 n)) 1) + 1 + 1))))) = (SV.v (Value.bool (CV.a1f (coV kind n g))))) ∧ (((SV.v (Value.int IntKind.i64 (nuV (nxV n (gI (winBlk (niB e m g x wh) 1 0 n)) (Prod.snd (yVec n (gI (winBlk (niB e m g x wh) 1 0 n)) (Prod.snd (yHandle n (gI (winBlk (niB e m g x wh) 1 0 n)) 1) + 1))))))) = (SV.v (Value.int IntKind.i64 (CV.t0v (coV kind n g))))) ∧ (((SV.v (Value.bool (nuF (nxV n (gI (winBlk (niB e m g x wh) 1 0 n)) (Prod.snd (yVec n (gI (winBlk (niB e m g x wh) 1 0 n)) (Prod.snd (yHandle n (gI (winBlk (niB e m g x wh) 1 0 n)) 1) + 1))))))) = (SV.v (Value.bool (CV.t0f (coV kind n g))))) ∧ (((SV.v (Value.int IntKind.i64 (nuV (nxV n (gI (winBlk (niB e m g x wh) 1 0 n)) (Prod.snd (yVec n (gI (winBlk (niB e m g x wh) 1 0 n)) (Prod.snd (yHandle n (gI (winBlk (niB e m g x wh) 1 0 n)) 1) + 1)) + 1))))) = (SV.v (Value.int IntKind.i64 (CV.t1v (coV kind n g))))) ∧ (((SV.v (Value.bool (nuF (nxV n (gI (winBlk (niB e m g x wh) 1 0 n)) (Prod.snd (yVec n (gI (winBlk (niB e m g x wh) 1 0 n)) (Prod.snd (yHandle n (gI (winBlk (niB e m g x wh) 1 0 n)) 1) + 1)) + 1))))) = (SV.v (Value.bool (CV.t1f (coV kind n g))))) ∧ (((SV.v (Value.int IntKind.i64 0)) = (SV.v (Value.int IntKind.i64 (CV.gr (coV kind n g))))) ∧ (((SV.v (Value.int IntKind.i64 0)) = (SV.v (Value.int IntKind.i64 (CV.b0 (coV kind n g))))) ∧ (((SV.v (Value.int IntKind.i64 0)) = (SV.v (Value.int IntKind.i64 (CV.b1 (coV kind n g))))) ∧ (((SV.v (Value.int IntKind.i64 0)) = (SV.v (Value.int IntKind.i64 (CV.b2 (coV kind n g))))) ∧ (((SV.v (Value.int IntKind.i64 0)) = (SV.v (Value.int IntKind.i64 (CV.b3 (coV kind n g))))) ∧ (((SV.v (Value.int IntKind.i64 0)) = (SV.v (Value.int IntKind.i64 (CV.f0 (coV kind n g))))) ∧ (((SV.v (Value.int IntKind.i64 0)) = (SV.v (Value.int IntKind.i64 (CV.f1 (coV kind n g))))) ∧ (((SV.v (Value.int IntKind.i64 0)) = (SV.v (Value.int IntKind.i64 (CV.u0 (coV kind n g))))) ∧ ((SV.v (Value.int IntKind.i64 0)) = (SV.v (Value.int IntKind.i64 (CV.u1 (coV kind n g))))))))))))))))))))))))))))))))))))))))))))))) ∧ (((((coN kind n g) : Nat) = 0) ∧ ((((coN kind n g + c) : Nat) = 0) ∧ True)) ∧ True)))) (∃ c : Nat, ((((SV.v (Value.int IntKind.i64 (IntKind.wrap IntKind.i64 (1 + md kind 10)))) = (SV.v (Value.int IntKind.i64 (coK kind)))) ∧ (((SV.v (Value.int IntKind.i64 (frV 2147483647 (nxV n (gI (winBlk (niB e m g x wh) 1 0 n)) 0)))) = (SV.v (Value.int IntKind.i64 (CV.id (coV kind n g))))) ∧ (((SV.v (Value.int IntKind.i64 (frV 2147483647 (nxV n (gI (winBlk (niB e m g x wh) 1 0 n)) 1)))) = (SV.v (Value.int IntKind.i64 (CV.bs (coV kind n g))))) ∧ (((SV.v (Value.int IntKind.i64 (frV 2147483647 (nxV n (gI (winBlk (niB e m g x wh) 1 0 n)) 2)))) = (SV.v (Value.int IntKind.i64 (CV.bg (coV kind n g))))) ∧ (((SV.v (Value.int IntKind.i64 (frV 1099511627776 (nxV n (gI (winBlk (niB e m g x wh) 1 0 n)) (Prod.snd (yHandle n (gI (winBlk (niB e m g x wh) 1 0 n)) 1)))))) = (SV.v (Value.int IntKind.i64 (CV.ver (coV kind n g))))) ∧ (((SV.v (Value.int IntKind.i64 0)) = (SV.v (Value.int IntKind.i64 (CV.sk (coV kind n g))))) ∧ (((SV.v (Value.int IntKind.i64 0)) = (SV.v (Value.int IntKind.i64 (CV.sr (coV kind n g))))) ∧ (((SV.v (Value.int IntKind.i64 0)) = (SV.v (Value.int IntKind.i64 (CV.sw (coV kind n g))))) ∧ (((SV.v (Value.int IntKind.i64 0)) = (SV.v (Value.int IntKind.i64 (CV.sh (coV kind n g))))) ∧ ((((SV.v (Value.slice none 0 0)) = (SV.v (Value.slice none 0 0))) ∧ (((0 : Nat) = 0) ∧ ((((coN kind n g) : Nat) = 0) ∧ (((coN kind n g + c) : Nat) = 0)))) ∧ (((SV.v (Value.int IntKind.i64 0)) = (SV.v (Value.int IntKind.i64 (CV.p0v (coV kind n g))))) ∧ (((SV.v (Value.bool false)) = (SV.v (Value.bool (CV.p0f (coV kind n g))))) ∧ (((SV.v (Value.int IntKind.i64 0)) = (SV.v (Value.int IntKind.i64 (CV.p1v (coV kind n g))))) ∧ (((SV.v (Value.bool false)) = (SV.v (Value.bool (CV.p1f (coV kind n g))))) ∧ (((SV.v (Value.int IntKind.i64 0)) = (SV.v (Value.int IntKind.i64 (CV.p2v (coV kind n g))))) ∧ (((SV.v (Value.bool false)) = (SV.v (Value.bool (CV.p2f (coV kind n g))))) ∧ (((SV.v (Value.int IntKind.i64 0)) = (SV.v (Value.int IntKind.i64 (CV.p3v (coV kind n g))))) ∧ (((SV.v (Value.bool false)) = (SV.v (Value.bool (CV.p3f (coV kind n g))))) ∧ (((SV.v (Value.int IntKind.i64 0)) = (SV.v (Value.int IntKind.i64 (CV.v0v (coV kind n g))))) ∧ (((SV.v (Value.bool false)) = (SV.v (Value.bool (CV.v0f (coV kind n g))))) ∧ (((SV.v (Value.int IntKind.i64 0)) = (SV.v (Value.int IntKind.i64 (CV.v1v (coV kind n g))))) ∧ (((SV.v (Value.bool false)) = (SV.v (Value.bool (CV.v1f (coV kind n g))))) ∧ (((SV.v (Value.int IntKind.i64 0)) = (SV.v (Value.int IntKind.i64 (CV.w0v (coV kind n g))))) ∧ (((SV.v (Value.bool false)) = (SV.v (Value.bool (CV.w0f (coV kind n g))))) ∧ (((SV.v (Value.int IntKind.i64 0)) = (SV.v (Value.int IntKind.i64 (CV.dn (coV kind n g))))) ∧ (((SV.v (Value.bool false)) = (SV.v (Value.bool (CV.mv (coV kind n g))))) ∧ (((SV.v (Value.int IntKind.i64 (nuV (nxV n (gI (winBlk (niB e m g x wh) 1 0 n)) (Prod.snd (yHandle n (gI (winBlk (niB e m g x wh) 1 0 n)) 1) + 1))))) = (SV.v (Value.int IntKind.i64 (CV.a0v (coV kind n g))))) ∧ (((SV.v (Value.bool (nuF (nxV n (gI (winBlk (niB e m g x wh) 1 0 n)) (Prod.snd (yHandle n (gI (winBlk (niB e m g x wh) 1 0 n)) 1) + 1))))) = (SV.v (Value.bool (CV.a0f (coV kind n g))))) ∧ (((SV.v (Value.int IntKind.i64 (nuV (nxV n (gI (winBlk (niB e m g x wh) 1 0 n)) (Prod.snd (yHandle n (gI (winBlk (niB e m g x wh) 1 0 n)) 1) + 1 + 1))))) = (SV.v (Value.int IntKind.i64 (CV.a1v (coV kind n g))))) ∧ (((SV.v (Value.bool (nuF (nxV n (gI (winBlk (niB e m g x wh) 1 0 n)) (Prod.snd (yHandle n (gI (winBlk (niB e m g x wh) 1 0 n)) 1) + 1 + 1))))) = (SV.v (Value.bool (CV.a1f (coV kind n g))))) ∧ (((SV.v (Value.int IntKind.i64 0)) = (SV.v (Value.int IntKind.i64 (CV.t0v (coV kind n g))))) ∧ (((SV.v (Value.bool false)) = (SV.v (Value.bool (CV.t0f (coV kind n g))))) ∧ (((SV.v (Value.int IntKind.i64 0)) = (SV.v (Value.int IntKind.i64 (CV.t1v (coV kind n g))))) ∧ (((SV.v (Value.bool false)) = (SV.v (Value.bool (CV.t1f (coV kind n g))))) ∧ (((SV.v (Value.int IntKind.i64 0)) = (SV.v (Value.int IntKind.i64 (CV.gr (coV kind n g))))) ∧ (((SV.v (Value.int IntKind.i64 0)) = (SV.v (Value.int IntKind.i64 (CV.b0 (coV kind n g))))) ∧ (((SV.v (Value.int IntKind.i64 0)) = (SV.v (Value.int IntKind.i64 (CV.b1 (coV kind n g))))) ∧ (((SV.v (Value.int IntKind.i64 0)) = (SV.v (Value.int IntKind.i64 (CV.b2 (coV kind n g))))) ∧ (((SV.v (Value.int IntKind.i64 0)) = (SV.v (Value.int IntKind.i64 (CV.b3 (coV kind n g))))) ∧ (((SV.v (Value.int IntKind.i64 0)) = (SV.v (Value.int IntKind.i64 (CV.f0 (coV kind n g))))) ∧ (((SV.v (Value.int IntKind.i64 0)) = (SV.v (Value.int IntKind.i64 (CV.f1 (coV kind n g))))) ∧ (((SV.v (Value.int IntKind.i64 0)) = (SV.v (Value.int IntKind.i64 (CV.u0 (coV kind n g))))) ∧ ((SV.v (Value.int IntKind.i64 0)) = (SV.v (Value.int IntKind.i64 (CV.u1 (coV kind n g))))))))))))))))))))))))))))))))))))))))))))))) ∧ (((((coN kind n g) : Nat) = 0) ∧ ((((coN kind n g + c) : Nat) = 0) ∧ True)) ∧ True))))) 
(sel (IntKind.wrap IntKind.i64 (1 + md kind 10) == 3) ((((niPre n (winBlk (niB e m g x wh) 1 0 n)) ∧ (((0 : Int) ≤ (Prod.snd (yHandle n (gI (winBlk (niB e m g x wh) 1 0 n)) 1) + 1)) ∧ (((Prod.snd (yVec n (gI (winBlk (niB e m g x wh) 1 0 n)) (Prod.snd (yHandle n (gI (winBlk (niB e m g x wh) 1 0 n)) 1) + 1))) : Int) ≤ 4611686018427387904))) ∧ True) ∧ (∃ c : Nat, ((((SV.v (Value.int IntKind.i64 (IntKind.wrap IntKind.i64 (1 + md kind 10)))) = (SV.v (Value.int IntKind.i64 (coK kind)))) ∧ (((SV.v (Value.int IntKind.i64 (frV 2147483647 (nxV n (gI (winBlk (niB e m g x wh) 1 0 n)) 0)))) = (SV.v (Value.int IntKind.i64 (CV.id (coV kind n g))))) ∧ (((SV.v (Value.int IntKind.i64 (frV 2147483647 (nxV n (gI (winBlk (niB e m g x wh) 1 0 n)) 1)))) = (SV.v (Value.int IntKind.i64 (CV.bs (coV kind n g))))) ∧ (((SV.v (Value.int IntKind.i64 (frV 2147483647 (nxV n (gI (winBlk (niB e m g x wh) 1 0 n)) 2)))) = (SV.v (Value.int IntKind.i64 (CV.bg (coV kind n g))))) ∧ (((SV.v (Value.int IntKind.i64 (frV 1099511627776 (nxV n (gI (winBlk (niB e m g x wh) 1 0 n)) (Prod.snd (yHandle n (gI (winBlk (niB e m g x wh) 1 0 n)) 1)))))) = (SV.v (Value.int IntKind.i64 (CV.ver (coV kind n g))))) ∧ (((SV.v (Value.int IntKind.i64 0)) = (SV.v (Value.int IntKind.i64 (CV.sk (coV kind n g))))) ∧ (((SV.v (Value.int IntKind.i64 0)) = (SV.v (Value.int IntKind.i64 (CV.sr (coV kind n g))))) ∧ (((SV.v (Value.int IntKind.i64 0)) = (SV.v (Value.int IntKind.i64 (CV.sw (coV kind n g))))) ∧ (((SV.v (Value.int IntKind.i64 0)) = (SV.v (Value.int IntKind.i64 (CV.sh (coV kind n g))))) ∧ ((((SV.v (Value.slice none 0 0)) = (SV.v (Value.slice none 0 0))) ∧ (((0 : Nat) = 0) ∧ ((((coN kind n g) : Nat) = 0) ∧ (((coN kind n g + c) : Nat) = 0)))) ∧ (((SV.v (Value.int IntKind.i64 0)) = (SV.v (Value.int IntKind.i64 (CV.p0v (coV kind n g))))) ∧ (((SV.v (Value.bool false)) = (SV.v (Value.bool (CV.p0f (coV kind n g))))) ∧ (((SV.v (Value.int IntKind.i64 0)) = (SV.v (Value.int IntKind.i64 (CV.p1v (coV kind n g))))) ∧ (((SV.v (Value.bool false)) = (SV.v (Value.bool (CV.p1f (coV kind n g))))) ∧ (((SV.v (Value.int IntKind.i64 0)) = (SV.v (Value.int IntKind.i64 (CV.p2v (coV kind n g))))) ∧ (((SV.v (Value.bool false)) = (SV.v (Value.bool (CV.p2f (coV kind n g))))) ∧ (((SV.v (Value.int IntKind.i64 0)) = (SV.v (Value.int IntKind.i64 (CV.p3v (coV kind n g))))) ∧ (((SV.v (Value.bool false)) = (SV.v (Value.bool (CV.p3f (coV kind n g))))) ∧ (((SV.v (Value.int IntKind.i64 0)) = (SV.v (Value.int IntKind.i64 (CV.v0v (coV kind n g))))) ∧ (((SV.v (Value.bool false)) = (SV.v (Value.bool (CV.v0f (coV kind n g))))) ∧ (((SV.v (Value.int IntKind.i64 0)) = (SV.v (Value.int IntKind.i64 (CV.v1v (coV kind n g))))) ∧ (((SV.v (Value.bool false)) = (SV.v (Value.bool (CV.v1f (coV kind n g))))) ∧ (((SV.v (Value.int IntKind.i64 0)) = (SV.v (Value.int IntKind.i64 (CV.w0v (coV kind n g))))) ∧ (((SV.v (Value.bool false)) = (SV.v (Value.bool (CV.w0f (coV kind n g))))) ∧ (((SV.v (Value.int IntKind.i64 0)) = (SV.v (Value.int IntKind.i64 (CV.dn (coV kind n g))))) ∧ (((SV.v (Value.bool false)) = (SV.v (Value.bool (CV.mv (coV kind n g))))) ∧ (((SV.v (Value.int IntKind.i64 0)) = (SV.v (Value.int IntKind.i64 (CV.a0v (coV kind n g))))) ∧ (((SV.v (Value.bool false)) = (SV.v (Value.bool (CV.a0f (coV kind n g))))) ∧ (((SV.v (Value.int IntKind.i64 0)) = (SV.v (Value.int IntKind.i64 (CV.a1v (coV kind n g))))) ∧ (((SV.v (Value.bool false)) = (SV.v (Value.bool (CV.a1f (coV kind n g))))) ∧ (((SV.v (Value.int IntKind.i64 (nuV (nxV n (gI (winBlk (niB e m g x wh) 1 0 n)) (Prod.snd (yHandle n (gI (winBlk (niB e m g x wh) 1 0 n)) 1) + 1))))) = (SV.v (Value.int IntKind.i64 (CV.t0v (coV kind n g))))) ∧ (((SV.v (Value.bool (nuF (nxV n (gI (winBlk (niB e m g x wh) 1 0 n)) (Prod.snd (yHandle n (gI (winBlk (niB e m g x wh) 1 0 n)) 1) + 1))))) = (SV.v (Value.bool (CV.t0f (coV kind n g))))) ∧ (((SV.v (Value.int IntKind.i64 (nuV (nxV n (gI (winBlk (niB e m g x wh) 1 0 n)) (Prod.snd (yHandle n (gI (winBlk (niB e m g x wh) 1 0 n)) 1) + 1 + 1))))) = (SV.v (Value.int IntKind.i64 (CV.t1v (coV kind n g))))) ∧ (((SV.v (Value.bool (nuF (nxV n (gI (winBlk (niB e m g x wh) 1 0 n)) (Prod.snd (yHandle n (gI (winBlk (niB e m g x wh) 1 0 n)) 1) + 1 + 1))))) = (SV.v (Value.bool (CV.t1f (coV kind n g))))) ∧ (((SV.v (Value.int IntKind.i64 0)) = (SV.v (Value.int IntKind.i64 (CV.gr (coV kind n g))))) ∧ (((SV.v (Value.int IntKind.i64 0)) = (SV.v (Value.int IntKind.i64 (CV.b0 (coV kind n g))))) ∧ (((SV.v (Value.int IntKind.i64 0)) = (SV.v (Value.int IntKind.i64 (CV.b1 (coV kind n g))))) ∧ (((SV.v (Value.int IntKind.i64 0)) = (SV.v (Value.int IntKind.i64 (CV.b2 (coV kind n g))))) ∧ (((SV.v (Value.int IntKind.i64 0)) = (SV.v (Value.int IntKind.i64 (CV.b3 (coV kind n g))))) ∧ (((SV.v (Value.int IntKind.i64 0)) = (SV.v (Value.int IntKind.i64 (CV.f0 (coV kind n g))))) ∧ (((SV.v (Value.int IntKind.i64 0)) = (SV.v (Value.int IntKind.i64 (CV.f1 (coV kind n g))))) ∧ (((SV.v (Value.int IntKind.i64 0)) = (SV.v (Value.int IntKind.i64 (CV.u0 (coV kind n g))))) ∧ ((SV.v (Value.int IntKind.i64 0)) = (SV.v (Value.int IntKind.i64 (CV.u1 (coV kind n g))))))))))))))))))))))))))))))))))))))))))))))) ∧ (((((coN kind n g) : Nat) = 0) ∧ ((((coN kind n g + c) : Nat) = 0) ∧ True)) ∧ True)))) (∃ c : Nat, ((((SV.v (Value.int IntKind.i64 (IntKind.wrap IntKind.i64 (1 + md kind 10)))) = (SV.v (Value.int IntKind.i64 (coK kind)))) ∧ (((SV.v (Value.int IntKind.i64 (frV 2147483647 (nxV n (gI (winBlk (niB e m g x wh) 1 0 n)) 0)))) = (SV.v (Value.int IntKind.i64 (CV.id (coV kind n g))))) ∧ (((SV.v (Value.int IntKind.i64 (frV 2147483647 (nxV n (gI (winBlk (niB e m g x wh) 1 0 n)) 1)))) = (SV.v (Value.int IntKind.i64 (CV.bs (coV kind n g))))) ∧ (((SV.v (Value.int IntKind.i64 (frV 2147483647 (nxV n (gI (winBlk (niB e m g x wh) 1 0 n)) 2)))) = (SV.v (Value.int IntKind.i64 (CV.bg (coV kind n g))))) ∧ (((SV.v (Value.int IntKind.i64 (frV 1099511627776 (nxV n (gI (winBlk (niB e m g x wh) 1 0 n)) (Prod.snd (yHandle n (gI (winBlk (niB e m g x wh) 1 0 n)) 1)))))) = (SV.v (Value.int IntKind.i64 (CV.ver (coV kind n g))))) ∧ (((SV.v (Value.int IntKind.i64 0)) = (SV.v (Value.int IntKind.i64 (CV.sk (coV kind n g))))) ∧ (((SV.v (Value.int IntKind.i64 0)) = (SV.v (Value.int IntKind.i64 (CV.sr (coV kind n g))))) ∧ (((SV.v (Value.int IntKind.i64 0)) = (SV.v (Value.int IntKind.i64 (CV.sw (coV kind n g))))) ∧ (((SV.v (Value.int IntKind.i64 0)) = (SV.v (Value.int IntKind.i64 (CV.sh (coV kind n g))))) ∧ ((((SV.v (Value.slice none 0 0)) = (SV.v (Value.slice none 0 0))) ∧ (((0 : Nat) = 0) ∧ ((((coN kind n g) : Nat) = 0) ∧ (((coN kind n g + c) : Nat) = 0)))) ∧ (((SV.v (Value.int IntKind.i64 0)) = (SV.v (Value.int IntKind.i64 (CV.p0v (coV kind n g))))) ∧ (((SV.v (Value.bool false)) = (SV.v (Value.bool (CV.p0f (coV kind n g))))) ∧ (((SV.v (Value.int IntKind.i64 0)) = (SV.v (Value.int IntKind.i64 (CV.p1v (coV kind n g))))) ∧ (((SV.v (Value.bool false)) = (SV.v (Value.bool (CV.p1f (coV kind n g))))) ∧ (((SV.v (Value.int IntKind.i64 0)) = (SV.v (Value.int IntKind.i64 (CV.p2v (coV kind n g))))) ∧ (((SV.v (Value.bool false)) = (SV.v (Value.bool (CV.p2f (coV kind n g))))) ∧ (((SV.v (Value.int IntKind.i64 0)) = (SV.v (Value.int IntKind.i64 (CV.p3v (coV kind n g))))) ∧ (((SV.v (Value.bool false)) = (SV.v (Value.bool (CV.p3f (coV kind n g))))) ∧ (((SV.v (Value.int IntKind.i64 0)) = (SV.v (Value.int IntKind.i64 (CV.v0v (coV kind n g))))) ∧ (((SV.v (Value.bool false)) = (SV.v (Value.bool (CV.v0f (coV kind n g))))) ∧ (((SV.v (Value.int IntKind.i64 0)) = (SV.v (Value.int IntKind.i64 (CV.v1v (coV kind n g))))) ∧ (((SV.v (Value.bool false)) = (SV.v (Value.bool (CV.v1f (coV kind n g))))) ∧ (((SV.v (Value.int IntKind.i64 0)) = (SV.v (Value.int IntKind.i64 (CV.w0v (coV kind n g))))) ∧ (((SV.v (Value.bool false)) = (SV.v (Value.bool (CV.w0f (coV kind n g))))) ∧ (((SV.v (Value.int IntKind.i64 0)) = (SV.v (Value.int IntKind.i64 (CV.dn (coV kind n g))))) ∧ (((SV.v (Value.bool false)) = (SV.v (Value.bool (CV.mv (coV kind n g))))) ∧ (((SV.v (Value.int IntKind.i64 0)) = (SV.v (Value.int IntKind.i64 (CV.a0v (coV kind n g))))) ∧ (((SV.v (Value.bool false)) = (SV.v (Value.bool (CV.a0f (coV kind n g))))) ∧ (((SV.v (Value.int IntKind.i64 0)) = (SV.v (Value.int IntKind.i64 (CV.a1v (coV kind n g))))) ∧ (((SV.v (Value.bool false)) = (SV.v (Value.bool (CV.a1f (coV kind n g))))) ∧ (((SV.v (Value.int IntKind.i64 0)) = (SV.v (Value.int IntKind.i64 (CV.t0v (coV kind n g))))) ∧ (((SV.v (Value.bool false)) = (SV.v (Value.bool (CV.t0f (coV kind n g))))) ∧ (((SV.v (Value.int IntKind.i64 0)) = (SV.v (Value.int IntKind.i64 (CV.t1v (coV kind n g))))) ∧ (((SV.v (Value.bool false)) = (SV.v (Value.bool (CV.t1f (coV kind n g))))) ∧ (((SV.v (Value.int IntKind.i64 0)) = (SV.v (Value.int IntKind.i64 (CV.gr (coV kind n g))))) ∧ (((SV.v (Value.int IntKind.i64 0)) = (SV.v (Value.int IntKind.i64 (CV.b0 (coV kind n g))))) ∧ (((SV.v (Value.int IntKind.i64 0)) = (SV.v (Value.int IntKind.i64 (CV.b1 (coV kind n g))))) ∧ (((SV.v (Value.int IntKind.i64 0)) = (SV.v (Value.int IntKind.i64 (CV.b2 (coV kind n g))))) ∧ (((SV.v (Value.int IntKind.i64 0)) = (SV.v (Value.int IntKind.i64 (CV.b3 (coV kind n g))))) ∧ (((SV.v (Value.int IntKind.i64 0)) = (SV.v (Value.int IntKind.i64 (CV.f0 (coV kind n g))))) ∧ (((SV.v (Value.int IntKind.i64 0)) = (SV.v (Value.int IntKind.i64 (CV.f1 (coV kind n g))))) ∧ (((SV.v (Value.int IntKind.i64 0)) = (SV.v (Value.int IntKind.i64 (CV.u0 (coV kind n g))))) ∧ ((SV.v (Value.int IntKind.i64 0)) = (SV.v (Value.int IntKind.i64 (CV.u1 (coV kind n g))))))))))))))))))))))))))))))))))))))))))))))) ∧ (((((coN kind n g) : Nat) = 0) ∧ ((((coN kind n g + c) : Nat) = 0) ∧ True)) ∧ True))))))) 
(sel (IntKind.wrap IntKind.i64 (1 + md kind 10) == 3) ((((niPre n (winBlk (niB e m g x wh) 1 0 n)) ∧ (((0 : Int) ≤ 1) ∧ (((Prod.snd (yHandle n (gI (winBlk (niB e m g x wh) 1 0 n)) 1)) : Int) ≤ 4611686018427387904))) ∧ True) ∧ ((((niPre n (winBlk (niB e m g x wh) 1 0 n)) ∧ (((0 : Int) ≤ (Prod.snd (yHandle n (gI (winBlk (niB e m g x wh) 1 0 n)) 1))) ∧ (((Prod.snd (yHandle n (gI (winBlk (niB e m g x wh) 1 0 n)) 1) + 1) : Int) ≤ 4611686018427387904))) ∧ (((0 : Int) ≤ 1099511627776) ∧ ((1099511627776 : Int) ≤ 4611686018427387904))) ∧ 
(sel (IntKind.wrap IntKind.i64 (1 + md kind 10) != 2) ((((niPre n (winBlk (niB e m g x wh) 1 0 n)) ∧ (((0 : Int) ≤ (Prod.snd (yHandle n (gI (winBlk (niB e m g x wh) 1 0 n)) 1) + 1)) ∧ (((Prod.snd (yVec n (gI (winBlk (niB e m g x wh) 1 0 n)) (Prod.snd (yHandle n (gI (winBlk (niB e m g x wh) 1 0 n)) 1) + 1))) : Int) ≤ 4611686018427387904))) ∧ True) ∧ 
(sel (IntKind.wrap IntKind.i64 (1 + md kind 10) == 3) ((((niPre n (winBlk (niB e m g x wh) 1 0 n)) ∧ (((0 : Int) ≤ (Prod.snd (yVec n (gI (winBlk (niB e m g x wh) 1 0 n)) (Prod.snd (yHandle n (gI (winBlk (niB e m g x wh) 1 0 n)) 1) + 1)))) ∧ (((Prod.snd (yVec n (gI (winBlk (niB e m g x wh) 1 0 n)) (Prod.snd (yVec n (gI (winBlk (niB e m g x wh) 1 0 n)) (Prod.snd (yHandle n (gI (winBlk (niB e m g x wh) 1 0 n)) 1) + 1))))) : Int) ≤ 4611686018427387904))) ∧ True) ∧ (∃ c : Nat, ((((SV.v (Value.int IntKind.i64 (IntKind.wrap IntKind.i64 (1 + md kind 10)))) = (SV.v (Value.int IntKind.i64 (coK kind)))) ∧ (((SV.v (Value.int IntKind.i64 (frV 2147483647 (nxV n (gI (winBlk (niB e m g x wh) 1 0 n)) 0)))) = (SV.v (Value.int IntKind.i64 (CV.id (coV kind n g))))) ∧ (((SV.v (Value.int IntKind.i64 (frV 2147483647 (nxV n (gI (winBlk (niB e m g x wh) 1 0 n)) 1)))) = (SV.v (Value.int IntKind.i64 (CV.bs (coV kind n g))))) ∧ (((SV.v (Value.int IntKind.i64 (frV 2147483647 (nxV n (gI (winBlk (niB e m g x wh) 1 0 n)) 2)))) = (SV.v (Value.int IntKind.i64 (CV.bg (coV kind n g))))) ∧ (((SV.v (Value.int IntKind.i64 (frV 1099511627776 (nxV n (gI (winBlk (niB e m g x wh) 1 0 n)) (Prod.snd (yHandle n (gI (winBlk (niB e m g x wh) 1 0 n)) 1)))))) = (SV.v (Value.int IntKind.i64 (CV.ver (coV kind n g))))) ∧ (((SV.v (Value.int IntKind.i64 0)) = (SV.v (Value.int IntKind.i64 (CV.sk (coV kind n g))))) ∧ (((SV.v (Value.int IntKind.i64 0)) = (SV.v (Value.int IntKind.i64 (CV.sr (coV kind n g))))) ∧ (((SV.v (Value.int IntKind.i64 0)) = (SV.v (Value.int IntKind.i64 (CV.sw (coV kind n g))))) ∧ (((SV.v (Value.int IntKind.i64 0)) = (SV.v (Value.int IntKind.i64 (CV.sh (coV kind n g))))) ∧ ((((SV.v (Value.slice none 0 0)) = (SV.v (Value.slice none 0 0))) ∧ (((0 : Nat) = 0) ∧ ((((coN kind n g) : Nat) = 0) ∧ (((coN kind n g + c) : Nat) = 0)))) ∧ (((SV.v (Value.int IntKind.i64 0)) = (SV.v (Value.int IntKind.i64 (CV.p0v (coV kind n g))))) ∧ (((SV.v (Value.bool false)) = (SV.v (Value.bool (CV.p0f (coV kind n g))))) ∧ (((SV.v (Value.int IntKind.i64 0)) = (SV.v (Value.int IntKind.i64 (CV.p1v (coV kind n g))))) ∧ (((SV.v (Value.bool false)) = (SV.v (Value.bool (CV.p1f (coV kind n g))))) ∧ (((SV.v (Value.int IntKind.i64 0)) = (SV.v (Value.int IntKind.i64 (CV.p2v (coV kind n g))))) ∧ (((SV.v (Value.bool false)) = (SV.v (Value.bool (CV.p2f (coV kind n g))))) ∧ (((SV.v (Value.int IntKind.i64 0)) = (SV.v (Value.int IntKind.i64 (CV.p3v (coV kind n g))))) ∧ (((SV.v (Value.bool false)) = (SV.v (Value.bool (CV.p3f (coV kind n g))))) ∧ (((SV.v (Value.int IntKind.i64 0)) = (SV.v (Value.int IntKind.i64 (CV.v0v (coV kind n g))))) ∧ (((SV.v (Value.bool false)) = (SV.v (Value.bool (CV.v0f (coV kind n g))))) ∧ (((SV.v (Value.int IntKind.i64 0)) = (SV.v (Value.int IntKind.i64 (CV.v1v (coV kind n g))))) ∧ (((SV.v (Value.bool false)) = (SV.v (Value.bool (CV.v1f (coV kind n g))))) ∧ (((SV.v (Value.int IntKind.i64 0)) = (SV.v (Value.int IntKind.i64 (CV.w0v (coV kind n g))))) ∧ (((SV.v (Value.bool false)) = (SV.v (Value.bool (CV.w0f (coV kind n g))))) ∧ (((SV.v (Value.int IntKind.i64 0)) = (SV.v (Value.int IntKind.i64 (CV.dn (coV kind n g))))) ∧ (((SV.v (Value.bool false)) = (SV.v (Value.bool (CV.mv (coV kind n g))))) ∧ (((SV.v (Value.int IntKind.i64 (nuV (nxV n (gI (winBlk (niB e m g x wh) 1 0 n)) (Prod.snd (yHandle n (gI (winBlk (niB e m g x wh) 1 0 n)) 1) + 1))))) = (SV.v (Value.int IntKind.i64 (CV.a0v (coV kind n g))))) ∧ (((SV.v (Value.bool (nuF (nxV n (gI (winBlk (niB e m g x wh) 1 0 n)) (Prod.snd (yHandle n (gI (winBlk (niB e m g x wh) 1 0 n)) 1) + 1))))) = (SV.v (Value.bool (CV.a0f (coV kind n g))))) ∧ (((SV.v (Value.int IntKind.i64 (nuV (nxV n (gI (winBlk (niB e m g x wh) 1 0 n)) (Prod.snd (yHandle n (gI (winBlk (niB e m g x wh) 1 0 n)) 1) + 1 + 1))))) = (SV.v (Value.int IntKind.i64 (CV.a1v (coV kind n g))))) ∧ (((SV.v (Value.bool (nuF (nxV n (gI (winBlk (niB e m g x wh) 1 0 n)) (Prod.snd (yHandle n (gI (winBlk (niB e m g x wh) 1 0 n)) 1) + 1 + 1))))) = (SV.v (Value.bool (CV.a1f (coV kind n g))))) ∧ (((SV.v (Value.int IntKind.i64 (nuV (nxV n (gI (winBlk (niB e m g x wh) 1 0 n)) (Prod.snd (yVec n (gI (winBlk (niB e m g x wh) 1 0 n)) (Prod.snd (yHandle n (gI (winBlk (niB e m g x wh) 1 0 n)) 1) + 1))))))) = (SV.v (Value.int IntKind.i64 (CV.t0v (coV kind n g))))) ∧ (((SV.v (Value.bool (nuF (nxV n (gI (winBlk (niB e m g x wh) 1 0 n)) (Prod.snd (yVec n (gI (winBlk (niB e m g x wh) 1 0 n)) (Prod.snd (yHandle n (gI (winBlk (niB e m g x wh) 1 0 n)) 1) + 1))))))) = (SV.v (Value.bool (CV.t0f (coV kind n g))))) ∧ (((SV.v (Value.int IntKind.i64 (nuV (nxV n (gI (winBlk (niB e m g x wh) 1 0 n)) (Prod.snd (yVec n (gI (winBlk (niB e m g x wh) 1 0 n)) (Prod.snd (yHandle n (gI (winBlk (niB e m g x wh) 1 0 n)) 1) + 1)) + 1))))) = (SV.v (Value.int IntKind.i64 (CV.t1v (coV kind n g))))) ∧ (((SV.v (Value.bool (nuF (nxV n (gI (winBlk (niB e m g x wh) 1 0 n)) (Prod.snd (yVec n (gI (winBlk (niB e m g x wh) 1 0 n)) (Prod.snd (yHandle n (gI (winBlk (niB e m g x wh) 1 0 n)) 1) + 1)) + 1))))) = (SV.v (Value.bool (CV.t1f (coV kind n g))))) ∧ (((SV.v (Value.int IntKind.i64 0)) = (SV.v (Value.int IntKind.i64 (CV.gr (coV kind n g))))) ∧ (((SV.v (Value.int IntKind.i64 0)) = (SV.v (Value.int IntKind.i64 (CV.b0 (coV kind n g))))) ∧ (((SV.v (Value.int IntKind.i64 0)) = (SV.v (Value.int IntKind.i64 (CV.b1 (coV kind n g))))) ∧ (((SV.v (Value.int IntKind.i64 0)) = (SV.v (Value.int IntKind.i64 (CV.b2 (coV kind n g))))) ∧ (((SV.v (Value.int IntKind.i64 0)) = (SV.v (Value.int IntKind.i64 (CV.b3 (coV kind n g))))) ∧ (((SV.v (Value.int IntKind.i64 0)) = (SV.v (Value.int IntKind.i64 (CV.f0 (coV kind n g))))) ∧ (((SV.v (Value.int IntKind.i64 0)) = (SV.v (Value.int IntKind.i64 (CV.f1 (coV kind n g))))) ∧ (((SV.v (Value.int IntKind.i64 0)) = (SV.v (Value.int IntKind.i64 (CV.u0 (coV kind n g))))) ∧ ((SV.v (Value.int IntKind.i64 0)) = (SV.v (Value.int IntKind.i64 (CV.u1 (coV kind n g))))))))))))))))))))))))))))))))))))))))))))))) ∧ (((((coN kind n g) : Nat) = 0) ∧ ((((coN kind n g + c) : Nat) = 0) ∧ True)) ∧ True)))) (∃ c : Nat, ((((SV.v (Value.int IntKind.i64 (IntKind.wrap IntKind.i64 (1 + md kind 10)))) = (SV.v (Value.int IntKind.i64 (coK kind)))) ∧ (((SV.v (Value.int IntKind.i64 (frV 2147483647 (nxV n (gI (winBlk (niB e m g x wh) 1 0 n)) 0)))) = (SV.v (Value.int IntKind.i64 (CV.id (coV kind n g))))) ∧ (((SV.v (Value.int IntKind.i64 (frV 2147483647 (nxV n (gI (winBlk (niB e m g x wh) 1 0 n)) 1)))) = (SV.v (Value.int IntKind.i64 (CV.bs (coV kind n g))))) ∧ (((SV.v (Value.int IntKind.i64 (frV 2147483647 (nxV n (gI (winBlk (niB e m g x wh) 1 0 n)) 2)))) = (SV.v (Value.int IntKind.i64 (CV.bg (coV kind n g))))) ∧ (((SV.v (Value.int IntKind.i64 (frV 1099511627776 (nxV n (gI (winBlk (niB e m g x wh) 1 0 n)) (Prod.snd (yHandle n (gI (winBlk (niB e m g x wh) 1 0 n)) 1)))))) = (SV.v (Value.int IntKind.i64 (CV.ver (coV kind n g))))) ∧ (((SV.v (Value.int IntKind.i64 0)) = (SV.v (Value.int IntKind.i64 (CV.sk (coV kind n g))))) ∧ (((SV.v (Value.int IntKind.i64 0)) = (SV.v (Value.int IntKind.i64 (CV.sr (coV kind n g))))) ∧ (((SV.v (Value.int IntKind.i64 0)) = (SV.v (Value.int IntKind.i64 (CV.sw (coV kind n g))))) ∧ (((SV.v (Value.int IntKind.i64 0)) = (SV.v (Value.int IntKind.i64 (CV.sh (coV kind n g))))) ∧ ((((SV.v (Value.slice none 0 0)) = (SV.v (Value.slice none 0 0))) ∧ (((0 : Nat) = 0) ∧ ((((coN kind n g) : Nat) = 0) ∧ (((coN kind n g + c) : Nat) = 0)))) ∧ (((SV.v (Value.int IntKind.i64 0)) = (SV.v (Value.int IntKind.i64 (CV.p0v (coV kind n g))))) ∧ (((SV.v (Value.bool false)) = (SV.v (Value.bool (CV.p0f (coV kind n g))))) ∧ (((SV.v (Value.int IntKind.i64 0)) = (SV.v (Value.int IntKind.i64 (CV.p1v (coV kind n g))))) ∧ (((SV.v (Value.bool false)) = (SV.v (Value.bool (CV.p1f (coV kind n g))))) ∧ (((SV.v (Value.int IntKind.i64 0)) = (SV.v (Value.int IntKind.i64 (CV.p2v (coV kind n g))))) ∧ (((SV.v (Value.bool false)) = (SV.v (Value.bool (CV.p2f (coV kind n g))))) ∧ (((SV.v (Value.int IntKind.i64 0)) = (SV.v (Value.int IntKind.i64 (CV.p3v (coV kind n g))))) ∧ (((SV.v (Value.bool false)) = (SV.v (Value.bool (CV.p3f (coV kind n g))))) ∧ (((SV.v (Value.int IntKind.i64 0)) = (SV.v (Value.int IntKind.i64 (CV.v0v (coV kind n g))))) ∧ (((SV.v (Value.bool false)) = (SV.v (Value.bool (CV.v0f (coV kind n g))))) ∧ (((SV.v (Value.int IntKind.i64 0)) = (SV.v (Value.int IntKind.i64 (CV.v1v (coV kind n g))))) ∧ (((SV.v (Value.bool false)) = (SV.v (Value.bool (CV.v1f (coV kind n g))))) ∧ (((SV.v (Value.int IntKind.i64 0)) = (SV.v (Value.int IntKind.i64 (CV.w0v (coV kind n g))))) ∧ (((SV.v (Value.bool false)) = (SV.v (Value.bool (CV.w0f (coV kind n g))))) ∧ (((SV.v (Value.int IntKind.i64 0)) = (SV.v (Value.int IntKind.i64 (CV.dn (coV kind n g))))) ∧ (((SV.v (Value.bool false)) = (SV.v (Value.bool (CV.mv (coV kind n g))))) ∧ (((SV.v (Value.int IntKind.i64 (nuV (nxV n (gI (winBlk (niB e m g x wh) 1 0 n)) (Prod.snd (yHandle n (gI (winBlk (niB e m g x wh) 1 0 n)) 1) + 1))))) = (SV.v (Value.int IntKind.i64 (CV.a0v (coV kind n g))))) ∧ (((SV.v (Value.bool (nuF (nxV n (gI (winBlk (niB e m g x wh) 1 0 n)) (Prod.snd (yHandle n (gI (winBlk (niB e m g x wh) 1 0 n)) 1) + 1))))) = (SV.v (Value.bool (CV.a0f (coV kind n g))))) ∧ (((SV.v (Value.int IntKind.i64 (nuV (nxV n (gI (winBlk (niB e m g x wh) 1 0 n)) (Prod.snd (yHandle n (gI (winBlk (niB e m g x wh) 1 0 n)) 1) + 1 + 1))))) = (SV.v (Value.int IntKind.i64 (CV.a1v (coV kind n g))))) ∧ (((SV.v (Value.bool (nuF (nxV n (gI (winBlk (niB e m g x wh) 1 0 n)) (Prod.snd (yHandle n (gI (winBlk (niB e m g x wh) 1 0 n)) 1) + 1 + 1))))) = (SV.v (Value.bool (CV.a1f (coV kind n g))))) ∧ (((SV.v (Value.int IntKind.i64 0)) = (SV.v (Value.int IntKind.i64 (CV.t0v (coV kind n g))))) ∧ (((SV.v (Value.bool false)) = (SV.v (Value.bool (CV.t0f (coV kind n g))))) ∧ (((SV.v (Value.int IntKind.i64 0)) = (SV.v (Value.int IntKind.i64 (CV.t1v (coV kind n g))))) ∧ (((SV.v (Value.bool false)) = (SV.v (Value.bool (CV.t1f (coV kind n g))))) ∧ (((SV.v (Value.int IntKind.i64 0)) = (SV.v (Value.int IntKind.i64 (CV.gr (coV kind n g))))) ∧ (((SV.v (Value.int IntKind.i64 0)) = (SV.v (Value.int IntKind.i64 (CV.b0 (coV kind n g))))) ∧ (((SV.v (Value.int IntKind.i64 0)) = (SV.v (Value.int IntKind.i64 (CV.b1 (coV kind n g))))) ∧ (((SV.v (Value.int IntKind.i64 0)) = (SV.v (Value.int IntKind.i64 (CV.b2 (coV kind n g))))) ∧ (((SV.v (Value.int IntKind.i64 0)) = (SV.v (Value.int IntKind.i64 (CV.b3 (coV kind n g))))) ∧ (((SV.v (Value.int IntKind.i64 0)) = (SV.v (Value.int IntKind.i64 (CV.f0 (coV kind n g))))) ∧ (((SV.v (Value.int IntKind.i64 0)) = (SV.v (Value.int IntKind.i64 (CV.f1 (coV kind n g))))) ∧ (((SV.v (Value.int IntKind.i64 0)) = (SV.v (Value.int IntKind.i64 (CV.u0 (coV kind n g))))) ∧ ((SV.v (Value.int IntKind.i64 0)) = (SV.v (Value.int IntKind.i64 (CV.u1 (coV kind n g))))))))))))))))))))))))))))))))))))))))))))))) ∧ (((((coN kind n g) : Nat) = 0) ∧ ((((coN kind n g + c) : Nat) = 0) ∧ True)) ∧ True))))) 
(sel (IntKind.wrap IntKind.i64 (1 + md kind 10) == 3) ((((niPre n (winBlk (niB e m g x wh) 1 0 n)) ∧ (((0 : Int) ≤ (Prod.snd (yHandle n (gI (winBlk (niB e m g x wh) 1 0 n)) 1) + 1)) ∧ (((Prod.snd (yVec n (gI (winBlk (niB e m g x wh) 1 0 n)) (Prod.snd (yHandle n (gI (winBlk (niB e m g x wh) 1 0 n)) 1) + 1))) : Int) ≤ 4611686018427387904))) ∧ True) ∧ (∃ c : Nat, ((((SV.v (Value.int IntKind.i64 (IntKind.wrap IntKind.i64 (1 + md kind 10)))) = (SV.v (Value.int IntKind.i64 (coK kind)))) ∧ (((SV.v (Value.int IntKind.i64 (frV 2147483647 (nxV n (gI (winBlk (niB e m g x wh) 1 0 n)) 0)))) = (SV.v (Value.int IntKind.i64 (CV.id (coV kind n g))))) ∧ (((SV.v (Value.int IntKind.i64 (frV 2147483647 (nxV n (gI (winBlk (niB e m g x wh) 1 0 n)) 1)))) = (SV.v (Value.int IntKind.i64 (CV.bs (coV kind n g))))) ∧ (((SV.v (Value.int IntKind.i64 (frV 2147483647 (nxV n (gI (winBlk (niB e m g x wh) 1 0 n)) 2)))) = (SV.v (Value.int IntKind.i64 (CV.bg (coV kind n g))))) ∧ (((SV.v (Value.int IntKind.i64 (frV 1099511627776 (nxV n (gI (winBlk (niB e m g x wh) 1 0 n)) (Prod.snd (yHandle n (gI (winBlk (niB e m g x wh) 1 0 n)) 1)))))) = (SV.v (Value.int IntKind.i64 (CV.ver (coV kind n g))))) ∧ (((SV.v (Value.int IntKind.i64 0)) = (SV.v (Value.int IntKind.i64 (CV.sk (coV kind n g))))) ∧ (((SV.v (Value.int IntKind.i64 0)) = (SV.v (Value.int IntKind.i64 (CV.sr (coV kind n g))))) ∧ (((SV.v (Value.int IntKind.i64 0)) = (SV.v (Value.int IntKind.i64 (CV.sw (coV kind n g))))) ∧ (((SV.v (Value.int IntKind.i64 0)) = (SV.v (Value.int IntKind.i64 (CV.sh (coV kind n g))))) ∧ ((((SV.v (Value.slice none 0 0)) = (SV.v (Value.slice none 0 0))) ∧ (((0 : Nat) = 0) ∧ ((((coN kind n g) : Nat) = 0) ∧ (((coN kind n g + c) : Nat) = 0)))) ∧ (((SV.v (Value.int IntKind.i64 0)) = (SV.v (Value.int IntKind.i64 (CV.p0v (coV kind n g))))) ∧ (((SV.v (Value.bool false)) = (SV.v (Value.bool (CV.p0f (coV kind n g))))) ∧ (((SV.v (Value.int IntKind.i64 0)) = (SV.v (Value.int IntKind.i64 (CV.p1v (coV kind n g))))) ∧ (((SV.v (Value.bool false)) = (SV.v (Value.bool (CV.p1f (coV kind n g))))) ∧ (((SV.v (Value.int IntKind.i64 0)) = (SV.v (Value.int IntKind.i64 (CV.p2v (coV kind n g))))) ∧ (((SV.v (Value.bool false)) = (SV.v (Value.bool (CV.p2f (coV kind n g))))) ∧ (((SV.v (Value.int IntKind.i64 0)) = (SV.v (Value.int IntKind.i64 (CV.p3v (coV kind n g))))) ∧ (((SV.v (Value.bool false)) = (SV.v (Value.bool (CV.p3f (coV kind n g))))) ∧ (((SV.v (Value.int IntKind.i64 0)) = (SV.v (Value.int IntKind.i64 (CV.v0v (coV kind n g))))) ∧ (((SV.v (Value.bool false)) = (SV.v (Value.bool (CV.v0f (coV kind n g))))) ∧ (((SV.v (Value.int IntKind.i64 0)) = (SV.v (Value.int IntKind.i64 (CV.v1v (coV kind n g))))) ∧ (((SV.v (Value.bool false)) = (SV.v (Value.bool (CV.v1f (coV kind n g))))) ∧ (((SV.v (Value.int IntKind.i64 0)) = (SV.v (Value.int IntKind.i64 (CV.w0v (coV kind n g))))) ∧ (((SV.v (Value.bool false)) = (SV.v (Value.bool (CV.w0f (coV kind n g))))) ∧ (((SV.v (Value.int IntKind.i64 0)) = (SV.v (Value.int IntKind.i64 (CV.dn (coV kind n g))))) ∧ (((SV.v (Value.bool false)) = (SV.v (Value.bool (CV.mv (coV kind n g))))) ∧ (((SV.v (Value.int IntKind.i64 0)) = (SV.v (Value.int IntKind.i64 (CV.a0v (coV kind n g))))) ∧ (((SV.v (Value.bool false)) = (SV.v (Value.bool (CV.a0f (coV kind n g))))) ∧ (((SV.v (Value.int IntKind.i64 0)) = (SV.v (Value.int IntKind.i64 (CV.a1v (coV kind n g))))) ∧ (((SV.v (Value.bool false)) = (SV.v (Value.bool (CV.a1f (coV kind n g))))) ∧ (((SV.v (Value.int IntKind.i64 (nuV (nxV n (gI (winBlk (niB e m g x wh) 1 0 n)) (Prod.snd (yHandle n (gI (winBlk (niB e m g x wh) 1 0 n)) 1) + 1))))) = (SV.v (Value.int IntKind.i64 (CV.t0v (coV kind n g))))) ∧ (((SV.v (Value.bool (nuF (nxV n (gI (winBlk (niB e m g x wh) 1 0 n)) (Prod.snd (yHandle n (gI (winBlk (niB e m g x wh) 1 0 n)) 1) + 1))))) = (SV.v (Value.bool (CV.t0f (coV kind n g))))) ∧ (((SV.v (Value.int IntKind.i64 (nuV (nxV n (gI (winBlk (niB e m g x wh) 1 0 n)) (Prod.snd (yHandle n (gI (winBlk (niB e m g x wh) 1 0 n)) 1) + 1 + 1))))) = (SV.v (Value.int IntKind.i64 (CV.t1v (coV kind n g))))) ∧ (((SV.v (Value.bool (nuF (nxV n (gI (winBlk (niB e m g x wh) 1 0 n)) (Prod.snd (yHandle n (gI (winBlk (niB e m g x wh) 1 0 n)) 1) + 1 + 1))))) = (SV.v (Value.bool (CV.t1f (coV kind n g))))) ∧ (((SV.v (Value.int IntKind.i64 0)) = (SV.v (Value.int IntKind.i64 (CV.gr (coV kind n g))))) ∧ (((SV.v (Value.int IntKind.i64 0)) = (SV.v (Value.int IntKind.i64 (CV.b0 (coV kind n g))))) ∧ (((SV.v (Value.int IntKind.i64 0)) = (SV.v (Value.int IntKind.i64 (CV.b1 (coV kind n g))))) ∧ (((SV.v (Value.int IntKind.i64 0)) = (SV.v (Value.int IntKind.i64 (CV.b2 (coV kind n g))))) ∧ (((SV.v (Value.int IntKind.i64 0)) = (SV.v (Value.int IntKind.i64 (CV.b3 (coV kind n g))))) ∧ (((SV.v (Value.int IntKind.i64 0)) = (SV.v (Value.int IntKind.i64 (CV.f0 (coV kind n g))))) ∧ (((SV.v (Value.int IntKind.i64 0)) = (SV.v (Value.int IntKind.i64 (CV.f1 (coV kind n g))))) ∧ (((SV.v (Value.int IntKind.i64 0)) = (SV.v (Value.int IntKind.i64 (CV.u0 (coV kind n g))))) ∧ ((SV.v (Value.int IntKind.i64 0)) = (SV.v (Value.int IntKind.i64 (CV.u1 (coV kind n g))))))))))))))))))))))))))))))))))))))))))))))) ∧ (((((coN kind n g) : Nat) = 0) ∧ ((((coN kind n g + c) : Nat) = 0) ∧ True)) ∧ True)))) (∃ c : Nat, ((((SV.v (Value.int IntKind.i64 (IntKind.wrap IntKind.i64 (1 + md kind 10)))) = (SV.v (Value.int IntKind.i64 (coK kind)))) ∧ (((SV.v (Value.int IntKind.i64 (frV 2147483647 (nxV n (gI (winBlk (niB e m g x wh) 1 0 n)) 0)))) = (SV.v (Value.int IntKind.i64 (CV.id (coV kind n g))))) ∧ (((SV.v (Value.int IntKind.i64 (frV 2147483647 (nxV n (gI (winBlk (niB e m g x wh) 1 0 n)) 1)))) = (SV.v (Value.int IntKind.i64 (CV.bs (coV kind n g))))) ∧ (((SV.v (Value.int IntKind.i64 (frV 2147483647 (nxV n (gI (winBlk (niB e m g x wh) 1 0 n)) 2)))) = (SV.v (Value.int IntKind.i64 (CV.bg (coV kind n g))))) ∧ (((SV.v (Value.int IntKind.i64 (frV 1099511627776 (nxV n (gI (winBlk (niB e m g x wh) 1 0 n)) (Prod.snd (yHandle n (gI (winBlk (niB e m g x wh) 1 0 n)) 1)))))) = (SV.v (Value.int IntKind.i64 (CV.ver (coV kind n g))))) ∧ (((SV.v (Value.int IntKind.i64 0)) = (SV.v (Value.int IntKind.i64 (CV.sk (coV kind n g))))) ∧ (((SV.v (Value.int IntKind.i64 0)) = (SV.v (Value.int IntKind.i64 (CV.sr (coV kind n g))))) ∧ (((SV.v (Value.int IntKind.i64 0)) = (SV.v (Value.int IntKind.i64 (CV.sw (coV kind n g))))) ∧ (((SV.v (Value.int IntKind.i64 0)) = (SV.v (Value.int IntKind.i64 (CV.sh (coV kind n g))))) ∧ ((((SV.v (Value.slice none 0 0)) = (SV.v (Value.slice none 0 0))) ∧ (((0 : Nat) = 0) ∧ ((((coN kind n g) : Nat) = 0) ∧ (((coN kind n g + c) : Nat) = 0)))) ∧ (((SV.v (Value.int IntKind.i64 0)) = (SV.v (Value.int IntKind.i64 (CV.p0v (coV kind n g))))) ∧ (((SV.v (Value.bool false)) = (SV.v (Value.bool (CV.p0f (coV kind n g))))) ∧ (((SV.v (Value.int IntKind.i64 0)) = (SV.v (Value.int IntKind.i64 (CV.p1v (coV kind n g))))) ∧ (((SV.v (Value.bool false)) = (SV.v (Value.bool (CV.p1f (coV kind n g))))) ∧ (((SV.v (Value.int IntKind.i64 0)) = (SV.v (Value.int IntKind.i64 (CV.p2v (coV kind n g))))) ∧ (((SV.v (Value.bool false)) = (SV.v (Value.bool (CV.p2f (coV kind n g))))) ∧ (((SV.v (Value.int IntKind.i64 0)) = (SV.v (Value.int IntKind.i64 (CV.p3v (coV kind n g))))) ∧ (((SV.v (Value.bool false)) = (SV.v (Value.bool (CV.p3f (coV kind n g))))) ∧ (((SV.v (Value.int IntKind.i64 0)) = (SV.v (Value.int IntKind.i64 (CV.v0v (coV kind n g))))) ∧ (((SV.v (Value.bool false)) = (SV.v (Value.bool (CV.v0f (coV kind n g))))) ∧ (((SV.v (Value.int IntKind.i64 0)) = (SV.v (Value.int IntKind.i64 (CV.v1v (coV kind n g))))) ∧ (((SV.v (Value.bool false)) = (SV.v (Value.bool (CV.v1f (coV kind n g))))) ∧ (((SV.v (Value.int IntKind.i64 0)) = (SV.v (Value.int IntKind.i64 (CV.w0v (coV kind n g))))) ∧ (((SV.v (Value.bool false)) = (SV.v (Value.bool (CV.w0f (coV kind n g))))) ∧ (((SV.v (Value.int IntKind.i64 0)) = (SV.v (Value.int IntKind.i64 (CV.dn (coV kind n g))))) ∧ (((SV.v (Value.bool false)) = (SV.v (Value.bool (CV.mv (coV kind n g))))) ∧ (((SV.v (Value.int IntKind.i64 0)) = (SV.v (Value.int IntKind.i64 (CV.a0v (coV kind n g))))) ∧ (((SV.v (Value.bool false)) = (SV.v (Value.bool (CV.a0f (coV kind n g))))) ∧ (((SV.v (Value.int IntKind.i64 0)) = (SV.v (Value.int IntKind.i64 (CV.a1v (coV kind n g))))) ∧ (((SV.v (Value.bool false)) = (SV.v (Value.bool (CV.a1f (coV kind n g))))) ∧ (((SV.v (Value.int IntKind.i64 0)) = (SV.v (Value.int IntKind.i64 (CV.t0v (coV kind n g))))) ∧ (((SV.v (Value.bool false)) = (SV.v (Value.bool (CV.t0f (coV kind n g))))) ∧ (((SV.v (Value.int IntKind.i64 0)) = (SV.v (Value.int IntKind.i64 (CV.t1v (coV kind n g))))) ∧ (((SV.v (Value.bool false)) = (SV.v (Value.bool (CV.t1f (coV kind n g))))) ∧ (((SV.v (Value.int IntKind.i64 0)) = (SV.v (Value.int IntKind.i64 (CV.gr (coV kind n g))))) ∧ (((SV.v (Value.int IntKind.i64 0)) = (SV.v (Value.int IntKind.i64 (CV.b0 (coV kind n g))))) ∧ (((SV.v (Value.int IntKind.i64 0)) = (SV.v (Value.int IntKind.i64 (CV.b1 (coV kind n g))))) ∧ (((SV.v (Value.int IntKind.i64 0)) = (SV.v (Value.int IntKind.i64 (CV.b2 (coV kind n g))))) ∧ (((SV.v (Value.int IntKind.i64 0)) = (SV.v (Value.int IntKind.i64 (CV.b3 (coV kind n g))))) ∧ (((SV.v (Value.int IntKind.i64 0)) = (SV.v (Value.int IntKind.i64 (CV.f0 (coV kind n g))))) ∧ (((SV.v (Value.int IntKind.i64 0)) = (SV.v (Value.int IntKind.i64 (CV.f1 (coV kind n g))))) ∧ (((SV.v (Value.int IntKind.i64 0)) = (SV.v (Value.int IntKind.i64 (CV.u0 (coV kind n g))))) ∧ ((SV.v (Value.int IntKind.i64 0)) = (SV.v (Value.int IntKind.i64 (CV.u1 (coV kind n g))))))))))))))))))))))))))))))))))))))))))))))) ∧ (((((coN kind n g) : Nat) = 0) ∧ ((((coN kind n g + c) : Nat) = 0) ∧ True)) ∧ True))))))) 
(sel (IntKind.wrap IntKind.i64 (1 + md kind 10) == 4) ((((niPre n (winBlk (niB e m g x wh) 1 0 n)) ∧ (((0 : Int) ≤ 1) ∧ (((Prod.snd (yHandle n (gI (winBlk (niB e m g x wh) 1 0 n)) 1)) : Int) ≤ 4611686018427387904))) ∧ True) ∧ ((((niPre n (winBlk (niB e m g x wh) 1 0 n)) ∧ (((0 : Int) ≤ (Prod.snd (yHandle n (gI (winBlk (niB e m g x wh) 1 0 n)) 1))) ∧ (((Prod.snd (yHandle n (gI (winBlk (niB e m g x wh) 1 0 n)) 1) + 1) : Int) ≤ 4611686018427387904))) ∧ (((0 : Int) ≤ 1099511627776) ∧ ((1099511627776 : Int) ≤ 4611686018427387904))) ∧ 
(sel (IntKind.wrap IntKind.i64 (1 + md kind 10) != 2) ((((niPre n (winBlk (niB e m g x wh) 1 0 n)) ∧ (((0 : Int) ≤ (Prod.snd (yHandle n (gI (winBlk (niB e m g x wh) 1 0 n)) 1) + 1)) ∧ (((Prod.snd (yVec n (gI (winBlk (niB e m g x wh) 1 0 n)) (Prod.snd (yHandle n (gI (winBlk (niB e m g x wh) 1 0 n)) 1) + 1))) : Int) ≤ 4611686018427387904))) ∧ True) ∧ 
(sel (IntKind.wrap IntKind.i64 (1 + md kind 10) == 3) ((((niPre n (winBlk (niB e m g x wh) 1 0 n)) ∧ (((0 : Int) ≤ (Prod.snd (yVec n (gI (winBlk (niB e m g x wh) 1 0 n)) (Prod.snd (yHandle n (gI (winBlk (niB e m g x wh) 1 0 n)) 1) + 1)))) ∧ (((Prod.snd (yVec n (gI (winBlk (niB e m g x wh) 1 0 n)) (Prod.snd (yVec n (gI (winBlk (niB e m g x wh) 1 0 n)) (Prod.snd (yHandle n (gI (winBlk (niB e m g x wh) 1 0 n)) 1) + 1))))) : Int) ≤ 4611686018427387904))) ∧ True) ∧ (∃ c : Nat, ((((SV.v (Value.int IntKind.i64 (IntKind.wrap IntKind.i64 (1 + md kind 10)))) = (SV.v (Value.int IntKind.i64 (coK kind)))) ∧ (((SV.v (Value.int IntKind.i64 (frV 2147483647 (nxV n (gI (winBlk (niB e m g x wh) 1 0 n)) 0)))) = (SV.v (Value.int IntKind.i64 (CV.id (coV kind n g))))) ∧ (((SV.v (Value.int IntKind.i64 (frV 2147483647 (nxV n (gI (winBlk (niB e m g x wh) 1 0 n)) 1)))) = (SV.v (Value.int IntKind.i64 (CV.bs (coV kind n g))))) ∧ (((SV.v (Value.int IntKind.i64 (frV 2147483647 (nxV n (gI (winBlk (niB e m g x wh) 1 0 n)) 2)))) = (SV.v (Value.int IntKind.i64 (CV.bg (coV kind n g))))) ∧ (((SV.v (Value.int IntKind.i64 (frV 1099511627776 (nxV n (gI (winBlk (niB e m g x wh) 1 0 n)) (Prod.snd (yHandle n (gI (winBlk (niB e m g x wh) 1 0 n)) 1)))))) = (SV.v (Value.int IntKind.i64 (CV.ver (coV kind n g))))) ∧ (((SV.v (Value.int IntKind.i64 0)) = (SV.v (Value.int IntKind.i64 (CV.sk (coV kind n g))))) ∧ (((SV.v (Value.int IntKind.i64 0)) = (SV.v (Value.int IntKind.i64 (CV.sr (coV kind n g))))) ∧ (((SV.v (Value.int IntKind.i64 0)) = (SV.v (Value.int IntKind.i64 (CV.sw (coV kind n g))))) ∧ (((SV.v (Value.int IntKind.i64 0)) = (SV.v (Value.int IntKind.i64 (CV.sh (coV kind n g))))) ∧ ((((SV.v (Value.slice none 0 0)) = (SV.v (Value.slice none 0 0))) ∧ (((0 : Nat) = 0) ∧ ((((coN kind n g) : Nat) = 0) ∧ (((coN kind n g + c) : Nat) = 0)))) ∧ (((SV.v (Value.int IntKind.i64 0)) = (SV.v (Value.int IntKind.i64 (CV.p0v (coV kind n g))))) ∧ (((SV.v (Value.bool false)) = (SV.v (Value.bool (CV.p0f (coV kind n g))))) ∧ (((SV.v (Value.int IntKind.i64 0)) = (SV.v (Value.int IntKind.i64 (CV.p1v (coV kind n g))))) ∧ (((SV.v (Value.bool false)) = (SV.v (Value.bool (CV.p1f (coV kind n g))))) ∧ (((SV.v (Value.int IntKind.i64 0)) = (SV.v (Value.int IntKind.i64 (CV.p2v (coV kind n g))))) ∧ (((SV.v (Value.bool false)) = (SV.v (Value.bool (CV.p2f (coV kind n g))))) ∧ (((SV.v (Value.int IntKind.i64 0)) = (SV.v (Value.int IntKind.i64 (CV.p3v (coV kind n g))))) ∧ (((SV.v (Value.bool false)) = (SV.v (Value.bool (CV.p3f (coV kind n g))))) ∧ (((SV.v (Value.int IntKind.i64 0)) = (SV.v (Value.int IntKind.i64 (CV.v0v (coV kind n g))))) ∧ (((SV.v (Value.bool false)) = (SV.v (Value.bool (CV.v0f (coV kind n g))))) ∧ (((SV.v (Value.int IntKind.i64 0)) = (SV.v (Value.int IntKind.i64 (CV.v1v (coV kind n g))))) ∧ (((SV.v (Value.bool false)) = (SV.v (Value.bool (CV.v1f (coV kind n g))))) ∧ (((SV.v (Value.int IntKind.i64 0)) = (SV.v (Value.int IntKind.i64 (CV.w0v (coV kind n g))))) ∧ (((SV.v (Value.bool false)) = (SV.v (Value.bool (CV.w0f (coV kind n g))))) ∧ (((SV.v (Value.int IntKind.i64 0)) = (SV.v (Value.int IntKind.i64 (CV.dn (coV kind n g))))) ∧ (((SV.v (Value.bool false)) = (SV.v (Value.bool (CV.mv (coV kind n g))))) ∧ (((SV.v (Value.int IntKind.i64 (nuV (nxV n (gI (winBlk (niB e m g x wh) 1 0 n)) (Prod.snd (yHandle n (gI (winBlk (niB e m g x wh) 1 0 n)) 1) + 1))))) = (SV.v (Value.int IntKind.i64 (CV.a0v (coV kind n g))))) ∧ (((SV.v (Value.bool (nuF (nxV n (gI (winBlk (niB e m g x wh) 1 0 n)) (Prod.snd (yHandle n (gI (winBlk (niB e m g x wh) 1 0 n)) 1) + 1))))) = (SV.v (Value.bool (CV.a0f (coV kind n g))))) ∧ (((SV.v (Value.int IntKind.i64 (nuV (nxV n (gI (winBlk (niB e m g x wh) 1 0 n)) (Prod.snd (yHandle n (gI (winBlk (niB e m g x wh) 1 0 n)) 1) + 1 + 1))))) = (SV.v (Value.int IntKind.i64 (CV.a1v (coV kind n g))))) ∧ (((SV.v (Value.bool (nuF (nxV n (gI (winBlk (niB e m g x wh) 1 0 n)) (Prod.snd (yHandle n (gI (winBlk (niB e m g x wh) 1 0 n)) 1) + 1 + 1))))) = (SV.v (Value.bool (CV.a1f (coV kind n g))))) ∧ (((SV.v (Value.int IntKind.i64 (nuV (nxV n (gI (winBlk (niB e m g x wh) 1 0 n)) (Prod.snd (yVec n (gI (winBlk (niB e m g x wh) 1 0 n)) (Prod.snd (yHandle n (gI (winBlk (niB e m g x wh) 1 0 n)) 1) + 1))))))) = (SV.v (Value.int IntKind.i64 (CV.t0v (coV kind n g))))) ∧ (((SV.v (Value.bool (nuF (nxV n (gI (winBlk (niB e m g x wh) 1 0 n)) (Prod.snd (yVec n (gI (winBlk (niB e m g x wh) 1 0 n)) (Prod.snd (yHandle n (gI (winBlk (niB e m g x wh) 1 0 n)) 1) + 1))))))) = (SV.v (Value.bool (CV.t0f (coV kind n g))))) ∧ (((SV.v (Value.int IntKind.i64 (nuV (nxV n (gI (winBlk (niB e m g x wh) 1 0 n)) (Prod.snd (yVec n (gI (winBlk (niB e m g x wh) 1 0 n)) (Prod.snd (yHandle n (gI (winBlk (niB e m g x wh) 1 0 n)) 1) + 1)) + 1))))) = (SV.v (Value.int IntKind.i64 (CV.t1v (coV kind n g))))) ∧ (((SV.v (Value.bool (nuF (nxV n (gI (winBlk (niB e m g x wh) 1 0 n)) (Prod.snd (yVec n (gI (winBlk (niB e m g x wh) 1 0 n)) (Prod.snd (yHandle n (gI (winBlk (niB e m g x wh) 1 0 n)) 1) + 1)) + 1))))) = (SV.v (Value.bool (CV.t1f (coV kind n g))))) ∧ (((SV.v (Value.int IntKind.i64 0)) = (SV.v (Value.int IntKind.i64 (CV.gr (coV kind n g))))) ∧ (((SV.v (Value.int IntKind.i64 0)) = (SV.v (Value.int IntKind.i64 (CV.b0 (coV kind n g))))) ∧ (((SV.v (Value.int IntKind.i64 0)) = (SV.v (Value.int IntKind.i64 (CV.b1 (coV kind n g))))) ∧ (((SV.v (Value.int IntKind.i64 0)) = (SV.v (Value.int IntKind.i64 (CV.b2 (coV kind n g))))) ∧ (((SV.v (Value.int IntKind.i64 0)) = (SV.v (Value.int IntKind.i64 (CV.b3 (coV kind n g))))) ∧ (((SV.v (Value.int IntKind.i64 0)) = (SV.v (Value.int IntKind.i64 (CV.f0 (coV kind n g))))) ∧ (((SV.v (Value.int IntKind.i64 0)) = (SV.v (Value.int IntKind.i64 (CV.f1 (coV kind n g))))) ∧ (((SV.v (Value.int IntKind.i64 0)) = (SV.v (Value.int IntKind.i64 (CV.u0 (coV kind n g))))) ∧ ((SV.v (Value.int IntKind.i64 0)) = (SV.v (Value.int IntKind.i64 (CV.u1 (coV kind n g))))))))))))))))))))))))))))))))))))))))))))))) ∧ (((((coN kind n g) : Nat) = 0) ∧ ((((coN kind n g + c) : Nat) = 0) ∧ True)) ∧ True)))) (∃ c : Nat, ((((SV.v (Value.int IntKind.i64 (IntKind.wrap IntKind.i64 (1 + md kind 10)))) = (SV.v (Value.int IntKind.i64 (coK kind)))) ∧ (((SV.v (Value.int IntKind.i64 (frV 2147483647 (nxV n (gI (winBlk (niB e m g x wh) 1 0 n)) 0)))) = (SV.v (Value.int IntKind.i64 (CV.id (coV kind n g))))) ∧ (((SV.v (Value.int IntKind.i64 (frV 2147483647 (nxV n (gI (winBlk (niB e m g x wh) 1 0 n)) 1)))) = (SV.v (Value.int IntKind.i64 (CV.bs (coV kind n g))))) ∧ (((SV.v (Value.int IntKind.i64 (frV 2147483647 (nxV n (gI (winBlk (niB e m g x wh) 1 0 n)) 2)))) = (SV.v (Value.int IntKind.i64 (CV.bg (coV kind n g))))) ∧ (((SV.v (Value.int IntKind.i64 (frV 1099511627776 (nxV n (gI (winBlk (niB e m g x wh) 1 0 n)) (Prod.snd (yHandle n (gI (winBlk (niB e m g x wh) 1 0 n)) 1)))))) = (SV.v (Value.int IntKind.i64 (CV.ver (coV kind n g))))) ∧ (((SV.v (Value.int IntKind.i64 0)) = (SV.v (Value.int IntKind.i64 (CV.sk (coV kind n g))))) ∧ (((SV.v (Value.int IntKind.i64 0)) = (SV.v (Value.int IntKind.i64 (CV.sr (coV kind n g))))) ∧ (((SV.v (Value.int IntKind.i64 0)) = (SV.v (Value.int IntKind.i64 (CV.sw (coV kind n g))))) ∧ (((SV.v (Value.int IntKind.i64 0)) = (SV.v (Value.int IntKind.i64 (CV.sh (coV kind n g))))) ∧ ((((SV.v (Value.slice none 0 0)) = (SV.v (Value.slice none 0 0))) ∧ (((0 : Nat) = 0) ∧ ((((coN kind n g) : Nat) = 0) ∧ (((coN kind n g + c) : Nat) = 0)))) ∧ (((SV.v (Value.int IntKind.i64 0)) = (SV.v (Value.int IntKind.i64 (CV.p0v (coV kind n g))))) ∧ (((SV.v (Value.bool false)) = (SV.v (Value.bool (CV.p0f (coV kind n g))))) ∧ (((SV.v (Value.int IntKind.i64 0)) = (SV.v (Value.int IntKind.i64 (CV.p1v (coV kind n g))))) ∧ (((SV.v (Value.bool false)) = (SV.v (Value.bool (CV.p1f (coV kind n g))))) ∧ (((SV.v (Value.int IntKind.i64 0)) = (SV.v (Value.int IntKind.i64 (CV.p2v (coV kind n g))))) ∧ (((SV.v (Value.bool false)) = (SV.v (Value.bool (CV.p2f (coV kind n g))))) ∧ (((SV.v (Value.int IntKind.i64 0)) = (SV.v (Value.int IntKind.i64 (CV.p3v (coV kind n g))))) ∧ (((SV.v (Value.bool false)) = (SV.v (Value.bool (CV.p3f (coV kind n g))))) ∧ (((SV.v (Value.int IntKind.i64 0)) = (SV.v (Value.int IntKind.i64 (CV.v0v (coV kind n g))))) ∧ (((SV.v (Value.bool false)) = (SV.v (Value.bool (CV.v0f (coV kind n g))))) ∧ (((SV.v (Value.int IntKind.i64 0)) = (SV.v (Value.int IntKind.i64 (CV.v1v (coV kind n g))))) ∧ (((SV.v (Value.bool false)) = (SV.v (Value.bool (CV.v1f (coV kind n g))))) ∧ (((SV.v (Value.int IntKind.i64 0)) = (SV.v (Value.int IntKind.i64 (CV.w0v (coV kind n g))))) ∧ (((SV.v (Value.bool false)) = (SV.v (Value.bool (CV.w0f (coV kind n g))))) ∧ (((SV.v (Value.int IntKind.i64 0)) = (SV.v (Value.int IntKind.i64 (CV.dn (coV kind n g))))) ∧ (((SV.v (Value.bool false)) = (SV.v (Value.bool (CV.mv (coV kind n g))))) ∧ (((SV.v (Value.int IntKind.i64 (nuV (nxV n (gI (winBlk (niB e m g x wh) 1 0 n)) (Prod.snd (yHandle n (gI (winBlk (niB e m g x wh) 1 0 n)) 1) + 1))))) = (SV.v (Value.int IntKind.i64 (CV.a0v (coV kind n g))))) ∧ (((SV.v (Value.bool (nuF (nxV n (gI (winBlk (niB e m g x wh) 1 0 n)) (Prod.snd (yHandle n (gI (winBlk (niB e m g x wh) 1 0 n)) 1) + 1))))) = (SV.v (Value.bool (CV.a0f (coV kind n g))))) ∧ (((SV.v (Value.int IntKind.i64 (nuV (nxV n (gI (winBlk (niB e m g x wh) 1 0 n)) (Prod.snd (yHandle n (gI (winBlk (niB e m g x wh) 1 0 n)) 1) + 1 + 1))))) = (SV.v (Value.int IntKind.i64 (CV.a1v (coV kind n g))))) ∧ (((SV.v (Value.bool (nuF (nxV n (gI (winBlk (niB e m g x wh) 1 0 n)) (Prod.snd (yHandle n (gI (winBlk (niB e m g x wh) 1 0 n)) 1) + 1 + 1))))) = (SV.v (Value.bool (CV.a1f (coV kind n g))))) ∧ (((SV.v (Value.int IntKind.i64 0)) = (SV.v (Value.int IntKind.i64 (CV.t0v (coV kind n g))))) ∧ (((SV.v (Value.bool false)) = (SV.v (Value.bool (CV.t0f (coV kind n g))))) ∧ (((SV.v (Value.int IntKind.i64 0)) = (SV.v (Value.int IntKind.i64 (CV.t1v (coV kind n g))))) ∧ (((SV.v (Value.bool false)) = (SV.v (Value.bool (CV.t1f (coV kind n g))))) ∧ (((SV.v (Value.int IntKind.i64 0)) = (SV.v (Value.int IntKind.i64 (CV.gr (coV kind n g))))) ∧ (((SV.v (Value.int IntKind.i64 0)) = (SV.v (Value.int IntKind.i64 (CV.b0 (coV kind n g))))) ∧ (((SV.v (Value.int IntKind.i64 0)) = (SV.v (Value.int IntKind.i64 (CV.b1 (coV kind n g))))) ∧ (((SV.v (Value.int IntKind.i64 0)) = (SV.v (Value.int IntKind.i64 (CV.b2 (coV kind n g))))) ∧ (((SV.v (Value.int IntKind.i64 0)) = (SV.v (Value.int IntKind.i64 (CV.b3 (coV kind n g))))) ∧ (((SV.v (Value.int IntKind.i64 0)) = (SV.v (Value.int IntKind.i64 (CV.f0 (coV kind n g))))) ∧ (((SV.v (Value.int IntKind.i64 0)) = (SV.v (Value.int IntKind.i64 (CV.f1 (coV kind n g))))) ∧ (((SV.v (Value.int IntKind.i64 0)) = (SV.v (Value.int IntKind.i64 (CV.u0 (coV kind n g))))) ∧ ((SV.v (Value.int IntKind.i64 0)) = (SV.v (Value.int IntKind.i64 (CV.u1 (coV kind n g))))))))))))))))))))))))))))))))))))))))))))))) ∧ (((((coN kind n g) : Nat) = 0) ∧ ((((coN kind n g + c) : Nat) = 0) ∧ True)) ∧ True))))) 
(sel (IntKind.wrap IntKind.i64 (1 + md kind 10) == 3) ((((niPre n (winBlk (niB e m g x wh) 1 0 n)) ∧ (((0 : Int) ≤ (Prod.snd (yHandle n (gI (winBlk (niB e m g x wh) 1 0 n)) 1) + 1)) ∧ (((Prod.snd (yVec n (gI (winBlk (niB e m g x wh) 1 0 n)) (Prod.snd (yHandle n (gI (winBlk (niB e m g x wh) 1 0 n)) 1) + 1))) : Int) ≤ 4611686018427387904))) ∧ True) ∧ (∃ c : Nat, ((((SV.v (Value.int IntKind.i64 (IntKind.wrap IntKind.i64 (1 + md kind 10)))) = (SV.v (Value.int IntKind.i64 (coK kind)))) ∧ (((SV.v (Value.int IntKind.i64 (frV 2147483647 (nxV n (gI (winBlk (niB e m g x wh) 1 0 n)) 0)))) = (SV.v (Value.int IntKind.i64 (CV.id (coV kind n g))))) ∧ (((SV.v (Value.int IntKind.i64 (frV 2147483647 (nxV n (gI (winBlk (niB e m g x wh) 1 0 n)) 1)))) = (SV.v (Value.int IntKind.i64 (CV.bs (coV kind n g))))) ∧ (((SV.v (Value.int IntKind.i64 (frV 2147483647 (nxV n (gI (winBlk (niB e m g x wh) 1 0 n)) 2)))) = (SV.v (Value.int IntKind.i64 (CV.bg (coV kind n g))))) ∧ (((SV.v (Value.int IntKind.i64 (frV 1099511627776 (nxV n (gI (winBlk (niB e m g x wh) 1 0 n)) (Prod.snd (yHandle n (gI (winBlk (niB e m g x wh) 1 0 n)) 1)))))) = (SV.v (Value.int IntKind.i64 (CV.ver (coV kind n g))))) ∧ (((SV.v (Value.int IntKind.i64 0)) = (SV.v (Value.int IntKind.i64 (CV.sk (coV kind n g))))) ∧ (((SV.v (Value.int IntKind.i64 0)) = (SV.v (Value.int IntKind.i64 (CV.sr (coV kind n g))))) ∧ (((SV.v (Value.int IntKind.i64 0)) = (SV.v (Value.int IntKind.i64 (CV.sw (coV kind n g))))) ∧ (((SV.v (Value.int IntKind.i64 0)) = (SV.v (Value.int IntKind.i64 (CV.sh (coV kind n g))))) ∧ ((((SV.v (Value.slice none 0 0)) = (SV.v (Value.slice none 0 0))) ∧ (((0 : Nat) = 0) ∧ ((((coN kind n g) : Nat) = 0) ∧ (((coN kind n g + c) : Nat) = 0)))) ∧ (((SV.v (Value.int IntKind.i64 0)) = (SV.v (Value.int IntKind.i64 (CV.p0v (coV kind n g))))) ∧ (((SV.v (Value.bool false)) = (SV.v (Value.bool (CV.p0f (coV kind n g))))) ∧ (((SV.v (Value.int IntKind.i64 0)) = (SV.v (Value.int IntKind.i64 (CV.p1v (coV kind n g))))) ∧ (((SV.v (Value.bool false)) = (SV.v (Value.bool (CV.p1f (coV kind n g))))) ∧ (((SV.v (Value.int IntKind.i64 0)) = (SV.v (Value.int IntKind.i64 (CV.p2v (coV kind n g))))) ∧ (((SV.v (Value.bool false)) = (SV.v (Value.bool (CV.p2f (coV kind n g))))) ∧ (((SV.v (Value.int IntKind.i64 0)) = (SV.v (Value.int IntKind.i64 (CV.p3v (coV kind n g))))) ∧ (((SV.v (Value.bool false)) = (SV.v (Value.bool (CV.p3f (coV kind n g))))) ∧ (((SV.v (Value.int IntKind.i64 0)) = (SV.v (Value.int IntKind.i64 (CV.v0v (coV kind n g))))) ∧ (((SV.v (Value.bool false)) = (SV.v (Value.bool (CV.v0f (coV kind n g))))) ∧ (((SV.v (Value.int IntKind.i64 0)) = (SV.v (Value.int IntKind.i64 (CV.v1v (coV kind n g))))) ∧ (((SV.v (Value.bool false)) = (SV.v (Value.bool (CV.v1f (coV kind n g))))) ∧ (((SV.v (Value.int IntKind.i64 0)) = (SV.v (Value.int IntKind.i64 (CV.w0v (coV kind n g))))) ∧ (((SV.v (Value.bool false)) = (SV.v (Value.bool (CV.w0f (coV kind n g))))) ∧ (((SV.v (Value.int IntKind.i64 0)) = (SV.v (Value.int IntKind.i64 (CV.dn (coV kind n g))))) ∧ (((SV.v (Value.bool false)) = (SV.v (Value.bool (CV.mv (coV kind n g))))) ∧ (((SV.v (Value.int IntKind.i64 0)) = (SV.v (Value.int IntKind.i64 (CV.a0v (coV kind n g))))) ∧ (((SV.v (Value.bool false)) = (SV.v (Value.bool (CV.a0f (coV kind n g))))) ∧ (((SV.v (Value.int IntKind.i64 0)) = (SV.v (Value.int IntKind.i64 (CV.a1v (coV kind n g))))) ∧ (((SV.v (Value.bool false)) = (SV.v (Value.bool (CV.a1f (coV kind n g))))) ∧ (((SV.v (Value.int IntKind.i64 (nuV (nxV n (gI (winBlk (niB e m g x wh) 1 0 n)) (Prod.snd (yHandle n (gI (winBlk (niB e m g x wh) 1 0 n)) 1) + 1))))) = (SV.v (Value.int IntKind.i64 (CV.t0v (coV kind n g))))) ∧ (((SV.v (Value.bool (nuF (nxV n (gI (winBlk (niB e m g x wh) 1 0 n)) (Prod.snd (yHandle n (gI (winBlk (niB e m g x wh) 1 0 n)) 1) + 1))))) = (SV.v (Value.bool (CV.t0f (coV kind n g))))) ∧ (((SV.v (Value.int IntKind.i64 (nuV (nxV n (gI (winBlk (niB e m g x wh) 1 0 n)) (Prod.snd (yHandle n (gI (winBlk (niB e m g x wh) 1 0 n)) 1) + 1 + 1))))) = (SV.v (Value.int IntKind.i64 (CV.t1v (coV kind n g))))) ∧ (((SV.v (Value.bool (nuF (nxV n (gI (winBlk (niB e m g x wh) 1 0 n)) (Prod.snd (yHandle n (gI (winBlk (niB e m g x wh) 1 0 n)) 1) + 1 + 1))))) = (SV.v (Value.bool (CV.t1f (coV kind n g))))) ∧ (((SV.v (Value.int IntKind.i64 0)) = (SV.v (Value.int IntKind.i64 (CV.gr (coV kind n g))))) ∧ (((SV.v (Value.int IntKind.i64 0)) = (SV.v (Value.int IntKind.i64 (CV.b0 (coV kind n g))))) ∧ (((SV.v (Value.int IntKind.i64 0)) = (SV.v (Value.int IntKind.i64 (CV.b1 (coV kind n g))))) ∧ (((SV.v (Value.int IntKind.i64 0)) = (SV.v (Value.int IntKind.i64 (CV.b2 (coV kind n g))))) ∧ (((SV.v (Value.int IntKind.i64 0)) = (SV.v (Value.int IntKind.i64 (CV.b3 (coV kind n g))))) ∧ (((SV.v (Value.int IntKind.i64 0)) = (SV.v (Value.int IntKind.i64 (CV.f0 (coV kind n g))))) ∧ (((SV.v (Value.int IntKind.i64 0)) = (SV.v (Value.int IntKind.i64 (CV.f1 (coV kind n g))))) ∧ (((SV.v (Value.int IntKind.i64 0)) = (SV.v (Value.int IntKind.i64 (CV.u0 (coV kind n g))))) ∧ ((SV.v (Value.int IntKind.i64 0)) = (SV.v (Value.int IntKind.i64 (CV.u1 (coV kind n g))))))))))))))))))))))))))))))))))))))))))))))) ∧ (((((coN kind n g) : Nat) = 0) ∧ ((((coN kind n g + c) : Nat) = 0) ∧ True)) ∧ True)))) (∃ c : Nat, ((((SV.v (Value.int IntKind.i64 (IntKind.wrap IntKind.i64 (1 + md kind 10)))) = (SV.v (Value.int IntKind.i64 (coK kind)))) ∧ (((SV.v (Value.int IntKind.i64 (frV 2147483647 (nxV n (gI (winBlk (niB e m g x wh) 1 0 n)) 0)))) = (SV.v (Value.int IntKind.i64 (CV.id (coV kind n g))))) ∧ (((SV.v (Value.int IntKind.i64 (frV 2147483647 (nxV n (gI (winBlk (niB e m g x wh) 1 0 n)) 1)))) = (SV.v (Value.int IntKind.i64 (CV.bs (coV kind n g))))) ∧ (((SV.v (Value.int IntKind.i64 (frV 2147483647 (nxV n (gI (winBlk (niB e m g x wh) 1 0 n)) 2)))) = (SV.v (Value.int IntKind.i64 (CV.bg (coV kind n g))))) ∧ (((SV.v (Value.int IntKind.i64 (frV 1099511627776 (nxV n (gI (winBlk (niB e m g x wh) 1 0 n)) (Prod.snd (yHandle n (gI (winBlk (niB e m g x wh) 1 0 n)) 1)))))) = (SV.v (Value.int IntKind.i64 (CV.ver (coV kind n g))))) ∧ (((SV.v (Value.int IntKind.i64 0)) = (SV.v (Value.int IntKind.i64 (CV.sk (coV kind n g))))) ∧ (((SV.v (Value.int IntKind.i64 0)) = (SV.v (Value.int IntKind.i64 (CV.sr (coV kind n g))))) ∧ (((SV.v (Value.int IntKind.i64 0)) = (SV.v (Value.int IntKind.i64 (CV.sw (coV kind n g))))) ∧ (((SV.v (Value.int IntKind.i64 0)) = (SV.v (Value.int IntKind.i64 (CV.sh (coV kind n g))))) ∧ ((((SV.v (Value.slice none 0 0)) = (SV.v (Value.slice none 0 0))) ∧ (((0 : Nat) = 0) ∧ ((((coN kind n g) : Nat) = 0) ∧ (((coN kind n g + c) : Nat) = 0)))) ∧ (((SV.v (Value.int IntKind.i64 0)) = (SV.v (Value.int IntKind.i64 (CV.p0v (coV kind n g))))) ∧ (((SV.v (Value.bool false)) = (SV.v (Value.bool (CV.p0f (coV kind n g))))) ∧ (((SV.v (Value.int IntKind.i64 0)) = (SV.v (Value.int IntKind.i64 (CV.p1v (coV kind n g))))) ∧ (((SV.v (Value.bool false)) = (SV.v (Value.bool (CV.p1f (coV kind n g))))) ∧ (((SV.v (Value.int IntKind.i64 0)) = (SV.v (Value.int IntKind.i64 (CV.p2v (coV kind n g))))) ∧ (((SV.v (Value.bool false)) = (SV.v (Value.bool (CV.p2f (coV kind n g))))) ∧ (((SV.v (Value.int IntKind.i64 0)) = (SV.v (Value.int IntKind.i64 (CV.p3v (coV kind n g))))) ∧ (((SV.v (Value.bool false)) = (SV.v (Value.bool (CV.p3f (coV kind n g))))) ∧ (((SV.v (Value.int IntKind.i64 0)) = (SV.v (Value.int IntKind.i64 (CV.v0v (coV kind n g))))) ∧ (((SV.v (Value.bool false)) = (SV.v (Value.bool (CV.v0f (coV kind n g))))) ∧ (((SV.v (Value.int IntKind.i64 0)) = (SV.v (Value.int IntKind.i64 (CV.v1v (coV kind n g))))) ∧ (((SV.v (Value.bool false)) = (SV.v (Value.bool (CV.v1f (coV kind n g))))) ∧ (((SV.v (Value.int IntKind.i64 0)) = (SV.v (Value.int IntKind.i64 (CV.w0v (coV kind n g))))) ∧ (((SV.v (Value.bool false)) = (SV.v (Value.bool (CV.w0f (coV kind n g))))) ∧ (((SV.v (Value.int IntKind.i64 0)) = (SV.v (Value.int IntKind.i64 (CV.dn (coV kind n g))))) ∧ (((SV.v (Value.bool false)) = (SV.v (Value.bool (CV.mv (coV kind n g))))) ∧ (((SV.v (Value.int IntKind.i64 0)) = (SV.v (Value.int IntKind.i64 (CV.a0v (coV kind n g))))) ∧ (((SV.v (Value.bool false)) = (SV.v (Value.bool (CV.a0f (coV kind n g))))) ∧ (((SV.v (Value.int IntKind.i64 0)) = (SV.v (Value.int IntKind.i64 (CV.a1v (coV kind n g))))) ∧ (((SV.v (Value.bool false)) = (SV.v (Value.bool (CV.a1f (coV kind n g))))) ∧ (((SV.v (Value.int IntKind.i64 0)) = (SV.v (Value.int IntKind.i64 (CV.t0v (coV kind n g))))) ∧ (((SV.v (Value.bool false)) = (SV.v (Value.bool (CV.t0f (coV kind n g))))) ∧ (((SV.v (Value.int IntKind.i64 0)) = (SV.v (Value.int IntKind.i64 (CV.t1v (coV kind n g))))) ∧ (((SV.v (Value.bool false)) = (SV.v (Value.bool (CV.t1f (coV kind n g))))) ∧ (((SV.v (Value.int IntKind.i64 0)) = (SV.v (Value.int IntKind.i64 (CV.gr (coV kind n g))))) ∧ (((SV.v (Value.int IntKind.i64 0)) = (SV.v (Value.int IntKind.i64 (CV.b0 (coV kind n g))))) ∧ (((SV.v (Value.int IntKind.i64 0)) = (SV.v (Value.int IntKind.i64 (CV.b1 (coV kind n g))))) ∧ (((SV.v (Value.int IntKind.i64 0)) = (SV.v (Value.int IntKind.i64 (CV.b2 (coV kind n g))))) ∧ (((SV.v (Value.int IntKind.i64 0)) = (SV.v (Value.int IntKind.i64 (CV.b3 (coV kind n g))))) ∧ (((SV.v (Value.int IntKind.i64 0)) = (SV.v (Value.int IntKind.i64 (CV.f0 (coV kind n g))))) ∧ (((SV.v (Value.int IntKind.i64 0)) = (SV.v (Value.int IntKind.i64 (CV.f1 (coV kind n g))))) ∧ (((SV.v (Value.int IntKind.i64 0)) = (SV.v (Value.int IntKind.i64 (CV.u0 (coV kind n g))))) ∧ ((SV.v (Value.int IntKind.i64 0)) = (SV.v (Value.int IntKind.i64 (CV.u1 (coV kind n g))))))))))))))))))))))))))))))))))))))))))))))) ∧ (((((coN kind n g) : Nat) = 0) ∧ ((((coN kind n g + c) : Nat) = 0) ∧ True)) ∧ True))))))) 
(sel (IntKind.wrap IntKind.i64 (1 + md kind 10) == 5) ((((niPre n (winBlk (niB e m g x wh) 1 0 n)) ∧ (((0 : Int) ≤ 1) ∧ ((2 : Int) ≤ 4611686018427387904))) ∧ (((0 : Int) ≤ 2147483647) ∧ ((2147483647 : Int) ≤ 4611686018427387904))) ∧ ((((niPre n (winBlk (niB e m g x wh) 1 0 n)) ∧ (((0 : Int) ≤ 2) ∧ (((Prod.snd (yVec n (gI (winBlk (niB e m g x wh) 1 0 n)) 2)) : Int) ≤ 4611686018427387904))) ∧ True) ∧ (∃ c : Nat, ((((SV.v (Value.int IntKind.i64 (IntKind.wrap IntKind.i64 (1 + md kind 10)))) = (SV.v (Value.int IntKind.i64 (coK kind)))) ∧ (((SV.v (Value.int IntKind.i64 (frV 2147483647 (nxV n (gI (winBlk (niB e m g x wh) 1 0 n)) 0)))) = (SV.v (Value.int IntKind.i64 (CV.id (coV kind n g))))) ∧ (((SV.v (Value.int IntKind.i64 0)) = (SV.v (Value.int IntKind.i64 (CV.bs (coV kind n g))))) ∧ (((SV.v (Value.int IntKind.i64 0)) = (SV.v (Value.int IntKind.i64 (CV.bg (coV kind n g))))) ∧ (((SV.v (Value.int IntKind.i64 0)) = (SV.v (Value.int IntKind.i64 (CV.ver (coV kind n g))))) ∧ (((SV.v (Value.int IntKind.i64 0)) = (SV.v (Value.int IntKind.i64 (CV.sk (coV kind n g))))) ∧ (((SV.v (Value.int IntKind.i64 0)) = (SV.v (Value.int IntKind.i64 (CV.sr (coV kind n g))))) ∧ (((SV.v (Value.int IntKind.i64 0)) = (SV.v (Value.int IntKind.i64 (CV.sw (coV kind n g))))) ∧ (((SV.v (Value.int IntKind.i64 0)) = (SV.v (Value.int IntKind.i64 (CV.sh (coV kind n g))))) ∧ ((((SV.v (Value.slice none 0 0)) = (SV.v (Value.slice none 0 0))) ∧ (((0 : Nat) = 0) ∧ ((((coN kind n g) : Nat) = 0) ∧ (((coN kind n g + c) : Nat) = 0)))) ∧ (((SV.v (Value.int IntKind.i64 0)) = (SV.v (Value.int IntKind.i64 (CV.p0v (coV kind n g))))) ∧ (((SV.v (Value.bool false)) = (SV.v (Value.bool (CV.p0f (coV kind n g))))) ∧ (((SV.v (Value.int IntKind.i64 0)) = (SV.v (Value.int IntKind.i64 (CV.p1v (coV kind n g))))) ∧ (((SV.v (Value.bool false)) = (SV.v (Value.bool (CV.p1f (coV kind n g))))) ∧ (((SV.v (Value.int IntKind.i64 0)) = (SV.v (Value.int IntKind.i64 (CV.p2v (coV kind n g))))) ∧ (((SV.v (Value.bool false)) = (SV.v (Value.bool (CV.p2f (coV kind n g))))) ∧ (((SV.v (Value.int IntKind.i64 0)) = (SV.v (Value.int IntKind.i64 (CV.p3v (coV kind n g))))) ∧ (((SV.v (Value.bool false)) = (SV.v (Value.bool (CV.p3f (coV kind n g))))) ∧ (((SV.v (Value.int IntKind.i64 0)) = (SV.v (Value.int IntKind.i64 (CV.v0v (coV kind n g))))) ∧ (((SV.v (Value.bool false)) = (SV.v (Value.bool (CV.v0f (coV kind n g))))) ∧ (((SV.v (Value.int IntKind.i64 0)) = (SV.v (Value.int IntKind.i64 (CV.v1v (coV kind n g))))) ∧ (((SV.v (Value.bool false)) = (SV.v (Value.bool (CV.v1f (coV kind n g))))) ∧ (((SV.v (Value.int IntKind.i64 0)) = (SV.v (Value.int IntKind.i64 (CV.w0v (coV kind n g))))) ∧ (((SV.v (Value.bool false)) = (SV.v (Value.bool (CV.w0f (coV kind n g))))) ∧ (((SV.v (Value.int IntKind.i64 0)) = (SV.v (Value.int IntKind.i64 (CV.dn (coV kind n g))))) ∧ (((SV.v (Value.bool false)) = (SV.v (Value.bool (CV.mv (coV kind n g))))) ∧ (((SV.v (Value.int IntKind.i64 0)) = (SV.v (Value.int IntKind.i64 (CV.a0v (coV kind n g))))) ∧ (((SV.v (Value.bool false)) = (SV.v (Value.bool (CV.a0f (coV kind n g))))) ∧ (((SV.v (Value.int IntKind.i64 0)) = (SV.v (Value.int IntKind.i64 (CV.a1v (coV kind n g))))) ∧ (((SV.v (Value.bool false)) = (SV.v (Value.bool (CV.a1f (coV kind n g))))) ∧ (((SV.v (Value.int IntKind.i64 (nuV (nxV n (gI (winBlk (niB e m g x wh) 1 0 n)) 2)))) = (SV.v (Value.int IntKind.i64 (CV.t0v (coV kind n g))))) ∧ (((SV.v (Value.bool (nuF (nxV n (gI (winBlk (niB e m g x wh) 1 0 n)) 2)))) = (SV.v (Value.bool (CV.t0f (coV kind n g))))) ∧ (((SV.v (Value.int IntKind.i64 (nuV (nxV n (gI (winBlk (niB e m g x wh) 1 0 n)) 3)))) = (SV.v (Value.int IntKind.i64 (CV.t1v (coV kind n g))))) ∧ (((SV.v (Value.bool (nuF (nxV n (gI (winBlk (niB e m g x wh) 1 0 n)) 3)))) = (SV.v (Value.bool (CV.t1f (coV kind n g))))) ∧ (((SV.v (Value.int IntKind.i64 (frV 2147483647 (nxV n (gI (winBlk (niB e m g x wh) 1 0 n)) 1)))) = (SV.v (Value.int IntKind.i64 (CV.gr (coV kind n g))))) ∧ (((SV.v (Value.int IntKind.i64 0)) = (SV.v (Value.int IntKind.i64 (CV.b0 (coV kind n g))))) ∧ (((SV.v (Value.int IntKind.i64 0)) = (SV.v (Value.int IntKind.i64 (CV.b1 (coV kind n g))))) ∧ (((SV.v (Value.int IntKind.i64 0)) = (SV.v (Value.int IntKind.i64 (CV.b2 (coV kind n g))))) ∧ (((SV.v (Value.int IntKind.i64 0)) = (SV.v (Value.int IntKind.i64 (CV.b3 (coV kind n g))))) ∧ (((SV.v (Value.int IntKind.i64 0)) = (SV.v (Value.int IntKind.i64 (CV.f0 (coV kind n g))))) ∧ (((SV.v (Value.int IntKind.i64 0)) = (SV.v (Value.int IntKind.i64 (CV.f1 (coV kind n g))))) ∧ (((SV.v (Value.int IntKind.i64 0)) = (SV.v (Value.int IntKind.i64 (CV.u0 (coV kind n g))))) ∧ ((SV.v (Value.int IntKind.i64 0)) = (SV.v (Value.int IntKind.i64 (CV.u1 (coV kind n g))))))))))))))))))))))))))))))))))))))))))))))) ∧ (((((coN kind n g) : Nat) = 0) ∧ ((((coN kind n g + c) : Nat) = 0) ∧ True)) ∧ True))))) 
(sel (IntKind.wrap IntKind.i64 (1 + md kind 10) == 6) ((((niPre n (winBlk (niB e m g x wh) 1 0 n)) ∧ (((0 : Int) ≤ 1) ∧ ((2 : Int) ≤ 4611686018427387904))) ∧ (((0 : Int) ≤ 2147483647) ∧ ((2147483647 : Int) ≤ 4611686018427387904))) ∧ (∃ c : Nat, ((((SV.v (Value.int IntKind.i64 (IntKind.wrap IntKind.i64 (1 + md kind 10)))) = (SV.v (Value.int IntKind.i64 (coK kind)))) ∧ (((SV.v (Value.int IntKind.i64 (frV 2147483647 (nxV n (gI (winBlk (niB e m g x wh) 1 0 n)) 0)))) = (SV.v (Value.int IntKind.i64 (CV.id (coV kind n g))))) ∧ (((SV.v (Value.int IntKind.i64 0)) = (SV.v (Value.int IntKind.i64 (CV.bs (coV kind n g))))) ∧ (((SV.v (Value.int IntKind.i64 0)) = (SV.v (Value.int IntKind.i64 (CV.bg (coV kind n g))))) ∧ (((SV.v (Value.int IntKind.i64 0)) = (SV.v (Value.int IntKind.i64 (CV.ver (coV kind n g))))) ∧ (((SV.v (Value.int IntKind.i64 0)) = (SV.v (Value.int IntKind.i64 (CV.sk (coV kind n g))))) ∧ (((SV.v (Value.int IntKind.i64 0)) = (SV.v (Value.int IntKind.i64 (CV.sr (coV kind n g))))) ∧ (((SV.v (Value.int IntKind.i64 0)) = (SV.v (Value.int IntKind.i64 (CV.sw (coV kind n g))))) ∧ (((SV.v (Value.int IntKind.i64 0)) = (SV.v (Value.int IntKind.i64 (CV.sh (coV kind n g))))) ∧ ((((SV.v (Value.slice none 0 0)) = (SV.v (Value.slice none 0 0))) ∧ (((0 : Nat) = 0) ∧ ((((coN kind n g) : Nat) = 0) ∧ (((coN kind n g + c) : Nat) = 0)))) ∧ (((SV.v (Value.int IntKind.i64 0)) = (SV.v (Value.int IntKind.i64 (CV.p0v (coV kind n g))))) ∧ (((SV.v (Value.bool false)) = (SV.v (Value.bool (CV.p0f (coV kind n g))))) ∧ (((SV.v (Value.int IntKind.i64 0)) = (SV.v (Value.int IntKind.i64 (CV.p1v (coV kind n g))))) ∧ (((SV.v (Value.bool false)) = (SV.v (Value.bool (CV.p1f (coV kind n g))))) ∧ (((SV.v (Value.int IntKind.i64 0)) = (SV.v (Value.int IntKind.i64 (CV.p2v (coV kind n g))))) ∧ (((SV.v (Value.bool false)) = (SV.v (Value.bool (CV.p2f (coV kind n g))))) ∧ (((SV.v (Value.int IntKind.i64 0)) = (SV.v (Value.int IntKind.i64 (CV.p3v (coV kind n g))))) ∧ (((SV.v (Value.bool false)) = (SV.v (Value.bool (CV.p3f (coV kind n g))))) ∧ (((SV.v (Value.int IntKind.i64 0)) = (SV.v (Value.int IntKind.i64 (CV.v0v (coV kind n g))))) ∧ (((SV.v (Value.bool false)) = (SV.v (Value.bool (CV.v0f (coV kind n g))))) ∧ (((SV.v (Value.int IntKind.i64 0)) = (SV.v (Value.int IntKind.i64 (CV.v1v (coV kind n g))))) ∧ (((SV.v (Value.bool false)) = (SV.v (Value.bool (CV.v1f (coV kind n g))))) ∧ (((SV.v (Value.int IntKind.i64 0)) = (SV.v (Value.int IntKind.i64 (CV.w0v (coV kind n g))))) ∧ (((SV.v (Value.bool false)) = (SV.v (Value.bool (CV.w0f (coV kind n g))))) ∧ (((SV.v (Value.int IntKind.i64 0)) = (SV.v (Value.int IntKind.i64 (CV.dn (coV kind n g))))) ∧ (((SV.v (Value.bool false)) = (SV.v (Value.bool (CV.mv (coV kind n g))))) ∧ (((SV.v (Value.int IntKind.i64 0)) = (SV.v (Value.int IntKind.i64 (CV.a0v (coV kind n g))))) ∧ (((SV.v (Value.bool false)) = (SV.v (Value.bool (CV.a0f (coV kind n g))))) ∧ (((SV.v (Value.int IntKind.i64 0)) = (SV.v (Value.int IntKind.i64 (CV.a1v (coV kind n g))))) ∧ (((SV.v (Value.bool false)) = (SV.v (Value.bool (CV.a1f (coV kind n g))))) ∧ (((SV.v (Value.int IntKind.i64 0)) = (SV.v (Value.int IntKind.i64 (CV.t0v (coV kind n g))))) ∧ (((SV.v (Value.bool false)) = (SV.v (Value.bool (CV.t0f (coV kind n g))))) ∧ (((SV.v (Value.int IntKind.i64 0)) = (SV.v (Value.int IntKind.i64 (CV.t1v (coV kind n g))))) ∧ (((SV.v (Value.bool false)) = (SV.v (Value.bool (CV.t1f (coV kind n g))))) ∧ (((SV.v (Value.int IntKind.i64 (frV 2147483647 (nxV n (gI (winBlk (niB e m g x wh) 1 0 n)) 1)))) = (SV.v (Value.int IntKind.i64 (CV.gr (coV kind n g))))) ∧ (((SV.v (Value.int IntKind.i64 0)) = (SV.v (Value.int IntKind.i64 (CV.b0 (coV kind n g))))) ∧ (((SV.v (Value.int IntKind.i64 0)) = (SV.v (Value.int IntKind.i64 (CV.b1 (coV kind n g))))) ∧ (((SV.v (Value.int IntKind.i64 0)) = (SV.v (Value.int IntKind.i64 (CV.b2 (coV kind n g))))) ∧ (((SV.v (Value.int IntKind.i64 0)) = (SV.v (Value.int IntKind.i64 (CV.b3 (coV kind n g))))) ∧ (((SV.v (Value.int IntKind.i64 0)) = (SV.v (Value.int IntKind.i64 (CV.f0 (coV kind n g))))) ∧ (((SV.v (Value.int IntKind.i64 0)) = (SV.v (Value.int IntKind.i64 (CV.f1 (coV kind n g))))) ∧ (((SV.v (Value.int IntKind.i64 0)) = (SV.v (Value.int IntKind.i64 (CV.u0 (coV kind n g))))) ∧ ((SV.v (Value.int IntKind.i64 0)) = (SV.v (Value.int IntKind.i64 (CV.u1 (coV kind n g))))))))))))))))))))))))))))))))))))))))))))))) ∧ (((((coN kind n g) : Nat) = 0) ∧ ((((coN kind n g + c) : Nat) = 0) ∧ True)) ∧ True)))) 
(sel (IntKind.wrap IntKind.i64 (1 + md kind 10) == 7) ((((niPre n (winBlk (niB e m g x wh) 1 0 n)) ∧ (((0 : Int) ≤ 1) ∧ (((Prod.snd (yHandle n (gI (winBlk (niB e m g x wh) 1 0 n)) 1)) : Int) ≤ 4611686018427387904))) ∧ True) ∧ (∃ c : Nat, ((((SV.v (Value.int IntKind.i64 (IntKind.wrap IntKind.i64 (1 + md kind 10)))) = (SV.v (Value.int IntKind.i64 (coK kind)))) ∧ (((SV.v (Value.int IntKind.i64 (frV 2147483647 (nxV n (gI (winBlk (niB e m g x wh) 1 0 n)) 0)))) = (SV.v (Value.int IntKind.i64 (CV.id (coV kind n g))))) ∧ (((SV.v (Value.int IntKind.i64 (frV 2147483647 (nxV n (gI (winBlk (niB e m g x wh) 1 0 n)) 1)))) = (SV.v (Value.int IntKind.i64 (CV.bs (coV kind n g))))) ∧ (((SV.v (Value.int IntKind.i64 (frV 2147483647 (nxV n (gI (winBlk (niB e m g x wh) 1 0 n)) 2)))) = (SV.v (Value.int IntKind.i64 (CV.bg (coV kind n g))))) ∧ (((SV.v (Value.int IntKind.i64 0)) = (SV.v (Value.int IntKind.i64 (CV.ver (coV kind n g))))) ∧ (((SV.v (Value.int IntKind.i64 0)) = (SV.v (Value.int IntKind.i64 (CV.sk (coV kind n g))))) ∧ (((SV.v (Value.int IntKind.i64 0)) = (SV.v (Value.int IntKind.i64 (CV.sr (coV kind n g))))) ∧ (((SV.v (Value.int IntKind.i64 0)) = (SV.v (Value.int IntKind.i64 (CV.sw (coV kind n g))))) ∧ (((SV.v (Value.int IntKind.i64 0)) = (SV.v (Value.int IntKind.i64 (CV.sh (coV kind n g))))) ∧ ((((SV.v (Value.slice none 0 0)) = (SV.v (Value.slice none 0 0))) ∧ (((0 : Nat) = 0) ∧ ((((coN kind n g) : Nat) = 0) ∧ (((coN kind n g + c) : Nat) = 0)))) ∧ (((SV.v (Value.int IntKind.i64 0)) = (SV.v (Value.int IntKind.i64 (CV.p0v (coV kind n g))))) ∧ (((SV.v (Value.bool false)) = (SV.v (Value.bool (CV.p0f (coV kind n g))))) ∧ (((SV.v (Value.int IntKind.i64 0)) = (SV.v (Value.int IntKind.i64 (CV.p1v (coV kind n g))))) ∧ (((SV.v (Value.bool false)) = (SV.v (Value.bool (CV.p1f (coV kind n g))))) ∧ (((SV.v (Value.int IntKind.i64 0)) = (SV.v (Value.int IntKind.i64 (CV.p2v (coV kind n g))))) ∧ (((SV.v (Value.bool false)) = (SV.v (Value.bool (CV.p2f (coV kind n g))))) ∧ (((SV.v (Value.int IntKind.i64 0)) = (SV.v (Value.int IntKind.i64 (CV.p3v (coV kind n g))))) ∧ (((SV.v (Value.bool false)) = (SV.v (Value.bool (CV.p3f (coV kind n g))))) ∧ (((SV.v (Value.int IntKind.i64 0)) = (SV.v (Value.int IntKind.i64 (CV.v0v (coV kind n g))))) ∧ (((SV.v (Value.bool false)) = (SV.v (Value.bool (CV.v0f (coV kind n g))))) ∧ (((SV.v (Value.int IntKind.i64 0)) = (SV.v (Value.int IntKind.i64 (CV.v1v (coV kind n g))))) ∧ (((SV.v (Value.bool false)) = (SV.v (Value.bool (CV.v1f (coV kind n g))))) ∧ (((SV.v (Value.int IntKind.i64 0)) = (SV.v (Value.int IntKind.i64 (CV.w0v (coV kind n g))))) ∧ (((SV.v (Value.bool false)) = (SV.v (Value.bool (CV.w0f (coV kind n g))))) ∧ (((SV.v (Value.int IntKind.i64 0)) = (SV.v (Value.int IntKind.i64 (CV.dn (coV kind n g))))) ∧ (((SV.v (Value.bool false)) = (SV.v (Value.bool (CV.mv (coV kind n g))))) ∧ (((SV.v (Value.int IntKind.i64 0)) = (SV.v (Value.int IntKind.i64 (CV.a0v (coV kind n g))))) ∧ (((SV.v (Value.bool false)) = (SV.v (Value.bool (CV.a0f (coV kind n g))))) ∧ (((SV.v (Value.int IntKind.i64 0)) = (SV.v (Value.int IntKind.i64 (CV.a1v (coV kind n g))))) ∧ (((SV.v (Value.bool false)) = (SV.v (Value.bool (CV.a1f (coV kind n g))))) ∧ (((SV.v (Value.int IntKind.i64 0)) = (SV.v (Value.int IntKind.i64 (CV.t0v (coV kind n g))))) ∧ (((SV.v (Value.bool false)) = (SV.v (Value.bool (CV.t0f (coV kind n g))))) ∧ (((SV.v (Value.int IntKind.i64 0)) = (SV.v (Value.int IntKind.i64 (CV.t1v (coV kind n g))))) ∧ (((SV.v (Value.bool false)) = (SV.v (Value.bool (CV.t1f (coV kind n g))))) ∧ (((SV.v (Value.int IntKind.i64 0)) = (SV.v (Value.int IntKind.i64 (CV.gr (coV kind n g))))) ∧ (((SV.v (Value.int IntKind.i64 0)) = (SV.v (Value.int IntKind.i64 (CV.b0 (coV kind n g))))) ∧ (((SV.v (Value.int IntKind.i64 0)) = (SV.v (Value.int IntKind.i64 (CV.b1 (coV kind n g))))) ∧ (((SV.v (Value.int IntKind.i64 0)) = (SV.v (Value.int IntKind.i64 (CV.b2 (coV kind n g))))) ∧ (((SV.v (Value.int IntKind.i64 0)) = (SV.v (Value.int IntKind.i64 (CV.b3 (coV kind n g))))) ∧ (((SV.v (Value.int IntKind.i64 0)) = (SV.v (Value.int IntKind.i64 (CV.f0 (coV kind n g))))) ∧ (((SV.v (Value.int IntKind.i64 0)) = (SV.v (Value.int IntKind.i64 (CV.f1 (coV kind n g))))) ∧ (((SV.v (Value.int IntKind.i64 0)) = (SV.v (Value.int IntKind.i64 (CV.u0 (coV kind n g))))) ∧ ((SV.v (Value.int IntKind.i64 0)) = (SV.v (Value.int IntKind.i64 (CV.u1 (coV kind n g))))))))))))))))))))))))))))))))))))))))))))))) ∧ (((((coN kind n g) : Nat) = 0) ∧ ((((coN kind n g + c) : Nat) = 0) ∧ True)) ∧ True)))) 
(sel (IntKind.wrap IntKind.i64 (1 + md kind 10) == 8) ((((niPre n (winBlk (niB e m g x wh) 1 0 n)) ∧ (((0 : Int) ≤ 1) ∧ (((Prod.snd (yNext n (gI (winBlk (niB e m g x wh) 1 0 n)) 1)) : Int) ≤ 4611686018427387904))) ∧ True) ∧ ((((niPre n (winBlk (niB e m g x wh) 1 0 n)) ∧ (((0 : Int) ≤ (Prod.snd (yNext n (gI (winBlk (niB e m g x wh) 1 0 n)) 1))) ∧ (((Prod.snd (yNext n (gI (winBlk (niB e m g x wh) 1 0 n)) (Prod.snd (yNext n (gI (winBlk (niB e m g x wh) 1 0 n)) 1)))) : Int) ≤ 4611686018427387904))) ∧ True) ∧ ((((niPre n (winBlk (niB e m g x wh) 1 0 n)) ∧ (((0 : Int) ≤ (Prod.snd (yNext n (gI (winBlk (niB e m g x wh) 1 0 n)) (Prod.snd (yNext n (gI (winBlk (niB e m g x wh) 1 0 n)) 1))))) ∧ (((Prod.snd (yNext n (gI (winBlk (niB e m g x wh) 1 0 n)) (Prod.snd (yNext n (gI (winBlk (niB e m g x wh) 1 0 n)) (Prod.snd (yNext n (gI (winBlk (niB e m g x wh) 1 0 n)) 1)))))) : Int) ≤ 4611686018427387904))) ∧ True) ∧ ((((niPre n (winBlk (niB e m g x wh) 1 0 n)) ∧ (((0 : Int) ≤ (Prod.snd (yNext n (gI (winBlk (niB e m g x wh) 1 0 n)) (Prod.snd (yNext n (gI (winBlk (niB e m g x wh) 1 0 n)) (Prod.snd (yNext n (gI (winBlk (niB e m g x wh) 1 0 n)) 1))))))) ∧ (((Prod.snd (yNext n (gI (winBlk (niB e m g x wh) 1 0 n)) (Prod.snd (yNext n (gI (winBlk (niB e m g x wh) 1 0 n)) (Prod.snd (yNext n (gI (winBlk (niB e m g x wh) 1 0 n)) (Prod.snd (yNext n (gI (winBlk (niB e m g x wh) 1 0 n)) 1)))))))) : Int) ≤ 4611686018427387904))) ∧ True) ∧ (∃ c : Nat, ((((SV.v (Value.int IntKind.i64 (IntKind.wrap IntKind.i64 (1 + md kind 10)))) = (SV.v (Value.int IntKind.i64 (coK kind)))) ∧ (((SV.v (Value.int IntKind.i64 (frV 2147483647 (nxV n (gI (winBlk (niB e m g x wh) 1 0 n)) 0)))) = (SV.v (Value.int IntKind.i64 (CV.id (coV kind n g))))) ∧ (((SV.v (Value.int IntKind.i64 0)) = (SV.v (Value.int IntKind.i64 (CV.bs (coV kind n g))))) ∧ (((SV.v (Value.int IntKind.i64 0)) = (SV.v (Value.int IntKind.i64 (CV.bg (coV kind n g))))) ∧ (((SV.v (Value.int IntKind.i64 0)) = (SV.v (Value.int IntKind.i64 (CV.ver (coV kind n g))))) ∧ (((SV.v (Value.int IntKind.i64 0)) = (SV.v (Value.int IntKind.i64 (CV.sk (coV kind n g))))) ∧ (((SV.v (Value.int IntKind.i64 0)) = (SV.v (Value.int IntKind.i64 (CV.sr (coV kind n g))))) ∧ (((SV.v (Value.int IntKind.i64 0)) = (SV.v (Value.int IntKind.i64 (CV.sw (coV kind n g))))) ∧ (((SV.v (Value.int IntKind.i64 0)) = (SV.v (Value.int IntKind.i64 (CV.sh (coV kind n g))))) ∧ ((((SV.v (Value.slice none 0 0)) = (SV.v (Value.slice none 0 0))) ∧ (((0 : Nat) = 0) ∧ ((((coN kind n g) : Nat) = 0) ∧ (((coN kind n g + c) : Nat) = 0)))) ∧ (((SV.v (Value.int IntKind.i64 0)) = (SV.v (Value.int IntKind.i64 (CV.p0v (coV kind n g))))) ∧ (((SV.v (Value.bool false)) = (SV.v (Value.bool (CV.p0f (coV kind n g))))) ∧ (((SV.v (Value.int IntKind.i64 0)) = (SV.v (Value.int IntKind.i64 (CV.p1v (coV kind n g))))) ∧ (((SV.v (Value.bool false)) = (SV.v (Value.bool (CV.p1f (coV kind n g))))) ∧ (((SV.v (Value.int IntKind.i64 0)) = (SV.v (Value.int IntKind.i64 (CV.p2v (coV kind n g))))) ∧ (((SV.v (Value.bool false)) = (SV.v (Value.bool (CV.p2f (coV kind n g))))) ∧ (((SV.v (Value.int IntKind.i64 0)) = (SV.v (Value.int IntKind.i64 (CV.p3v (coV kind n g))))) ∧ (((SV.v (Value.bool false)) = (SV.v (Value.bool (CV.p3f (coV kind n g))))) ∧ (((SV.v (Value.int IntKind.i64 0)) = (SV.v (Value.int IntKind.i64 (CV.v0v (coV kind n g))))) ∧ (((SV.v (Value.bool false)) = (SV.v (Value.bool (CV.v0f (coV kind n g))))) ∧ (((SV.v (Value.int IntKind.i64 0)) = (SV.v (Value.int IntKind.i64 (CV.v1v (coV kind n g))))) ∧ (((SV.v (Value.bool false)) = (SV.v (Value.bool (CV.v1f (coV kind n g))))) ∧ (((SV.v (Value.int IntKind.i64 0)) = (SV.v (Value.int IntKind.i64 (CV.w0v (coV kind n g))))) ∧ (((SV.v (Value.bool false)) = (SV.v (Value.bool (CV.w0f (coV kind n g))))) ∧ (((SV.v (Value.int IntKind.i64 0)) = (SV.v (Value.int IntKind.i64 (CV.dn (coV kind n g))))) ∧ (((SV.v (Value.bool false)) = (SV.v (Value.bool (CV.mv (coV kind n g))))) ∧ (((SV.v (Value.int IntKind.i64 0)) = (SV.v (Value.int IntKind.i64 (CV.a0v (coV kind n g))))) ∧ (((SV.v (Value.bool false)) = (SV.v (Value.bool (CV.a0f (coV kind n g))))) ∧ (((SV.v (Value.int IntKind.i64 0)) = (SV.v (Value.int IntKind.i64 (CV.a1v (coV kind n g))))) ∧ (((SV.v (Value.bool false)) = (SV.v (Value.bool (CV.a1f (coV kind n g))))) ∧ (((SV.v (Value.int IntKind.i64 0)) = (SV.v (Value.int IntKind.i64 (CV.t0v (coV kind n g))))) ∧ (((SV.v (Value.bool false)) = (SV.v (Value.bool (CV.t0f (coV kind n g))))) ∧ (((SV.v (Value.int IntKind.i64 0)) = (SV.v (Value.int IntKind.i64 (CV.t1v (coV kind n g))))) ∧ (((SV.v (Value.bool false)) = (SV.v (Value.bool (CV.t1f (coV kind n g))))) ∧ (((SV.v (Value.int IntKind.i64 0)) = (SV.v (Value.int IntKind.i64 (CV.gr (coV kind n g))))) ∧ (((SV.v (Value.int IntKind.i64 (nxV n (gI (winBlk (niB e m g x wh) 1 0 n)) 1))) = (SV.v (Value.int IntKind.i64 (CV.b0 (coV kind n g))))) ∧ (((SV.v (Value.int IntKind.i64 (nxV n (gI (winBlk (niB e m g x wh) 1 0 n)) (Prod.snd (yNext n (gI (winBlk (niB e m g x wh) 1 0 n)) 1))))) = (SV.v (Value.int IntKind.i64 (CV.b1 (coV kind n g))))) ∧ (((SV.v (Value.int IntKind.i64 (nxV n (gI (winBlk (niB e m g x wh) 1 0 n)) (Prod.snd (yNext n (gI (winBlk (niB e m g x wh) 1 0 n)) (Prod.snd (yNext n (gI (winBlk (niB e m g x wh) 1 0 n)) 1))))))) = (SV.v (Value.int IntKind.i64 (CV.b2 (coV kind n g))))) ∧ (((SV.v (Value.int IntKind.i64 (nxV n (gI (winBlk (niB e m g x wh) 1 0 n)) (Prod.snd (yNext n (gI (winBlk (niB e m g x wh) 1 0 n)) (Prod.snd (yNext n (gI (winBlk (niB e m g x wh) 1 0 n)) (Prod.snd (yNext n (gI (winBlk (niB e m g x wh) 1 0 n)) 1))))))))) = (SV.v (Value.int IntKind.i64 (CV.b3 (coV kind n g))))) ∧ (((SV.v (Value.int IntKind.i64 0)) = (SV.v (Value.int IntKind.i64 (CV.f0 (coV kind n g))))) ∧ (((SV.v (Value.int IntKind.i64 0)) = (SV.v (Value.int IntKind.i64 (CV.f1 (coV kind n g))))) ∧ (((SV.v (Value.int IntKind.i64 0)) = (SV.v (Value.int IntKind.i64 (CV.u0 (coV kind n g))))) ∧ ((SV.v (Value.int IntKind.i64 0)) = (SV.v (Value.int IntKind.i64 (CV.u1 (coV kind n g))))))))))))))))))))))))))))))))))))))))))))))) ∧ (((((coN kind n g) : Nat) = 0) ∧ ((((coN kind n g + c) : Nat) = 0) ∧ True)) ∧ True))))))) 
(sel (IntKind.wrap IntKind.i64 (1 + md kind 10) == 9) ((((niPre n (winBlk (niB e m g x wh) 1 0 n)) ∧ (((0 : Int) ≤ 1) ∧ (((Prod.snd (ySpot n (gI (winBlk (niB e m g x wh) 1 0 n)) 1)) : Int) ≤ 4611686018427387904))) ∧ True) ∧ ((((niPre n (winBlk (niB e m g x wh) 1 0 n)) ∧ (((0 : Int) ≤ (Prod.snd (ySpot n (gI (winBlk (niB e m g x wh) 1 0 n)) 1))) ∧ (((Prod.snd (ySpot n (gI (winBlk (niB e m g x wh) 1 0 n)) (Prod.snd (ySpot n (gI (winBlk (niB e m g x wh) 1 0 n)) 1)))) : Int) ≤ 4611686018427387904))) ∧ True) ∧ (∃ c : Nat, ((((SV.v (Value.int IntKind.i64 (IntKind.wrap IntKind.i64 (1 + md kind 10)))) = (SV.v (Value.int IntKind.i64 (coK kind)))) ∧ (((SV.v (Value.int IntKind.i64 (frV 2147483647 (nxV n (gI (winBlk (niB e m g x wh) 1 0 n)) 0)))) = (SV.v (Value.int IntKind.i64 (CV.id (coV kind n g))))) ∧ (((SV.v (Value.int IntKind.i64 0)) = (SV.v (Value.int IntKind.i64 (CV.bs (coV kind n g))))) ∧ (((SV.v (Value.int IntKind.i64 0)) = (SV.v (Value.int IntKind.i64 (CV.bg (coV kind n g))))) ∧ (((SV.v (Value.int IntKind.i64 0)) = (SV.v (Value.int IntKind.i64 (CV.ver (coV kind n g))))) ∧ (((SV.v (Value.int IntKind.i64 0)) = (SV.v (Value.int IntKind.i64 (CV.sk (coV kind n g))))) ∧ (((SV.v (Value.int IntKind.i64 0)) = (SV.v (Value.int IntKind.i64 (CV.sr (coV kind n g))))) ∧ (((SV.v (Value.int IntKind.i64 0)) = (SV.v (Value.int IntKind.i64 (CV.sw (coV kind n g))))) ∧ (((SV.v (Value.int IntKind.i64 0)) = (SV.v (Value.int IntKind.i64 (CV.sh (coV kind n g))))) ∧ ((((SV.v (Value.slice none 0 0)) = (SV.v (Value.slice none 0 0))) ∧ (((0 : Nat) = 0) ∧ ((((coN kind n g) : Nat) = 0) ∧ (((coN kind n g + c) : Nat) = 0)))) ∧ (((SV.v (Value.int IntKind.i64 0)) = (SV.v (Value.int IntKind.i64 (CV.p0v (coV kind n g))))) ∧ (((SV.v (Value.bool false)) = (SV.v (Value.bool (CV.p0f (coV kind n g))))) ∧ (((SV.v (Value.int IntKind.i64 0)) = (SV.v (Value.int IntKind.i64 (CV.p1v (coV kind n g))))) ∧ (((SV.v (Value.bool false)) = (SV.v (Value.bool (CV.p1f (coV kind n g))))) ∧ (((SV.v (Value.int IntKind.i64 0)) = (SV.v (Value.int IntKind.i64 (CV.p2v (coV kind n g))))) ∧ (((SV.v (Value.bool false)) = (SV.v (Value.bool (CV.p2f (coV kind n g))))) ∧ (((SV.v (Value.int IntKind.i64 0)) = (SV.v (Value.int IntKind.i64 (CV.p3v (coV kind n g))))) ∧ (((SV.v (Value.bool false)) = (SV.v (Value.bool (CV.p3f (coV kind n g))))) ∧ (((SV.v (Value.int IntKind.i64 0)) = (SV.v (Value.int IntKind.i64 (CV.v0v (coV kind n g))))) ∧ (((SV.v (Value.bool false)) = (SV.v (Value.bool (CV.v0f (coV kind n g))))) ∧ (((SV.v (Value.int IntKind.i64 0)) = (SV.v (Value.int IntKind.i64 (CV.v1v (coV kind n g))))) ∧ (((SV.v (Value.bool false)) = (SV.v (Value.bool (CV.v1f (coV kind n g))))) ∧ (((SV.v (Value.int IntKind.i64 0)) = (SV.v (Value.int IntKind.i64 (CV.w0v (coV kind n g))))) ∧ (((SV.v (Value.bool false)) = (SV.v (Value.bool (CV.w0f (coV kind n g))))) ∧ (((SV.v (Value.int IntKind.i64 0)) = (SV.v (Value.int IntKind.i64 (CV.dn (coV kind n g))))) ∧ (((SV.v (Value.bool false)) = (SV.v (Value.bool (CV.mv (coV kind n g))))) ∧ (((SV.v (Value.int IntKind.i64 0)) = (SV.v (Value.int IntKind.i64 (CV.a0v (coV kind n g))))) ∧ (((SV.v (Value.bool false)) = (SV.v (Value.bool (CV.a0f (coV kind n g))))) ∧ (((SV.v (Value.int IntKind.i64 0)) = (SV.v (Value.int IntKind.i64 (CV.a1v (coV kind n g))))) ∧ (((SV.v (Value.bool false)) = (SV.v (Value.bool (CV.a1f (coV kind n g))))) ∧ (((SV.v (Value.int IntKind.i64 0)) = (SV.v (Value.int IntKind.i64 (CV.t0v (coV kind n g))))) ∧ (((SV.v (Value.bool false)) = (SV.v (Value.bool (CV.t0f (coV kind n g))))) ∧ (((SV.v (Value.int IntKind.i64 0)) = (SV.v (Value.int IntKind.i64 (CV.t1v (coV kind n g))))) ∧ (((SV.v (Value.bool false)) = (SV.v (Value.bool (CV.t1f (coV kind n g))))) ∧ (((SV.v (Value.int IntKind.i64 0)) = (SV.v (Value.int IntKind.i64 (CV.gr (coV kind n g))))) ∧ (((SV.v (Value.int IntKind.i64 0)) = (SV.v (Value.int IntKind.i64 (CV.b0 (coV kind n g))))) ∧ (((SV.v (Value.int IntKind.i64 0)) = (SV.v (Value.int IntKind.i64 (CV.b1 (coV kind n g))))) ∧ (((SV.v (Value.int IntKind.i64 0)) = (SV.v (Value.int IntKind.i64 (CV.b2 (coV kind n g))))) ∧ (((SV.v (Value.int IntKind.i64 0)) = (SV.v (Value.int IntKind.i64 (CV.b3 (coV kind n g))))) ∧ (((SV.v (Value.int IntKind.i64 (nxV n (gI (winBlk (niB e m g x wh) 1 0 n)) 1))) = (SV.v (Value.int IntKind.i64 (CV.f0 (coV kind n g))))) ∧ (((SV.v (Value.int IntKind.i64 (nxV n (gI (winBlk (niB e m g x wh) 1 0 n)) 2))) = (SV.v (Value.int IntKind.i64 (CV.f1 (coV kind n g))))) ∧ (((SV.v (Value.int IntKind.i64 (nxV n (gI (winBlk (niB e m g x wh) 1 0 n)) (Prod.snd (ySpot n (gI (winBlk (niB e m g x wh) 1 0 n)) 1))))) = (SV.v (Value.int IntKind.i64 (CV.u0 (coV kind n g))))) ∧ ((SV.v (Value.int IntKind.i64 (nxV n (gI (winBlk (niB e m g x wh) 1 0 n)) (Prod.snd (ySpot n (gI (winBlk (niB e m g x wh) 1 0 n)) 1) + 1)))) = (SV.v (Value.int IntKind.i64 (CV.u1 (coV kind n g))))))))))))))))))))))))))))))))))))))))))))))) ∧ (((((coN kind n g) : Nat) = 0) ∧ ((((coN kind n g + c) : Nat) = 0) ∧ True)) ∧ True))))) (∃ c : Nat, ((((SV.v (Value.int IntKind.i64 (IntKind.wrap IntKind.i64 (1 + md kind 10)))) = (SV.v (Value.int IntKind.i64 (coK kind)))) ∧ (((SV.v (Value.int IntKind.i64 (frV 2147483647 (nxV n (gI (winBlk (niB e m g x wh) 1 0 n)) 0)))) = (SV.v (Value.int IntKind.i64 (CV.id (coV kind n g))))) ∧ (((SV.v (Value.int IntKind.i64 0)) = (SV.v (Value.int IntKind.i64 (CV.bs (coV kind n g))))) ∧ (((SV.v (Value.int IntKind.i64 0)) = (SV.v (Value.int IntKind.i64 (CV.bg (coV kind n g))))) ∧ (((SV.v (Value.int IntKind.i64 0)) = (SV.v (Value.int IntKind.i64 (CV.ver (coV kind n g))))) ∧ (((SV.v (Value.int IntKind.i64 0)) = (SV.v (Value.int IntKind.i64 (CV.sk (coV kind n g))))) ∧ (((SV.v (Value.int IntKind.i64 0)) = (SV.v (Value.int IntKind.i64 (CV.sr (coV kind n g))))) ∧ (((SV.v (Value.int IntKind.i64 0)) = (SV.v (Value.int IntKind.i64 (CV.sw (coV kind n g))))) ∧ (((SV.v (Value.int IntKind.i64 0)) = (SV.v (Value.int IntKind.i64 (CV.sh (coV kind n g))))) ∧ ((((SV.v (Value.slice none 0 0)) = (SV.v (Value.slice none 0 0))) ∧ (((0 : Nat) = 0) ∧ ((((coN kind n g) : Nat) = 0) ∧ (((coN kind n g + c) : Nat) = 0)))) ∧ (((SV.v (Value.int IntKind.i64 0)) = (SV.v (Value.int IntKind.i64 (CV.p0v (coV kind n g))))) ∧ (((SV.v (Value.bool false)) = (SV.v (Value.bool (CV.p0f (coV kind n g))))) ∧ (((SV.v (Value.int IntKind.i64 0)) = (SV.v (Value.int IntKind.i64 (CV.p1v (coV kind n g))))) ∧ (((SV.v (Value.bool false)) = (SV.v (Value.bool (CV.p1f (coV kind n g))))) ∧ (((SV.v (Value.int IntKind.i64 0)) = (SV.v (Value.int IntKind.i64 (CV.p2v (coV kind n g))))) ∧ (((SV.v (Value.bool false)) = (SV.v (Value.bool (CV.p2f (coV kind n g))))) ∧ (((SV.v (Value.int IntKind.i64 0)) = (SV.v (Value.int IntKind.i64 (CV.p3v (coV kind n g))))) ∧ (((SV.v (Value.bool false)) = (SV.v (Value.bool (CV.p3f (coV kind n g))))) ∧ (((SV.v (Value.int IntKind.i64 0)) = (SV.v (Value.int IntKind.i64 (CV.v0v (coV kind n g))))) ∧ (((SV.v (Value.bool false)) = (SV.v (Value.bool (CV.v0f (coV kind n g))))) ∧ (((SV.v (Value.int IntKind.i64 0)) = (SV.v (Value.int IntKind.i64 (CV.v1v (coV kind n g))))) ∧ (((SV.v (Value.bool false)) = (SV.v (Value.bool (CV.v1f (coV kind n g))))) ∧ (((SV.v (Value.int IntKind.i64 0)) = (SV.v (Value.int IntKind.i64 (CV.w0v (coV kind n g))))) ∧ (((SV.v (Value.bool false)) = (SV.v (Value.bool (CV.w0f (coV kind n g))))) ∧ (((SV.v (Value.int IntKind.i64 0)) = (SV.v (Value.int IntKind.i64 (CV.dn (coV kind n g))))) ∧ (((SV.v (Value.bool false)) = (SV.v (Value.bool (CV.mv (coV kind n g))))) ∧ (((SV.v (Value.int IntKind.i64 0)) = (SV.v (Value.int IntKind.i64 (CV.a0v (coV kind n g))))) ∧ (((SV.v (Value.bool false)) = (SV.v (Value.bool (CV.a0f (coV kind n g))))) ∧ (((SV.v (Value.int IntKind.i64 0)) = (SV.v (Value.int IntKind.i64 (CV.a1v (coV kind n g))))) ∧ (((SV.v (Value.bool false)) = (SV.v (Value.bool (CV.a1f (coV kind n g))))) ∧ (((SV.v (Value.int IntKind.i64 0)) = (SV.v (Value.int IntKind.i64 (CV.t0v (coV kind n g))))) ∧ (((SV.v (Value.bool false)) = (SV.v (Value.bool (CV.t0f (coV kind n g))))) ∧ (((SV.v (Value.int IntKind.i64 0)) = (SV.v (Value.int IntKind.i64 (CV.t1v (coV kind n g))))) ∧ (((SV.v (Value.bool false)) = (SV.v (Value.bool (CV.t1f (coV kind n g))))) ∧ (((SV.v (Value.int IntKind.i64 0)) = (SV.v (Value.int IntKind.i64 (CV.gr (coV kind n g))))) ∧ (((SV.v (Value.int IntKind.i64 0)) = (SV.v (Value.int IntKind.i64 (CV.b0 (coV kind n g))))) ∧ (((SV.v (Value.int IntKind.i64 0)) = (SV.v (Value.int IntKind.i64 (CV.b1 (coV kind n g))))) ∧ (((SV.v (Value.int IntKind.i64 0)) = (SV.v (Value.int IntKind.i64 (CV.b2 (coV kind n g))))) ∧ (((SV.v (Value.int IntKind.i64 0)) = (SV.v (Value.int IntKind.i64 (CV.b3 (coV kind n g))))) ∧ (((SV.v (Value.int IntKind.i64 0)) = (SV.v (Value.int IntKind.i64 (CV.f0 (coV kind n g))))) ∧ (((SV.v (Value.int IntKind.i64 0)) = (SV.v (Value.int IntKind.i64 (CV.f1 (coV kind n g))))) ∧ (((SV.v (Value.int IntKind.i64 0)) = (SV.v (Value.int IntKind.i64 (CV.u0 (coV kind n g))))) ∧ ((SV.v (Value.int IntKind.i64 0)) = (SV.v (Value.int IntKind.i64 (CV.u1 (coV kind n g))))))))))))))))))))))))))))))))))))))))))))))) ∧ (((((coN kind n g) : Nat) = 0) ∧ ((((coN kind n g + c) : Nat) = 0) ∧ True)) ∧ True)))))))))))))) := by kernel_rfl
theorem selF_of {b : Bool} {x y : Prop} (h : b = false) (hy : y) : sel b x y := by subst h; exact hy
theorem ΓSe_ok : ∀ f g, ΓSe f = some g → g.ok Try.prog f := addCtr_ok (addCtr_ok ΓSd_ok (hp_ok Try.func62 (by kernel_rfl) (by kernel_rfl) SShape_spec)) (pure_ok Try.func39 (by kernel_rfl) (by kernel_rfl) ModH_spec)
theorem coK_rng (kind : Int) : 1 ≤ coK kind ∧ coK kind ≤ 10 := by
  have e : md kind 10 = kind % 10 := hide_eq _
  unfold coK
  omega
theorem coK_cases (kind : Int) : coK kind = 1 ∨ coK kind = 2 ∨ coK kind = 3 ∨ coK kind = 4 ∨ coK kind = 5 ∨ coK kind = 6 ∨ coK kind = 7 ∨ coK kind = 8 ∨ coK kind = 9 ∨ coK kind = 10 := by
  have := coK_rng kind
  omega
theorem srEnd_rng (n : Nat) (g : Nat → Int) : 6 ≤ srEnd n g (0 + 1) ∧ srEnd n g (0 + 1) ≤ 22 := by
  have h8 := srC_le n g (0 + 1)
  have e : srEnd n g (0 + 1) = 0 + 1 + 1 + 1 + 1 + 1 + 1 + 2 * (srC n g (0 + 1) : Int) := rfl
  omega
theorem callOf_vc {kind : Int} {n cap e x : Nat} {g : Nat → Int} {wh : Bool} (hk : I64 kind) (hg : gOk n g) : vcFn Try.prog ΓSe noΛ Try.f23 [.v (.int .i64 kind), .sl 0 1 0 n cap] (heapOf [niB e n g x wh]) 64 (fun y h' => FinE [niB e n g x wh] (coE True kind n g) y h') := by
  refine Eq.mpr (vcCallOf kind n cap e n x g wh) ?_
  have hK := coK_rng kind
  have hw : IntKind.i64.wrap (1 + md kind 10) = coK kind := wrap_i64 ⟨by unfold coK at hK; omega, by unfold coK at hK; omega⟩
  have hE := srEnd_rng n g
  rw [gI_win, hw]
  have hni := niPre_win (e := e) (m := n) (x := x) (wh := wh) hg
  refine ⟨⟨hk, by omega, by omega⟩, ⟨⟨hni, by omega, by omega⟩, by omega, by omega⟩, ?_⟩
  rcases coK_cases kind with h | h | h | h | h | h | h | h | h | h
  · have eV : coV kind n g = sV1 n g := by unfold coV; rw [h]; rfl
    have eN : coN kind n g = srC n g (0 + 1) := by unfold coN; rw [h]; rfl
    rw [eV, eN, h]
    exact selT_of rfl <| ⟨⟨hni, by show (0 : Int) ≤ 0 + 1; omega, by show ((0 + 1) : Int) ≤ 4611686018427387000; omega⟩, fun c => ⟨⟨⟨hni, by show (0 : Int) ≤ srEnd n g (0 + 1); omega, by show ((srEnd n g (0 + 1) + 1 + 1 + 1 + 1) : Int) ≤ 4611686018427387904; omega⟩, trivial⟩, ⟨⟨⟨hni, by show (0 : Int) ≤ srEnd n g (0 + 1) + 1 + 1 + 1 + 1; omega, by show ((srEnd n g (0 + 1) + 1 + 1 + 1 + 1 + 1 + 1) : Int) ≤ 4611686018427387904; omega⟩, trivial⟩, ⟨⟨⟨hni, by show (0 : Int) ≤ srEnd n g (0 + 1) + 1 + 1 + 1 + 1 + 1 + 1; omega, by show ((srEnd n g (0 + 1) + 1 + 1 + 1 + 1 + 1 + 1 + 1) : Int) ≤ 4611686018427387904; omega⟩, trivial⟩, ⟨⟨⟨hni, by show (0 : Int) ≤ srEnd n g (0 + 1) + 1 + 1 + 1 + 1 + 1 + 1 + 1; omega, by show ((srEnd n g (0 + 1) + 1 + 1 + 1 + 1 + 1 + 1 + 1 + 1) : Int) ≤ 4611686018427387904; omega⟩, trivial⟩, ⟨⟨⟨hni, by show (0 : Int) ≤ srEnd n g (0 + 1) + 1 + 1 + 1 + 1 + 1 + 1 + 1 + 1; omega, by show ((srEnd n g (0 + 1) + 1 + 1 + 1 + 1 + 1 + 1 + 1 + 1 + 1) : Int) ≤ 4611686018427387904; omega⟩, by omega, by omega⟩, ⟨c, by repeat (first | exact rfl | refine ⟨rfl, ?_⟩ | refine ⟨⟨rfl, rfl, rfl, rfl⟩, ?_⟩), rfl, Nat.le_refl _, fun _ _ => rfl⟩⟩⟩⟩⟩⟩⟩
  · have eV : coV kind n g = sV2 n g := by unfold coV; rw [h]; rfl
    have eN : coN kind n g = 0 := by unfold coN; rw [h]; rfl
    rw [eV, eN, h]
    exact selF_of rfl <| selT_of rfl <| ⟨⟨⟨hni, by show (0 : Int) ≤ 0 + 1; omega, by show ((0 + 1 + 1 + 1) : Int) ≤ 4611686018427387904; omega⟩, trivial⟩, ⟨⟨⟨hni, by show (0 : Int) ≤ 0 + 1 + 1 + 1; omega, by show ((0 + 1 + 1 + 1 + 1) : Int) ≤ 4611686018427387904; omega⟩, by omega, by omega⟩, selF_of rfl <| selF_of rfl <| ⟨0, by repeat (first | exact rfl | refine ⟨rfl, ?_⟩ | refine ⟨⟨rfl, rfl, rfl, rfl⟩, ?_⟩), ⟨rfl, rfl, trivial⟩, trivial⟩⟩⟩
  · have eV : coV kind n g = sV3 n g := by unfold coV; rw [h]; rfl
    have eN : coN kind n g = 0 := by unfold coN; rw [h]; rfl
    rw [eV, eN, h]
    exact selF_of rfl <| selF_of rfl <| selT_of rfl <| ⟨⟨⟨hni, by show (0 : Int) ≤ 0 + 1; omega, by show ((0 + 1 + 1 + 1) : Int) ≤ 4611686018427387904; omega⟩, trivial⟩, ⟨⟨⟨hni, by show (0 : Int) ≤ 0 + 1 + 1 + 1; omega, by show ((0 + 1 + 1 + 1 + 1) : Int) ≤ 4611686018427387904; omega⟩, by omega, by omega⟩, selT_of rfl <| ⟨⟨⟨hni, by show (0 : Int) ≤ 0 + 1 + 1 + 1 + 1; omega, by show ((0 + 1 + 1 + 1 + 1 + 1 + 1) : Int) ≤ 4611686018427387904; omega⟩, trivial⟩, selT_of rfl <| ⟨⟨⟨hni, by show (0 : Int) ≤ 0 + 1 + 1 + 1 + 1 + 1 + 1; omega, by show ((0 + 1 + 1 + 1 + 1 + 1 + 1 + 1 + 1) : Int) ≤ 4611686018427387904; omega⟩, trivial⟩, ⟨0, by repeat (first | exact rfl | refine ⟨rfl, ?_⟩ | refine ⟨⟨rfl, rfl, rfl, rfl⟩, ?_⟩), ⟨rfl, rfl, trivial⟩, trivial⟩⟩⟩⟩⟩
  · have eV : coV kind n g = sV4 n g := by unfold coV; rw [h]; rfl
    have eN : coN kind n g = 0 := by unfold coN; rw [h]; rfl
    rw [eV, eN, h]
    exact selF_of rfl <| selF_of rfl <| selF_of rfl <| selT_of rfl <| ⟨⟨⟨hni, by show (0 : Int) ≤ 0 + 1; omega, by show ((0 + 1 + 1 + 1) : Int) ≤ 4611686018427387904; omega⟩, trivial⟩, ⟨⟨⟨hni, by show (0 : Int) ≤ 0 + 1 + 1 + 1; omega, by show ((0 + 1 + 1 + 1 + 1) : Int) ≤ 4611686018427387904; omega⟩, by omega, by omega⟩, selT_of rfl <| ⟨⟨⟨hni, by show (0 : Int) ≤ 0 + 1 + 1 + 1 + 1; omega, by show ((0 + 1 + 1 + 1 + 1 + 1 + 1) : Int) ≤ 4611686018427387904; omega⟩, trivial⟩, selF_of rfl <| ⟨0, by repeat (first | exact rfl | refine ⟨rfl, ?_⟩ | refine ⟨⟨rfl, rfl, rfl, rfl⟩, ?_⟩), ⟨rfl, rfl, trivial⟩, trivial⟩⟩⟩⟩
  · have eV : coV kind n g = sV5 n g := by unfold coV; rw [h]; rfl
    have eN : coN kind n g = 0 := by unfold coN; rw [h]; rfl
    rw [eV, eN, h]
    exact selF_of rfl <| selF_of rfl <| selF_of rfl <| selF_of rfl <| selT_of rfl <| ⟨⟨⟨hni, by show (0 : Int) ≤ 0 + 1; omega, by show ((0 + 1 + 1) : Int) ≤ 4611686018427387904; omega⟩, by omega, by omega⟩, ⟨⟨⟨hni, by show (0 : Int) ≤ 0 + 1 + 1; omega, by show ((0 + 1 + 1 + 1 + 1) : Int) ≤ 4611686018427387904; omega⟩, trivial⟩, ⟨0, by repeat (first | exact rfl | refine ⟨rfl, ?_⟩ | refine ⟨⟨rfl, rfl, rfl, rfl⟩, ?_⟩), ⟨rfl, rfl, trivial⟩, trivial⟩⟩⟩
  · have eV : coV kind n g = sV6 n g := by unfold coV; rw [h]; rfl
    have eN : coN kind n g = 0 := by unfold coN; rw [h]; rfl
    rw [eV, eN, h]
    exact selF_of rfl <| selF_of rfl <| selF_of rfl <| selF_of rfl <| selF_of rfl <| selT_of rfl <| ⟨⟨⟨hni, by show (0 : Int) ≤ 0 + 1; omega, by show ((0 + 1 + 1) : Int) ≤ 4611686018427387904; omega⟩, by omega, by omega⟩, ⟨0, by repeat (first | exact rfl | refine ⟨rfl, ?_⟩ | refine ⟨⟨rfl, rfl, rfl, rfl⟩, ?_⟩), ⟨rfl, rfl, trivial⟩, trivial⟩⟩
  · have eV : coV kind n g = sV7 n g := by unfold coV; rw [h]; rfl
    have eN : coN kind n g = 0 := by unfold coN; rw [h]; rfl
    rw [eV, eN, h]
    exact selF_of rfl <| selF_of rfl <| selF_of rfl <| selF_of rfl <| selF_of rfl <| selF_of rfl <| selT_of rfl <| ⟨⟨⟨hni, by show (0 : Int) ≤ 0 + 1; omega, by show ((0 + 1 + 1 + 1) : Int) ≤ 4611686018427387904; omega⟩, trivial⟩, ⟨0, by repeat (first | exact rfl | refine ⟨rfl, ?_⟩ | refine ⟨⟨rfl, rfl, rfl, rfl⟩, ?_⟩), ⟨rfl, rfl, trivial⟩, trivial⟩⟩
  · have eV : coV kind n g = sV8 n g := by unfold coV; rw [h]; rfl
    have eN : coN kind n g = 0 := by unfold coN; rw [h]; rfl
    rw [eV, eN, h]
    exact selF_of rfl <| selF_of rfl <| selF_of rfl <| selF_of rfl <| selF_of rfl <| selF_of rfl <| selF_of rfl <| selT_of rfl <| ⟨⟨⟨hni, by show (0 : Int) ≤ 0 + 1; omega, by show ((0 + 1 + 1) : Int) ≤ 4611686018427387904; omega⟩, trivial⟩, ⟨⟨⟨hni, by show (0 : Int) ≤ 0 + 1 + 1; omega, by show ((0 + 1 + 1 + 1) : Int) ≤ 4611686018427387904; omega⟩, trivial⟩, ⟨⟨⟨hni, by show (0 : Int) ≤ 0 + 1 + 1 + 1; omega, by show ((0 + 1 + 1 + 1 + 1) : Int) ≤ 4611686018427387904; omega⟩, trivial⟩, ⟨⟨⟨hni, by show (0 : Int) ≤ 0 + 1 + 1 + 1 + 1; omega, by show ((0 + 1 + 1 + 1 + 1 + 1) : Int) ≤ 4611686018427387904; omega⟩, trivial⟩, ⟨0, by repeat (first | exact rfl | refine ⟨rfl, ?_⟩ | refine ⟨⟨rfl, rfl, rfl, rfl⟩, ?_⟩), ⟨rfl, rfl, trivial⟩, trivial⟩⟩⟩⟩⟩
  · have eV : coV kind n g = sV9 n g := by unfold coV; rw [h]; rfl
    have eN : coN kind n g = 0 := by unfold coN; rw [h]; rfl
    rw [eV, eN, h]
    exact selF_of rfl <| selF_of rfl <| selF_of rfl <| selF_of rfl <| selF_of rfl <| selF_of rfl <| selF_of rfl <| selF_of rfl <| selT_of rfl <| ⟨⟨⟨hni, by show (0 : Int) ≤ 0 + 1; omega, by show ((0 + 1 + 1 + 1) : Int) ≤ 4611686018427387904; omega⟩, trivial⟩, ⟨⟨⟨hni, by show (0 : Int) ≤ 0 + 1 + 1 + 1; omega, by show ((0 + 1 + 1 + 1 + 1 + 1) : Int) ≤ 4611686018427387904; omega⟩, trivial⟩, ⟨0, by repeat (first | exact rfl | refine ⟨rfl, ?_⟩ | refine ⟨⟨rfl, rfl, rfl, rfl⟩, ?_⟩), ⟨rfl, rfl, trivial⟩, trivial⟩⟩⟩
  · have eV : coV kind n g = sV10 n g := by unfold coV; rw [h]; rfl
    have eN : coN kind n g = 0 := by unfold coN; rw [h]; rfl
    rw [eV, eN, h]
    exact selF_of rfl <| selF_of rfl <| selF_of rfl <| selF_of rfl <| selF_of rfl <| selF_of rfl <| selF_of rfl <| selF_of rfl <| selF_of rfl <| ⟨0, by repeat (first | exact rfl | refine ⟨rfl, ?_⟩ | refine ⟨⟨rfl, rfl, rfl, rfl⟩, ?_⟩), ⟨rfl, rfl, trivial⟩, trivial⟩
theorem CallOf_spec : HpSpec Try.prog 23 sCallOf := hp_spec hm ΓSe_ok Try.func23 (Λ := fun _ _ => noΛ) fun args bs e hs hp => by
  unfold sCallOf at hs
  split at hs <;> try (cases hs; done)
  rename_i kind n cap D
  obtain ⟨ha, he⟩ := bif_some hs
  subst he
  obtain ⟨h1, h2⟩ := hp
  exact ⟨[niB D.elem n (gI D) D.ext D.whole], ⟨same_niB ha h1, trivial⟩, callOf_vc h2 (niPre_ok h1)⟩
end Go.Proofs.Ytjdldadmaaeimaa
end

section
set_option maxRecDepth 100000
set_option linter.unusedSimpArgs false
set_option linter.unusedVariables false
namespace Go.Proofs.Ytjdldadmaaeimaa
open Go.SE Go.RowKit

theorem fr_no {m : Int} (hm : 0 ≤ m) (x : Int) : notIn (frV m x) m = false := notIn_of (fr_rng hm x)
theorem fr_i64 {m : Int} (hm : 0 ≤ m) (hm2 : m ≤ 4611686018427387904) (x : Int) : I64 (frV m x) := by
  have := fr_rng hm x
  exact ⟨by omega, by omega⟩
theorem nuV_i64 {x : Int} (h : I64 x) : I64 (nuV x) := by
  unfold nuV
  rw [hide_eq]
  cases decide (x = -9223372036854775808) with
  | true => exact i0
  | false => exact h
theorem nuV_no (x : Int) : isMin (nuV x) = false := by
  unfold nuV isMin
  rw [hide_eq]
  by_cases h : x = -9223372036854775808
  · rw [decide_eq_true h]; rfl
  · rw [decide_eq_false h]
    simpa using h
theorem co_1 {n : Nat} {g : Nat → Int} (hg : gOk n g) : cvOk (sV1 n g) ∧ badB 1 (sV1 n g) (srC n g (0 + 1)) = false := by
  refine ⟨⟨fr_i64 (by omega) (by omega) _, i0, i0, i0, fr_i64 (by omega) (by omega) _, nx_rng hg (by have := srEnd_rng n g; show (0 : Int) ≤ 0 + 1 + 1; omega), nx_rng hg (by have := srEnd_rng n g; show (0 : Int) ≤ 0 + 1 + 1 + 1; omega), nx_rng hg (by have := srEnd_rng n g; show (0 : Int) ≤ 0 + 1 + 1 + 1 + 1; omega), nuV_i64 (nx_rng hg (by have := srEnd_rng n g; show (0 : Int) ≤ srEnd n g (0 + 1); omega)), nuV_i64 (nx_rng hg (by have := srEnd_rng n g; show (0 : Int) ≤ srEnd n g (0 + 1) + 1; omega)), nuV_i64 (nx_rng hg (by have := srEnd_rng n g; show (0 : Int) ≤ srEnd n g (0 + 1) + 1 + 1; omega)), nuV_i64 (nx_rng hg (by have := srEnd_rng n g; show (0 : Int) ≤ srEnd n g (0 + 1) + 1 + 1 + 1; omega)), nuV_i64 (nx_rng hg (by have := srEnd_rng n g; show (0 : Int) ≤ srEnd n g (0 + 1) + 1 + 1 + 1 + 1; omega)), nuV_i64 (nx_rng hg (by have := srEnd_rng n g; show (0 : Int) ≤ srEnd n g (0 + 1) + 1 + 1 + 1 + 1 + 1; omega)), nuV_i64 (nx_rng hg (by have := srEnd_rng n g; show (0 : Int) ≤ srEnd n g (0 + 1) + 1 + 1 + 1 + 1 + 1 + 1; omega)), nx_rng hg (by have := srEnd_rng n g; show (0 : Int) ≤ srEnd n g (0 + 1) + 1 + 1 + 1 + 1 + 1 + 1 + 1; omega), i0, i0, i0, i0, i0, i0, i0, i0, i0, i0, i0, i0, i0⟩, ?_⟩
  show caB (sV1 n g) (caB1 (sV1 n g) (srC n g (0 + 1))) = false
  simp only [caB, caB1, hBad, shBad, Bool.or_eq_false_iff, and_assoc]
  exact ⟨fr_no (by omega) _, fr_no (by omega) _, notIn_of ⟨by omega, by have := srC_le n g (0 + 1); omega⟩, nuV_no _, nuV_no _, nuV_no _, nuV_no _, nuV_no _, nuV_no _, nuV_no _⟩
theorem co_2 {n : Nat} {g : Nat → Int} (hg : gOk n g) (N : Nat) : cvOk (sV2 n g) ∧ badB 2 (sV2 n g) N = false := by
  refine ⟨⟨fr_i64 (by omega) (by omega) _, fr_i64 (by omega) (by omega) _, fr_i64 (by omega) (by omega) _, fr_i64 (by omega) (by omega) _, i0, i0, i0, i0, i0, i0, i0, i0, i0, i0, i0, i0, i0, i0, i0, i0, i0, i0, i0, i0, i0, i0, i0, i0, i0⟩, ?_⟩
  show caB (sV2 n g) (caB2 (sV2 n g) N) = false
  simp only [caB, caB2, hBad, shBad, Bool.or_eq_false_iff, and_assoc]
  exact ⟨fr_no (by omega) _, fr_no (by omega) _, fr_no (by omega) _, fr_no (by omega) _⟩
theorem co_3 {n : Nat} {g : Nat → Int} (hg : gOk n g) (N : Nat) : cvOk (sV3 n g) ∧ badB 3 (sV3 n g) N = false := by
  refine ⟨⟨fr_i64 (by omega) (by omega) _, fr_i64 (by omega) (by omega) _, fr_i64 (by omega) (by omega) _, fr_i64 (by omega) (by omega) _, i0, i0, i0, i0, i0, i0, i0, i0, i0, i0, i0, i0, nuV_i64 (nx_rng hg (by show (0 : Int) ≤ 0 + 1 + 1 + 1 + 1; omega)), nuV_i64 (nx_rng hg (by show (0 : Int) ≤ 0 + 1 + 1 + 1 + 1 + 1; omega)), nuV_i64 (nx_rng hg (by show (0 : Int) ≤ 0 + 1 + 1 + 1 + 1 + 1 + 1; omega)), nuV_i64 (nx_rng hg (by show (0 : Int) ≤ 0 + 1 + 1 + 1 + 1 + 1 + 1 + 1; omega)), i0, i0, i0, i0, i0, i0, i0, i0, i0⟩, ?_⟩
  show caB (sV3 n g) (caB3 (sV3 n g) N) = false
  simp only [caB, caB3, hBad, shBad, Bool.or_eq_false_iff, and_assoc]
  exact ⟨fr_no (by omega) _, fr_no (by omega) _, fr_no (by omega) _, fr_no (by omega) _, nuV_no _, nuV_no _, nuV_no _, nuV_no _⟩
theorem co_4 {n : Nat} {g : Nat → Int} (hg : gOk n g) (N : Nat) : cvOk (sV4 n g) ∧ badB 4 (sV4 n g) N = false := by
  refine ⟨⟨fr_i64 (by omega) (by omega) _, fr_i64 (by omega) (by omega) _, fr_i64 (by omega) (by omega) _, fr_i64 (by omega) (by omega) _, i0, i0, i0, i0, i0, i0, i0, i0, i0, i0, i0, i0, nuV_i64 (nx_rng hg (by show (0 : Int) ≤ 0 + 1 + 1 + 1 + 1; omega)), nuV_i64 (nx_rng hg (by show (0 : Int) ≤ 0 + 1 + 1 + 1 + 1 + 1; omega)), i0, i0, i0, i0, i0, i0, i0, i0, i0, i0, i0⟩, ?_⟩
  show caB (sV4 n g) (caB4 (sV4 n g) N) = false
  simp only [caB, caB4, hBad, shBad, Bool.or_eq_false_iff, and_assoc]
  exact ⟨fr_no (by omega) _, fr_no (by omega) _, fr_no (by omega) _, fr_no (by omega) _, nuV_no _, nuV_no _⟩
theorem co_5 {n : Nat} {g : Nat → Int} (hg : gOk n g) (N : Nat) : cvOk (sV5 n g) ∧ badB 5 (sV5 n g) N = false := by
  refine ⟨⟨fr_i64 (by omega) (by omega) _, i0, i0, i0, i0, i0, i0, i0, i0, i0, i0, i0, i0, i0, i0, i0, i0, i0, nuV_i64 (nx_rng hg (by show (0 : Int) ≤ 0 + 1 + 1; omega)), nuV_i64 (nx_rng hg (by show (0 : Int) ≤ 0 + 1 + 1 + 1; omega)), fr_i64 (by omega) (by omega) _, i0, i0, i0, i0, i0, i0, i0, i0⟩, ?_⟩
  show caB (sV5 n g) (caB5 (sV5 n g) N) = false
  simp only [caB, caB5, hBad, shBad, Bool.or_eq_false_iff, and_assoc]
  exact ⟨fr_no (by omega) _, fr_no (by omega) _, nuV_no _, nuV_no _⟩
theorem co_6 {n : Nat} {g : Nat → Int} (hg : gOk n g) (N : Nat) : cvOk (sV6 n g) ∧ badB 6 (sV6 n g) N = false := by
  refine ⟨⟨fr_i64 (by omega) (by omega) _, i0, i0, i0, i0, i0, i0, i0, i0, i0, i0, i0, i0, i0, i0, i0, i0, i0, i0, i0, fr_i64 (by omega) (by omega) _, i0, i0, i0, i0, i0, i0, i0, i0⟩, ?_⟩
  show caB (sV6 n g) (caB6 (sV6 n g) N) = false
  simp only [caB, caB6, hBad, shBad, Bool.or_eq_false_iff, and_assoc]
  exact ⟨fr_no (by omega) _, fr_no (by omega) _⟩
theorem co_7 {n : Nat} {g : Nat → Int} (hg : gOk n g) (N : Nat) : cvOk (sV7 n g) ∧ badB 7 (sV7 n g) N = false := by
  refine ⟨⟨fr_i64 (by omega) (by omega) _, fr_i64 (by omega) (by omega) _, fr_i64 (by omega) (by omega) _, i0, i0, i0, i0, i0, i0, i0, i0, i0, i0, i0, i0, i0, i0, i0, i0, i0, i0, i0, i0, i0, i0, i0, i0, i0, i0⟩, ?_⟩
  show caB (sV7 n g) (caB7 (sV7 n g) N) = false
  simp only [caB, caB7, hBad, shBad, Bool.or_eq_false_iff, and_assoc]
  exact ⟨fr_no (by omega) _, fr_no (by omega) _, fr_no (by omega) _⟩
theorem co_8 {n : Nat} {g : Nat → Int} (hg : gOk n g) (N : Nat) : cvOk (sV8 n g) ∧ badB 8 (sV8 n g) N = false := by
  refine ⟨⟨fr_i64 (by omega) (by omega) _, i0, i0, i0, i0, i0, i0, i0, i0, i0, i0, i0, i0, i0, i0, i0, i0, i0, i0, i0, i0, nx_rng hg (by show (0 : Int) ≤ 0 + 1; omega), nx_rng hg (by show (0 : Int) ≤ 0 + 1 + 1; omega), nx_rng hg (by show (0 : Int) ≤ 0 + 1 + 1 + 1; omega), nx_rng hg (by show (0 : Int) ≤ 0 + 1 + 1 + 1 + 1; omega), i0, i0, i0, i0⟩, ?_⟩
  show caB (sV8 n g) (caB8 (sV8 n g) N) = false
  simp only [caB, caB8, hBad, shBad, Bool.or_eq_false_iff, and_assoc]
  first | exact fr_no (by omega) _ | exact ⟨fr_no (by omega) _, trivial⟩ | exact ⟨fr_no (by omega) _, rfl⟩
theorem co_9 {n : Nat} {g : Nat → Int} (hg : gOk n g) (N : Nat) : cvOk (sV9 n g) ∧ badB 9 (sV9 n g) N = false := by
  refine ⟨⟨fr_i64 (by omega) (by omega) _, i0, i0, i0, i0, i0, i0, i0, i0, i0, i0, i0, i0, i0, i0, i0, i0, i0, i0, i0, i0, i0, i0, i0, i0, nx_rng hg (by show (0 : Int) ≤ 0 + 1; omega), nx_rng hg (by show (0 : Int) ≤ 0 + 1 + 1; omega), nx_rng hg (by show (0 : Int) ≤ 0 + 1 + 1 + 1; omega), nx_rng hg (by show (0 : Int) ≤ 0 + 1 + 1 + 1 + 1; omega)⟩, ?_⟩
  show caB (sV9 n g) (caB9 (sV9 n g) N) = false
  simp only [caB, caB9, hBad, shBad, Bool.or_eq_false_iff, and_assoc]
  first | exact fr_no (by omega) _ | exact ⟨fr_no (by omega) _, trivial⟩ | exact ⟨fr_no (by omega) _, rfl⟩
theorem co_10 {n : Nat} {g : Nat → Int} (hg : gOk n g) (N : Nat) : cvOk (sV10 n g) ∧ badB 10 (sV10 n g) N = false := by
  refine ⟨⟨fr_i64 (by omega) (by omega) _, i0, i0, i0, i0, i0, i0, i0, i0, i0, i0, i0, i0, i0, i0, i0, i0, i0, i0, i0, i0, i0, i0, i0, i0, i0, i0, i0, i0⟩, ?_⟩
  show caB (sV10 n g) (caB10 (sV10 n g) N) = false
  simp only [caB, caB10, hBad, shBad, Bool.or_eq_false_iff, and_assoc]
  first | exact fr_no (by omega) _ | exact ⟨fr_no (by omega) _, trivial⟩ | exact ⟨fr_no (by omega) _, rfl⟩
theorem co_ok (kind : Int) {n : Nat} {g : Nat → Int} (hg : gOk n g) : (cvOk (coV kind n g) ∧ coN kind n g ≤ 8 ∧ ∀ i, I64 (coSp n g i).1 ∧ I64 (coSp n g i).2) ∧ callE (coK kind) (coV kind n g) (coN kind n g) (coSp n g) = 0 := by
  have hs : ∀ i, I64 (coSp n g i).1 ∧ I64 (coSp n g i).2 := fun i => ⟨nx_rng hg (by show (0 : Int) ≤ 0 + 1 + 1 + 1 + 1 + 1 + 1 + 2 * (i : Int); omega), nx_rng hg (by show (0 : Int) ≤ 0 + 1 + 1 + 1 + 1 + 1 + 1 + 2 * (i : Int) + 1; omega)⟩
  have hk := coK_rng kind
  have hC := srC_le n g (0 + 1)
  rcases coK_cases kind with h | h | h | h | h | h | h | h | h | h
  · have eV : coV kind n g = sV1 n g := by unfold coV; rw [h]; rfl
    have eN : coN kind n g = srC n g (0 + 1) := by unfold coN; rw [h]; rfl
    rw [eV, eN, h]
    obtain ⟨c1, c2⟩ := co_1 hg
    exact ⟨⟨c1, by omega, hs⟩, (callE_of (by omega) (form_of rfl fun hn => absurd rfl hn) c2).1⟩
  · have eV : coV kind n g = sV2 n g := by unfold coV; rw [h]; rfl
    have eN : coN kind n g = 0 := by unfold coN; rw [h]; rfl
    rw [eV, eN, h]
    obtain ⟨c1, c2⟩ := co_2 hg 0
    exact ⟨⟨c1, by omega, hs⟩, (callE_of (by omega) (form_of rfl fun hn => rfl) c2).1⟩
  · have eV : coV kind n g = sV3 n g := by unfold coV; rw [h]; rfl
    have eN : coN kind n g = 0 := by unfold coN; rw [h]; rfl
    rw [eV, eN, h]
    obtain ⟨c1, c2⟩ := co_3 hg 0
    exact ⟨⟨c1, by omega, hs⟩, (callE_of (by omega) (form_of rfl fun hn => rfl) c2).1⟩
  · have eV : coV kind n g = sV4 n g := by unfold coV; rw [h]; rfl
    have eN : coN kind n g = 0 := by unfold coN; rw [h]; rfl
    rw [eV, eN, h]
    obtain ⟨c1, c2⟩ := co_4 hg 0
    exact ⟨⟨c1, by omega, hs⟩, (callE_of (by omega) (form_of rfl fun hn => rfl) c2).1⟩
  · have eV : coV kind n g = sV5 n g := by unfold coV; rw [h]; rfl
    have eN : coN kind n g = 0 := by unfold coN; rw [h]; rfl
    rw [eV, eN, h]
    obtain ⟨c1, c2⟩ := co_5 hg 0
    exact ⟨⟨c1, by omega, hs⟩, (callE_of (by omega) (form_of rfl fun hn => rfl) c2).1⟩
  · have eV : coV kind n g = sV6 n g := by unfold coV; rw [h]; rfl
    have eN : coN kind n g = 0 := by unfold coN; rw [h]; rfl
    rw [eV, eN, h]
    obtain ⟨c1, c2⟩ := co_6 hg 0
    exact ⟨⟨c1, by omega, hs⟩, (callE_of (by omega) (form_of rfl fun hn => rfl) c2).1⟩
  · have eV : coV kind n g = sV7 n g := by unfold coV; rw [h]; rfl
    have eN : coN kind n g = 0 := by unfold coN; rw [h]; rfl
    rw [eV, eN, h]
    obtain ⟨c1, c2⟩ := co_7 hg 0
    exact ⟨⟨c1, by omega, hs⟩, (callE_of (by omega) (form_of rfl fun hn => rfl) c2).1⟩
  · have eV : coV kind n g = sV8 n g := by unfold coV; rw [h]; rfl
    have eN : coN kind n g = 0 := by unfold coN; rw [h]; rfl
    rw [eV, eN, h]
    obtain ⟨c1, c2⟩ := co_8 hg 0
    exact ⟨⟨c1, by omega, hs⟩, (callE_of (by omega) (form_of rfl fun hn => rfl) c2).1⟩
  · have eV : coV kind n g = sV9 n g := by unfold coV; rw [h]; rfl
    have eN : coN kind n g = 0 := by unfold coN; rw [h]; rfl
    rw [eV, eN, h]
    obtain ⟨c1, c2⟩ := co_9 hg 0
    exact ⟨⟨c1, by omega, hs⟩, (callE_of (by omega) (form_of rfl fun hn => rfl) c2).1⟩
  · have eV : coV kind n g = sV10 n g := by unfold coV; rw [h]; rfl
    have eN : coN kind n g = 0 := by unfold coN; rw [h]; rfl
    rw [eV, eN, h]
    obtain ⟨c1, c2⟩ := co_10 hg 0
    exact ⟨⟨c1, by omega, hs⟩, (callE_of (by omega) (form_of rfl fun hn => rfl) c2).1⟩
end Go.Proofs.Ytjdldadmaaeimaa
end

section
set_option maxRecDepth 100000
set_option linter.unusedSimpArgs false
set_option linter.unusedVariables false
namespace Go.Proofs.Ytjdldadmaaeimaa
open Go.SE Go.RowKit
theorem rk_back {k : Int} {c : CV} {n : Nat} {g : Nat → Int × Int} (hc : cvOk c) (hg : ∀ i, i < n → I64 (g i).1 ∧ I64 (g i).2) (h : callE k c n g = 0) : (caP (callT k c n g) 0).bad = false ∧ rkE (callT k c n g) = 0 ∧ rkK (callT k c n g) = k ∧ rkV (callT k c n g) = c ∧ rkN (callT k c n g) = n ∧ ∀ i, i < n → rkSp (callT k c n g) i = g i := by
  obtain ⟨h1, h2, h3, h4, h5⟩ := call_back hc hg h
  unfold rkE rkK rkV rkN rkSp
  rw [h1]
  exact ⟨rfl, rfl, h2, h3, h4, h5⟩
theorem sameS_congr {a : ShB} {n : Nat} {g h : Nat → Int × Int} (e : ∀ i, i < n → g i = h i) : sameS a n g a n h = true := by
  unfold sameS
  rw [eqSh_self, Bool.true_and]
  unfold sameP
  rw [Nat.beq_refl, Bool.true_and]
  exact List.all_eq_true.2 fun i hi => by
    rw [e i (List.mem_range.1 hi)]
    unfold eqP
    rw [beq_self_eq_true, beq_self_eq_true]; rfl
theorem sameS_eq {a b : ShB} {n m : Nat} {g h : Nat → Int × Int} (e : sameS a n g b m h = true) : eqSh a b = true ∧ n = m ∧ ∀ i, i < n → g i = h i := by
  unfold sameS sameP at e
  rw [Bool.and_eq_true, Bool.and_eq_true] at e
  refine ⟨e.1, Nat.eq_of_beq_eq_true e.2.1, fun i hi => ?_⟩
  have := List.all_eq_true.1 e.2.2 i (List.mem_range.2 hi)
  unfold eqP at this
  rw [Bool.and_eq_true] at this
  exact Prod.ext (beq_iff_eq.1 this.1) (beq_iff_eq.1 this.2)
theorem cv_k {k1 k2 : Int} {a b : CV} {s : Bool} (h : sameCB k1 k2 a b s = true) : k1 = k2 := by
  simp only [sameCB, Bool.and_eq_true, beq_iff_eq] at h
  exact h.1
theorem kT_congr {k : Int} {c : CV} {n : Nat} {g h : Nat → Int × Int} (hk : 1 ≤ k ∧ k ≤ 10) (hn : k = 1 → n ≤ 8) (e : ∀ i, i < n → g i = h i) : callBs k c n g = callBs k c n h := by
  apply byt_inj
  rw [bytes_enc hk hn, bytes_enc hk hn]
  congr 1
  unfold vsC vsK
  by_cases h1 : k = 1
  · subst h1
    show 1 :: c.id % 4294967296 :: vs1 c n g = 1 :: c.id % 4294967296 :: vs1 c n h
    unfold vs1
    rw [spVs_congr e]
  · rw [show (k == 1) = false by simpa using h1]
    rfl
theorem apart {k1 k2 : Int} {a b : CV} {n m : Nat} {g h : Nat → Int × Int} (ha : cvOk a) (hb : cvOk b) (hg : ∀ i, I64 (g i).1 ∧ I64 (g i).2) (hh : ∀ i, I64 (h i).1 ∧ I64 (h i).2) (e1 : callE k1 a n g = 0) (e2 : callE k2 b m h = 0) : sameCB k1 k2 a b (sameS (shOf a) n g (shOf b) m h) = (callT k1 a n g == callT k2 b m h) := by
  obtain ⟨hk, hf, hbd⟩ := callE0 e1
  obtain ⟨hk2, hf2, hbd2⟩ := callE0 e2
  cases hs : sameCB k1 k2 a b (sameS (shOf a) n g (shOf b) m h) with
  | true =>
    obtain ⟨i1, i2, i3⟩ := sameS_eq (cv_s hs)
    have ek := cv_k hs
    have eab := cv_eq hs i1
    subst ek eab i2
    symm
    rw [ba_beq, (callE_of hk hf hbd).2, (callE_of hk2 hf2 hbd2).2]
    exact kT_congr hk (fun h1 => bad_n (h1 ▸ hbd)) i3
  | false =>
    symm
    cases ht : (callT k1 a n g == callT k2 b m h) with
    | false => rfl
    | true =>
      have ht := (ba_beq _ _).1 ht
      obtain ⟨_, _, r1, r2, r3, r4⟩ := rk_back ha (fun i _ => hg i) e1
      obtain ⟨_, _, q1, q2, q3, q4⟩ := rk_back hb (fun i _ => hh i) e2
      rw [ht] at r1 r2 r3 r4
      have ek : k1 = k2 := r1.symm.trans q1
      have ec : a = b := r2.symm.trans q2
      have en : n = m := r3.symm.trans q3
      subst ek ec en
      rw [sameS_congr fun i hi => (r4 i hi).symm.trans (q4 i hi), cv_self] at hs
      cases hs
end Go.Proofs.Ytjdldadmaaeimaa
end
end
