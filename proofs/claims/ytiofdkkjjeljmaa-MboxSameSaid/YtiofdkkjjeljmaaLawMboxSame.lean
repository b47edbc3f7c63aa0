/- The row of the law MboxSame, out of its walk; written by mkrow2.py, a program of this session. -/
import Derived.Test.YtiofdkkjjeljmaaRows
import Derived.Test.YtiofdkkjjeljmaaMbSameRow
import Derived.Test.YtiofdkkjjeljmaaOpen
import Derived.WalkKit
import Derived.ProofKit
import Derived.OpenShut
import Derived.ShutString
import Derived.ChangeOld
import Derived.Below
import Derived.Carry
import Derived.SizedLaws
import Derived.ChangeSlices
import Derived.Lib.SmallJoins
namespace Go.Proofs.Ytiofdkkjjeljmaa.mboxSame
open Go.ChangeShapes Go.WideShapes Go.ChangeAt Go.RowKit Go.Joins
open Go.ChangeMaps (open_string shut_string)
set_option linter.unusedVariables false
set_option linter.unusedSimpArgs false
theorem own : ownKnob Try.prog.godebug = none := by kernel_rfl
theorem laidOut : laidOutB Try.prog = true := by kernel_rfl
theorem open_arr2 {H : Type} {enc : TypeId × Value → H} {P : Program} {w : World} {base : Nat} {spare : Nat → Bool} {held : Bool} {r : Reach} {b0 : Nat} {t e : TypeId} {v : Value} {d : DataW H} {p : List MemPlace} (ht : P.underlying t = some (.array 2 e)) (he : P.underlying e = some (.int .i64)) (hC : P.cellsOf t = 2) (hce : P.cellsOf e = 1)
    (hv : Value.okWide P w r b0 t v) (h : DataW.Trod enc P w base spare held t v d p) : ∃ a0 a1 : Int, v = .agg #[.int .i64 a0, .int .i64 a1] ∧ (Lit.int .i64 a0).wf = true ∧ (Lit.int .i64 a1).wf = true := by
  simp only [Value.okWide, ht] at hv
  obtain ⟨cs, rfl, hsz, _⟩ := hv
  rw [hC] at hsz
  obtain ⟨c0, c1, rfl⟩ := array2 hsz
  obtain ⟨fuel, hf⟩ := h
  obtain ⟨xs, m, _, _, _, hl, hg⟩ := DataW.trod_array ht hf
  match xs, hl with
  | [y0, y1], _ =>
    have g0 := hg 0 (by omega)
    have g1 := hg 1 (by omega)
    rw [hce] at g0 g1
    obtain ⟨a0, e0, _, w0⟩ := DataW.trod_int he g0
    obtain ⟨a1, e1, _, w1⟩ := DataW.trod_int he g1
    simp [Value.cells] at e0 e1
    subst e0 e1
    exact ⟨a0, a1, rfl, w0, w1⟩
theorem open_arecs {H : Type} {enc : TypeId × Value → H} {P : Program} {w : World} {base : Nat} {held : Bool} {r : Reach} {b0 : Nat} {t s e : TypeId} {fs : Array Field} {k : Nat} {v : Value} {d : DataW H} {p : List MemPlace} (ha : P.underlying t = some (.array 2 s)) (hs : P.underlying s = some (.slice e)) (he : P.underlying e = some (.struct fs)) (hk : fs.size = k)
    (hint : Open.intsB P fs = true) (hone : Go.Deep.oneCellFields P fs = true) (hC : P.cellsOf e = fs.size) (hCt : P.cellsOf t = 2) (hCs : P.cellsOf s = 1)
    (hv : Value.okWide P w r b0 t v) (h : DataW.Trod enc P w base (fun _ => true) held t v d p) :
    ∃ (A0 A1 : Option Addr) (c0 c1 : Nat) (rows0 rows1 : List (List Int)), v = .agg #[.slice A0 rows0.length c0, .slice A1 rows1.length c1] ∧ (rows0.length ≤ c0 ∧ c0 ≤ maxLen ∧ Open.Recs k w A0 rows0 ∧ ∀ q ∈ rows0, q.length = k ∧ ∀ z ∈ q, (Lit.int .i64 z).wf = true) ∧ (rows1.length ≤ c1 ∧ c1 ≤ maxLen ∧ Open.Recs k w A1 rows1 ∧ ∀ q ∈ rows1, q.length = k ∧ ∀ z ∈ q, (Lit.int .i64 z).wf = true) := by
  simp only [Value.okWide, ha] at hv
  obtain ⟨cs, rfl, hsz, _⟩ := hv
  rw [hCt] at hsz
  obtain ⟨c0, c1, rfl⟩ := array2 hsz
  obtain ⟨fuel, hf⟩ := h
  obtain ⟨xs, m, _, _, _, hl, hg⟩ := DataW.trod_array ha hf
  match xs, hl with
  | [y0, y1], _ =>
    have g0 := hg 0 (by omega)
    have g1 := hg 1 (by omega)
    rw [hCs] at g0 g1
    have h0 : DataW.trod enc P w base (fun _ => true) held m s [c0] = some y0 := by simpa [Value.cells] using g0
    have h1 : DataW.trod enc P w base (fun _ => true) held m s [c1] = some y1 := by simpa [Value.cells] using g1
    obtain ⟨A0, k0, rows0, e0, f0⟩ := Open.open_recs1 hs he hk hint hone hC h0
    obtain ⟨A1, k1, rows1, e1, f1⟩ := Open.open_recs1 hs he hk hint hone hC h1
    subst e0 e1
    exact ⟨A0, A1, k0, k1, rows0, rows1, rfl, f0, f1⟩
set_option maxRecDepth 100000 in
theorem lifted (os : Os) (started : os.Started) (H : Type) (enc : TypeId × Value → H) :
    ReturnsInHanded {} Try.checked os 12 .any (Rows.mboxSameSpec.pre6 enc Try.prog Try.f12 Rows.mboxSameRow.domain false) (Rows.mboxSameSpec.post enc Try.prog Try.f12 false true false false) := by
  refine returnsInHanded_of_change_sized (C := Try.checked) own started (by kernel_rfl) Try.func12
    (ChangeSpec.witness6 (enc := enc) (C := Try.checked) false ⟨#[], #[.agg #[.int .i64 0, .int .i64 0], .agg #[.slice none 0 0, .slice none 0 0], .agg #[.int .i64 0, .int .i64 0, .int .i64 0, .int .i64 0]], []⟩ 8 (by kernel_rfl) (by kernel_rfl) (by kernel_rfl) (by kernel_rfl)) ?_
  intro W base args ds gs before hval0 hW hcnd hsz0 _
  have hval : ∀ (j : Nat) t v, Try.f12.params[j]? = some t → args[j]? = some v → Value.okWide Try.prog W .any base t v := hval0
  have hW' := hW
  obtain ⟨p, q, hA0, hV, rfl, hfz, hnd⟩ := hW
  have hA : DataW.TrodAll enc Try.prog W 0 (fun _ => true) true Try.f12.params.toList args.toList ds p := hA0
  rw [Try.params12] at hA hval
  obtain ⟨v0, vs0, d0, ds0, p0, q0, hargs, rfl, rfl, h0, r0⟩ := trodAll_cons hA
  obtain ⟨v1, vs1, d1, ds1, p1, q1, rfl, rfl, rfl, h1, r1⟩ := trodAll_cons r0
  obtain ⟨v2, vs2, d2, ds2, p2, q2, rfl, rfl, rfl, h2, r2⟩ := trodAll_cons r1
  obtain ⟨rfl, rfl, rfl⟩ := trodAll_nil r2
  obtain rfl : args = #[v0, v1, v2] := by cases args; simp_all
  obtain ⟨rfl, rfl⟩ := trodVars_none hV
  have k0 := h0
  have lt0 : ∀ x ∈ p0, x.block < W.heap.size := by obtain ⟨m, hm⟩ := k0; exact DataW.trod_lt m _ _ _ hm
  obtain ⟨a0_0, a0_1, rfl, w0_0, w0_1⟩ := open_arr2 Try.underlying103 Try.underlying3 (by kernel_rfl) (by kernel_rfl) (hval 0 103 v0 rfl rfl) h0
  have k1 := h1
  have lt1 : ∀ x ∈ p1, x.block < W.heap.size := by obtain ⟨m, hm⟩ := k1; exact DataW.trod_lt m _ _ _ hm
  obtain ⟨A1_0, A1_1, c1_0, c1_1, rows1_0, rows1_1, rfl, ⟨hc1_0, hm1_0, hr1_0, hw1_0⟩, ⟨hc1_1, hm1_1, hr1_1, hw1_1⟩⟩ := open_arecs (k := 4) Try.underlying104 Try.underlying56 Try.underlying62 rfl (by kernel_rfl) (by kernel_rfl) (by kernel_rfl) (by kernel_rfl) (by kernel_rfl) (hval 1 104 v1 rfl rfl) h1
  have k2 := h2
  have lt2 : ∀ x ∈ p2, x.block < W.heap.size := by obtain ⟨m, hm⟩ := k2; exact DataW.trod_lt m _ _ _ hm
  obtain ⟨v2_0, v2_1, v2_2, v2_3, y2_0, y2_1, y2_2, y2_3, nn2, rfl, _, _, t2_0, t2_1, t2_2, t2_3⟩ := open_agg4 Try.underlying62 (by kernel_rfl) (by kernel_rfl) (hval 2 62 v2 rfl rfl) h2
  obtain ⟨a2_0, e2_0, _, w2_0⟩ := DataW.trod_int Try.underlying3 t2_0
  obtain rfl : v2_0 = .int .i64 a2_0 := by simpa using e2_0
  obtain ⟨a2_1, e2_1, _, w2_1⟩ := DataW.trod_int Try.underlying3 t2_1
  obtain rfl : v2_1 = .int .i64 a2_1 := by simpa using e2_1
  obtain ⟨a2_2, e2_2, _, w2_2⟩ := DataW.trod_int Try.underlying3 t2_2
  obtain rfl : v2_2 = .int .i64 a2_2 := by simpa using e2_2
  obtain ⟨a2_3, e2_3, _, w2_3⟩ := DataW.trod_int Try.underlying3 t2_3
  obtain rfl : v2_3 = .int .i64 a2_3 := by simpa using e2_3
  clear hA0 hval0 hsz0
  refine (Ref09.same_row a0_0 a0_1 A1_0 c1_0 rows1_0 A1_1 c1_1 rows1_1 a2_0 a2_1 a2_2 a2_3 W w0_0 w0_1 hr1_0 hc1_0 hm1_0 hw1_0 hr1_1 hc1_1 hm1_1 hw1_1 w2_0 w2_1 w2_2 w2_3).mono fun e W' ⟨he, bel⟩ => ?_
  subst he
  exact ⟨_, rfl, _, _, _, [], _, [], hW', trodAll_mk1 (shut_bool Try.underlying4 _), (trodAll_cons_mk (Below.trod laidOut (by kernel_rfl) (of_decide_eq_true (by kernel_rfl)) k0 bel lt0) (trodAll_cons_mk (Below.trod laidOut (by kernel_rfl) (of_decide_eq_true (by kernel_rfl)) k1 bel lt1) (trodAll_cons_mk (Below.trod laidOut (by kernel_rfl) (of_decide_eq_true (by kernel_rfl)) k2 bel lt2) trodAll_mk0))), rfl, bel.frame _, fun h => by cases h⟩
theorem over : Rows.mboxSameRow.holds Try.pinned (OpenSpec.ofChange Rows.mboxSameSpec) :=
  OpenClaim.holds_of_wide 12 Try.f12 rfl rfl rfl rfl rfl rfl rfl ⟨rfl, rfl, rfl, rfl, rfl⟩ rfl rfl rfl rfl rfl (by kernel_rfl) Try.func12 (by kernel_rfl)
    (of_decide_eq_true (by kernel_rfl)) (by unfold Func.isWrapper; first | (rw [if_pos (by decide +kernel)]; kernel_rfl) | (rw [if_neg (by decide +kernel)]; exact ⟨rfl, rfl⟩))
    (fun os started H enc _ => lifted os started H enc)
theorem proved : Rows.MboxSameSaid := over
#print axioms proved
end Go.Proofs.Ytiofdkkjjeljmaa.mboxSame
namespace Go.Proofs.Ytiofdkkjjeljmaa
/-- The row, under a short name, for the claim. -/
theorem mboxSame_holds : Rows.MboxSameSaid := mboxSame.proved
end Go.Proofs.Ytiofdkkjjeljmaa
