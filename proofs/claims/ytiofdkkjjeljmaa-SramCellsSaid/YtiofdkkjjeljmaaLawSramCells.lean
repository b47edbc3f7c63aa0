/- The row of the law SramCells, out of its walk; written by mkrow2.py, a program of this session. -/
import Derived.Test.YtiofdkkjjeljmaaRows
import Derived.Test.YtiofdkkjjeljmaaSramCellsRow
import Derived.Test.YtiofdkkjjeljmaaOpen
import Derived.WalkKit
import Derived.ProofKit
import Derived.OpenShut
import Derived.ShutString
import Derived.ChangeOld
import Derived.Below
import Derived.Carry
import Derived.SizedLaws
import Derived.ChangeSlices
import Derived.Lib.SmallJoins
namespace Go.Proofs.Ytiofdkkjjeljmaa.sramCells
open Go.ChangeShapes Go.WideShapes Go.ChangeAt Go.RowKit Go.Joins
open Go.ChangeMaps (open_string shut_string)
set_option linter.unusedVariables false
set_option linter.unusedSimpArgs false
theorem own : ownKnob Try.prog.godebug = none := by kernel_rfl
theorem laidOut : laidOutB Try.prog = true := by kernel_rfl
theorem open_arecs {H : Type} {enc : TypeId × Value → H} {P : Program} {w : World} {base : Nat} {held : Bool} {r : Reach} {b0 : Nat} {t s e : TypeId} {fs : Array Field} {k : Nat} {v : Value} {d : DataW H} {p : List MemPlace} (ha : P.underlying t = some (.array 2 s)) (hs : P.underlying s = some (.slice e)) (he : P.underlying e = some (.struct fs)) (hk : fs.size = k)
    (hint : Open.intsB P fs = true) (hone : Go.Deep.oneCellFields P fs = true) (hC : P.cellsOf e = fs.size) (hCt : P.cellsOf t = 2) (hCs : P.cellsOf s = 1)
    (hv : Value.okWide P w r b0 t v) (h : DataW.Trod enc P w base (fun _ => true) held t v d p) :
    ∃ (A0 A1 : Option Addr) (c0 c1 : Nat) (rows0 rows1 : List (List Int)), v = .agg #[.slice A0 rows0.length c0, .slice A1 rows1.length c1] ∧ (rows0.length ≤ c0 ∧ c0 ≤ maxLen ∧ Open.Recs k w A0 rows0 ∧ ∀ q ∈ rows0, q.length = k ∧ ∀ z ∈ q, (Lit.int .i64 z).wf = true) ∧ (rows1.length ≤ c1 ∧ c1 ≤ maxLen ∧ Open.Recs k w A1 rows1 ∧ ∀ q ∈ rows1, q.length = k ∧ ∀ z ∈ q, (Lit.int .i64 z).wf = true) := by
  simp only [Value.okWide, ha] at hv
  obtain ⟨cs, rfl, hsz, _⟩ := hv
  rw [hCt] at hsz
  obtain ⟨c0, c1, rfl⟩ := array2 hsz
  obtain ⟨fuel, hf⟩ := h
  obtain ⟨xs, m, _, _, _, hl, hg⟩ := DataW.trod_array ha hf
  match xs, hl with
  | [y0, y1], _ =>
    have g0 := hg 0 (by omega)
    have g1 := hg 1 (by omega)
    rw [hCs] at g0 g1
    have h0 : DataW.trod enc P w base (fun _ => true) held m s [c0] = some y0 := by simpa [Value.cells] using g0
    have h1 : DataW.trod enc P w base (fun _ => true) held m s [c1] = some y1 := by simpa [Value.cells] using g1
    obtain ⟨A0, k0, rows0, e0, f0⟩ := Open.open_recs1 hs he hk hint hone hC h0
    obtain ⟨A1, k1, rows1, e1, f1⟩ := Open.open_recs1 hs he hk hint hone hC h1
    subst e0 e1
    exact ⟨A0, A1, k0, k1, rows0, rows1, rfl, f0, f1⟩
set_option maxRecDepth 100000 in
theorem lifted (os : Os) (started : os.Started) (H : Type) (enc : TypeId × Value → H) :
    ReturnsInHanded {} Try.checked os 5 .any (Rows.sramCellsSpec.pre6 enc Try.prog Try.f5 Rows.sramCellsRow.domain false) (Rows.sramCellsSpec.post enc Try.prog Try.f5 false true false false) := by
  refine returnsInHanded_of_change_sized (C := Try.checked) own started (by kernel_rfl) Try.func5
    (ChangeSpec.witness6 (enc := enc) (C := Try.checked) false ⟨#[], #[.int .i64 0, .int .i64 0, .agg #[.slice none 0 0, .slice none 0 0], .agg #[.int .i64 0, .int .i64 0, .int .i64 0, .int .i64 0]], []⟩ 8 (by kernel_rfl) (by kernel_rfl) (by kernel_rfl) (by kernel_rfl)) ?_
  intro W base args ds gs before hval0 hW hcnd hsz0 _
  have hval : ∀ (j : Nat) t v, Try.f5.params[j]? = some t → args[j]? = some v → Value.okWide Try.prog W .any base t v := hval0
  have hW' := hW
  obtain ⟨p, q, hA0, hV, rfl, hfz, hnd⟩ := hW
  have hA : DataW.TrodAll enc Try.prog W 0 (fun _ => true) true Try.f5.params.toList args.toList ds p := hA0
  rw [Try.params5] at hA hval
  obtain ⟨v0, vs0, d0, ds0, p0, q0, hargs, rfl, rfl, h0, r0⟩ := trodAll_cons hA
  obtain ⟨v1, vs1, d1, ds1, p1, q1, rfl, rfl, rfl, h1, r1⟩ := trodAll_cons r0
  obtain ⟨v2, vs2, d2, ds2, p2, q2, rfl, rfl, rfl, h2, r2⟩ := trodAll_cons r1
  obtain ⟨v3, vs3, d3, ds3, p3, q3, rfl, rfl, rfl, h3, r3⟩ := trodAll_cons r2
  obtain ⟨rfl, rfl, rfl⟩ := trodAll_nil r3
  obtain rfl : args = #[v0, v1, v2, v3] := by cases args; simp_all
  obtain ⟨rfl, rfl⟩ := trodVars_none hV
  obtain ⟨a0, rfl, rfl, rfl, w0⟩ := open_int Try.underlying3 (hval 0 3 v0 rfl rfl) h0
  obtain ⟨a1, rfl, rfl, rfl, w1⟩ := open_int Try.underlying3 (hval 1 3 v1 rfl rfl) h1
  have k2 := h2
  have lt2 : ∀ x ∈ p2, x.block < W.heap.size := by obtain ⟨m, hm⟩ := k2; exact DataW.trod_lt m _ _ _ hm
  obtain ⟨A2_0, A2_1, c2_0, c2_1, rows2_0, rows2_1, rfl, ⟨hc2_0, hm2_0, hr2_0, hw2_0⟩, ⟨hc2_1, hm2_1, hr2_1, hw2_1⟩⟩ := open_arecs (k := 4) Try.underlying46 Try.underlying22 Try.underlying30 rfl (by kernel_rfl) (by kernel_rfl) (by kernel_rfl) (by kernel_rfl) (by kernel_rfl) (hval 2 46 v2 rfl rfl) h2
  have k3 := h3
  have lt3 : ∀ x ∈ p3, x.block < W.heap.size := by obtain ⟨m, hm⟩ := k3; exact DataW.trod_lt m _ _ _ hm
  obtain ⟨v3_0, v3_1, v3_2, v3_3, y3_0, y3_1, y3_2, y3_3, nn3, rfl, _, _, t3_0, t3_1, t3_2, t3_3⟩ := open_agg4 Try.underlying30 (by kernel_rfl) (by kernel_rfl) (hval 3 30 v3 rfl rfl) h3
  obtain ⟨a3_0, e3_0, _, w3_0⟩ := DataW.trod_int Try.underlying3 t3_0
  obtain rfl : v3_0 = .int .i64 a3_0 := by simpa using e3_0
  obtain ⟨a3_1, e3_1, _, w3_1⟩ := DataW.trod_int Try.underlying3 t3_1
  obtain rfl : v3_1 = .int .i64 a3_1 := by simpa using e3_1
  obtain ⟨a3_2, e3_2, _, w3_2⟩ := DataW.trod_int Try.underlying3 t3_2
  obtain rfl : v3_2 = .int .i64 a3_2 := by simpa using e3_2
  obtain ⟨a3_3, e3_3, _, w3_3⟩ := DataW.trod_int Try.underlying3 t3_3
  obtain rfl : v3_3 = .int .i64 a3_3 := by simpa using e3_3
  clear hA0 hval0 hsz0
  refine (Sram.cells_all a0 a1 A2_0 c2_0 rows2_0 A2_1 c2_1 rows2_1 a3_0 a3_1 a3_2 a3_3 W w0 w1 hr2_0 hc2_0 hm2_0 hw2_0 hr2_1 hc2_1 hm2_1 hw2_1 w3_0 w3_1 w3_2 w3_3).mono fun e W' ⟨he, bel⟩ => ?_
  subst he
  exact ⟨_, rfl, _, _, _, [], _, [], hW', trodAll_mk1 (shut_bool Try.underlying4 _), (trodAll_cons_mk (shut_int Try.underlying3 w0) (trodAll_cons_mk (shut_int Try.underlying3 w1) (trodAll_cons_mk (Below.trod laidOut (by kernel_rfl) (of_decide_eq_true (by kernel_rfl)) k2 bel lt2) (trodAll_cons_mk (Below.trod laidOut (by kernel_rfl) (of_decide_eq_true (by kernel_rfl)) k3 bel lt3) trodAll_mk0)))), rfl, bel.frame _, fun h => by cases h⟩
theorem over : Rows.sramCellsRow.holds Try.pinned (OpenSpec.ofChange Rows.sramCellsSpec) :=
  OpenClaim.holds_of_wide 5 Try.f5 rfl rfl rfl rfl rfl rfl rfl ⟨rfl, rfl, rfl, rfl, rfl⟩ rfl rfl rfl rfl rfl (by kernel_rfl) Try.func5 (by kernel_rfl)
    (of_decide_eq_true (by kernel_rfl)) (by unfold Func.isWrapper; first | (rw [if_pos (by decide +kernel)]; kernel_rfl) | (rw [if_neg (by decide +kernel)]; exact ⟨rfl, rfl⟩))
    (fun os started H enc _ => lifted os started H enc)
theorem proved : Rows.SramCellsSaid := over
#print axioms proved
end Go.Proofs.Ytiofdkkjjeljmaa.sramCells
namespace Go.Proofs.Ytiofdkkjjeljmaa
/-- The row, under a short name, for the claim. -/
theorem sramCells_holds : Rows.SramCellsSaid := sramCells.proved
end Go.Proofs.Ytiofdkkjjeljmaa
