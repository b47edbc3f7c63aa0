/- A call of the laws of endpoints, opened. No condition. EndsNobody, for every input. -/
import Derived.Test.YtdhgmnnkbjhpaaaLeaf
import Derived.Test.YtdhgmnnkbjhpaaaEnds3
namespace Go.Proofs.Ytdhgmnnkbjhpaaa.Eps
set_option linter.unusedVariables false
set_option linter.unusedSimpArgs false
open Go.ChangeShapes Go.WideShapes Go.Deep Go.RowKit Go.Proofs.Ytdhgmnnkbjhpaaa.Leaf
section
variable {H : Type} {enc : TypeId × Value → H} {w : World} {base : Nat} {held : Bool}
set_option maxRecDepth 100000 in
theorem open32 {r : Reach} {b0 : Nat} {v : Value} {dd : DataW H} {p : List MemPlace} (hv : Value.okWide Try.prog w r b0 32 v) (h : DataW.Trod enc Try.prog w base (fun _ => true) held 32 v dd p) :
    ∃ (A : Option Addr) (c : Nat) (l : Int × Int × Int × Int × Int × Nat), v = .agg #[.int .i64 l.1, .int .i64 l.2.1, .int .i64 l.2.2.1, .int .i64 l.2.2.2.1, .int .i64 l.2.2.2.2.1, .slice A l.2.2.2.2.2 c] ∧ True ∧ True ∧ True ∧ True := by
  obtain ⟨cs, rfl, hl, n, htr⟩ := open_agg_leaf (k := 6) Try.underlying32 (by kernel_rfl) hv h
  have hc : cs.length = Try.prog.cellsOf 32 := by rw [hl]; kernel_rfl
  obtain ⟨v0, n0, y0, e0, t0⟩ := leaf 4 (j := 0) (l := 3) (by kernel_rfl) hc htr
  obtain ⟨v1, n1, y1, e1, t1⟩ := leaf 4 (j := 1) (l := 3) (by kernel_rfl) hc htr
  obtain ⟨v2, n2, y2, e2, t2⟩ := leaf 4 (j := 2) (l := 3) (by kernel_rfl) hc htr
  obtain ⟨v3, n3, y3, e3, t3⟩ := leaf 4 (j := 3) (l := 3) (by kernel_rfl) hc htr
  obtain ⟨v4, n4, y4, e4, t4⟩ := leaf 4 (j := 4) (l := 3) (by kernel_rfl) hc htr
  obtain ⟨v5, n5, y5, e5, t5⟩ := leaf 4 (j := 5) (l := 28) (by kernel_rfl) hc htr
  obtain ⟨a0, q0, _, w0⟩ := DataW.trod_int Try.underlying3 t0
  obtain ⟨a1, q1, _, w1⟩ := DataW.trod_int Try.underlying3 t1
  obtain ⟨a2, q2, _, w2⟩ := DataW.trod_int Try.underlying3 t2
  obtain ⟨a3, q3, _, w3⟩ := DataW.trod_int Try.underlying3 t3
  obtain ⟨a4, q4, _, w4⟩ := DataW.trod_int Try.underlying3 t4
  obtain ⟨A, len, c, q5, _⟩ := open_slice_leaf (k := 1) Try.underlying28 (by kernel_rfl) t5
  obtain rfl : v0 = .int .i64 a0 := by simpa using q0
  obtain rfl : v1 = .int .i64 a1 := by simpa using q1
  obtain rfl : v2 = .int .i64 a2 := by simpa using q2
  obtain rfl : v3 = .int .i64 a3 := by simpa using q3
  obtain rfl : v4 = .int .i64 a4 := by simpa using q4
  obtain rfl : v5 = .slice A len c := by simpa using q5
  refine ⟨A, c, (a0, a1, a2, a3, a4, len), ?_, trivial, trivial, trivial, trivial⟩
  congr 1
  congr 1
  refine List.ext_getElem? fun j => ?_
  rcases (by omega : j = 0 ∨ j = 1 ∨ j = 2 ∨ j = 3 ∨ j = 4 ∨ j = 5 ∨ 6 ≤ j) with rfl | rfl | rfl | rfl | rfl | rfl | hj
  · exact e0
  · exact e1
  · exact e2
  · exact e3
  · exact e4
  · exact e5
  · rw [List.getElem?_eq_none (by omega), List.getElem?_eq_none (by simpa using hj)]
end
theorem nobody_row (A : Option Addr) (c : Nat) (l : Int × Int × Int × Int × Int × Nat) (w : World) (_ _ _ _ : True) :
    Calls Try.prog 11 #[.agg #[.int .i64 l.1, .int .i64 l.2.1, .int .i64 l.2.2.1, .int .i64 l.2.2.2.1, .int .i64 l.2.2.2.2.1, .slice A l.2.2.2.2.2 c]] w fun x w' => x = .returned (.bool true) ∧ Up w w' :=
  nobody_walk _ _ _ _ _ A _ c w
end Go.Proofs.Ytdhgmnnkbjhpaaa.Eps
