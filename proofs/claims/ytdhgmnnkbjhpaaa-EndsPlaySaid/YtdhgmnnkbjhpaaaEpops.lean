/- A slice of calls of the laws of endpoints, opened. No condition. -/
import Derived.Test.YtdhgmnnkbjhpaaaNopen
import Derived.Test.YtdhgmnnkbjhpaaaPEndsPlayx0
namespace Go.Proofs.Ytdhgmnnkbjhpaaa.Epp
set_option linter.unusedVariables false
set_option linter.unusedSimpArgs false
open Go.ChangeShapes Go.WideShapes Go.Deep Go.RowKit Go.Proofs.Ytdhgmnnkbjhpaaa.Leaf Go.Proofs.Ytdhgmnnkbjhpaaa.PEndsPlay Go.Proofs.YtdhgmnnkbjhpaaaW.PrintWords

section
variable {H : Type} {enc : TypeId × Value → H} {w : World} {base : Nat} {held : Bool}
abbrev O32 := S32 × Option Addr × Nat
instance : Inhabited O32 := ⟨(z32, none, 0)⟩
abbrev cells32 (x : O32) : List Value := [.int .i64 x.1.f0, .int .i64 x.1.f1, .int .i64 x.1.f2.f0, .int .i64 x.1.f2.f1, .int .i64 x.1.f2.f2, .slice x.2.1 x.1.f2.f3.length x.2.2]
structure Good32 (x : S32) : Prop where
  kind : (Lit.int .i64 x.f0).wf = true
  addr : (Lit.int .i64 x.f1).wf = true
  src : (Lit.int .i64 x.f2.f0).wf = true
  dst : (Lit.int .i64 x.f2.f1).wf = true
  m2 : (Lit.int .i64 x.f2.f2).wf = true
  body : ∀ n ∈ x.f2.f3, (Lit.int .i64 n).wf = true
structure GoodO (w : World) (x : O32) : Prop where
  good : Good32 x.1
  len : x.1.f2.f3.length ≤ x.2.2
  row : (Kd.int .i64).C w x.2.1 x.1.f2.f3.length x.1.f2.f3
theorem words_open {n : Nat} {v : Value} {y : DataW H × List MemPlace} (h : DataW.trod enc Try.prog w base (fun _ => true) held n 28 [v] = some y) :
    ∃ (A : Option Addr) (c : Nat) (l : List Int), v = .slice A l.length c ∧ l.length ≤ c ∧ (Kd.int .i64).C w A l.length l ∧ ∀ n ∈ l, (Lit.int .i64 n).wf = true := by
  rcases open_ints Try.underlying28 Try.underlying3 (by kernel_rfl) h with ⟨e, -⟩ | ⟨a, len, cap, zs, e, hb, hl, hm, hz, -, hc, hw⟩
  · obtain rfl : v = .slice none 0 0 := by simpa using e
    exact ⟨none, 0, [], rfl, Nat.le_refl _, ⟨rfl, by simp, fun h => absurd h (by simp)⟩, fun n hn => by simp at hn⟩
  · obtain rfl : v = .slice (some a) len cap := by simpa using e
    rw [if_pos rfl] at hz
    have ht : (zs.take len).length = len := by rw [List.length_take]; omega
    refine ⟨some a, cap, zs.take len, by rw [ht], by rw [ht]; exact hl, ⟨rfl, by rw [ht]; unfold maxLen at hm; omega, fun _ => ⟨a, rfl, fun j x hx => ?_⟩⟩, fun n hn => hw n (List.mem_of_mem_take hn)⟩
    have hj : j < len := by
      have := (List.getElem?_eq_some_iff.1 hx).1
      omega
    have hx2 : zs[j]? = some x := by
      rw [List.getElem?_take_of_lt hj] at hx
      exact hx
    refine ⟨[.int .i64 x], rfl, rfl, fun i u hu => ?_⟩
    have hi : i < 1 := (List.getElem?_eq_some_iff.1 hu).1
    obtain rfl : i = 0 := by omega
    obtain rfl : Value.int .i64 x = u := by simpa using hu
    have h2 := hc j (by omega)
    rw [List.getD_eq_getElem?_getD, hx2] at h2
    have h3 : w.cell? (a.add (j * 1 + 0)) = some (.int .i64 x) := by simpa using h2
    exact h3
theorem read32 (cs : List Value) (n : Nat) (y : DataW H × List MemPlace) (hl : cs.length = 6) (h : DataW.trod enc Try.prog w base (fun _ => true) held n 32 cs = some y) : ∃ x : O32, cs = cells32 x ∧ GoodO w x := by
  have hc : cs.length = Try.prog.cellsOf 32 := by rw [hl]; kernel_rfl
  obtain ⟨v0, n0, y0, e0, t0⟩ := leaf 4 (j := 0) (l := 3) (by kernel_rfl) hc h
  obtain ⟨v1, n1, y1, e1, t1⟩ := leaf 4 (j := 1) (l := 3) (by kernel_rfl) hc h
  obtain ⟨v2, n2, y2, e2, t2⟩ := leaf 4 (j := 2) (l := 3) (by kernel_rfl) hc h
  obtain ⟨v3, n3, y3, e3, t3⟩ := leaf 4 (j := 3) (l := 3) (by kernel_rfl) hc h
  obtain ⟨v4, n4, y4, e4, t4⟩ := leaf 4 (j := 4) (l := 3) (by kernel_rfl) hc h
  obtain ⟨v5, n5, y5, e5, t5⟩ := leaf 4 (j := 5) (l := 28) (by kernel_rfl) hc h
  obtain ⟨a0, q0, _, w0⟩ := DataW.trod_int Try.underlying3 t0
  obtain ⟨a1, q1, _, w1⟩ := DataW.trod_int Try.underlying3 t1
  obtain ⟨a2, q2, _, w2⟩ := DataW.trod_int Try.underlying3 t2
  obtain ⟨a3, q3, _, w3⟩ := DataW.trod_int Try.underlying3 t3
  obtain ⟨a4, q4, _, w4⟩ := DataW.trod_int Try.underlying3 t4
  obtain ⟨A, c, l, rfl, hlc, hC, hwl⟩ := words_open t5
  obtain rfl : v0 = .int .i64 a0 := by simpa using q0
  obtain rfl : v1 = .int .i64 a1 := by simpa using q1
  obtain rfl : v2 = .int .i64 a2 := by simpa using q2
  obtain rfl : v3 = .int .i64 a3 := by simpa using q3
  obtain rfl : v4 = .int .i64 a4 := by simpa using q4
  refine ⟨(⟨a0, a1, ⟨a2, a3, a4, l⟩⟩, A, c), ?_, ⟨w0, w1, w2, w3, w4, hwl⟩, hlc, hC⟩
  refine List.ext_getElem? fun j => ?_
  rcases (by omega : j = 0 ∨ j = 1 ∨ j = 2 ∨ j = 3 ∨ j = 4 ∨ j = 5 ∨ 6 ≤ j) with rfl | rfl | rfl | rfl | rfl | rfl | hj
  · exact e0
  · exact e1
  · exact e2
  · exact e3
  · exact e4
  · exact e5
  · rw [List.getElem?_eq_none (by omega), List.getElem?_eq_none (by simpa using hj)]
set_option maxRecDepth 100000 in
theorem opens32 {r : Reach} {b0 : Nat} {v : Value} {dd : DataW H} {p : List MemPlace} (hv : Value.okWide Try.prog w r b0 22 v) (h : DataW.Trod enc Try.prog w base (fun _ => true) held 22 v dd p) :
    ∃ (A : Option Addr) (c : Nat) (l : List S32), v = .slice A l.length c ∧ Kd.C k32 w A l.length l ∧ l.length ≤ c ∧ c ≤ maxLen ∧ ∀ x ∈ l, Good32 x := by
  obtain ⟨A, c, l, rfl, h1, h2, h3, h4⟩ := Ntab.open_slice_by cells32 (GoodO w) Try.underlying22 (k := 6) (by kernel_rfl) read32 hv h
  refine ⟨A, c, l.map (·.1), by rw [List.length_map], ⟨rfl, by rw [List.length_map]; unfold maxLen at h2; omega, fun h0 => ?_⟩, by rw [List.length_map]; exact h1, h2, fun x hx => ?_⟩
  · rw [List.length_map] at h0
    obtain ⟨ad, hA, hc⟩ := h3 h0
    refine ⟨ad, hA, fun j x hx => ?_⟩
    rw [List.getElem?_map] at hx
    obtain ⟨y, hy, rfl⟩ := Option.map_eq_some_iff.1 hx
    obtain ⟨hg, -⟩ := h4 y (List.mem_of_getElem? hy)
    refine ⟨cells32 y, rfl, k32_mk w y.1 hg.len hg.row, fun i u hu => ?_⟩
    have hi : i < 6 := (List.getElem?_eq_some_iff.1 hu).1
    exact hc j y hy i u hi hu
  · obtain ⟨y, hy, rfl⟩ := List.mem_map.1 hx
    exact (h4 y hy).1.good
end
end Go.Proofs.Ytdhgmnnkbjhpaaa.Epp
