/- A slice of calls of the laws of names, opened. No condition. -/
import Derived.Test.YtdhgmnnkbjhpaaaLeaf
import Derived.Test.YtdhgmnnkbjhpaaaPNamesPlayx0
namespace Go.Proofs.Ytdhgmnnkbjhpaaa.Ntab
set_option linter.unusedVariables false
set_option linter.unusedSimpArgs false
open Go.ChangeShapes Go.WideShapes Go.Deep Go.RowKit Go.Proofs.Ytdhgmnnkbjhpaaa.Leaf Go.Proofs.Ytdhgmnnkbjhpaaa.PNamesPlay Go.Proofs.YtdhgmnnkbjhpaaaW.PrintWords

section
variable {H : Type} {enc : TypeId × Value → H} {P : Program} {w : World} {base : Nat} {held : Bool}
/-- A slice whose elements' cells are told by a reading of their own. -/
theorem open_slice_by {α : Type} [Inhabited α] (cells : α → List Value) (good : α → Prop) {t e : TypeId} {k : Nat} {r : Reach} {b0 : Nat} {v : Value} {dd : DataW H} {p : List MemPlace} (ht : P.underlying t = some (.slice e)) (hk : P.cellsOf e = k)
    (hx : ∀ cs n y, cs.length = k → DataW.trod enc P w base (fun _ => true) held n e cs = some y → ∃ x : α, cs = cells x ∧ good x)
    (hv : Value.okWide P w r b0 t v) (h : DataW.Trod enc P w base (fun _ => true) held t v dd p) :
    ∃ (A : Option Addr) (c : Nat) (l : List α), v = .slice A l.length c ∧ l.length ≤ c ∧ c ≤ maxLen ∧ (0 < l.length → ∃ ad, A = some ad ∧ ∀ i x, l[i]? = some x → ∀ j u, j < k → (cells x)[j]? = some u → w.cell? (ad.add (i * k + j)) = some u) ∧ (∀ x ∈ l, good x ∧ (cells x).length = k) := by
  obtain ⟨A, len, c, rfl⟩ := okWide_slice ht hv
  obtain ⟨n, hn⟩ := h
  obtain ⟨A', len', c', e1, hlc, hcm, hi⟩ := open_slice_leaf ht hk (by simpa [Value.cells] using hn)
  cases e1
  have key : ∀ i : Nat, ∃ x : α, i < len → (∃ ad, A = some ad ∧ ∀ j u, j < k → (cells x)[j]? = some u → w.cell? (ad.add (i * k + j)) = some u) ∧ good x ∧ (cells x).length = k := by
    intro i
    by_cases h1 : i < len
    · obtain ⟨ad, cs, n, y, hA, hcl, hat, htr⟩ := hi i h1
      obtain ⟨x, rfl, hg⟩ := hx cs n y hcl htr
      exact ⟨x, fun _ => ⟨⟨ad, hA, fun j u hj hu => by rw [hat j hj]; exact hu⟩, hg, hcl⟩⟩
    · exact ⟨default, fun h => absurd h h1⟩
  obtain ⟨f, hf⟩ := Classical.axiomOfChoice key
  have hlen : ((List.range len).map f).length = len := by simp
  refine ⟨A, c, (List.range len).map f, by rw [hlen], by rw [hlen]; exact hlc, hcm, ?_, ?_⟩
  · rw [hlen]
    intro h0
    obtain ⟨⟨ad, hA, _⟩, _⟩ := hf 0 h0
    refine ⟨ad, hA, fun i x hix j u hj hu => ?_⟩
    have hil : i < len := by
      have := (List.getElem?_eq_some_iff.1 hix).1
      simpa using this
    have ex : x = f i := by
      rw [List.getElem?_map, List.getElem?_range hil] at hix
      exact (Option.some.inj hix).symm
    obtain ⟨⟨ad', hA', hc⟩, _⟩ := hf i hil
    rw [hA] at hA'
    cases hA'
    rw [ex] at hu
    exact hc j u hj hu
  · intro x hx
    obtain ⟨i, hi', rfl⟩ := List.mem_map.1 hx
    exact (hf i (List.mem_range.1 hi')).2
end
section
variable {H : Type} {enc : TypeId × Value → H} {w : World} {base : Nat} {held : Bool}
instance : Inhabited S58 := ⟨z58⟩
abbrev cells58 (x : S58) : List Value := [.int .i64 x.f0, .int .i64 x.f1, .bool x.f2.f0, .string x.f2.f1, .int .i64 x.f2.f2]
structure Good58 (x : S58) : Prop where
  kind : (Lit.int .i64 x.f0).wf = true
  core : (Lit.int .i64 x.f1).wf = true
  name : x.f2.f1.size ≤ maxLen
  addr : (Lit.int .i64 x.f2.f2).wf = true
theorem read58 (cs : List Value) (n : Nat) (y : DataW H × List MemPlace) (hl : cs.length = 5) (h : DataW.trod enc Try.prog w base (fun _ => true) held n 58 cs = some y) : ∃ x : S58, cs = cells58 x ∧ Good58 x := by
  have hc : cs.length = Try.prog.cellsOf 58 := by rw [hl]; kernel_rfl
  obtain ⟨v0, n0, y0, e0, t0⟩ := leaf 4 (j := 0) (l := 3) (by kernel_rfl) hc h
  obtain ⟨v1, n1, y1, e1, t1⟩ := leaf 4 (j := 1) (l := 3) (by kernel_rfl) hc h
  obtain ⟨v2, n2, y2, e2, t2⟩ := leaf 4 (j := 2) (l := 4) (by kernel_rfl) hc h
  obtain ⟨v3, n3, y3, e3, t3⟩ := leaf 4 (j := 3) (l := 9) (by kernel_rfl) hc h
  obtain ⟨v4, n4, y4, e4, t4⟩ := leaf 4 (j := 4) (l := 3) (by kernel_rfl) hc h
  obtain ⟨a0, q0, _, w0⟩ := DataW.trod_int Try.underlying3 t0
  obtain ⟨a1, q1, _, w1⟩ := DataW.trod_int Try.underlying3 t1
  obtain ⟨a2, q2, _⟩ := DataW.trod_bool Try.underlying4 t2
  obtain ⟨a3, q3, _, w3⟩ := DataW.trod_string Try.underlying9 t3
  obtain ⟨a4, q4, _, w4⟩ := DataW.trod_int Try.underlying3 t4
  obtain rfl : v0 = .int .i64 a0 := by simpa using q0
  obtain rfl : v1 = .int .i64 a1 := by simpa using q1
  obtain rfl : v2 = .bool a2 := by simpa using q2
  obtain rfl : v3 = .string a3 := by simpa using q3
  obtain rfl : v4 = .int .i64 a4 := by simpa using q4
  refine ⟨⟨a0, a1, ⟨a2, a3, a4⟩⟩, ?_, w0, w1, w3, w4⟩
  refine List.ext_getElem? fun j => ?_
  rcases (by omega : j = 0 ∨ j = 1 ∨ j = 2 ∨ j = 3 ∨ j = 4 ∨ 5 ≤ j) with rfl | rfl | rfl | rfl | rfl | hj
  · exact e0
  · exact e1
  · exact e2
  · exact e3
  · exact e4
  · rw [List.getElem?_eq_none (by omega), List.getElem?_eq_none (by simpa using hj)]
set_option maxRecDepth 100000 in
theorem open58 {r : Reach} {b0 : Nat} {v : Value} {dd : DataW H} {p : List MemPlace} (hv : Value.okWide Try.prog w r b0 52 v) (h : DataW.Trod enc Try.prog w base (fun _ => true) held 52 v dd p) :
    ∃ (A : Option Addr) (c : Nat) (l : List S58), v = .slice A l.length c ∧ Kd.C k58 w A l.length l ∧ l.length ≤ c ∧ c ≤ maxLen ∧ ∀ x ∈ l, Good58 x := by
  obtain ⟨A, c, l, rfl, h1, h2, h3, h4⟩ := open_slice_by cells58 Good58 Try.underlying52 (k := 5) (by kernel_rfl) read58 hv h
  refine ⟨A, c, l, rfl, ⟨rfl, by unfold maxLen at h2; omega, fun h0 => ?_⟩, h1, h2, fun x hx => (h4 x hx).1⟩
  obtain ⟨ad, hA, hc⟩ := h3 h0
  refine ⟨ad, hA, fun j x hx => ⟨cells58 x, rfl, k58_mk w x, fun i u hu => ?_⟩⟩
  have hi : i < 5 := (List.getElem?_eq_some_iff.1 hu).1
  exact hc j x hx i u hi hu
end
end Go.Proofs.Ytdhgmnnkbjhpaaa.Ntab
