/- Arguments opened: a slice of structs of k ints, as a list of rows. No program. -/
import Derived.Deep.Slices
import Derived.Deep.Fields
import Derived.ChangeSame
import Derived.Below
import Derived.OpenShut
import Derived.Lib.SmallJoins
import Derived.Deep.OwnShut
namespace Go.Proofs.Ytlefefcakffepaa.Open
set_option linter.unusedVariables false
set_option linter.unusedSimpArgs false
open Go.ChangeShapes Go.WideShapes Go.Deep

/-- A slice of structs of k ints, read in memory: row i's field j. -/
def Recs (k : Nat) (w : World) (A : Option Addr) (rows : List (List Int)) : Prop :=
  ∀ i, i < rows.length → ∃ ad, A = some ad ∧ ∀ j, j < k → w.cell? (ad.add (i * k + j)) = some (.int .i64 ((rows.getD i []).getD j 0))
section
variable {H : Type} {enc : TypeId × Value → H} {P : Program} {w : World} {base : Nat} {spare : Nat → Bool} {held : Bool}
theorem open_slice_fields' {t e : TypeId} {fs : Array Field} {fuel : Nat} {cs : List Value} {x : DataW H × List MemPlace} (ht : P.underlying t = some (.slice e)) (he : P.underlying e = some (.struct fs))
    (hone : oneCellFields P fs = true) (hC : P.cellsOf e = fs.size) (h : DataW.trod enc P w base spare held fuel t cs = some x) :
    (cs = [.slice none 0 0]) ∨
    ∃ (a : Addr) (len cap m : Nat), cs = [.slice (some a) len cap] ∧ len ≤ cap ∧ cap ≤ maxLen ∧ m = (if spare a.block then cap else len) ∧
      ∀ i, i < m → ∃ n, ∀ (j : Nat) (f : Field), fs[j]? = some f → ∃ (v : Value) (y : DataW H × List MemPlace), w.cell? (a.add (i * fs.size + j)) = some v ∧ DataW.trod enc P w base spare held n f.type [v] = some y := by
  rcases open_slice ht h with h0 | ⟨a, len, cap, m, n, D, Pl, hcs, hb, hl, hm, hmm, hx, hi⟩
  · exact .inl h0.1
  · refine .inr ⟨a, len, cap, m, hcs, hl, hm, hmm, fun i him => ?_⟩
    obtain ⟨cs', hc, ht'⟩ := hi i him
    rw [hC] at hc
    obtain ⟨ys, n', hn', hy, hlen, hyl, hf⟩ := DataW.trod_struct he ht'
    obtain ⟨_, hcl, hat⟩ := World.cells?_some hc
    refine ⟨n', fun j f hj => ?_⟩
    obtain ⟨ho, hk⟩ := hone_of hone j f hj
    have hjl : j < fs.size := (Array.getElem?_eq_some_iff.1 hj).1
    have hcell := hat j hjl
    have hv : cs'[j]? = some (cs'[j]'(by omega)) := List.getElem?_eq_getElem (by omega)
    have h1 := hf j f hj
    rw [ho, hk] at h1
    have hone' : (cs'.drop j).take 1 = [cs'[j]'(by omega)] := by
      rw [List.drop_eq_getElem_cons (by omega)]
      rfl
    rw [hone'] at h1
    have hys : ys[j]? = some (ys[j]'(by omega)) := List.getElem?_eq_getElem (by omega)
    refine ⟨_, _, ?_, h1.trans hys⟩
    rw [← Go.Deep.add_add, hcell, hv]
/-- All fields are ints. -/
def intsB (P : Program) (fs : Array Field) : Bool := fs.all fun f => match P.underlying f.type with
  | some (.int .i64) => true
  | _ => false
theorem intsB_at {P : Program} {fs : Array Field} (h : intsB P fs = true) (j : Nat) (f : Field) (hj : fs[j]? = some f) : P.underlying f.type = some (.int .i64) := by
  obtain ⟨hl, rfl⟩ := Array.getElem?_eq_some_iff.1 hj
  have := Array.all_eq_true.1 h j hl
  split at this
  · assumption
  · cases this
theorem open_recs {t e : TypeId} {fs : Array Field} {k : Nat} {r : Reach} {b0 : Nat} {v : Value} {d : DataW H} {p : List MemPlace} (ht : P.underlying t = some (.slice e)) (he : P.underlying e = some (.struct fs)) (hk : fs.size = k)
    (hint0 : intsB P fs = true) (hone : oneCellFields P fs = true) (hC : P.cellsOf e = fs.size)
    (hv : Value.okWide P w r b0 t v) (h : DataW.Trod enc P w base (fun _ => true) held t v d p) :
    ∃ (A : Option Addr) (c : Nat) (rows : List (List Int)), v = .slice A rows.length c ∧ rows.length ≤ c ∧ c ≤ maxLen ∧ Recs k w A rows ∧ ∀ q ∈ rows, q.length = k ∧ ∀ z ∈ q, (Lit.int .i64 z).wf = true := by
  have hint := intsB_at hint0
  obtain ⟨fuel, hf⟩ := h
  obtain ⟨xa, xl, xc, rfl⟩ := okWide_slice ht hv
  have hf' : DataW.trod enc P w base (fun _ => true) held fuel t [.slice xa xl xc] = some (d, p) := by simpa [Value.cells] using hf
  rcases open_slice_fields' ht he hone hC hf' with h0 | ⟨a, len, cap, m, hcs, hl, hm, hmm, hi⟩
  · simp at h0
    obtain ⟨rfl, rfl, rfl⟩ := h0
    exact ⟨none, 0, [], rfl, Nat.le_refl _, Nat.zero_le _, fun i hi => absurd hi (by simp), fun q hq => absurd hq (by simp)⟩
  · simp at hcs
    obtain ⟨rfl, rfl, rfl⟩ := hcs
    obtain rfl : m = xc := hmm
    have key : ∀ q : Nat × Nat, ∃ z : Int, q.1 < xl → q.2 < k → w.cell? (a.add (q.1 * k + q.2)) = some (.int .i64 z) ∧ (Lit.int .i64 z).wf = true := by
      rintro ⟨i, j⟩
      by_cases h1 : i < xl
      · by_cases h2 : j < k
        · obtain ⟨n, hn⟩ := hi i (by omega)
          have hj : j < fs.size := by omega
          obtain ⟨v, y, hc, hy⟩ := hn j _ (Array.getElem?_eq_getElem hj)
          obtain ⟨z, hz, _, hw⟩ := DataW.trod_int (hint j _ (Array.getElem?_eq_getElem hj)) hy
          obtain rfl : v = .int .i64 z := by simpa using hz
          exact ⟨z, fun _ _ => ⟨by rw [← hk]; exact hc, hw⟩⟩
        · exact ⟨0, fun _ h => absurd h h2⟩
      · exact ⟨0, fun h => absurd h h1⟩
    obtain ⟨f, hf⟩ := Classical.axiomOfChoice key
    refine ⟨some a, m, (List.range xl).map fun i => (List.range k).map fun j => f (i, j), by simp, by simpa using hl, hm, ?_, ?_⟩
    · intro i hi
      have hi' : i < xl := by simpa using hi
      refine ⟨a, rfl, fun j hj => ?_⟩
      rw [(hf (i, j) hi' hj).1]
      simp [List.getD_eq_getElem?_getD, hi', hj]
    · intro q hq
      obtain ⟨i, hi, rfl⟩ := List.mem_map.1 hq
      refine ⟨by simp, fun z hz => ?_⟩
      obtain ⟨j, hj, rfl⟩ := List.mem_map.1 hz
      exact (hf (i, j) (List.mem_range.1 hi) (List.mem_range.1 hj)).2
theorem open_recs1 {t e : TypeId} {fs : Array Field} {k : Nat} {fuel : Nat} {v : Value} {x : DataW H × List MemPlace} (ht : P.underlying t = some (.slice e)) (he : P.underlying e = some (.struct fs)) (hk : fs.size = k)
    (hint0 : intsB P fs = true) (hone : oneCellFields P fs = true) (hC : P.cellsOf e = fs.size)
    (hf : DataW.trod enc P w base (fun _ => true) held fuel t [v] = some x) :
    ∃ (A : Option Addr) (c : Nat) (rows : List (List Int)), v = .slice A rows.length c ∧ (rows.length ≤ c ∧ c ≤ maxLen ∧ Recs k w A rows ∧ ∀ q ∈ rows, q.length = k ∧ ∀ z ∈ q, (Lit.int .i64 z).wf = true) := by
  have hint := intsB_at hint0
  rcases open_slice_fields' ht he hone hC hf with h0 | ⟨a, len, cap, m, hcs, hl, hm, hmm, hi⟩
  · obtain rfl : v = .slice none 0 0 := by simpa using h0
    exact ⟨none, 0, [], rfl, Nat.le_refl _, Nat.zero_le _, fun i hi => absurd hi (by simp), fun q hq => absurd hq (by simp)⟩
  · obtain rfl : v = .slice (some a) len cap := by simpa using hcs
    obtain rfl : m = cap := hmm
    have key : ∀ q : Nat × Nat, ∃ z : Int, q.1 < len → q.2 < k → w.cell? (a.add (q.1 * k + q.2)) = some (.int .i64 z) ∧ (Lit.int .i64 z).wf = true := by
      rintro ⟨i, j⟩
      by_cases h1 : i < len
      · by_cases h2 : j < k
        · obtain ⟨n, hn⟩ := hi i (by omega)
          have hj : j < fs.size := by omega
          obtain ⟨v, y, hc, hy⟩ := hn j _ (Array.getElem?_eq_getElem hj)
          obtain ⟨z, hz, _, hw⟩ := DataW.trod_int (hint j _ (Array.getElem?_eq_getElem hj)) hy
          obtain rfl : v = .int .i64 z := by simpa using hz
          exact ⟨z, fun _ _ => ⟨by rw [← hk]; exact hc, hw⟩⟩
        · exact ⟨0, fun _ h => absurd h h2⟩
      · exact ⟨0, fun h => absurd h h1⟩
    obtain ⟨f, hf⟩ := Classical.axiomOfChoice key
    refine ⟨some a, m, (List.range len).map fun i => (List.range k).map fun j => f (i, j), by simp, by simpa using hl, hm, ?_, ?_⟩
    · intro i hi
      have hi' : i < len := by simpa using hi
      refine ⟨a, rfl, fun j hj => ?_⟩
      rw [(hf (i, j) hi' hj).1]
      simp [List.getD_eq_getElem?_getD, hi', hj]
    · intro q hq
      obtain ⟨i, hi, rfl⟩ := List.mem_map.1 hq
      refine ⟨by simp, fun z hz => ?_⟩
      obtain ⟨j, hj, rfl⟩ := List.mem_map.1 hz
      exact (hf (i, j) (List.mem_range.1 hi) (List.mem_range.1 hj)).2
end
end Go.Proofs.Ytlefefcakffepaa.Open
