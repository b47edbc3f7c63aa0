/- A struct argument whose first cell is a slice of structs of ints, and whose other cells are ints. No program. -/
import Derived.Test.YtlefefcakffepaaLeaf
namespace Go.Proofs.Ytlefefcakffepaa.Leaf
set_option linter.unusedVariables false
set_option linter.unusedSimpArgs false
open Go.ChangeShapes Go.WideShapes Go.Deep
variable {H : Type} {enc : TypeId × Value → H} {P : Program} {w : World} {base : Nat} {held : Bool}
theorem open_aggRI {t s e : TypeId} {fs : Array Field} {k m d : Nat} {r : Reach} {b0 : Nat} {v : Value} {dd : DataW H} {p : List MemPlace} (ht : P.underlying t = some (.struct fs)) (hk : P.cellsOf t = m + 1)
    (h0 : leafAt P d t 0 = some s) (hs : P.underlying s = some (.slice e)) (hke : P.cellsOf e = k)
    (hinte : ((List.range k).all fun j => match leafAt P d e j with
      | some l => (match P.underlying l with
        | some (.int .i64) => true
        | _ => false)
      | none => false) = true)
    (hint : ((List.range m).all fun j => match leafAt P d t (j + 1) with
      | some l => (match P.underlying l with
        | some (.int .i64) => true
        | _ => false)
      | none => false) = true)
    (hv : Value.okWide P w r b0 t v) (h : DataW.Trod enc P w base (fun _ => true) held t v dd p) :
    ∃ (A : Option Addr) (c : Nat) (rows : List (List Int)) (l : List Int), v = .agg (.slice A rows.length c :: l.map (Value.int .i64)).toArray ∧ l.length = m ∧ (∀ z ∈ l, (Lit.int .i64 z).wf = true) ∧ (rows.length ≤ c ∧ c ≤ maxLen ∧ Open.Recs k w A rows ∧ ∀ q ∈ rows, q.length = k ∧ ∀ z ∈ q, (Lit.int .i64 z).wf = true) := by
  obtain ⟨cs, rfl, hl, n, htr⟩ := open_agg_leaf ht hk hv h
  obtain ⟨v0, n0, y0, hv0, hy0⟩ := leaf d h0 (by rw [hk]; exact hl) htr
  obtain ⟨A, c, rows, rfl, hrows⟩ := open_recsI hs hke hinte hy0
  have key : ∀ j : Nat, ∃ z : Int, j < m → cs[j + 1]? = some (.int .i64 z) ∧ (Lit.int .i64 z).wf = true := by
    intro j
    by_cases h2 : j < m
    · have hj := List.all_eq_true.1 hint j (List.mem_range.2 h2)
      split at hj
      · next l hle =>
        obtain ⟨v, m, y', hv', hy⟩ := leaf d hle (by rw [hk]; exact hl) htr
        split at hj
        · next hu =>
          obtain ⟨z, hz, _, hw⟩ := DataW.trod_int hu hy
          obtain rfl : v = .int .i64 z := by simpa using hz
          exact ⟨z, fun _ => ⟨hv', hw⟩⟩
        · cases hj
      · cases hj
    · exact ⟨0, fun h => absurd h h2⟩
  obtain ⟨f, hf⟩ := Classical.axiomOfChoice key
  refine ⟨A, c, rows, (List.range m).map f, ?_, by simp, ?_, hrows⟩
  · congr 1
    congr 1
    refine List.ext_getElem? fun j => ?_
    cases j with
    | zero => rw [hv0]; rfl
    | succ j =>
      rw [List.getElem?_cons_succ]
      by_cases h2 : j < m
      · rw [(hf j h2).1]
        simp [h2]
      · rw [List.getElem?_eq_none (by omega), List.getElem?_eq_none (by simp; omega)]
  · intro z hz
    obtain ⟨j, hj, rfl⟩ := List.mem_map.1 hz
    exact (hf j (List.mem_range.1 hj)).2
end Go.Proofs.Ytlefefcakffepaa.Leaf
