/- Arguments opened, whatever structs lie in structs: each cell by the type of its leaf. No program, no condition. -/
import Derived.Test.YtlefefcakffepaaOpen
import Derived.Deep.Slices
import Derived.OpenShut
namespace Go.Proofs.Ytlefefcakffepaa.Leaf
set_option linter.unusedVariables false
set_option linter.unusedSimpArgs false
open Go.ChangeShapes Go.WideShapes Go.Deep

/-- The type of cell j of a type. -/
def leafAt (P : Program) : Nat → TypeId → Nat → Option TypeId
  | 0, _, _ => none
  | d + 1, t, j => match P.underlying t with
    | some (.struct fs) => match fs.toList.find? (fun f => decide (f.offset ≤ j) && decide (j < f.offset + P.cellsOf f.type) && decide (f.offset + P.cellsOf f.type ≤ P.cellsOf t)) with
      | some f => leafAt P d f.type (j - f.offset)
      | none => none
    | _ => if j = 0 ∧ P.cellsOf t = 1 then some t else none
section
variable {H : Type} {enc : TypeId × Value → H} {P : Program} {w : World} {base : Nat} {spare : Nat → Bool} {held : Bool}
theorem leaf : ∀ (d : Nat) {t l : TypeId} {j fuel : Nat} {cs : List Value} {x : DataW H × List MemPlace}, leafAt P d t j = some l → cs.length = P.cellsOf t → DataW.trod enc P w base spare held fuel t cs = some x →
    ∃ v n y, cs[j]? = some v ∧ DataW.trod enc P w base spare held n l [v] = some y
  | 0, t, l, j, fuel, cs, x, h, _, _ => by simp [leafAt] at h
  | d + 1, t, l, j, fuel, cs, x, h, hlen, ht => by
    unfold leafAt at h
    split at h
    · next fs hu =>
      split at h
      · next f hf =>
        have h1 := List.find?_some hf
        have hm := List.mem_of_find?_eq_some hf
        simp only [Bool.and_eq_true, decide_eq_true_eq] at h1
        obtain ⟨i, hi, rfl⟩ := List.getElem_of_mem hm
        obtain ⟨ys, n, _, _, _, hyl, hfld⟩ := DataW.trod_struct hu ht
        have hi' : i < fs.size := by simpa using hi
        have h2 := hfld i fs[i] (Array.getElem?_eq_getElem hi')
        have e0 : fs.toList[i] = fs[i] := by simp
        rw [e0] at h h1
        rw [List.getElem?_eq_getElem (by omega)] at h2
        obtain ⟨v, m, y, hv, hy⟩ := leaf d h (by rw [List.length_take, List.length_drop]; omega) h2
        refine ⟨v, m, y, ?_, hy⟩
        rw [List.getElem?_take, if_pos (by omega), List.getElem?_drop] at hv
        rw [← hv]
        congr 1
        omega
      · cases h
    · split at h
      · next h0 =>
        cases h
        obtain ⟨rfl, h1⟩ := h0
        rw [h1] at hlen
        match cs, hlen with
        | [v], _ => exact ⟨v, fuel, x, rfl, ht⟩
      · cases h
/-- A slice's elements, cell by cell. -/
theorem open_slice_leaf {t e : TypeId} {k fuel : Nat} {v : Value} {x : DataW H × List MemPlace} (ht : P.underlying t = some (.slice e)) (hk : P.cellsOf e = k) (h : DataW.trod enc P w base (fun _ => true) held fuel t [v] = some x) :
    ∃ (A : Option Addr) (len c : Nat), v = .slice A len c ∧ len ≤ c ∧ c ≤ maxLen ∧
      ∀ i, i < len → ∃ ad cs n y, A = some ad ∧ cs.length = k ∧ (∀ j, j < k → w.cell? (ad.add (i * k + j)) = cs[j]?) ∧ DataW.trod enc P w base (fun _ => true) held n e cs = some y := by
  rcases open_slice ht h with ⟨h0, _⟩ | ⟨a, len, cap, m, n, D, Pl, hcs, hb, hl, hm, hmm, hx, hi⟩
  · obtain rfl : v = .slice none 0 0 := by simpa using h0
    exact ⟨none, 0, 0, rfl, Nat.le_refl _, Nat.zero_le _, fun i hi => absurd hi (by omega)⟩
  · obtain rfl : v = .slice (some a) len cap := by simpa using hcs
    refine ⟨some a, len, cap, rfl, hl, hm, fun i him => ?_⟩
    obtain rfl : m = cap := hmm
    obtain ⟨cs, hc, htr⟩ := hi i (by omega)
    obtain ⟨_, hcl, hat⟩ := World.cells?_some hc
    rw [hk] at hcl hat
    refine ⟨a, cs, n, _, rfl, hcl, fun j hj => ?_, htr⟩
    rw [← Go.Deep.add_add, ← hk, ← hat j hj, hk]
/-- A slice whose elements' cells are all ints. -/
theorem open_recsI {t e : TypeId} {k d fuel : Nat} {v : Value} {x : DataW H × List MemPlace} (ht : P.underlying t = some (.slice e)) (hk : P.cellsOf e = k)
    (hint : ((List.range k).all fun j => match leafAt P d e j with
      | some l => (match P.underlying l with
        | some (.int .i64) => true
        | _ => false)
      | none => false) = true)
    (h : DataW.trod enc P w base (fun _ => true) held fuel t [v] = some x) :
    ∃ (A : Option Addr) (c : Nat) (rows : List (List Int)), v = .slice A rows.length c ∧ (rows.length ≤ c ∧ c ≤ maxLen ∧ Open.Recs k w A rows ∧ ∀ q ∈ rows, q.length = k ∧ ∀ z ∈ q, (Lit.int .i64 z).wf = true) := by
  obtain ⟨A, len, c, rfl, hlc, hcm, hi⟩ := open_slice_leaf ht hk h
  have key : ∀ q : Nat × Nat, ∃ z : Int, q.1 < len → q.2 < k → ∃ ad, A = some ad ∧ w.cell? (ad.add (q.1 * k + q.2)) = some (.int .i64 z) ∧ (Lit.int .i64 z).wf = true := by
    rintro ⟨i, j⟩
    by_cases h1 : i < len
    · by_cases h2 : j < k
      · obtain ⟨ad, cs, n, y, hA, hcl, hat, htr⟩ := hi i h1
        have hj := List.all_eq_true.1 hint j (List.mem_range.2 h2)
        split at hj
        · next l hl =>
          obtain ⟨v, m, y', hv, hy⟩ := leaf d hl (by rw [hk]; exact hcl) htr
          split at hj
          · next hu =>
            obtain ⟨z, hz, _, hw⟩ := DataW.trod_int hu hy
            obtain rfl : v = .int .i64 z := by simpa using hz
            exact ⟨z, fun _ _ => ⟨ad, hA, by rw [hat j h2]; exact hv, hw⟩⟩
          · cases hj
        · cases hj
      · exact ⟨0, fun _ h => absurd h h2⟩
    · exact ⟨0, fun h => absurd h h1⟩
  obtain ⟨f, hf⟩ := Classical.axiomOfChoice key
  refine ⟨A, c, (List.range len).map fun i => (List.range k).map fun j => f (i, j), by simp, by simpa using hlc, hcm, ?_, ?_⟩
  · intro i hi'
    have hi2 : i < len := by simpa using hi'
    by_cases hk0 : 0 < k
    · obtain ⟨ad, hA, _⟩ := hf (i, 0) hi2 hk0
      refine ⟨ad, hA, fun j hj => ?_⟩
      obtain ⟨ad', hA', hc', _⟩ := hf (i, j) hi2 hj
      rw [hA] at hA'
      cases hA'
      rw [hc']
      simp [List.getD_eq_getElem?_getD, hi2, hj]
    · obtain ⟨ad, cs, n, y, hA, _⟩ := hi i hi2
      exact ⟨ad, hA, fun j hj => absurd hj (by omega)⟩
  · intro q hq
    obtain ⟨i, hi', rfl⟩ := List.mem_map.1 hq
    refine ⟨by simp, fun z hz => ?_⟩
    obtain ⟨j, hj, rfl⟩ := List.mem_map.1 hz
    obtain ⟨ad, _, _, hw⟩ := hf (i, j) (List.mem_range.1 hi') (List.mem_range.1 hj)
    exact hw
/-- A struct by value, cell by cell. -/
theorem open_agg_leaf {t : TypeId} {fs : Array Field} {k : Nat} {r : Reach} {b0 : Nat} {v : Value} {dd : DataW H} {p : List MemPlace} (ht : P.underlying t = some (.struct fs)) (hk : P.cellsOf t = k)
    (hv : Value.okWide P w r b0 t v) (h : DataW.Trod enc P w base spare held t v dd p) :
    ∃ cs : List Value, v = .agg cs.toArray ∧ cs.length = k ∧ ∃ n, DataW.trod enc P w base spare held n t cs = some (dd, p) := by
  unfold Value.okWide at hv
  rw [ht] at hv
  obtain ⟨cs, rfl, hsz, _⟩ := hv
  obtain ⟨n, hn⟩ := h
  exact ⟨cs.toList, by simp, by simpa [hk] using hsz, n, by simpa [Value.cells] using hn⟩
/-- A struct by value whose cells are all ints. -/
theorem open_aggI {t : TypeId} {fs : Array Field} {k d : Nat} {r : Reach} {b0 : Nat} {v : Value} {dd : DataW H} {p : List MemPlace} (ht : P.underlying t = some (.struct fs)) (hk : P.cellsOf t = k)
    (hint : ((List.range k).all fun j => match leafAt P d t j with
      | some l => (match P.underlying l with
        | some (.int .i64) => true
        | _ => false)
      | none => false) = true)
    (hv : Value.okWide P w r b0 t v) (h : DataW.Trod enc P w base spare held t v dd p) :
    ∃ l : List Int, v = .agg (l.map (Value.int .i64)).toArray ∧ l.length = k ∧ ∀ z ∈ l, (Lit.int .i64 z).wf = true := by
  obtain ⟨cs, rfl, hl, n, htr⟩ := open_agg_leaf ht hk hv h
  have key : ∀ j : Nat, ∃ z : Int, j < k → cs[j]? = some (.int .i64 z) ∧ (Lit.int .i64 z).wf = true := by
    intro j
    by_cases h2 : j < k
    · have hj := List.all_eq_true.1 hint j (List.mem_range.2 h2)
      split at hj
      · next l hle =>
        obtain ⟨v, m, y', hv', hy⟩ := leaf d hle (by rw [hk]; exact hl) htr
        split at hj
        · next hu =>
          obtain ⟨z, hz, _, hw⟩ := DataW.trod_int hu hy
          obtain rfl : v = .int .i64 z := by simpa using hz
          exact ⟨z, fun _ => ⟨hv', hw⟩⟩
        · cases hj
      · cases hj
    · exact ⟨0, fun h => absurd h h2⟩
  obtain ⟨f, hf⟩ := Classical.axiomOfChoice key
  refine ⟨(List.range k).map f, ?_, by simp, ?_⟩
  · congr 1
    congr 1
    refine List.ext_getElem? fun j => ?_
    by_cases h2 : j < k
    · rw [(hf j h2).1]
      simp [h2]
    · rw [List.getElem?_eq_none (by omega), List.getElem?_eq_none (by simp; omega)]
  · intro z hz
    obtain ⟨j, hj, rfl⟩ := List.mem_map.1 hz
    exact (hf j (List.mem_range.1 hj)).2
/-- A slice argument whose elements' cells are all ints. -/
theorem open_recsIT {t e : TypeId} {k d : Nat} {r : Reach} {b0 : Nat} {v : Value} {dd : DataW H} {p : List MemPlace} (ht : P.underlying t = some (.slice e)) (hk : P.cellsOf e = k)
    (hint : ((List.range k).all fun j => match leafAt P d e j with
      | some l => (match P.underlying l with
        | some (.int .i64) => true
        | _ => false)
      | none => false) = true)
    (hv : Value.okWide P w r b0 t v) (h : DataW.Trod enc P w base (fun _ => true) held t v dd p) :
    ∃ (A : Option Addr) (c : Nat) (rows : List (List Int)), v = .slice A rows.length c ∧ (rows.length ≤ c ∧ c ≤ maxLen ∧ Open.Recs k w A rows ∧ ∀ q ∈ rows, q.length = k ∧ ∀ z ∈ q, (Lit.int .i64 z).wf = true) := by
  obtain ⟨A, l, c, rfl⟩ := okWide_slice ht hv
  obtain ⟨n, hn⟩ := h
  exact open_recsI ht hk hint (by simpa [Value.cells] using hn)
end
end Go.Proofs.Ytlefefcakffepaa.Leaf
