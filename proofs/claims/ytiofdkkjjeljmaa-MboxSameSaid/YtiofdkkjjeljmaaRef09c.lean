/- The reference of chapter 09: ack. -/
import Derived.Test.YtiofdkkjjeljmaaRef09b
namespace Go.Proofs.Ytiofdkkjjeljmaa.Ref09
set_option linter.unusedVariables false
set_option linter.unusedSimpArgs false
open Go.RowKit Go.Proofs.Ytiofdkkjjeljmaa.Sep Go.Proofs.Ytiofdkkjjeljmaa.Mb

/-- A core's cells, its bits as a list. -/
def cbs (B : List Bool) (V : Value) : Array Value := (B.map Value.bool ++ [V]).toArray
theorem cbs_set (B : List Bool) (V : Value) (i : Nat) (h : i < B.length) (b : Bool) : (cbs B V).setIfInBounds i (.bool b) = cbs (B.set i b) V := by
  unfold cbs
  simp [List.set_append, h, List.map_set]
theorem cbs_at (B : List Bool) (V : Value) (i : Nat) (h : i < B.length) : (cbs B V)[i]? = some (.bool (B.getD i false)) := by
  unfold cbs
  simp [List.getD_eq_getElem?_getD, List.getElem?_append, h]
/-- The bits when i of them have been gone over. -/
def gone (m : Nat) (k : Int) (i : Nat) : List Bool := (List.range 8).map fun j => if j < i then m.testBit j && !decide (k / 2 ^ j % 2 = 1) else m.testBit j
theorem gone_len (m : Nat) (k : Int) (i : Nat) : (gone m k i).length = 8 := by simp [gone]
theorem gone_at (m : Nat) (k : Int) (i : Nat) (hi : i < 8) : (gone m k i).getD i false = m.testBit i := by
  simp [gone, List.getD_eq_getElem?_getD, hi]
theorem gone_next (m : Nat) (k : Int) (i : Nat) (hi : i < 8) : gone m k (i + 1) = if k / 2 ^ i % 2 = 1 then (gone m k i).set i false else gone m k i := by
  have h : ∀ j, j < 8 → (gone m k (i + 1))[j]? = (if k / 2 ^ i % 2 = 1 then (gone m k i).set i false else gone m k i)[j]? := by
    intro j hj
    by_cases e : j = i
    · subst e
      split
      · next h => simp [gone, hi, h]
      · next h => simp [gone, hi, h]
    · have e1 : (j < i + 1) = (j < i) := by simp; omega
      split
      · rw [List.getElem?_set_ne (Ne.symm e)]
        simp [gone, hj, e1]
      · simp [gone, hj, e1]
  refine List.ext_getElem? fun j => ?_
  by_cases hj : j < 8
  · exact h j hj
  · rw [List.getElem?_eq_none (by rw [gone_len]; omega), List.getElem?_eq_none (by split <;> simp [gone_len] <;> omega)]
theorem gone_end (m : Nat) (hm : m < 256) (k : Int) (V : Value) : .agg (cbs (gone m k 8) V) = coreV (ackN m k) V := by
  rw [coreV_eq]
  unfold cbs bw gone
  rw [List.map_map]
  congr 3
  refine List.map_congr_left fun j hj => ?_
  have hj' := List.mem_range.1 hj
  simp only [Function.comp_apply, if_pos hj', ackN_bit m hm k j hj']
theorem gone_start (m : Nat) (k : Int) : gone m k 0 = [m.testBit 0, m.testBit 1, m.testBit 2, m.testBit 3, m.testBit 4, m.testBit 5, m.testBit 6, m.testBit 7] := by
  simp only [gone, Nat.not_lt_zero, if_false]
  rfl
/-- Go's remainder and quotient go over the bits. -/
theorem tmod2 (x : Int) : x.tmod 2 = if 0 ≤ x then x % 2 else -((-x) % 2) := by
  split
  · next h => exact Int.tmod_eq_emod_of_nonneg h
  · next h =>
    have e : x = -(-x) := by omega
    have h2 : (-(-x)).tmod 2 = -((-x).tmod 2) := Int.neg_tmod ..
    rw [← e] at h2
    rw [h2, Int.tmod_eq_emod_of_nonneg (by omega)]
theorem half_odd (x : Int) : (x.tmod 2 ≠ 0 ↔ x % 2 = 1) := by
  rw [tmod2]
  split <;> omega
theorem half_next (x : Int) : (if x.tmod 2 < 0 then (x - x.tmod 2).tdiv 2 - 1 else (x - x.tmod 2).tdiv 2) = x / 2 := by
  have h : (x - x.tmod 2).tdiv 2 = (x - x.tmod 2) / 2 := by
    refine Int.tdiv_eq_ediv_of_dvd ?_
    rw [tmod2]
    split <;> omega
  rw [h, tmod2]
  split <;> split <;> omega
theorem div_pow (k : Int) (i : Nat) : k / 2 ^ (i + 1) = k / 2 ^ i / 2 := by
  have hp : (0 : Int) ≤ 2 ^ i := Int.le_of_lt (Int.pow_pos (by decide))
  rw [Int.pow_succ]
  first | exact (Int.ediv_ediv hp).symm | exact (Int.ediv_ediv_of_nonneg hp).symm | exact Int.ediv_mul hp | (rw [Int.ediv_ediv]; exact hp)
end Go.Proofs.Ytiofdkkjjeljmaa.Ref09
