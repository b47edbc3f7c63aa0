/- The reference of chapter 09: Ring. -/
import Derived.Test.YtiofdkkjjeljmaaRef09h
namespace Go.Proofs.Ytiofdkkjjeljmaa.Ref09
set_option linter.unusedVariables false
set_option linter.unusedSimpArgs false
open Go.RowKit Go.Proofs.Ytiofdkkjjeljmaa.Sep Go.Proofs.Ytiofdkkjjeljmaa.Mb

/-- A core's bits, as a list. -/
def bl (m : Nat) : List Bool := (List.range 8).map m.testBit
theorem bl_len (m : Nat) : (bl m).length = 8 := by simp [bl]
theorem bl_core (m : Nat) (V : Value) : .agg (cbs (bl m) V) = coreV m V := rfl
theorem bl_or (m f : Nat) (hf : f < 8) : (bl m).set f true = bl (orN m f) := by
  refine List.ext_getElem? fun j => ?_
  by_cases hj : j < 8
  · by_cases e : f = j
    · subst e
      simp [bl, hf, orN_bit]
    · rw [List.getElem?_set_ne e]
      simp [bl, hj, orN_bit, e]
  · rw [List.getElem?_eq_none (by rw [List.length_set, bl_len]; omega), List.getElem?_eq_none (by rw [bl_len]; omega)]
section
variable {P0 : Nat → Prop} {w0 w w' : World} {F : List Rg} {V : Value} {S : List MC}
set_option maxHeartbeats 4000000 in
set_option maxRecDepth 100000 in
theorem Ring_no (h : St P0 w0 w (rb V S :: F)) (from_ to W e : Int) (hE : (e = 3 ∧ (¬ (0 ≤ from_ ∧ from_ < S.length) ∨ ((0 ≤ from_ ∧ from_ < S.length) ∧ ¬ (0 ≤ to ∧ to < S.length)))) ∨ (e = 2 ∧ (0 ≤ from_ ∧ from_ < S.length) ∧ (0 ≤ to ∧ to < S.length) ∧ ¬ (0 ≤ W ∧ W ≤ 65535))) :
    Calls Try.prog 68 #[V, .int .i64 from_, .int .i64 to, .int .i64 W] w fun x w' => x = .returned (.tuple #[V, .int .i64 e]) ∧ St P0 w0 w' (both (rb V S) (rb V S) :: F) := by
  obtain ⟨A, c, rfl, _⟩ := rb_form h
  have HA := Lib.hid (fun w => has_walk A S.length c from_ w)
  have HB := Lib.hid (fun w => has_walk A S.length c to w)
  have HS := Lib.hid h
  clear h
  have hg : (e = 3 ∧ decide (0 ≤ from_ ∧ from_ < S.length) = false) ∨ (e = 3 ∧ decide (0 ≤ from_ ∧ from_ < S.length) = true ∧ decide (0 ≤ to ∧ to < S.length) = false) ∨ (e = 2 ∧ decide (0 ≤ from_ ∧ from_ < S.length) = true ∧ decide (0 ≤ to ∧ to < S.length) = true ∧ decide (W < 0) = true) ∨ (e = 2 ∧ decide (0 ≤ from_ ∧ from_ < S.length) = true ∧ decide (0 ≤ to ∧ to < S.length) = true ∧ decide (W < 0) = false ∧ W > 65535) := by
    rcases hE with ⟨h1, h2 | ⟨h2, h3⟩⟩ | ⟨h1, h2, h3, h4⟩
    · exact .inl ⟨h1, decide_eq_false h2⟩
    · exact .inr (.inl ⟨h1, decide_eq_true h2, decide_eq_false h3⟩)
    · by_cases h5 : W < 0
      · exact .inr (.inr (.inl ⟨h1, decide_eq_true h2, decide_eq_true h3, decide_eq_true h5⟩))
      · exact .inr (.inr (.inr ⟨h1, decide_eq_true h2, decide_eq_true h3, decide_eq_false h5, by omega⟩))
  clear hE
  rcases hg with ⟨rfl, g1⟩ | ⟨rfl, g1, g2⟩ | ⟨rfl, g1, g2, g3⟩ | ⟨rfl, g1, g2, g3, g4⟩
  all_goals
    rw [g1] at HA
    (try rw [g2] at HB)
    clear g1
    (try clear g2)
    go_enter Try.func68, Try.ntmps68
    go_wp2_with (first
      | (go_at_call 69; (with_reducible refine (HA.out _).mono ?_); rintro e w' ⟨rfl, rfl⟩)
      | (go_at_call 69; (with_reducible refine (HB.out _).mono ?_); rintro e w' ⟨rfl, rfl⟩))
    go_ret2
    exact ⟨rfl, HS.out.twice⟩
end
end Go.Proofs.Ytiofdkkjjeljmaa.Ref09
