/- SramCells, for every input. -/
import Derived.Test.YtiofdkkjjeljmaaSramCellsLaw
namespace Go.Proofs.Ytiofdkkjjeljmaa.Sram
set_option linter.unusedVariables false
set_option linter.unusedSimpArgs false
open Go.RowKit Go.Proofs.Ytiofdkkjjeljmaa.Open Go.Proofs.Ytiofdkkjjeljmaa.Sep

set_option maxHeartbeats 4000000 in
set_option maxRecDepth 100000 in
theorem cells_alive (n m : Int) (A0 A1 : Option Addr) (c0 c1 : Nat) (len0 len1 : Nat) (k0 a0 n0 z0 : Int) (w : World)
    (h : n < 1 ∨ (decide (n < 1) = false ∧ n > 200) ∨ (decide (n < 1) = false ∧ decide (n > 200) = false ∧ m < 1) ∨ (decide (n < 1) = false ∧ decide (n > 200) = false ∧ decide (m < 1) = false ∧ m > 200) ∨
      (decide (n < 1) = false ∧ decide (n > 200) = false ∧ decide (m < 1) = false ∧ decide (m > 200) = false ∧ (len0 : Int) > 40) ∨ (decide (n < 1) = false ∧ decide (n > 200) = false ∧ decide (m < 1) = false ∧ decide (m > 200) = false ∧ decide ((len0 : Int) > 40) = false ∧ (len1 : Int) > 40)) :
    Calls Try.prog 5 #[.int .i64 n, .int .i64 m, .agg #[.slice A0 len0 c0, .slice A1 len1 c1], .agg #[.int .i64 k0, .int .i64 a0, .int .i64 n0, .int .i64 z0]] w fun e w' => e = .returned (.bool true) ∧ Up w w' := by
  have HW := Lib.hid (((Up.refl w).alloc (.cells #[.slice A0 len0 c0, .slice A1 len1 c1] 46)).alloc (.cells #[.int .i64 k0, .int .i64 a0, .int .i64 n0, .int .i64 z0] 30))
  rcases h with h1 | ⟨h1, h2⟩ | ⟨h1, h2, h3⟩ | ⟨h1, h2, h3, h4⟩ | ⟨h1, h2, h3, h4, h5⟩ | ⟨h1, h2, h3, h4, h5, h6⟩
  all_goals
    go_enter Try.func5, Try.ntmps5
    go_wp2_with (go_at_call 14; refine (alive_walk _).mono ?_; rintro e w5 ⟨rfl, hu⟩; have HA := Lib.hid (Up.trans HW.out hu); clear hu)
    go_ret
    exact ⟨rfl, HA.out⟩
theorem cells_all (n m : Int) (A0 : Option Addr) (c0 : Nat) (rows0 : List (List Int)) (A1 : Option Addr) (c1 : Nat) (rows1 : List (List Int)) (k0 a0 n0 z0 : Int) (w : World) (_ : (Lit.int .i64 n).wf = true) (_ : (Lit.int .i64 m).wf = true)
    (hr0 : Recs 4 w A0 rows0) (hc0 : rows0.length ≤ c0) (hm0 : c0 ≤ maxLen) (_ : ∀ q ∈ rows0, q.length = 4 ∧ ∀ z ∈ q, (Lit.int .i64 z).wf = true)
    (hr1 : Recs 4 w A1 rows1) (hc1 : rows1.length ≤ c1) (hm1 : c1 ≤ maxLen) (_ : ∀ q ∈ rows1, q.length = 4 ∧ ∀ z ∈ q, (Lit.int .i64 z).wf = true)
    (_ : (Lit.int .i64 k0).wf = true) (_ : (Lit.int .i64 a0).wf = true) (_ : (Lit.int .i64 n0).wf = true) (_ : (Lit.int .i64 z0).wf = true) :
    Calls Try.prog 5 #[.int .i64 n, .int .i64 m, .agg #[.slice A0 rows0.length c0, .slice A1 rows1.length c1], .agg #[.int .i64 k0, .int .i64 a0, .int .i64 n0, .int .i64 z0]] w fun e w' => e = .returned (.bool true) ∧ Up w w' := by
  by_cases h1 : n < 1
  · exact cells_alive n m A0 A1 c0 c1 _ _ k0 a0 n0 z0 w (.inl h1)
  by_cases h2 : n > 200
  · exact cells_alive n m A0 A1 c0 c1 _ _ k0 a0 n0 z0 w (.inr (.inl ⟨decide_eq_false h1, h2⟩))
  by_cases h3 : m < 1
  · exact cells_alive n m A0 A1 c0 c1 _ _ k0 a0 n0 z0 w (.inr (.inr (.inl ⟨decide_eq_false h1, decide_eq_false h2, h3⟩)))
  by_cases h4 : m > 200
  · exact cells_alive n m A0 A1 c0 c1 _ _ k0 a0 n0 z0 w (.inr (.inr (.inr (.inl ⟨decide_eq_false h1, decide_eq_false h2, decide_eq_false h3, h4⟩))))
  by_cases h5 : (rows0.length : Int) > 40
  · exact cells_alive n m A0 A1 c0 c1 _ _ k0 a0 n0 z0 w (.inr (.inr (.inr (.inr (.inl ⟨decide_eq_false h1, decide_eq_false h2, decide_eq_false h3, decide_eq_false h4, h5⟩)))))
  by_cases h6 : (rows1.length : Int) > 40
  · exact cells_alive n m A0 A1 c0 c1 _ _ k0 a0 n0 z0 w (.inr (.inr (.inr (.inr (.inr ⟨decide_eq_false h1, decide_eq_false h2, decide_eq_false h3, decide_eq_false h4, decide_eq_false h5, h6⟩)))))
  obtain ⟨p, rfl⟩ := Int.eq_ofNat_of_zero_le (show 0 ≤ n by omega)
  obtain ⟨q, rfl⟩ := Int.eq_ofNat_of_zero_le (show 0 ≤ m by omega)
  exact cells_walk p q (by omega) (by omega) (by omega) (by omega) A0 A1 c0 c1 rows0 rows1 k0 a0 n0 z0 w hr0 hr1 (by omega) (by omega)
end Go.Proofs.Ytiofdkkjjeljmaa.Sram
