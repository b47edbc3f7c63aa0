/- SramPlays, for every input. -/
import Derived.Test.YtiofdkkjjeljmaaSramPlays
namespace Go.Proofs.Ytiofdkkjjeljmaa.Sram
set_option linter.unusedVariables false
set_option linter.unusedSimpArgs false
open Go.RowKit Go.Proofs.Ytiofdkkjjeljmaa.Open Go.Proofs.Ytiofdkkjjeljmaa.Sep

set_option maxHeartbeats 1000000 in
theorem plays_row (n : Int) (A : Option Addr) (c : Nat) (rows : List (List Int)) (w : World) (wn : (Lit.int .i64 n).wf = true) (hr : Recs 4 w A rows) (hc : rows.length ≤ c) (hm : c ≤ maxLen) (hw : ∀ q ∈ rows, q.length = 4 ∧ ∀ z ∈ q, (Lit.int .i64 z).wf = true) :
    Calls Try.prog 4 #[.int .i64 n, .slice A rows.length c] w fun e w' => e = .returned (.bool true) ∧ Up w w' := by
  unfold maxLen at hm
  by_cases h1 : rows.length ≤ 60
  · by_cases h2 : 300 < n ∧ 0 < rows.length
    · have g1 : decide ((rows.length : Int) > 60) = false := decide_eq_false (by omega)
      have g2 : n > 300 := h2.1
      have g3 : 0 < rows.length := h2.2
      clear hr hw
      go_enter Try.func4, Try.ntmps4
      go_wp2_with (go_at_call 14; refine (alive_walk _).mono ?_; rintro e w5 ⟨rfl, hu⟩; have HA := Lib.hid hu; clear hu)
      go_ret
      exact ⟨rfl, HA.out⟩
    · by_cases h3 : 1 ≤ n ∧ n ≤ 65536
      · obtain ⟨m, rfl⟩ := Int.eq_ofNat_of_zero_le (show 0 ≤ n by omega)
        exact plays_walk m (by omega) (by omega) A c rows w hr h1 (by omega)
      · have g1 : decide ((rows.length : Int) > 60) = false := decide_eq_false (by omega)
        have hg : decide (n > 300) = false ∨ (decide (n > 300) = true ∧ decide (0 < rows.length) = false) := by
          by_cases h : n ≤ 300
          · exact .inl (decide_eq_false (by omega))
          · exact .inr ⟨decide_eq_true (by omega), decide_eq_false (by omega)⟩
        have HI := ref_is n
        rw [decide_eq_false h3] at HI
        have HI := Lib.hid HI
        have HN := Lib.hid (new_no n (by omega))
        clear hr hw h3 h2
        rcases hg with hg | ⟨hg, hg'⟩
        all_goals
          go_enter Try.func4, Try.ntmps4
          go_wp2_with (first
            | (go_at_call 15; refine (HN.out _).mono ?_; rintro e w1 ⟨rfl, hu⟩; have HU1 := Lib.hid hu; clear hu)
            | (go_at_call 19; refine (HI.out _).mono ?_; rintro e w2 ⟨rfl, hu⟩; have HU2 := Lib.hid (Up.trans HU1.out hu); clear hu)
            | (go_at_call 14; refine (alive_walk _).mono ?_; rintro e w5 ⟨rfl, hu⟩; have HA := Lib.hid (Up.trans HU2.out hu); clear hu))
          go_ret
          exact ⟨rfl, HA.out⟩
  · have g1 : (rows.length : Int) > 60 := by omega
    clear hr hw
    go_enter Try.func4, Try.ntmps4
    go_wp2_with (go_at_call 14; refine (alive_walk _).mono ?_; rintro e w5 ⟨rfl, hu⟩; have HA := Lib.hid hu; clear hu)
    go_ret
    exact ⟨rfl, HA.out⟩
end Go.Proofs.Ytiofdkkjjeljmaa.Sram
