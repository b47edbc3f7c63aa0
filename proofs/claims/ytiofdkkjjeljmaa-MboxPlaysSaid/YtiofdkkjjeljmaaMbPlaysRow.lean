/- MboxPlays, for every input. -/
import Derived.Test.YtiofdkkjjeljmaaMbPlays
namespace Go.Proofs.Ytiofdkkjjeljmaa.Mb
set_option linter.unusedVariables false
set_option linter.unusedSimpArgs false
open Go.RowKit Go.Proofs.Ytiofdkkjjeljmaa.Open Go.Proofs.Ytiofdkkjjeljmaa.Sep

set_option maxHeartbeats 2000000 in
set_option maxRecDepth 100000 in
theorem plays_row (n : Int) (A : Option Addr) (c : Nat) (rows : List (List Int)) (w : World) (wn : (Lit.int .i64 n).wf = true) (hr : Recs 4 w A rows) (hc : rows.length ≤ c) (hm : c ≤ maxLen) (hw : ∀ q ∈ rows, q.length = 4 ∧ ∀ z ∈ q, (Lit.int .i64 z).wf = true) :
    Calls Try.prog 7 #[.int .i64 n, .slice A rows.length c] w fun e w' => e = .returned (.bool true) ∧ Up w w' := by
  unfold maxLen at hm
  by_cases hk : rows.length ≤ 120
  · by_cases h3 : 1 ≤ n ∧ n ≤ 8
    · obtain ⟨m, rfl⟩ := Int.eq_ofNat_of_zero_le (show 0 ≤ n by omega)
      exact Ref09.plays_walk m (by omega) (by omega) A c rows w hr hw hk
    · have HN := Lib.hid (New_no n (by omega))
      have HI := Lib.hid (Ref09.Is_walk n)
      rw [decide_eq_false h3] at HI
      have g1 : decide ((rows.length : Int) > 120) = false := decide_eq_false (by omega)
      clear hr hw h3 hk
      go_enter Try.func7, Try.ntmps7
      go_wp2_with (first
        | (go_at_call 29; refine (HN.out _).mono ?_; rintro e w1 ⟨rfl, rfl⟩)
        | (go_at_call 30; (with_reducible refine (HI.out _).mono ?_); rintro e w2 ⟨rfl, rfl⟩)
        | (go_at_call 28; refine (alive_walk _).mono ?_; rintro e w5 ⟨rfl, hu⟩; have HA := Lib.hid hu; clear hu))
      go_ret
      exact ⟨rfl, HA.out⟩
  · have g1 : (rows.length : Int) > 120 := by omega
    clear hr hw hk
    go_enter Try.func7, Try.ntmps7
    go_wp2_with (go_at_call 28; refine (alive_walk _).mono ?_; rintro e w5 ⟨rfl, hu⟩; have HA := Lib.hid hu; clear hu)
    go_ret
    exact ⟨rfl, HA.out⟩
end Go.Proofs.Ytiofdkkjjeljmaa.Mb
