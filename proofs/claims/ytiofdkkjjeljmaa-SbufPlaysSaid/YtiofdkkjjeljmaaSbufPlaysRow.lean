/- SbufPlays, for every input. -/
import Derived.Test.YtiofdkkjjeljmaaSbufPlays
namespace Go.Proofs.Ytiofdkkjjeljmaa.Sbuf
set_option linter.unusedVariables false
set_option linter.unusedSimpArgs false
open Go.RowKit Go.Proofs.Ytiofdkkjjeljmaa.Open Go.Proofs.Ytiofdkkjjeljmaa.Sep

set_option maxHeartbeats 1000000 in
theorem plays_row (n : Int) (A : Option Addr) (c : Nat) (rows : List (List Int)) (mk ma mv : Int) (w : World) (wn : (Lit.int .i64 n).wf = true) (hr : Recs 3 w A rows) (hc : rows.length ≤ c) (hm : c ≤ maxLen) (hw : ∀ q ∈ rows, q.length = 3 ∧ ∀ z ∈ q, (Lit.int .i64 z).wf = true) (wk : (Lit.int .i64 mk).wf = true) (wa : (Lit.int .i64 ma).wf = true) (wv : (Lit.int .i64 mv).wf = true) :
    Calls Try.prog 10 #[.int .i64 n, .slice A rows.length c, .agg #[.int .i64 mk, .int .i64 ma, .int .i64 mv]] w fun e w' => e = .returned (.bool true) ∧ Up w w' := by
  unfold maxLen at hm
  have HU0 := Lib.hid ((Up.refl w).alloc (.cells #[.int .i64 mk, .int .i64 ma, .int .i64 mv] 85))
  by_cases h1 : rows.length ≤ 100
  · by_cases h3 : 1 ≤ n ∧ n ≤ 16
    · obtain ⟨m, rfl⟩ := Int.eq_ofNat_of_zero_le (show 0 ≤ n by omega)
      exact plays_walk m (by omega) (by omega) A c rows mk ma mv w hr h1
    · have g1 : decide ((rows.length : Int) > 100) = false := decide_eq_false (by omega)
      have HI := ref_is n
      rw [decide_eq_false h3] at HI
      have HI := Lib.hid HI
      have HN := Lib.hid (New_no n (by omega))
      clear hr hw h3
      go_enter Try.func10, Try.ntmps10
      go_wp2_with (first
        | (go_at_call 36; refine (HN.out _).mono ?_; rintro e w1 ⟨rfl, rfl⟩)
        | (go_at_call 46; refine (HI.out _).mono ?_; rintro e w2 ⟨rfl, hu⟩; have HU2 := Lib.hid (Up.trans HU0.out hu); clear hu)
        | (go_at_call 37; refine (alive_walk _).mono ?_; rintro e w5 ⟨rfl, hu⟩; have HA := Lib.hid (Up.trans HU2.out hu); clear hu))
      go_ret
      exact ⟨rfl, HA.out⟩
  · have g1 : (rows.length : Int) > 100 := by omega
    clear hr hw
    go_enter Try.func10, Try.ntmps10
    go_wp2_with (go_at_call 37; refine (alive_walk _).mono ?_; rintro e w5 ⟨rfl, hu⟩; have HA := Lib.hid (Up.trans HU0.out hu); clear hu)
    go_ret
    exact ⟨rfl, HA.out⟩
end Go.Proofs.Ytiofdkkjjeljmaa.Sbuf
