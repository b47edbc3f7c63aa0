/- LanePlays, for every input. -/
import Derived.Test.YtmfpahdbjcpmkaaLanePlays
import Derived.Test.YtmfpahdbjcpmkaaLaneOrderRow
namespace Go.Proofs.Ytmfpahdbjcpmkaa.Lane
set_option linter.unusedVariables false
set_option linter.unusedSimpArgs false
open Go.RowKit Go.Proofs.Ytmfpahdbjcpmkaa.Open

theorem plays_row (n : Int) (A : Option Addr) (c : Nat) (rows : List (List Int)) (ma mx : Int) (w : World) (wn : (Lit.int .i64 n).wf = true) (hr : Recs 2 w A rows) (hc : rows.length ≤ c) (hm : c ≤ maxLen) (hw : ∀ q ∈ rows, q.length = 2 ∧ ∀ z ∈ q, (Lit.int .i64 z).wf = true)
    (_ : (Lit.int .i64 ma).wf = true) (_ : (Lit.int .i64 mx).wf = true) :
    Calls Try.prog 5 #[.int .i64 n, .slice A rows.length c, .agg #[.int .i64 ma, .int .i64 mx]] w fun e w' => e = .returned (.bool true) ∧ Up w w' := by
  unfold maxLen at hm
  by_cases hl : rows.length ≤ 150
  · by_cases hn : n < 1 ∨ 64 < n
    · have HN := Lib.hid (New_no n hn)
      have HI := fun w => Is_ok n w
      rw [decide_eq_false (show ¬ (1 ≤ n ∧ n ≤ 64) by omega)] at HI
      have HI := Lib.hid HI
      have hgt : decide ((rows.length : Int) > 150) = false := decide_eq_false (by omega)
      have HA0 : Hid (Up w (w.alloc (.cells #[.int .i64 ma, .int .i64 mx] 38))) := Lib.hid ((Up.refl w).alloc _)
      clear hr hw
      go_enter Try.func5, Try.ntmps5
      go_wp2_with (first | (go_at_call 11; refine (HN.out _).mono ?_; rintro e w' ⟨rfl, rfl⟩) | (go_at_call 18; refine (HI.out _).mono ?_; rintro e w' ⟨rfl, hu⟩; have HU := Lib.hid (Up.trans HA0.out hu); clear hu) | (go_at_call 12; refine (alive_walk _).mono ?_; rintro e w5 ⟨rfl, hu⟩; have HA := Lib.hid hu; clear hu))
      go_ret
      exact ⟨rfl, Up.trans HU.out HA.out⟩
    · obtain ⟨m, rfl⟩ := Int.eq_ofNat_of_zero_le (show 0 ≤ n by omega)
      have h := plays_walk m (by omega) (by omega) A c (pairs rows) ma mx w (opsAt_of hr) (by rw [pairs_len]; exact hl)
      rw [pairs_len] at h
      exact h
  · have hgt : (rows.length : Int) > 150 := by omega
    have HA0 : Hid (Up w (w.alloc (.cells #[.int .i64 ma, .int .i64 mx] 38))) := Lib.hid ((Up.refl w).alloc _)
    clear hr hw
    go_enter Try.func5, Try.ntmps5
    go_wp2_with (go_at_call 12; refine (alive_walk _).mono ?_; rintro e w5 ⟨rfl, hu⟩; have HA := Lib.hid hu; clear hu)
    go_ret
    exact ⟨rfl, Up.trans HA0.out HA.out⟩
end Go.Proofs.Ytmfpahdbjcpmkaa.Lane
