/- BusPlays, for every input. -/
import Derived.Test.YtlefefcakffepaaBplay
namespace Go.Proofs.Ytlefefcakffepaa.Br
set_option linter.unusedVariables false
set_option linter.unusedSimpArgs false
open Go.RowKit Go.Proofs.Ytlefefcakffepaa.Open Go.Proofs.Ytlefefcakffepaa.Sep Go.Proofs.Ytlefefcakffepaa.Bus

set_option maxHeartbeats 1000000 in
set_option maxRecDepth 100000 in
theorem plays_row (n m k : Int) (A : Option Addr) (c : Nat) (rows : List (List Int)) (w : World) (wn : (Lit.int .i64 n).wf = true) (wm : (Lit.int .i64 m).wf = true) (wk : (Lit.int .i64 k).wf = true) (hr : Recs 4 w A rows) (hc : rows.length ≤ c) (hm : c ≤ maxLen) (hw : ∀ q ∈ rows, q.length = 4 ∧ ∀ z ∈ q, (Lit.int .i64 z).wf = true) :
    Calls Try.prog 4 #[.int .i64 n, .int .i64 m, .int .i64 k, .slice A rows.length c] w fun e w' => e = .returned (.bool true) ∧ Up w w' := by
  by_cases h2 : rows.length ≤ 80 ∧ m ≤ 200
  · by_cases h1 : (1 ≤ n ∧ n ≤ 8) ∧ (1 ≤ m ∧ m ≤ 65536) ∧ 1 ≤ k ∧ k ≤ 16
    · obtain ⟨n, rfl⟩ := Int.eq_ofNat_of_zero_le (show 0 ≤ n by omega)
      obtain ⟨m, rfl⟩ := Int.eq_ofNat_of_zero_le (show 0 ≤ m by omega)
      obtain ⟨k, rfl⟩ := Int.eq_ofNat_of_zero_le (show 0 ≤ k by omega)
      exact plays_walk n m k (by omega) A c rows w hr h2.1
    · have HN := Lib.hid (fun wx => New_no n m k h1 wx)
      have HF := Lib.hid (fun wx => few_q m A rows.length c wx h2.1 h2.2)
      have HI := Lib.hid (fun wx => is_u n m k wx)
      rw [decide_eq_false h1] at HI
      clear hr hw hm hc h1 h2
      go_enter Try.func4, Try.ntmps4
      go_wp2_with fail
      refine (HF.out _).mono ?_
      rintro e wg ⟨rfl, hwg⟩
      subst hwg
      go_wp2_with fail
      refine (HN.out _).mono ?_
      rintro e w1 ⟨rfl, hu⟩
      have HU1 := Lib.hid hu
      clear hu
      go_wp2_with fail
      refine (HI.out _).mono ?_
      rintro e w2 ⟨rfl, hu⟩
      have HU2 := Lib.hid (HU1.out.trans hu)
      clear hu HI HN HF
      go_wp2_with (go_at_call 11; refine (alive_walk _).mono ?_; rintro e w5 ⟨rfl, hu⟩; have HA := Lib.hid (Up.trans HU2.out hu); clear hu)
      go_ret
      exact ⟨rfl, HA.out⟩
  · have HF := Lib.hid (fun wx => few_no m A rows.length c wx h2)
    clear hr hw hm hc h2
    go_enter Try.func4, Try.ntmps4
    go_wp2_with fail
    refine (HF.out _).mono ?_
    rintro e wg ⟨rfl, hwg⟩
    subst hwg
    go_wp2_with fail
    refine (alive_walk _).mono ?_
    rintro e w5 ⟨rfl, hu⟩
    have HA := Lib.hid hu
    clear hu
    go_wp2_with fail
    go_ret
    exact ⟨rfl, HA.out⟩
end Go.Proofs.Ytlefefcakffepaa.Br
