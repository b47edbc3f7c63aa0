/- MboxOrder, for every input. -/
import Derived.Test.YtiofdkkjjeljmaaMbOrder
namespace Go.Proofs.Ytiofdkkjjeljmaa.Mb
set_option linter.unusedVariables false
set_option linter.unusedSimpArgs false
open Go.RowKit Go.Proofs.Ytiofdkkjjeljmaa.Open Go.Proofs.Ytiofdkkjjeljmaa.Sep

set_option maxHeartbeats 2000000 in
set_option maxRecDepth 100000 in
theorem order_row (n : Int) (A : Option Addr) (c : Nat) (rows : List (List Int)) (core : Int) (w : World) (wn : (Lit.int .i64 n).wf = true) (hr : Recs 4 w A rows) (hc : rows.length ≤ c) (hm : c ≤ maxLen) (hw : ∀ q ∈ rows, q.length = 4 ∧ ∀ z ∈ q, (Lit.int .i64 z).wf = true) (wa : (Lit.int .i64 core).wf = true) :
    Calls Try.prog 8 #[.int .i64 n, .slice A rows.length c, .int .i64 core] w fun e w' => e = .returned (.bool true) ∧ Up w w' := by
  unfold maxLen at hm
  by_cases h3 : 1 ≤ n ∧ n ≤ 8
  · obtain ⟨m, rfl⟩ := Int.eq_ofNat_of_zero_le (show 0 ≤ n by omega)
    by_cases hk : rows.length ≤ 120 ∧ 0 ≤ core ∧ core < m
    · obtain ⟨k, rfl⟩ := Int.eq_ofNat_of_zero_le hk.2.1
      exact order_walk m (by omega) (by omega) A c rows k (by omega) w hr hk.1
    · have hg : (rows.length : Int) > 120 ∨ (decide ((rows.length : Int) > 120) = false ∧ decide (core < 0) = true) ∨ (decide ((rows.length : Int) > 120) = false ∧ decide (core < 0) = false ∧ core ≥ (m : Int)) := by
        by_cases h : rows.length ≤ 120
        · by_cases h' : core < 0
          · exact .inr (.inl ⟨decide_eq_false (by omega), decide_eq_true h'⟩)
          · exact .inr (.inr ⟨decide_eq_false (by omega), decide_eq_false h', by omega⟩)
        · exact .inl (by omega)
      clear hr hw hk
      rcases hg with g1 | ⟨g1, g2⟩ | ⟨g1, g2, g3⟩
      all_goals
        go_enter Try.func8, Try.ntmps8
        go_wp2_with (first
          | (go_at_call 29; refine (New_st (St.nil w) m (by omega) (by omega)).mono ?_; rintro e w1 ⟨b, rfl, hs⟩; have HU1 := Lib.hid hs.up; clear hs)
          | (go_at_call 28; refine (alive_walk _).mono ?_; rintro e w5 ⟨rfl, hu⟩; have HA := Lib.hid (Up.trans HU1.out hu); clear hu))
        go_ret
        exact ⟨rfl, HA.out⟩
  · have HN := Lib.hid (New_no n (by omega))
    clear hr hw h3
    go_enter Try.func8, Try.ntmps8
    go_wp2_with (first
      | (go_at_call 29; refine (HN.out _).mono ?_; rintro e w1 ⟨rfl, rfl⟩)
      | (go_at_call 28; refine (alive_walk _).mono ?_; rintro e w5 ⟨rfl, hu⟩; have HA := Lib.hid hu; clear hu))
    go_ret
    exact ⟨rfl, HA.out⟩
end Go.Proofs.Ytiofdkkjjeljmaa.Mb
