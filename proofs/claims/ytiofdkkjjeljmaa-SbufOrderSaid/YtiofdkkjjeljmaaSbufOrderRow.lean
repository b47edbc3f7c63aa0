/- SbufOrder, for every input. -/
import Derived.Test.YtiofdkkjjeljmaaSbufOrder
namespace Go.Proofs.Ytiofdkkjjeljmaa.Sbuf
set_option linter.unusedVariables false
set_option linter.unusedSimpArgs false
open Go.RowKit Go.Proofs.Ytiofdkkjjeljmaa.Open Go.Proofs.Ytiofdkkjjeljmaa.Sep

set_option maxHeartbeats 1000000 in
theorem order_row (n : Int) (A : Option Addr) (c : Nat) (rows : List (List Int)) (addr : Int) (w : World) (wn : (Lit.int .i64 n).wf = true) (hr : Recs 3 w A rows) (hc : rows.length ≤ c) (hm : c ≤ maxLen) (hw : ∀ q ∈ rows, q.length = 3 ∧ ∀ z ∈ q, (Lit.int .i64 z).wf = true) (wa : (Lit.int .i64 addr).wf = true) :
    Calls Try.prog 9 #[.int .i64 n, .slice A rows.length c, .int .i64 addr] w fun e w' => e = .returned (.bool true) ∧ Up w w' := by
  unfold maxLen at hm
  by_cases h3 : 1 ≤ n ∧ n ≤ 16
  · obtain ⟨m, rfl⟩ := Int.eq_ofNat_of_zero_le (show 0 ≤ n by omega)
    by_cases h1 : rows.length ≤ 100
    · exact order_walk m (by omega) (by omega) A c rows addr w hr h1
    · have g1 : (rows.length : Int) > 100 := by omega
      clear hr hw
      go_enter Try.func9, Try.ntmps9
      go_wp2_with (first
        | (go_at_call 36; refine (New_st (St.nil w) m (by omega) (by omega)).mono ?_; rintro e w1 ⟨b, rfl, hs⟩; have HU1 := Lib.hid hs.up; clear hs)
        | (go_at_call 37; refine (alive_walk _).mono ?_; rintro e w5 ⟨rfl, hu⟩; have HA := Lib.hid (Up.trans HU1.out hu); clear hu))
      go_ret
      exact ⟨rfl, HA.out⟩
  · have HN := Lib.hid (New_no n (by omega))
    clear hr hw h3
    go_enter Try.func9, Try.ntmps9
    go_wp2_with (first
      | (go_at_call 36; refine (HN.out _).mono ?_; rintro e w1 ⟨rfl, rfl⟩)
      | (go_at_call 37; refine (alive_walk _).mono ?_; rintro e w5 ⟨rfl, hu⟩; have HA := Lib.hid hu; clear hu))
    go_ret
    exact ⟨rfl, HA.out⟩
end Go.Proofs.Ytiofdkkjjeljmaa.Sbuf
