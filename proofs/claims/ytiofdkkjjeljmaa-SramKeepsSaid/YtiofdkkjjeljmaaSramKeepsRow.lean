/- SramKeeps, for every input. -/
import Derived.Test.YtiofdkkjjeljmaaSramKeeps
namespace Go.Proofs.Ytiofdkkjjeljmaa.Sram
set_option linter.unusedVariables false
set_option linter.unusedSimpArgs false
open Go.RowKit Go.Proofs.Ytiofdkkjjeljmaa.Open

theorem keeps_row (n : Int) (A : Option Addr) (c : Nat) (rows : List (List Int)) (x y z : Int) (w : World) (wn : (Lit.int .i64 n).wf = true) (hr : Recs 4 w A rows) (hc : rows.length ≤ c) (hm : c ≤ maxLen) (hw : ∀ q ∈ rows, q.length = 4 ∧ ∀ z ∈ q, (Lit.int .i64 z).wf = true)
    (_ : (Lit.int .i64 x).wf = true) (_ : (Lit.int .i64 y).wf = true) (_ : (Lit.int .i64 z).wf = true) :
    Calls Try.prog 3 #[.int .i64 n, .slice A rows.length c, .agg #[.int .i64 x, .int .i64 y, .int .i64 z]] w fun e w' => e = .returned (.bool true) ∧ Up w w' := by
  unfold maxLen at hm
  have HW := Lib.hid ((Up.refl w).alloc (.cells #[.int .i64 x, .int .i64 y, .int .i64 z] 23))
  by_cases h1 : n < 1
  · clear hr hw
    go_enter Try.func3, Try.ntmps3
    go_wp2_with (go_at_call 14; refine (alive_walk _).mono ?_; rintro e w5 ⟨rfl, hu⟩; have HA := Lib.hid hu; clear hu)
    go_ret
    exact ⟨rfl, Up.trans HW.out HA.out⟩
  · by_cases h2 : n > 200
    · have h1' : decide (n < 1) = false := decide_eq_false h1
      clear hr hw h1
      go_enter Try.func3, Try.ntmps3
      go_wp2_with (go_at_call 14; refine (alive_walk _).mono ?_; rintro e w5 ⟨rfl, hu⟩; have HA := Lib.hid hu; clear hu)
      go_ret
      exact ⟨rfl, Up.trans HW.out HA.out⟩
    · by_cases h3 : rows.length ≤ 40
      · obtain ⟨m, rfl⟩ := Int.eq_ofNat_of_zero_le (show 0 ≤ n by omega)
        exact keeps_walk m (by omega) (by omega) A c rows x y z w hr h3
      · have h1' : decide (n < 1) = false := decide_eq_false h1
        have h2' : decide (n > 200) = false := decide_eq_false h2
        have h3' : (rows.length : Int) > 40 := by omega
        clear hr hw h1 h2 h3
        go_enter Try.func3, Try.ntmps3
        go_wp2_with (go_at_call 14; refine (alive_walk _).mono ?_; rintro e w5 ⟨rfl, hu⟩; have HA := Lib.hid hu; clear hu)
        go_ret
        exact ⟨rfl, Up.trans HW.out HA.out⟩
end Go.Proofs.Ytiofdkkjjeljmaa.Sram
