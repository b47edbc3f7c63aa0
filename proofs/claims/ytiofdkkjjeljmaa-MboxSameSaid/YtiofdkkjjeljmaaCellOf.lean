/- The contract of cell.Of. -/
import Derived.Test.YtiofdkkjjeljmaaProg
import Derived.Test.YtiofdkkjjeljmaaBase
namespace Go.Proofs.Ytiofdkkjjeljmaa.CellOf
set_option linter.unusedVariables false
set_option linter.unusedSimpArgs false
open Go.RowKit

theorem Word_walk (a : Int) (w : World) : Calls Try.prog 96 #[.int .i64 a] w fun e w' => e = .returned (.int .i64 (wd a)) ∧ w' = w := by
  have H := Lib.hid (wd_and a)
  go_enter Try.func96, Try.ntmps96
  go_wp2
  go_ret
  exact ⟨congrArg (fun x => Ending.returned (.int .i64 x)) H.out, rfl⟩
theorem may_walk (a : Int) (w : World) : Calls Try.prog 93 #[.int .i64 a] w fun e w' => e = .returned (.bool (a == wd a)) ∧ w' = w := by
  go_enter Try.func93, Try.ntmps93
  go_wp2_with (go_at_call 96; refine (Word_walk _ _).mono ?_; rintro e w' ⟨rfl, rfl⟩)
  go_ret
  exact ⟨rfl, rfl⟩
def inW (a : Int) : Bool := a == wd a
theorem inW_iff (a : Int) : inW a = true ↔ 0 ≤ a ∧ a ≤ 65535 := by
  unfold inW wd
  rw [beq_iff_eq]
  omega
/-- A cell, or none. -/
def cellV (a b : Int) : Value := if inW a = true ∧ inW b = true then .tuple #[.complex .f64 (floatOfInt .f64 a) (floatOfInt .f64 b), .bool true] else .tuple #[.complex .f64 0 0, .bool false]
theorem Of_walk (a b : Int) (w : World) : Calls Try.prog 61 #[.int .i64 a, .int .i64 b] w fun e w' => e = .returned (cellV a b) ∧ w' = w := by
  cases ha : (a == wd a) with
  | false =>
    have E := Lib.hid (show cellV a b = .tuple #[.complex .f64 0 0, .bool false] from if_neg (fun h => by have := h.1; unfold inW at this; rw [ha] at this; cases this))
    have Ha := Lib.hid ha
    clear ha
    go_enter Try.func61, Try.ntmps61
    go_wp2_with (go_at_call 93; refine (may_walk _ _).mono ?_; rintro e w' ⟨rfl, rfl⟩; have ha := Ha.out)
    go_ret2
    exact ⟨by rw [E.out]; rfl, rfl⟩
  | true =>
    cases hb : (b == wd b) with
    | false =>
      have E := Lib.hid (show cellV a b = .tuple #[.complex .f64 0 0, .bool false] from if_neg (fun h => by have := h.2; unfold inW at this; rw [hb] at this; cases this))
      have Ha := Lib.hid ha
      have Hb := Lib.hid hb
      clear ha hb
      go_enter Try.func61, Try.ntmps61
      go_wp2_with (go_at_call 93; refine (may_walk _ _).mono ?_; rintro e w' ⟨rfl, rfl⟩; have ha := Ha.out; have hb := Hb.out)
      go_ret2
      exact ⟨by rw [E.out]; rfl, rfl⟩
    | true =>
      have E := Lib.hid (show cellV a b = .tuple #[.complex .f64 (floatOfInt .f64 a) (floatOfInt .f64 b), .bool true] from if_pos ⟨ha, hb⟩)
      have Ha := Lib.hid ha
      have Hb := Lib.hid hb
      clear ha hb
      go_enter Try.func61, Try.ntmps61
      go_wp2_with (go_at_call 93; refine (may_walk _ _).mono ?_; rintro e w' ⟨rfl, rfl⟩; have ha := Ha.out; have hb := Hb.out)
      go_ret2
      exact ⟨by rw [E.out]; rfl, rfl⟩
theorem cellV_in {a b : Int} (ha : 0 ≤ a ∧ a ≤ 65535) (hb : 0 ≤ b ∧ b ≤ 65535) : cellV a b = .tuple #[.complex .f64 (floatOfInt .f64 a) (floatOfInt .f64 b), .bool true] := if_pos ⟨(inW_iff a).2 ha, (inW_iff b).2 hb⟩
end Go.Proofs.Ytiofdkkjjeljmaa.CellOf
