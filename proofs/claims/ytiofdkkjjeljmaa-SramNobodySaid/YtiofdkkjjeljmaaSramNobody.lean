/- SramNobody, walked: a memory that is nil has nothing. -/
import Derived.Test.YtiofdkkjjeljmaaSramAlive
namespace Go.Proofs.Ytiofdkkjjeljmaa.Sram
set_option linter.unusedVariables false
set_option linter.unusedSimpArgs false
open Go.RowKit Go.Proofs.Ytiofdkkjjeljmaa.Lat Go.Proofs.Ytiofdkkjjeljmaa.CellOf Go.Proofs.Ytiofdkkjjeljmaa.Equal Go.Proofs.Ytiofdkkjjeljmaa.Same3

theorem do_nil' (k a n z : Int) (w : World) : Calls Try.prog 16 #[.pointer none, .agg #[.int .i64 k, .int .i64 a, .int .i64 n, .int .i64 z]] w fun e w' => ∃ A m c, e = .returned (.tuple #[.slice A m c, .int .i64 1]) ∧ m ≤ 1 ∧ (0 < m → ∃ ad, A = some ad ∧ w'.cell? ad = some (.int .i64 0)) ∧ Up w w' := by
  refine (do_nil k a n z w).mono ?_
  rintro e w' ⟨v, rfl, rfl | h, hu⟩
  · exact ⟨_, _, _, rfl, by omega, fun h => absurd h (by omega), hu⟩
  · obtain ⟨A, c, rfl⟩ := h.len
    refine ⟨_, _, _, rfl, by simp, fun _ => ?_, hu⟩
    obtain ⟨ad, e, h2⟩ := CAt.of_lat h 0 (.int .i64 0) rfl
    exact ⟨ad, e, h2⟩
set_option maxHeartbeats 4000000 in
set_option maxRecDepth 100000 in
theorem nobody_walk (k a n z : Int) (w : World) : Calls Try.prog 6 #[.agg #[.int .i64 k, .int .i64 a, .int .i64 n, .int .i64 z]] w fun e w' => e = .returned (.bool true) ∧ Up w w' := by
  have HW := Lib.hid (block_new w (.cells #[.int .i64 k, .int .i64 a, .int .i64 n, .int .i64 z] 30))
  have HWU := Lib.hid ((Up.refl w).alloc (.cells #[.int .i64 k, .int .i64 a, .int .i64 n, .int .i64 z] 30))
  go_enter Try.func6, Try.ntmps6
  go_wp2_with fail
  refine (new_ok 1 (by omega) (by omega) _).mono ?_
  rintro e w1 ⟨b, R, rfl, hr, hu, hb, hR⟩
  have HU1 := Lib.hid (Up.trans HWU.out hu)
  have hB := block_up hu HW.out
  have d0 : w1.cell? ⟨w.heap.size, 0, none⟩ = some (.int .i64 k) := cell_of_block hB 0
  have d1 : w1.cell? ⟨w.heap.size, 1, none⟩ = some (.int .i64 a) := cell_of_block hB 1
  have d2 : w1.cell? ⟨w.heap.size, 2, none⟩ = some (.int .i64 n) := cell_of_block hB 2
  have d3 : w1.cell? ⟨w.heap.size, 3, none⟩ = some (.int .i64 z) := cell_of_block hB 3
  clear hr hu hb hR hB
  go_wp2_with fail
  refine (do_nil' k a n z _).mono ?_
  rintro e w2 ⟨A, m, c, rfl, hm, hc, hu⟩
  have HU2 := Lib.hid (Up.trans HU1.out hu)
  have HC := Lib.hid hc
  clear hu hc d0 d1 d2 d3
  go_wp2_with fail
  go_loopw [28] (fun v28 wx => ∃ i : Nat, i ≤ m ∧ v28 = .int .i64 i ∧ wx = w2) (fun v28 _ => m - (intOf v28).toNat)
  case atStart => exact ⟨0, Nat.zero_le _, rfl, rfl⟩
  case round =>
    obtain ⟨i, hi, rfl, rfl⟩ := hrel
    by_cases hlt : i < m
    · obtain rfl : i = 0 := by omega
      obtain ⟨ad, rfl, c0⟩ := HC.out hlt
      go_wp2
      go_roundw
      case rel => exact ⟨1, by omega, by go_num, trivial⟩
      case measure => simp [intOf]; omega
    · obtain rfl : i = m := by omega
      go_wp2_with (first
        | (go_at_call 20; refine (size_nil _).mono ?_; rintro e w3 ⟨rfl, hu⟩; have HU3 := Lib.hid (Up.trans HU2.out hu); clear hu)
        | (go_at_call 27; refine (Clone_nil _).mono ?_; rintro e w4 ⟨rfl, hu⟩; have HU4 := Lib.hid (Up.trans HU3.out hu); clear hu)
        | (go_at_call 25; refine (Cells_nil _).mono ?_; rintro e w5 ⟨rfl, hu⟩; have HU5 := Lib.hid (Up.trans HU4.out hu); clear hu)
        | (go_at_call 26; with_reducible refine (Same_nn _).mono ?_; rintro e w6 ⟨rfl, hu⟩; have HU6 := Lib.hid (Up.trans HU5.out hu); clear hu)
        | (go_at_call 26; with_reducible refine (Same_np _ _).mono ?_; rintro e w7 ⟨rfl, hu⟩; have HU7 := Lib.hid (Up.trans HU6.out hu); clear hu)
        | (go_at_call 26; with_reducible refine (Same_pn _ _).mono ?_; rintro e w8 ⟨rfl, hu⟩; have HU8 := Lib.hid (Up.trans HU7.out hu); clear hu)
        | (go_at_call 14; refine (alive_walk _).mono ?_; rintro e w9 ⟨rfl, hu⟩; have HU9 := Lib.hid (Up.trans HU8.out hu); clear hu))
      go_ret
      exact ⟨rfl, HU9.out⟩
theorem SramNobody.calls (k a n z : Int) (r : Bool) (w : World) (h : r = true) : Calls Try.prog 6 #[.agg #[.int .i64 k, .int .i64 a, .int .i64 n, .int .i64 z]] w fun e w' => e = .returned (.bool r) ∧ Below w.heap.size w w' := by
  rw [h]
  exact nobody_walk k a n z w
end Go.Proofs.Ytiofdkkjjeljmaa.Sram
