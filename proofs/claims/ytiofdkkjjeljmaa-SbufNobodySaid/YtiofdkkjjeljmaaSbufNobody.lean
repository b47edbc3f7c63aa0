/- SbufNobody, walked: in a buffer that is nil nothing waits. -/
import Derived.Test.YtiofdkkjjeljmaaSbufAlive
namespace Go.Proofs.Ytiofdkkjjeljmaa.Sbuf
set_option linter.unusedVariables false
set_option linter.unusedSimpArgs false
open Go.RowKit Go.Proofs.Ytiofdkkjjeljmaa.Sep Go.Proofs.Ytiofdkkjjeljmaa.Find Go.Proofs.Ytiofdkkjjeljmaa.Ref05

set_option maxHeartbeats 4000000 in
set_option maxRecDepth 100000 in
theorem nobody_walk (k a v : Int) (w : World) : Calls Try.prog 11 #[.agg #[.int .i64 k, .int .i64 a, .int .i64 v]] w fun e w' => e = .returned (.bool true) ∧ Up w w' := by
  have HB := Lib.hid (block_new w (.cells #[.int .i64 k, .int .i64 a, .int .i64 v] 85))
  have HU := Lib.hid ((Up.refl w).alloc (.cells #[.int .i64 k, .int .i64 a, .int .i64 v] 85))
  have HD := Lib.hid (do_nil k a v)
  have hk : (k == 0) = true ∧ nilE k = 1 ∨ (k == 0) = false ∧ nilE k = 0 := by
    by_cases h : k = 0
    · exact .inl ⟨beq_iff_eq.2 h, if_pos h⟩
    · exact .inr ⟨beq_eq_false_iff_ne.2 h, if_neg h⟩
  rcases hk with ⟨e0, e1⟩ | ⟨e0, e1⟩
  all_goals
    rw [e1] at HD
    clear e1
    go_enter Try.func11, Try.ntmps11
    go_wp2_with (first
      | (go_at_call 38; refine (HD.out _).mono ?_; rintro e w2 ⟨rfl, hu⟩; have HU2 := Lib.hid (Up.trans HU.out hu); have hb2 := block_up hu HB.out; have g0 : w2.cell? ⟨w.heap.size, 0, none⟩ = some (.int .i64 k) := cell_of_block hb2 0; have hne : w.heap.size < w2.heap.size := World.block_lt_of_cell? w2 _ g0; have hnn := World.new_ne w2 _ g0; clear hu hb2)
      | (go_at_call 40; refine (Cap_nil _).mono ?_; rintro e w' ⟨rfl, rfl⟩)
      | (go_at_call 39; refine (Len_nil _).mono ?_; rintro e w' ⟨rfl, rfl⟩)
      | (go_at_call 44; refine (All_nil _).mono ?_; rintro e w' ⟨rfl, rfl⟩)
      | (go_at_call 49; refine (Clone_nil _).mono ?_; rintro e w' ⟨rfl, rfl⟩)
      | (go_at_call 37; refine (alive_walk _).mono ?_; rintro e w9 ⟨rfl, hu⟩; have HU9 := Lib.hid hu; clear hu))
    go_ret
    exact ⟨rfl, Up.trans (HU2.out.alloc _) HU9.out⟩
end Go.Proofs.Ytiofdkkjjeljmaa.Sbuf
