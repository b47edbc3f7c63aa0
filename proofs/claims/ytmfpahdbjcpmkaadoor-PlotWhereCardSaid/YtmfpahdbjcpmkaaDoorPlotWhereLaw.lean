/- PlotWhere, walked. -/
import Derived.Test.YtmfpahdbjcpmkaaDoorPlotPure4
import Derived.Test.YtmfpahdbjcpmkaaDoorPlotAlive
namespace Go.Proofs.YtmfpahdbjcpmkaaDoor.Plot
set_option linter.unusedVariables false
set_option linter.unusedSimpArgs false
open Go.RowKit Go.Proofs.YtmfpahdbjcpmkaaDoorW.PrintWords Go.Proofs.YtmfpahdbjcpmkaaDoor.PPlotWhere

theorem rWhere_yes (c r b x : Int) (h : 0 ≤ x ∧ x < woI c r b) (w : World) : Calls Tryd.prog 20 #[.agg #[.int .i64 c, .int .i64 r, .int .i64 b], .int .i64 x] w fun e w' => e = .returned (.tuple #[.agg #[.int .i64 (whA c r x), .int .i64 (whB c r x), .int .i64 (whP r (x % szI r)).1, .int .i64 (whP r (x % szI r)).2.1, .int .i64 (whP r (x % szI r)).2.2], .bool true]) ∧ Up w w' := by
  obtain ⟨k, hk⟩ := (where_yes h).rounds
  exact (switchyardref13_Where.calls k c r b x _ _ _ _ _ _ w hk).mono fun _ _ h => ⟨h.1, h.2⟩
theorem rWhere_no (c r b x : Int) (h : ¬ (0 ≤ x ∧ x < woI c r b)) (w : World) : Calls Tryd.prog 20 #[.agg #[.int .i64 c, .int .i64 r, .int .i64 b], .int .i64 x] w fun e w' => e = .returned (.tuple #[.agg #[.int .i64 0, .int .i64 0, .int .i64 0, .int .i64 0, .int .i64 0], .bool false]) ∧ Up w w' := by
  obtain ⟨k, hk⟩ := (where_no h).rounds
  exact (switchyardref13_Where.calls k c r b x _ _ _ _ _ _ w hk).mono fun _ _ h => ⟨h.1, h.2⟩
theorem where_both (c r b x : Int) (hr : (Lit.int .i64 r).wf = true) : ∃ v0 v1 v2 v3 v4 ok, (∀ w, TT w → Calls Tryd.prog 19 #[.agg #[.int .i64 c, .int .i64 r, .int .i64 b], .int .i64 x] w fun e w' => e = .returned (.tuple #[.agg #[.int .i64 v0, .int .i64 v1, .int .i64 v2, .int .i64 v3, .int .i64 v4], .bool ok]) ∧ Up w w') ∧
    (∀ w, Calls Tryd.prog 20 #[.agg #[.int .i64 c, .int .i64 r, .int .i64 b], .int .i64 x] w fun e w' => e = .returned (.tuple #[.agg #[.int .i64 v0, .int .i64 v1, .int .i64 v2, .int .i64 v3, .int .i64 v4], .bool ok]) ∧ Up w w') := by
  by_cases h : 0 ≤ x ∧ x < woI c r b
  · exact ⟨_, _, _, _, _, _, fun w ht => Where_yes c r b x hr h w ht, fun w => rWhere_yes c r b x h w⟩
  · exact ⟨_, _, _, _, _, _, fun w ht => Where_no c r b x hr h w ht, fun w => rWhere_no c r b x h w⟩
set_option maxHeartbeats 8000000 in
set_option maxRecDepth 100000 in
theorem where_law (c r b x : Int) (hr : (Lit.int .i64 r).wf = true) (w : World) (ht : TT w) :
    Calls Tryd.prog 6 #[.agg #[.int .i64 c, .int .i64 r, .int .i64 b], .int .i64 x] w fun e w' => e = .returned (.bool true) ∧ Up w w' := by
  have HT := Lib.hid ht
  clear ht
  have hg0 : Up w (w.alloc (.cells #[.int .i64 c, .int .i64 r, .int .i64 b] 23)) := (Up.refl w).alloc _
  have HG0 := Lib.hid hg0
  have HB0 := Lib.hid (block_new w (.cells #[.int .i64 c, .int .i64 r, .int .i64 b] 23))
  clear hg0
  by_cases hrr : r > 16
  · go_enter Tryd.func6, Tryd.ntmps6
    go_wp2_with (go_at_call 16; refine (alive_walk _ (HT.out.up HG0.out)).mono ?_; rintro e w4 ⟨rfl, hu⟩; have HU := Lib.hid (Up.trans HG0.out hu); clear hu)
    go_ret
    exact ⟨rfl, HU.out⟩
  · have hrr' : decide (r > 16) = false := decide_eq_false hrr
    obtain ⟨v0, v1, v2, v3, v4, ok, hW, hR⟩ := where_both c r b x hr
    have HW := Lib.hid hW
    have HR := Lib.hid hR
    clear hW hR hrr
    go_enter Tryd.func6, Tryd.ntmps6
    go_wp2_with fail
    refine (HW.out _ (HT.out.up HG0.out)).mono ?_
    rintro e w1 ⟨rfl, hu⟩
    have HC1 := Lib.hid (block_up hu HB0.out)
    have HU1 := Lib.hid (Up.trans HG0.out hu)
    have c0 : w1.cell? ⟨w.heap.size, 0, none⟩ = some (.int .i64 c) := cell_of_block HC1.out 0
    have c1 : w1.cell? ⟨w.heap.size, 1, none⟩ = some (.int .i64 r) := cell_of_block HC1.out 1
    have c2 : w1.cell? ⟨w.heap.size, 2, none⟩ = some (.int .i64 b) := cell_of_block HC1.out 2
    have hlt : w.heap.size < w1.heap.size := World.block_lt_of_cell? w1 _ c0
    clear hu
    go_wp2_with fail
    refine (HR.out _).mono ?_
    rintro e w2 ⟨rfl, hu⟩
    have hal := (Up.refl w1).alloc (.cells #[.int .i64 v0, .int .i64 v1, .int .i64 v2, .int .i64 v3, .int .i64 v4] 41)
    have HV2 := Lib.hid (block_up hu (block_new w1 (.cells #[.int .i64 v0, .int .i64 v1, .int .i64 v2, .int .i64 v3, .int .i64 v4] 41)))
    have HU2 := Lib.hid (Up.trans (Up.trans HU1.out hal) hu)
    have d0 : w2.cell? ⟨w1.heap.size, 0, none⟩ = some (.int .i64 v0) := cell_of_block HV2.out 0
    have d1 : w2.cell? ⟨w1.heap.size, 1, none⟩ = some (.int .i64 v1) := cell_of_block HV2.out 1
    have d2 : w2.cell? ⟨w1.heap.size, 2, none⟩ = some (.int .i64 v2) := cell_of_block HV2.out 2
    have d3 : w2.cell? ⟨w1.heap.size, 3, none⟩ = some (.int .i64 v3) := cell_of_block HV2.out 3
    have d4 : w2.cell? ⟨w1.heap.size, 4, none⟩ = some (.int .i64 v4) := cell_of_block HV2.out 4
    have hlt2 : w1.heap.size < w2.heap.size := World.block_lt_of_cell? w2 _ d0
    clear hu hal c0 c1 c2 hlt
    go_wp2_with (go_at_call 16; refine (alive_walk _ (HT.out.up (HU2.out.alloc _))).mono ?_; rintro e w4 ⟨rfl, hu⟩; have HU := Lib.hid (Up.trans (HU2.out.alloc _) hu); clear hu)
    go_ret
    exact ⟨rfl, HU.out⟩
theorem where_row (c r b x : Int) (w : World) (_ : (Lit.int .i64 c).wf = true) (hr : (Lit.int .i64 r).wf = true) (_ : (Lit.int .i64 b).wf = true) (_ : (Lit.int .i64 x).wf = true) (ht : TT w) :
    Calls Tryd.prog 6 #[.agg #[.int .i64 c, .int .i64 r, .int .i64 b], .int .i64 x] w fun e w' => e = .returned (.bool true) ∧ Up w w' := where_law c r b x hr w ht
end Go.Proofs.YtmfpahdbjcpmkaaDoor.Plot
