/- The chapter's example of the package plot; PlotNone. -/
import Derived.Test.YtmfpahdbjcpmkaaDoorPlotAt
namespace Go.Proofs.YtmfpahdbjcpmkaaDoor.Plot
set_option linter.unusedVariables false
set_option linter.unusedSimpArgs false
open Go.RowKit Go.Proofs.YtmfpahdbjcpmkaaDoor.Given Go.Proofs.YtmfpahdbjcpmkaaDoorW.PrintWords

theorem wf2 : (Lit.int .i64 2).wf = true := by decide
theorem of_ex : ofV 2 2 1 1 0 = .tuple #[.agg #[.int .i64 26, .int .i64 2], .bool true] := by
  have e : chB 2 2 1 1 0 = true := by decide +kernel
  have e2 : chI 2 2 1 0 = 26 := by decide +kernel
  unfold ofV
  rw [if_pos e, e2]
theorem at_ex : atV 26 2 8 1 2 = (46, true) := by decide +kernel
theorem sz_ex : szI 2 = 26 := by decide +kernel
theorem wo_ex : woI 2 2 1 = 52 := by decide +kernel
set_option maxHeartbeats 4000000 in
theorem alive_walk (w : World) (ht : TT w) : Calls Tryd.prog 16 #[] w fun e w' => e = .returned (.bool true) ∧ Up w w' := by
  have HT := Lib.hid ht
  clear ht
  go_enter Tryd.func16, Tryd.ntmps16
  go_wp2_with fail
  have h0 : Up w (w.alloc (.cells #[.int .i64 2, .int .i64 2, .int .i64 1] 23)) := (Up.refl w).alloc _
  have hb := block_new w (.cells #[.int .i64 2, .int .i64 2, .int .i64 1] 23)
  have hO := Of_walk 2 2 1 1 0 wf2 _ (HT.out.up h0)
  rw [of_ex] at hO
  refine hO.mono ?_
  clear hO
  rintro e w1 ⟨rfl, hu⟩
  have HU := Lib.hid (Up.trans h0 hu)
  have c0 : w1.cell? ⟨w.heap.size, 0, none⟩ = some (.int .i64 2) := cell_of_block (block_up hu hb) 0
  have c1 : w1.cell? ⟨w.heap.size, 1, none⟩ = some (.int .i64 2) := cell_of_block (block_up hu hb) 1
  have c2 : w1.cell? ⟨w.heap.size, 2, none⟩ = some (.int .i64 1) := cell_of_block (block_up hu hb) 2
  have HB := Lib.hid (block_up hu hb)
  clear hu hb h0
  go_wp2_with fail
  have h1 : Up w (w1.alloc (.cells #[.int .i64 26, .int .i64 2] 25)) := HU.out.alloc _
  have hb1 := block_new w1 (.cells #[.int .i64 26, .int .i64 2] 25)
  have hA := At_walk 26 2 8 1 2 (by decide) (by decide) (by decide) (by decide) _ (HT.out.up h1)
  rw [at_ex] at hA
  refine hA.mono ?_
  clear hA
  rintro e w2 ⟨rfl, hu⟩
  have HU2 := Lib.hid (Up.trans h1 hu)
  have hs := HU.out.size
  have HB2 := block_up hu (block_up ((Up.refl w1).alloc _) HB.out)
  have d0 : w2.cell? ⟨w.heap.size, 0, none⟩ = some (.int .i64 2) := cell_of_block HB2 0
  have d1 : w2.cell? ⟨w.heap.size, 1, none⟩ = some (.int .i64 2) := cell_of_block HB2 1
  have d2 : w2.cell? ⟨w.heap.size, 2, none⟩ = some (.int .i64 1) := cell_of_block HB2 2
  have HB1 := block_up hu hb1
  have p0 : w2.cell? ⟨w1.heap.size, 0, none⟩ = some (.int .i64 26) := cell_of_block HB1 0
  have p1 : w2.cell? ⟨w1.heap.size, 1, none⟩ = some (.int .i64 2) := cell_of_block HB1 1
  have HB1 := Lib.hid HB1
  clear HB2 hu hb1 h1 hs
  have hS := Size_walk 2 wf2 _ (HT.out.up HU2.out)
  rw [sz_ex] at hS
  have HS := Lib.hid hS
  have hW := Words_walk 2 2 1 wf2 _ (HT.out.up HU2.out)
  rw [wo_ex] at hW
  have HW := Lib.hid hW
  clear hS hW
  go_wp2_with (first | (go_at_call 12; refine HS.out.mono ?_; rintro e w3 ⟨rfl, rfl⟩) | (go_at_call 14; refine HW.out.mono ?_; rintro e w3 ⟨rfl, hu⟩; have HU3 := Lib.hid (Up.trans HU2.out hu); have p0' : w3.cell? ⟨w1.heap.size, 0, none⟩ = some (.int .i64 26) := pw_cell_below hu p0; have p1' : w3.cell? ⟨w1.heap.size, 1, none⟩ = some (.int .i64 2) := pw_cell_below hu p1; clear hu))
  go_ret
  exact ⟨rfl, HU3.out⟩
theorem none_walk (f s i : Int) (w : World) (ht : TT w) : Calls Tryd.prog 5 #[.int .i64 f, .int .i64 s, .int .i64 i] w fun e w' => e = .returned (.bool true) ∧ Up w w' := by
  have hA := At_walk 0 0 f s i (by decide) (by decide) (by decide) (by decide) w ht
  have HT := Lib.hid ht
  clear ht
  by_cases hf : f < 5
  · obtain ⟨x, ok, e⟩ : ∃ x ok, atV 0 0 f s i = (x, ok) := ⟨_, _, rfl⟩
    rw [e] at hA
    have HA := Lib.hid hA
    clear hA e
    go_enter Tryd.func5, Tryd.ntmps5
    go_wp2_with (first | (go_at_call 17; refine HA.out.mono ?_; rintro e w3 ⟨rfl, hu⟩; have HU := Lib.hid hu; clear hu) | (go_at_call 16; refine (alive_walk _ (HT.out.up HU.out)).mono ?_; rintro e w4 ⟨rfl, hu⟩; have HU2 := Lib.hid hu; clear hu))
    go_ret
    exact ⟨rfl, Up.trans HU.out HU2.out⟩
  · have e : atV 0 0 f s i = (0, false) := by
      unfold atV
      split
      · rfl
      · first | rw [if_neg hf, if_pos (by omega)] | rw [if_pos (by omega)]
    rw [e] at hA
    have HA := Lib.hid hA
    have hf' : decide (f < 5) = false := decide_eq_false hf
    clear hA e
    go_enter Tryd.func5, Tryd.ntmps5
    go_wp2_with (first | (go_at_call 17; refine HA.out.mono ?_; rintro e w3 ⟨rfl, hu⟩; have HU := Lib.hid hu; clear hu) | (go_at_call 16; refine (alive_walk _ (HT.out.up HU.out)).mono ?_; rintro e w4 ⟨rfl, hu⟩; have HU2 := Lib.hid hu; clear hu))
    go_ret
    exact ⟨rfl, Up.trans HU.out HU2.out⟩
theorem none_row (f s i : Int) (w : World) (w0 : (Lit.int .i64 f).wf = true) (w1 : (Lit.int .i64 s).wf = true) (w2 : (Lit.int .i64 i).wf = true) (ht : TT w) : Calls Tryd.prog 5 #[.int .i64 f, .int .i64 s, .int .i64 i] w fun e w' => e = .returned (.bool true) ∧ Up w w' := none_walk f s i w ht
end Go.Proofs.YtmfpahdbjcpmkaaDoor.Plot
