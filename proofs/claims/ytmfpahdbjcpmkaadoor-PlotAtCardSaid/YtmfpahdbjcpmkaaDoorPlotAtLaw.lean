/- PlotAt, walked. -/
import Derived.Test.YtmfpahdbjcpmkaaDoorPlotPure2
import Derived.Test.YtmfpahdbjcpmkaaDoorPlotAlive
namespace Go.Proofs.YtmfpahdbjcpmkaaDoor.Plot
set_option linter.unusedVariables false
set_option linter.unusedSimpArgs false
open Go.RowKit Go.Proofs.YtmfpahdbjcpmkaaDoorW.PrintWords Go.Proofs.YtmfpahdbjcpmkaaDoor.PPlotWhere

theorem Up.of_d0 {w w' : World} (h : Drawn0 w w') : Up w w' := by
  obtain ⟨n, rfl⟩ := h
  exact (Up.refl w).drewN n
theorem rBase_y (c r b f t : Int) (h : chB c r b f t = true) (w : World) : Calls Tryd.prog 9 #[.agg #[.int .i64 c, .int .i64 r, .int .i64 b], .int .i64 f, .int .i64 t] w fun e w' => e = .returned (.tuple #[.int .i64 (chI c r f t), .bool true]) ∧ Up w w' :=
  (switchyardref13_Base.calls 200 c r b f t _ _ w (by rw [base_r c r b f t 0, if_pos h])).mono fun _ _ h => ⟨h.1, h.2⟩
theorem rBase_n (c r b f t : Int) (h : chB c r b f t = false) (w : World) : Calls Tryd.prog 9 #[.agg #[.int .i64 c, .int .i64 r, .int .i64 b], .int .i64 f, .int .i64 t] w fun e w' => e = .returned (.tuple #[.int .i64 0, .bool false]) ∧ Up w w' :=
  (switchyardref13_Base.calls 200 c r b f t _ _ w (by rw [base_r c r b f t 0, if_neg (by rw [h]; decide)])).mono fun _ _ h => ⟨h.1, h.2⟩
theorem rAt_c (base ring f s i : Int) (hb : 0 ≤ base) (hb1 : base ≤ 100000) (h0 : 0 ≤ ring) (h1 : ring ≤ 64) (w : World) :
    Calls Tryd.prog 18 #[.int .i64 base, .int .i64 ring, .int .i64 f, .int .i64 s, .int .i64 i] w fun e w' => e = .returned (.tuple #[.int .i64 (atV base ring f s i).1, .bool (atV base ring f s i).2]) ∧ Up w w' := by
  obtain ⟨k, hk⟩ := (at_r base ring f s i hb hb1 h0 h1).rounds
  exact (switchyardref13_At.calls k base ring f s i _ _ w hk).mono fun _ _ h => ⟨h.1, Up.of_d0 h.2⟩
theorem up2 (w : World) (cs ds : Array Value) (t u : TypeId) : Up w ((w.alloc (.cells cs t)).alloc (.cells ds u)) := ((Up.refl w).alloc _).alloc _
set_option maxHeartbeats 8000000 in
set_option maxRecDepth 100000 in
theorem at_law (c r b f t x0 x1 x2 : Int) (hr : (Lit.int .i64 r).wf = true) (w : World) (ht : TT w) :
    Calls Tryd.prog 4 #[.agg #[.int .i64 c, .int .i64 r, .int .i64 b], .int .i64 f, .int .i64 t, .agg #[.int .i64 x0, .int .i64 x1, .int .i64 x2]] w fun e w' => e = .returned (.bool true) ∧ Up w w' := by
  have HT := Lib.hid ht
  clear ht
  have hg0 : Up w ((w.alloc (.cells #[.int .i64 c, .int .i64 r, .int .i64 b] 23)).alloc (.cells #[.int .i64 x0, .int .i64 x1, .int .i64 x2] 35)) := up2 _ _ _ _ _
  have HG0 := Lib.hid hg0
  have hb0 := block_up ((Up.refl _).alloc (.cells #[.int .i64 x0, .int .i64 x1, .int .i64 x2] 35)) (block_new w (.cells #[.int .i64 c, .int .i64 r, .int .i64 b] 23))
  have HB0 := Lib.hid hb0
  have hx0 := block_new2 w (.cells #[.int .i64 c, .int .i64 r, .int .i64 b] 23) (.cells #[.int .i64 x0, .int .i64 x1, .int .i64 x2] 35)
  have HX0 := Lib.hid hx0
  have hO := Of_walk c r b f t hr _ (HT.out.up hg0)
  clear hg0 hb0 hx0
  cases hc : chB c r b f t with
  | false =>
    have e : ofV c r b f t = .tuple #[.agg #[.int .i64 0, .int .i64 0], .bool false] := if_neg (by rw [hc]; decide)
    rw [e] at hO
    have HO := Lib.hid hO
    have HR := Lib.hid (fun w => rBase_n c r b f t hc w)
    clear hO e hc
    go_enter Tryd.func4, Tryd.ntmps4
    go_wp2_with fail
    refine HO.out.mono ?_
    rintro e w1 ⟨rfl, hu⟩
    have HU := Lib.hid (Up.trans HG0.out hu)
    have HC := Lib.hid (block_up hu HB0.out)
    have c0 : w1.cell? ⟨w.heap.size, 0, none⟩ = some (.int .i64 c) := cell_of_block HC.out 0
    have c1 : w1.cell? ⟨w.heap.size, 1, none⟩ = some (.int .i64 r) := cell_of_block HC.out 1
    have c2 : w1.cell? ⟨w.heap.size, 2, none⟩ = some (.int .i64 b) := cell_of_block HC.out 2
    have hlt : w.heap.size < w1.heap.size := World.block_lt_of_cell? w1 _ c0
    clear hu
    go_wp2_with fail
    refine (HR.out _).mono ?_
    rintro e w2 ⟨rfl, hu⟩
    have HU2 := Lib.hid (Up.trans (HU.out.alloc (.cells #[.int .i64 0, .int .i64 0] 25)) hu)
    clear hu c0 c1 c2 hlt
    go_wp2_with (go_at_call 16; refine (alive_walk _ (HT.out.up HU2.out)).mono ?_; rintro e w4 ⟨rfl, hu⟩; have HU3 := Lib.hid (Up.trans HU2.out hu); clear hu)
    go_ret
    exact ⟨rfl, HU3.out⟩
  | true =>
    have e : ofV c r b f t = .tuple #[.agg #[.int .i64 (chI c r f t), .int .i64 r], .bool true] := if_pos hc
    rw [e] at hO
    have HO := Lib.hid hO
    have HR := Lib.hid (fun w => rBase_y c r b f t hc w)
    have hbd := chI_bd hc
    have hrb := rgB_bd (rtB_bd (chB_is hc).1).2.2.1
    clear hO e hc
    generalize chI c r f t = x at *
    have hA := fun wx htx => At_walk x r x0 x1 x2 (by omega) (by omega) (by omega) (by omega) wx htx
    have hB := fun wx => rAt_c x r x0 x1 x2 (by omega) (by omega) (by omega) (by omega) wx
    generalize atV x r x0 x1 x2 = av at *
    obtain ⟨a1, a2⟩ := av
    have HA := Lib.hid hA
    have HB := Lib.hid hB
    clear hA hB hbd hrb
    go_enter Tryd.func4, Tryd.ntmps4
    go_wp2_with fail
    refine HO.out.mono ?_
    rintro e w1 ⟨rfl, hu⟩
    have HU := Lib.hid (Up.trans HG0.out hu)
    have HC := Lib.hid (block_up hu HB0.out)
    have HX := Lib.hid (block_up hu HX0.out)
    have c0 : w1.cell? ⟨w.heap.size, 0, none⟩ = some (.int .i64 c) := cell_of_block HC.out 0
    have c1 : w1.cell? ⟨w.heap.size, 1, none⟩ = some (.int .i64 r) := cell_of_block HC.out 1
    have c2 : w1.cell? ⟨w.heap.size, 2, none⟩ = some (.int .i64 b) := cell_of_block HC.out 2
    have hlt : w.heap.size < w1.heap.size := World.block_lt_of_cell? w1 _ c0
    clear hu
    go_wp2_with fail
    refine (HR.out _).mono ?_
    rintro e w2 ⟨rfl, hu⟩
    have hal := (Up.refl w1).alloc (.cells #[.int .i64 x, .int .i64 r] 25)
    have HC2 := Lib.hid (block_up hu (block_up hal HC.out))
    have HX2 := Lib.hid (block_up hu (block_up hal HX.out))
    have HP2 := Lib.hid (block_up hu (block_new w1 (.cells #[.int .i64 x, .int .i64 r] 25)))
    have HU2 := Lib.hid (Up.trans (HU.out.alloc (.cells #[.int .i64 x, .int .i64 r] 25)) hu)
    have d1 : w2.cell? ⟨w.heap.size, 1, none⟩ = some (.int .i64 r) := cell_of_block HC2.out 1
    have y0 : w2.cell? ⟨w.heap.size + 1, 0, none⟩ = some (.int .i64 x0) := cell_of_block HX2.out 0
    have y1 : w2.cell? ⟨w.heap.size + 1, 1, none⟩ = some (.int .i64 x1) := cell_of_block HX2.out 1
    have y2 : w2.cell? ⟨w.heap.size + 1, 2, none⟩ = some (.int .i64 x2) := cell_of_block HX2.out 2
    have p0 : w2.cell? ⟨w1.heap.size, 0, none⟩ = some (.int .i64 x) := cell_of_block HP2.out 0
    have p1 : w2.cell? ⟨w1.heap.size, 1, none⟩ = some (.int .i64 r) := cell_of_block HP2.out 1
    clear hu c0 c1 c2 hlt hal
    go_wp2_with fail
    refine (HA.out _ (HT.out.up HU2.out)).mono ?_
    rintro e w3 ⟨rfl, hu⟩
    have HU3 := Lib.hid (Up.trans HU2.out hu)
    have d1' : w3.cell? ⟨w.heap.size, 1, none⟩ = some (.int .i64 r) := pw_cell_below hu d1
    have y0' : w3.cell? ⟨w.heap.size + 1, 0, none⟩ = some (.int .i64 x0) := pw_cell_below hu y0
    have y1' : w3.cell? ⟨w.heap.size + 1, 1, none⟩ = some (.int .i64 x1) := pw_cell_below hu y1
    have y2' : w3.cell? ⟨w.heap.size + 1, 2, none⟩ = some (.int .i64 x2) := pw_cell_below hu y2
    clear hu d1 y0 y1 y2 p0 p1
    go_wp2_with fail
    refine (HB.out _).mono ?_
    rintro e w4 ⟨rfl, hu⟩
    have HU4 := Lib.hid (Up.trans HU3.out hu)
    clear hu d1' y0' y1' y2'
    go_wp2_with (go_at_call 16; refine (alive_walk _ (HT.out.up HU4.out)).mono ?_; rintro e w5 ⟨rfl, hu⟩; have HU5 := Lib.hid (Up.trans HU4.out hu); clear hu)
    all_goals go_ret
    all_goals exact ⟨rfl, HU5.out⟩
theorem at_row (c r b f t x0 x1 x2 : Int) (w : World) (_ : (Lit.int .i64 c).wf = true) (hr : (Lit.int .i64 r).wf = true) (_ : (Lit.int .i64 b).wf = true) (_ : (Lit.int .i64 f).wf = true) (_ : (Lit.int .i64 t).wf = true)
    (_ : (Lit.int .i64 x0).wf = true) (_ : (Lit.int .i64 x1).wf = true) (_ : (Lit.int .i64 x2).wf = true) (ht : TT w) :
    Calls Tryd.prog 4 #[.agg #[.int .i64 c, .int .i64 r, .int .i64 b], .int .i64 f, .int .i64 t, .agg #[.int .i64 x0, .int .i64 x1, .int .i64 x2]] w fun e w' => e = .returned (.bool true) ∧ Up w w' := at_law c r b f t x0 x1 x2 hr w ht
end Go.Proofs.YtmfpahdbjcpmkaaDoor.Plot
