/- PlotBack, walked. -/
import Derived.Test.YtmfpahdbjcpmkaaDoorPlotPure3
import Derived.Test.YtmfpahdbjcpmkaaDoorPlotAlive
namespace Go.Proofs.YtmfpahdbjcpmkaaDoor.Plot
set_option linter.unusedVariables false
set_option linter.unusedSimpArgs false
open Go.RowKit Go.Proofs.YtmfpahdbjcpmkaaDoorW.PrintWords

set_option maxHeartbeats 8000000 in
set_option maxRecDepth 100000 in
theorem back_law (c r b x y0 y1 y2 y3 y4 : Int) (hr : (Lit.int .i64 r).wf = true) (w : World) (ht : TT w) :
    Calls Tryd.prog 7 #[.agg #[.int .i64 c, .int .i64 r, .int .i64 b], .int .i64 x, .agg #[.int .i64 y0, .int .i64 y1, .int .i64 y2, .int .i64 y3, .int .i64 y4]] w fun e w' => e = .returned (.bool true) ∧ Up w w' := by
  have HT := Lib.hid ht
  clear ht
  have hg0 : Up w ((w.alloc (.cells #[.int .i64 c, .int .i64 r, .int .i64 b] 23)).alloc (.cells #[.int .i64 y0, .int .i64 y1, .int .i64 y2, .int .i64 y3, .int .i64 y4] 41)) := ((Up.refl w).alloc _).alloc _
  have HG0 := Lib.hid hg0
  have HB0 := Lib.hid (block_up ((Up.refl _).alloc (.cells #[.int .i64 y0, .int .i64 y1, .int .i64 y2, .int .i64 y3, .int .i64 y4] 41)) (block_new w (.cells #[.int .i64 c, .int .i64 r, .int .i64 b] 23)))
  have HX0 := Lib.hid (block_new2 w (.cells #[.int .i64 c, .int .i64 r, .int .i64 b] 23) (.cells #[.int .i64 y0, .int .i64 y1, .int .i64 y2, .int .i64 y3, .int .i64 y4] 41))
  clear hg0
  by_cases h : 0 ≤ x ∧ x < woI c r b
  · have HWh := Lib.hid (Where_yes c r b x hr h _ (HT.out.up HG0.out))
    obtain ⟨k1, k2, k3, k4⟩ := back1 h
    have k5 := back1' h
    have hh0 : decide (x ≥ 0) = true := decide_eq_true h.1
    have hh1 : decide (x < woI c r b) = true := decide_eq_true h.2
    have e : ofV c r b (whA c r x) (whB c r x) = .tuple #[.agg #[.int .i64 (chI c r (whA c r x) (whB c r x)), .int .i64 r], .bool true] := if_pos k1
    have hO := fun wx htx => Of_walk c r b (whA c r x) (whB c r x) hr wx htx
    rw [e] at hO
    have hbd := chI_bd k1
    have hrb := rgB_bd (rtB_bd (chB_is k1).1).2.2.1
    have hA := fun wx htx => At_walk (chI c r (whA c r x) (whB c r x)) r (whP r (x % szI r)).1 (whP r (x % szI r)).2.1 (whP r (x % szI r)).2.2 (by omega) (by omega) (by omega) (by omega) wx htx
    rw [k5] at hA
    clear k1 k2 k3 k4 k5 e hbd hrb h
    generalize chI c r (whA c r x) (whB c r x) = ch at *
    generalize whA c r x = fr at *
    generalize whB c r x = tq at *
    generalize whP r (x % szI r) = wp at *
    obtain ⟨f, s, i⟩ := wp
    dsimp only at *
    have HO := Lib.hid hO
    have HA := Lib.hid hA
    clear hO hA
    go_enter Tryd.func7, Tryd.ntmps7
    go_wp2_with fail
    refine HWh.out.mono ?_
    rintro e w1 ⟨rfl, hu⟩
    have HC1 := Lib.hid (block_up hu HB0.out)
    have HX1 := Lib.hid (block_up hu HX0.out)
    have HU1 := Lib.hid (Up.trans HG0.out hu)
    clear hu HB0 HX0 HG0 HWh
    have c1_0 : w1.cell? ⟨w.heap.size, 0, none⟩ = some (.int .i64 c) := cell_of_block HC1.out 0
    have c1_1 : w1.cell? ⟨w.heap.size, 1, none⟩ = some (.int .i64 r) := cell_of_block HC1.out 1
    have c1_2 : w1.cell? ⟨w.heap.size, 2, none⟩ = some (.int .i64 b) := cell_of_block HC1.out 2
    have hlt1 : w.heap.size < w1.heap.size := World.block_lt_of_cell? w1 _ c1_0
    have hlx1 : w.heap.size + 1 < w1.heap.size := World.block_lt_of_cell? w1 ⟨w.heap.size + 1, 0, none⟩ (cell_of_block HX1.out 0)
    go_wp2_with (go_at_call 14; refine (Words_walk c r b hr _ (HT.out.up (HU1.out.alloc _))).mono ?_; rintro e w2 ⟨rfl, hu⟩; have hnb := block_up hu (block_new w1 (.cells #[.int .i64 fr, .int .i64 tq, .int .i64 f, .int .i64 s, .int .i64 i] 41)); have hal := (Up.refl w1).alloc (.cells #[.int .i64 fr, .int .i64 tq, .int .i64 f, .int .i64 s, .int .i64 i] 41); have HC2 := Lib.hid (block_up hu (block_up hal HC1.out)); have HX2 := Lib.hid (block_up hu (block_up hal HX1.out)); have HU2 := Lib.hid (Up.trans (Up.trans HU1.out hal) hu); have HN2 := Lib.hid hnb; clear c1_0 c1_1 c1_2 hlx1 hu hal hnb; have c2_0 : w2.cell? ⟨w.heap.size, 0, none⟩ = some (.int .i64 c) := cell_of_block HC2.out 0; have c2_1 : w2.cell? ⟨w.heap.size, 1, none⟩ = some (.int .i64 r) := cell_of_block HC2.out 1; have c2_2 : w2.cell? ⟨w.heap.size, 2, none⟩ = some (.int .i64 b) := cell_of_block HC2.out 2; have n2_0 : w2.cell? ⟨w1.heap.size, 0, none⟩ = some (.int .i64 fr) := cell_of_block HN2.out 0; have n2_1 : w2.cell? ⟨w1.heap.size, 1, none⟩ = some (.int .i64 tq) := cell_of_block HN2.out 1)
    refine (HO.out _ (HT.out.up HU2.out)).mono ?_
    rintro e w3 ⟨rfl, hu⟩
    have HN3 := Lib.hid (block_up hu HN2.out)
    have HC3 := Lib.hid (block_up hu HC2.out)
    have HX3 := Lib.hid (block_up hu HX2.out)
    have HU3 := Lib.hid (Up.trans HU2.out hu)
    clear hu c2_0 c2_1 c2_2 n2_0 n2_1
    have n3_2 : w3.cell? ⟨w1.heap.size, 2, none⟩ = some (.int .i64 f) := cell_of_block HN3.out 2
    have n3_3 : w3.cell? ⟨w1.heap.size, 3, none⟩ = some (.int .i64 s) := cell_of_block HN3.out 3
    have n3_4 : w3.cell? ⟨w1.heap.size, 4, none⟩ = some (.int .i64 i) := cell_of_block HN3.out 4
    have hn3 : w1.heap.size < w3.heap.size := World.block_lt_of_cell? w3 _ n3_2
    go_wp2_with fail
    refine (HA.out _ (HT.out.up (HU3.out.alloc _))).mono ?_
    rintro e w5 ⟨rfl, hu⟩
    have hal := (Up.refl w3).alloc (.cells #[.int .i64 ch, .int .i64 r] 25)
    have HC5 := Lib.hid (block_up hu (block_up hal HC3.out))
    have HX5 := Lib.hid (block_up hu (block_up hal HX3.out))
    have HU5 := Lib.hid (Up.trans (Up.trans HU3.out hal) hu)
    clear hu hal n3_2 n3_3 n3_4 hn3 hlt1 hh0 hh1 HN2 HN3 HO HA
    have c5_0 : w5.cell? ⟨w.heap.size, 0, none⟩ = some (.int .i64 c) := cell_of_block HC5.out 0
    have c5_1 : w5.cell? ⟨w.heap.size, 1, none⟩ = some (.int .i64 r) := cell_of_block HC5.out 1
    have c5_2 : w5.cell? ⟨w.heap.size, 2, none⟩ = some (.int .i64 b) := cell_of_block HC5.out 2
    have x5_0 : w5.cell? ⟨w.heap.size + 1, 0, none⟩ = some (.int .i64 y0) := cell_of_block HX5.out 0
    have x5_1 : w5.cell? ⟨w.heap.size + 1, 1, none⟩ = some (.int .i64 y1) := cell_of_block HX5.out 1
    have x5_2 : w5.cell? ⟨w.heap.size + 1, 2, none⟩ = some (.int .i64 y2) := cell_of_block HX5.out 2
    have x5_3 : w5.cell? ⟨w.heap.size + 1, 3, none⟩ = some (.int .i64 y3) := cell_of_block HX5.out 3
    have x5_4 : w5.cell? ⟨w.heap.size + 1, 4, none⟩ = some (.int .i64 y4) := cell_of_block HX5.out 4
    have hlt5 : w.heap.size < w5.heap.size := World.block_lt_of_cell? w5 _ c5_0
    have hlx5 : w.heap.size + 1 < w5.heap.size := World.block_lt_of_cell? w5 ⟨w.heap.size + 1, 0, none⟩ (cell_of_block HX5.out 0)
    go_wp2_with fail
    have hO := Of_walk c r b y0 y1 hr _ (HT.out.up HU5.out)
    cases hc : chB c r b y0 y1 with
    | false =>
      have e : ofV c r b y0 y1 = .tuple #[.agg #[.int .i64 0, .int .i64 0], .bool false] := if_neg (by rw [hc]; decide)
      rw [e] at hO
      refine hO.mono ?_
      clear hO e hc
      rintro e w6 ⟨rfl, hu⟩
      have HC6 := Lib.hid (block_up hu HC5.out)
      have HX6 := Lib.hid (block_up hu HX5.out)
      have HU6 := Lib.hid (Up.trans HU5.out hu)
      clear c5_0 c5_1 c5_2 x5_0 x5_1 x5_2 x5_3 x5_4 hlt5 hlx5
      clear hu
      have c6_0 : w6.cell? ⟨w.heap.size, 0, none⟩ = some (.int .i64 c) := cell_of_block HC6.out 0
      have c6_1 : w6.cell? ⟨w.heap.size, 1, none⟩ = some (.int .i64 r) := cell_of_block HC6.out 1
      have c6_2 : w6.cell? ⟨w.heap.size, 2, none⟩ = some (.int .i64 b) := cell_of_block HC6.out 2
      have x6_0 : w6.cell? ⟨w.heap.size + 1, 0, none⟩ = some (.int .i64 y0) := cell_of_block HX6.out 0
      have x6_1 : w6.cell? ⟨w.heap.size + 1, 1, none⟩ = some (.int .i64 y1) := cell_of_block HX6.out 1
      have x6_2 : w6.cell? ⟨w.heap.size + 1, 2, none⟩ = some (.int .i64 y2) := cell_of_block HX6.out 2
      have x6_3 : w6.cell? ⟨w.heap.size + 1, 3, none⟩ = some (.int .i64 y3) := cell_of_block HX6.out 3
      have x6_4 : w6.cell? ⟨w.heap.size + 1, 4, none⟩ = some (.int .i64 y4) := cell_of_block HX6.out 4
      have hlt6 : w.heap.size < w6.heap.size := World.block_lt_of_cell? w6 _ c6_0
      have hlx6 : w.heap.size + 1 < w6.heap.size := World.block_lt_of_cell? w6 ⟨w.heap.size + 1, 0, none⟩ (cell_of_block HX6.out 0)
      go_wp2_with fail
      have hA := At_walk 0 0 y2 y3 y4 (by omega) (by omega) (by omega) (by omega) (w6.alloc (.cells #[.int .i64 0, .int .i64 0] 25)) (HT.out.up (HU6.out.alloc _))
      obtain ⟨a1, a2, ea⟩ : ∃ a1 a2, atV 0 0 y2 y3 y4 = (a1, a2) := ⟨_, _, rfl⟩
      rw [ea] at hA
      refine hA.mono ?_
      clear hA ea
      rintro e w7 ⟨rfl, hu⟩
      have hal := (Up.refl w6).alloc (.cells #[.int .i64 0, .int .i64 0] 25)
      have HC7 := Lib.hid (block_up hu (block_up hal HC6.out))
      have HX7 := Lib.hid (block_up hu (block_up hal HX6.out))
      have HU7 := Lib.hid (Up.trans (Up.trans HU6.out hal) hu)
      clear c6_0 c6_1 c6_2 x6_0 x6_1 x6_2 x6_3 x6_4 hlt6 hlx6
      clear hu hal
      go_wp2_with (go_at_call 16; refine (alive_walk _ (HT.out.up HU7.out)).mono ?_; rintro e wq ⟨rfl, hu⟩; have HUQ := Lib.hid (Up.trans HU7.out hu); clear hu)
      go_ret
      exact ⟨rfl, HUQ.out⟩
    | true =>
      have e : ofV c r b y0 y1 = .tuple #[.agg #[.int .i64 (chI c r y0 y1), .int .i64 r], .bool true] := if_pos hc
      rw [e] at hO
      refine hO.mono ?_
      clear hO e
      have hbd := chI_bd hc
      have hrb := rgB_bd (rtB_bd (chB_is hc).1).2.2.1
      rintro e w6 ⟨rfl, hu⟩
      have HC6 := Lib.hid (block_up hu HC5.out)
      have HX6 := Lib.hid (block_up hu HX5.out)
      have HU6 := Lib.hid (Up.trans HU5.out hu)
      clear c5_0 c5_1 c5_2 x5_0 x5_1 x5_2 x5_3 x5_4 hlt5 hlx5
      clear hu
      have c6_0 : w6.cell? ⟨w.heap.size, 0, none⟩ = some (.int .i64 c) := cell_of_block HC6.out 0
      have c6_1 : w6.cell? ⟨w.heap.size, 1, none⟩ = some (.int .i64 r) := cell_of_block HC6.out 1
      have c6_2 : w6.cell? ⟨w.heap.size, 2, none⟩ = some (.int .i64 b) := cell_of_block HC6.out 2
      have x6_0 : w6.cell? ⟨w.heap.size + 1, 0, none⟩ = some (.int .i64 y0) := cell_of_block HX6.out 0
      have x6_1 : w6.cell? ⟨w.heap.size + 1, 1, none⟩ = some (.int .i64 y1) := cell_of_block HX6.out 1
      have x6_2 : w6.cell? ⟨w.heap.size + 1, 2, none⟩ = some (.int .i64 y2) := cell_of_block HX6.out 2
      have x6_3 : w6.cell? ⟨w.heap.size + 1, 3, none⟩ = some (.int .i64 y3) := cell_of_block HX6.out 3
      have x6_4 : w6.cell? ⟨w.heap.size + 1, 4, none⟩ = some (.int .i64 y4) := cell_of_block HX6.out 4
      have hlt6 : w.heap.size < w6.heap.size := World.block_lt_of_cell? w6 _ c6_0
      have hlx6 : w.heap.size + 1 < w6.heap.size := World.block_lt_of_cell? w6 ⟨w.heap.size + 1, 0, none⟩ (cell_of_block HX6.out 0)
      have hA := At_walk (chI c r y0 y1) r y2 y3 y4 (by omega) (by omega) (by omega) (by omega) (w6.alloc (.cells #[.int .i64 (chI c r y0 y1), .int .i64 r] 25)) (HT.out.up (HU6.out.alloc _))
      by_cases ho : okAt r y2 y3 y4
      · have hk := back2 hc ho
        rw [at_off _ _ _ _ _ ho] at hA
        obtain ⟨m0, m1, m2, m3, m4⟩ := hk
        have hW := Where_yes c r b _ hr ⟨m0, m1⟩
        rw [m2, m3, m4] at hW
        clear hc ho hbd hrb m2 m3 m4
        generalize chI c r y0 y1 + off r y2 y3 y4 = xx at *
        generalize chI c r y0 y1 = ch at *
        have HA := Lib.hid hA
        have HW := Lib.hid hW
        have hxx : decide (xx < woI c r b) = true := decide_eq_true m1
        clear hA hW
        go_wp2_with fail
        refine HA.out.mono ?_
        rintro e w7 ⟨rfl, hu⟩
        have hal := (Up.refl w6).alloc (.cells #[.int .i64 ch, .int .i64 r] 25)
        have HC7 := Lib.hid (block_up hu (block_up hal HC6.out))
        have HX7 := Lib.hid (block_up hu (block_up hal HX6.out))
        have HU7 := Lib.hid (Up.trans (Up.trans HU6.out hal) hu)
        clear c6_0 c6_1 c6_2 x6_0 x6_1 x6_2 x6_3 x6_4 hlt6 hlx6
        clear hu hal
        have c7_0 : w7.cell? ⟨w.heap.size, 0, none⟩ = some (.int .i64 c) := cell_of_block HC7.out 0
        have c7_1 : w7.cell? ⟨w.heap.size, 1, none⟩ = some (.int .i64 r) := cell_of_block HC7.out 1
        have c7_2 : w7.cell? ⟨w.heap.size, 2, none⟩ = some (.int .i64 b) := cell_of_block HC7.out 2
        have x7_0 : w7.cell? ⟨w.heap.size + 1, 0, none⟩ = some (.int .i64 y0) := cell_of_block HX7.out 0
        have x7_1 : w7.cell? ⟨w.heap.size + 1, 1, none⟩ = some (.int .i64 y1) := cell_of_block HX7.out 1
        have x7_2 : w7.cell? ⟨w.heap.size + 1, 2, none⟩ = some (.int .i64 y2) := cell_of_block HX7.out 2
        have x7_3 : w7.cell? ⟨w.heap.size + 1, 3, none⟩ = some (.int .i64 y3) := cell_of_block HX7.out 3
        have x7_4 : w7.cell? ⟨w.heap.size + 1, 4, none⟩ = some (.int .i64 y4) := cell_of_block HX7.out 4
        have hlt7 : w.heap.size < w7.heap.size := World.block_lt_of_cell? w7 _ c7_0
        have hlx7 : w.heap.size + 1 < w7.heap.size := World.block_lt_of_cell? w7 ⟨w.heap.size + 1, 0, none⟩ (cell_of_block HX7.out 0)
        go_wp2_with fail
        refine (HW.out _ (HT.out.up HU7.out)).mono ?_
        rintro e w8 ⟨rfl, hu⟩
        have HC8 := Lib.hid (block_up hu HC7.out)
        have HX8 := Lib.hid (block_up hu HX7.out)
        have HU8 := Lib.hid (Up.trans HU7.out hu)
        clear c7_0 c7_1 c7_2 x7_0 x7_1 x7_2 x7_3 x7_4 hlt7 hlx7
        clear hu
        have c8_0 : w8.cell? ⟨w.heap.size, 0, none⟩ = some (.int .i64 c) := cell_of_block HC8.out 0
        have c8_1 : w8.cell? ⟨w.heap.size, 1, none⟩ = some (.int .i64 r) := cell_of_block HC8.out 1
        have c8_2 : w8.cell? ⟨w.heap.size, 2, none⟩ = some (.int .i64 b) := cell_of_block HC8.out 2
        have x8_0 : w8.cell? ⟨w.heap.size + 1, 0, none⟩ = some (.int .i64 y0) := cell_of_block HX8.out 0
        have x8_1 : w8.cell? ⟨w.heap.size + 1, 1, none⟩ = some (.int .i64 y1) := cell_of_block HX8.out 1
        have x8_2 : w8.cell? ⟨w.heap.size + 1, 2, none⟩ = some (.int .i64 y2) := cell_of_block HX8.out 2
        have x8_3 : w8.cell? ⟨w.heap.size + 1, 3, none⟩ = some (.int .i64 y3) := cell_of_block HX8.out 3
        have x8_4 : w8.cell? ⟨w.heap.size + 1, 4, none⟩ = some (.int .i64 y4) := cell_of_block HX8.out 4
        have hlt8 : w.heap.size < w8.heap.size := World.block_lt_of_cell? w8 _ c8_0
        have hlx8 : w.heap.size + 1 < w8.heap.size := World.block_lt_of_cell? w8 ⟨w.heap.size + 1, 0, none⟩ (cell_of_block HX8.out 0)
        go_wp2_with (first | (go_at_call 14; refine (Words_walk c r b hr _ (HT.out.up (HU8.out.alloc _))).mono ?_; rintro e w9 ⟨rfl, hu⟩; have hal := (Up.refl w8).alloc (.cells #[.int .i64 y0, .int .i64 y1, .int .i64 y2, .int .i64 y3, .int .i64 y4] 41); have HU9 := Lib.hid (Up.trans (Up.trans HU8.out hal) hu); clear hu hal) | (go_at_call 16; refine (alive_walk _ (HT.out.up HU9.out)).mono ?_; rintro e wq ⟨rfl, hu⟩; have HUQ := Lib.hid (Up.trans HU9.out hu); clear hu))
        go_ret
        exact ⟨rfl, HUQ.out⟩
      · rw [atV_no _ _ _ _ _ ho] at hA
        clear hc ho hbd hrb
        generalize chI c r y0 y1 = ch at *
        have HA := Lib.hid hA
        clear hA
        go_wp2_with fail
        refine HA.out.mono ?_
        rintro e w7 ⟨rfl, hu⟩
        have hal := (Up.refl w6).alloc (.cells #[.int .i64 ch, .int .i64 r] 25)
        have HC7 := Lib.hid (block_up hu (block_up hal HC6.out))
        have HX7 := Lib.hid (block_up hu (block_up hal HX6.out))
        have HU7 := Lib.hid (Up.trans (Up.trans HU6.out hal) hu)
        clear c6_0 c6_1 c6_2 x6_0 x6_1 x6_2 x6_3 x6_4 hlt6 hlx6
        clear hu hal
        go_wp2_with (go_at_call 16; refine (alive_walk _ (HT.out.up HU7.out)).mono ?_; rintro e wq ⟨rfl, hu⟩; have HUQ := Lib.hid (Up.trans HU7.out hu); clear hu)
        go_ret
        exact ⟨rfl, HUQ.out⟩
  · have HWh := Lib.hid (Where_no c r b x hr h _ (HT.out.up HG0.out))
    go_enter Tryd.func7, Tryd.ntmps7
    go_wp2_with fail
    refine HWh.out.mono ?_
    rintro e w1 ⟨rfl, hu⟩
    have HC1 := Lib.hid (block_up hu HB0.out)
    have HX1 := Lib.hid (block_up hu HX0.out)
    have HU1 := Lib.hid (Up.trans HG0.out hu)
    clear hu HB0 HX0 HG0 HWh
    have c1_0 : w1.cell? ⟨w.heap.size, 0, none⟩ = some (.int .i64 c) := cell_of_block HC1.out 0
    have c1_1 : w1.cell? ⟨w.heap.size, 1, none⟩ = some (.int .i64 r) := cell_of_block HC1.out 1
    have c1_2 : w1.cell? ⟨w.heap.size, 2, none⟩ = some (.int .i64 b) := cell_of_block HC1.out 2
    have x1_0 : w1.cell? ⟨w.heap.size + 1, 0, none⟩ = some (.int .i64 y0) := cell_of_block HX1.out 0
    have x1_1 : w1.cell? ⟨w.heap.size + 1, 1, none⟩ = some (.int .i64 y1) := cell_of_block HX1.out 1
    have x1_2 : w1.cell? ⟨w.heap.size + 1, 2, none⟩ = some (.int .i64 y2) := cell_of_block HX1.out 2
    have x1_3 : w1.cell? ⟨w.heap.size + 1, 3, none⟩ = some (.int .i64 y3) := cell_of_block HX1.out 3
    have x1_4 : w1.cell? ⟨w.heap.size + 1, 4, none⟩ = some (.int .i64 y4) := cell_of_block HX1.out 4
    have hlt1 : w.heap.size < w1.heap.size := World.block_lt_of_cell? w1 _ c1_0
    have hlx1 : w.heap.size + 1 < w1.heap.size := World.block_lt_of_cell? w1 ⟨w.heap.size + 1, 0, none⟩ (cell_of_block HX1.out 0)
    by_cases h0 : x < 0
    · have h0' : decide (x ≥ 0) = false := decide_eq_false (by omega)
      clear h h0
      go_upto_region 9 with fail
      have hal := (Up.refl w1).alloc (.cells #[.int .i64 0, .int .i64 0, .int .i64 0, .int .i64 0, .int .i64 0] 41)
      have HC5 := Lib.hid (block_up hal HC1.out)
      have HX5 := Lib.hid (block_up hal HX1.out)
      have HU5 := Lib.hid (Up.trans HU1.out hal)
      clear c1_0 c1_1 c1_2 x1_0 x1_1 x1_2 x1_3 x1_4 hlt1 hlx1
      clear hal h0'
      generalize w1.alloc (.cells #[.int .i64 0, .int .i64 0, .int .i64 0, .int .i64 0, .int .i64 0] 41) = w5 at *
      have c5_0 : w5.cell? ⟨w.heap.size, 0, none⟩ = some (.int .i64 c) := cell_of_block HC5.out 0
      have c5_1 : w5.cell? ⟨w.heap.size, 1, none⟩ = some (.int .i64 r) := cell_of_block HC5.out 1
      have c5_2 : w5.cell? ⟨w.heap.size, 2, none⟩ = some (.int .i64 b) := cell_of_block HC5.out 2
      have x5_0 : w5.cell? ⟨w.heap.size + 1, 0, none⟩ = some (.int .i64 y0) := cell_of_block HX5.out 0
      have x5_1 : w5.cell? ⟨w.heap.size + 1, 1, none⟩ = some (.int .i64 y1) := cell_of_block HX5.out 1
      have x5_2 : w5.cell? ⟨w.heap.size + 1, 2, none⟩ = some (.int .i64 y2) := cell_of_block HX5.out 2
      have x5_3 : w5.cell? ⟨w.heap.size + 1, 3, none⟩ = some (.int .i64 y3) := cell_of_block HX5.out 3
      have x5_4 : w5.cell? ⟨w.heap.size + 1, 4, none⟩ = some (.int .i64 y4) := cell_of_block HX5.out 4
      have hlt5 : w.heap.size < w5.heap.size := World.block_lt_of_cell? w5 _ c5_0
      have hlx5 : w.heap.size + 1 < w5.heap.size := World.block_lt_of_cell? w5 ⟨w.heap.size + 1, 0, none⟩ (cell_of_block HX5.out 0)
      go_wp2_with fail
      have hO := Of_walk c r b y0 y1 hr _ (HT.out.up HU5.out)
      cases hc : chB c r b y0 y1 with
      | false =>
        have e : ofV c r b y0 y1 = .tuple #[.agg #[.int .i64 0, .int .i64 0], .bool false] := if_neg (by rw [hc]; decide)
        rw [e] at hO
        refine hO.mono ?_
        clear hO e hc
        rintro e w6 ⟨rfl, hu⟩
        have HC6 := Lib.hid (block_up hu HC5.out)
        have HX6 := Lib.hid (block_up hu HX5.out)
        have HU6 := Lib.hid (Up.trans HU5.out hu)
        clear c5_0 c5_1 c5_2 x5_0 x5_1 x5_2 x5_3 x5_4 hlt5 hlx5
        clear hu
        have c6_0 : w6.cell? ⟨w.heap.size, 0, none⟩ = some (.int .i64 c) := cell_of_block HC6.out 0
        have c6_1 : w6.cell? ⟨w.heap.size, 1, none⟩ = some (.int .i64 r) := cell_of_block HC6.out 1
        have c6_2 : w6.cell? ⟨w.heap.size, 2, none⟩ = some (.int .i64 b) := cell_of_block HC6.out 2
        have x6_0 : w6.cell? ⟨w.heap.size + 1, 0, none⟩ = some (.int .i64 y0) := cell_of_block HX6.out 0
        have x6_1 : w6.cell? ⟨w.heap.size + 1, 1, none⟩ = some (.int .i64 y1) := cell_of_block HX6.out 1
        have x6_2 : w6.cell? ⟨w.heap.size + 1, 2, none⟩ = some (.int .i64 y2) := cell_of_block HX6.out 2
        have x6_3 : w6.cell? ⟨w.heap.size + 1, 3, none⟩ = some (.int .i64 y3) := cell_of_block HX6.out 3
        have x6_4 : w6.cell? ⟨w.heap.size + 1, 4, none⟩ = some (.int .i64 y4) := cell_of_block HX6.out 4
        have hlt6 : w.heap.size < w6.heap.size := World.block_lt_of_cell? w6 _ c6_0
        have hlx6 : w.heap.size + 1 < w6.heap.size := World.block_lt_of_cell? w6 ⟨w.heap.size + 1, 0, none⟩ (cell_of_block HX6.out 0)
        go_wp2_with fail
        have hA := At_walk 0 0 y2 y3 y4 (by omega) (by omega) (by omega) (by omega) (w6.alloc (.cells #[.int .i64 0, .int .i64 0] 25)) (HT.out.up (HU6.out.alloc _))
        obtain ⟨a1, a2, ea⟩ : ∃ a1 a2, atV 0 0 y2 y3 y4 = (a1, a2) := ⟨_, _, rfl⟩
        rw [ea] at hA
        refine hA.mono ?_
        clear hA ea
        rintro e w7 ⟨rfl, hu⟩
        have hal := (Up.refl w6).alloc (.cells #[.int .i64 0, .int .i64 0] 25)
        have HC7 := Lib.hid (block_up hu (block_up hal HC6.out))
        have HX7 := Lib.hid (block_up hu (block_up hal HX6.out))
        have HU7 := Lib.hid (Up.trans (Up.trans HU6.out hal) hu)
        clear c6_0 c6_1 c6_2 x6_0 x6_1 x6_2 x6_3 x6_4 hlt6 hlx6
        clear hu hal
        go_wp2_with (go_at_call 16; refine (alive_walk _ (HT.out.up HU7.out)).mono ?_; rintro e wq ⟨rfl, hu⟩; have HUQ := Lib.hid (Up.trans HU7.out hu); clear hu)
        go_ret
        exact ⟨rfl, HUQ.out⟩
      | true =>
        have e : ofV c r b y0 y1 = .tuple #[.agg #[.int .i64 (chI c r y0 y1), .int .i64 r], .bool true] := if_pos hc
        rw [e] at hO
        refine hO.mono ?_
        clear hO e
        have hbd := chI_bd hc
        have hrb := rgB_bd (rtB_bd (chB_is hc).1).2.2.1
        rintro e w6 ⟨rfl, hu⟩
        have HC6 := Lib.hid (block_up hu HC5.out)
        have HX6 := Lib.hid (block_up hu HX5.out)
        have HU6 := Lib.hid (Up.trans HU5.out hu)
        clear c5_0 c5_1 c5_2 x5_0 x5_1 x5_2 x5_3 x5_4 hlt5 hlx5
        clear hu
        have c6_0 : w6.cell? ⟨w.heap.size, 0, none⟩ = some (.int .i64 c) := cell_of_block HC6.out 0
        have c6_1 : w6.cell? ⟨w.heap.size, 1, none⟩ = some (.int .i64 r) := cell_of_block HC6.out 1
        have c6_2 : w6.cell? ⟨w.heap.size, 2, none⟩ = some (.int .i64 b) := cell_of_block HC6.out 2
        have x6_0 : w6.cell? ⟨w.heap.size + 1, 0, none⟩ = some (.int .i64 y0) := cell_of_block HX6.out 0
        have x6_1 : w6.cell? ⟨w.heap.size + 1, 1, none⟩ = some (.int .i64 y1) := cell_of_block HX6.out 1
        have x6_2 : w6.cell? ⟨w.heap.size + 1, 2, none⟩ = some (.int .i64 y2) := cell_of_block HX6.out 2
        have x6_3 : w6.cell? ⟨w.heap.size + 1, 3, none⟩ = some (.int .i64 y3) := cell_of_block HX6.out 3
        have x6_4 : w6.cell? ⟨w.heap.size + 1, 4, none⟩ = some (.int .i64 y4) := cell_of_block HX6.out 4
        have hlt6 : w.heap.size < w6.heap.size := World.block_lt_of_cell? w6 _ c6_0
        have hlx6 : w.heap.size + 1 < w6.heap.size := World.block_lt_of_cell? w6 ⟨w.heap.size + 1, 0, none⟩ (cell_of_block HX6.out 0)
        have hA := At_walk (chI c r y0 y1) r y2 y3 y4 (by omega) (by omega) (by omega) (by omega) (w6.alloc (.cells #[.int .i64 (chI c r y0 y1), .int .i64 r] 25)) (HT.out.up (HU6.out.alloc _))
        by_cases ho : okAt r y2 y3 y4
        · have hk := back2 hc ho
          rw [at_off _ _ _ _ _ ho] at hA
          obtain ⟨m0, m1, m2, m3, m4⟩ := hk
          have hW := Where_yes c r b _ hr ⟨m0, m1⟩
          rw [m2, m3, m4] at hW
          clear hc ho hbd hrb m2 m3 m4
          generalize chI c r y0 y1 + off r y2 y3 y4 = xx at *
          generalize chI c r y0 y1 = ch at *
          have HA := Lib.hid hA
          have HW := Lib.hid hW
          have hxx : decide (xx < woI c r b) = true := decide_eq_true m1
          clear hA hW
          go_wp2_with fail
          refine HA.out.mono ?_
          rintro e w7 ⟨rfl, hu⟩
          have hal := (Up.refl w6).alloc (.cells #[.int .i64 ch, .int .i64 r] 25)
          have HC7 := Lib.hid (block_up hu (block_up hal HC6.out))
          have HX7 := Lib.hid (block_up hu (block_up hal HX6.out))
          have HU7 := Lib.hid (Up.trans (Up.trans HU6.out hal) hu)
          clear c6_0 c6_1 c6_2 x6_0 x6_1 x6_2 x6_3 x6_4 hlt6 hlx6
          clear hu hal
          have c7_0 : w7.cell? ⟨w.heap.size, 0, none⟩ = some (.int .i64 c) := cell_of_block HC7.out 0
          have c7_1 : w7.cell? ⟨w.heap.size, 1, none⟩ = some (.int .i64 r) := cell_of_block HC7.out 1
          have c7_2 : w7.cell? ⟨w.heap.size, 2, none⟩ = some (.int .i64 b) := cell_of_block HC7.out 2
          have x7_0 : w7.cell? ⟨w.heap.size + 1, 0, none⟩ = some (.int .i64 y0) := cell_of_block HX7.out 0
          have x7_1 : w7.cell? ⟨w.heap.size + 1, 1, none⟩ = some (.int .i64 y1) := cell_of_block HX7.out 1
          have x7_2 : w7.cell? ⟨w.heap.size + 1, 2, none⟩ = some (.int .i64 y2) := cell_of_block HX7.out 2
          have x7_3 : w7.cell? ⟨w.heap.size + 1, 3, none⟩ = some (.int .i64 y3) := cell_of_block HX7.out 3
          have x7_4 : w7.cell? ⟨w.heap.size + 1, 4, none⟩ = some (.int .i64 y4) := cell_of_block HX7.out 4
          have hlt7 : w.heap.size < w7.heap.size := World.block_lt_of_cell? w7 _ c7_0
          have hlx7 : w.heap.size + 1 < w7.heap.size := World.block_lt_of_cell? w7 ⟨w.heap.size + 1, 0, none⟩ (cell_of_block HX7.out 0)
          go_wp2_with fail
          refine (HW.out _ (HT.out.up HU7.out)).mono ?_
          rintro e w8 ⟨rfl, hu⟩
          have HC8 := Lib.hid (block_up hu HC7.out)
          have HX8 := Lib.hid (block_up hu HX7.out)
          have HU8 := Lib.hid (Up.trans HU7.out hu)
          clear c7_0 c7_1 c7_2 x7_0 x7_1 x7_2 x7_3 x7_4 hlt7 hlx7
          clear hu
          have c8_0 : w8.cell? ⟨w.heap.size, 0, none⟩ = some (.int .i64 c) := cell_of_block HC8.out 0
          have c8_1 : w8.cell? ⟨w.heap.size, 1, none⟩ = some (.int .i64 r) := cell_of_block HC8.out 1
          have c8_2 : w8.cell? ⟨w.heap.size, 2, none⟩ = some (.int .i64 b) := cell_of_block HC8.out 2
          have x8_0 : w8.cell? ⟨w.heap.size + 1, 0, none⟩ = some (.int .i64 y0) := cell_of_block HX8.out 0
          have x8_1 : w8.cell? ⟨w.heap.size + 1, 1, none⟩ = some (.int .i64 y1) := cell_of_block HX8.out 1
          have x8_2 : w8.cell? ⟨w.heap.size + 1, 2, none⟩ = some (.int .i64 y2) := cell_of_block HX8.out 2
          have x8_3 : w8.cell? ⟨w.heap.size + 1, 3, none⟩ = some (.int .i64 y3) := cell_of_block HX8.out 3
          have x8_4 : w8.cell? ⟨w.heap.size + 1, 4, none⟩ = some (.int .i64 y4) := cell_of_block HX8.out 4
          have hlt8 : w.heap.size < w8.heap.size := World.block_lt_of_cell? w8 _ c8_0
          have hlx8 : w.heap.size + 1 < w8.heap.size := World.block_lt_of_cell? w8 ⟨w.heap.size + 1, 0, none⟩ (cell_of_block HX8.out 0)
          go_wp2_with (first | (go_at_call 14; refine (Words_walk c r b hr _ (HT.out.up (HU8.out.alloc _))).mono ?_; rintro e w9 ⟨rfl, hu⟩; have hal := (Up.refl w8).alloc (.cells #[.int .i64 y0, .int .i64 y1, .int .i64 y2, .int .i64 y3, .int .i64 y4] 41); have HU9 := Lib.hid (Up.trans (Up.trans HU8.out hal) hu); clear hu hal) | (go_at_call 16; refine (alive_walk _ (HT.out.up HU9.out)).mono ?_; rintro e wq ⟨rfl, hu⟩; have HUQ := Lib.hid (Up.trans HU9.out hu); clear hu))
          go_ret
          exact ⟨rfl, HUQ.out⟩
        · rw [atV_no _ _ _ _ _ ho] at hA
          clear hc ho hbd hrb
          generalize chI c r y0 y1 = ch at *
          have HA := Lib.hid hA
          clear hA
          go_wp2_with fail
          refine HA.out.mono ?_
          rintro e w7 ⟨rfl, hu⟩
          have hal := (Up.refl w6).alloc (.cells #[.int .i64 ch, .int .i64 r] 25)
          have HC7 := Lib.hid (block_up hu (block_up hal HC6.out))
          have HX7 := Lib.hid (block_up hu (block_up hal HX6.out))
          have HU7 := Lib.hid (Up.trans (Up.trans HU6.out hal) hu)
          clear c6_0 c6_1 c6_2 x6_0 x6_1 x6_2 x6_3 x6_4 hlt6 hlx6
          clear hu hal
          go_wp2_with (go_at_call 16; refine (alive_walk _ (HT.out.up HU7.out)).mono ?_; rintro e wq ⟨rfl, hu⟩; have HUQ := Lib.hid (Up.trans HU7.out hu); clear hu)
          go_ret
          exact ⟨rfl, HUQ.out⟩
    · have h0' : decide (x ≥ 0) = true := decide_eq_true (by omega)
      have h1' : decide (x < woI c r b) = false := decide_eq_false (fun e => h ⟨by omega, e⟩)
      clear h h0
      go_upto_region 9 with (go_at_call 14; refine (Words_walk c r b hr _ (HT.out.up (HU1.out.alloc _))).mono ?_; rintro e w5 ⟨rfl, hu⟩; have hal := (Up.refl w1).alloc (.cells #[.int .i64 0, .int .i64 0, .int .i64 0, .int .i64 0, .int .i64 0] 41); have HC5 := Lib.hid (block_up hu (block_up hal HC1.out)); have HX5 := Lib.hid (block_up hu (block_up hal HX1.out)); have HU5 := Lib.hid (Up.trans (Up.trans HU1.out hal) hu); clear c1_0 c1_1 c1_2 x1_0 x1_1 x1_2 x1_3 x1_4 hlt1 hlx1 hu hal)
      clear h0' h1'
      have c5_0 : w5.cell? ⟨w.heap.size, 0, none⟩ = some (.int .i64 c) := cell_of_block HC5.out 0
      have c5_1 : w5.cell? ⟨w.heap.size, 1, none⟩ = some (.int .i64 r) := cell_of_block HC5.out 1
      have c5_2 : w5.cell? ⟨w.heap.size, 2, none⟩ = some (.int .i64 b) := cell_of_block HC5.out 2
      have x5_0 : w5.cell? ⟨w.heap.size + 1, 0, none⟩ = some (.int .i64 y0) := cell_of_block HX5.out 0
      have x5_1 : w5.cell? ⟨w.heap.size + 1, 1, none⟩ = some (.int .i64 y1) := cell_of_block HX5.out 1
      have x5_2 : w5.cell? ⟨w.heap.size + 1, 2, none⟩ = some (.int .i64 y2) := cell_of_block HX5.out 2
      have x5_3 : w5.cell? ⟨w.heap.size + 1, 3, none⟩ = some (.int .i64 y3) := cell_of_block HX5.out 3
      have x5_4 : w5.cell? ⟨w.heap.size + 1, 4, none⟩ = some (.int .i64 y4) := cell_of_block HX5.out 4
      have hlt5 : w.heap.size < w5.heap.size := World.block_lt_of_cell? w5 _ c5_0
      have hlx5 : w.heap.size + 1 < w5.heap.size := World.block_lt_of_cell? w5 ⟨w.heap.size + 1, 0, none⟩ (cell_of_block HX5.out 0)
      go_wp2_with fail
      have hO := Of_walk c r b y0 y1 hr _ (HT.out.up HU5.out)
      cases hc : chB c r b y0 y1 with
      | false =>
        have e : ofV c r b y0 y1 = .tuple #[.agg #[.int .i64 0, .int .i64 0], .bool false] := if_neg (by rw [hc]; decide)
        rw [e] at hO
        refine hO.mono ?_
        clear hO e hc
        rintro e w6 ⟨rfl, hu⟩
        have HC6 := Lib.hid (block_up hu HC5.out)
        have HX6 := Lib.hid (block_up hu HX5.out)
        have HU6 := Lib.hid (Up.trans HU5.out hu)
        clear c5_0 c5_1 c5_2 x5_0 x5_1 x5_2 x5_3 x5_4 hlt5 hlx5
        clear hu
        have c6_0 : w6.cell? ⟨w.heap.size, 0, none⟩ = some (.int .i64 c) := cell_of_block HC6.out 0
        have c6_1 : w6.cell? ⟨w.heap.size, 1, none⟩ = some (.int .i64 r) := cell_of_block HC6.out 1
        have c6_2 : w6.cell? ⟨w.heap.size, 2, none⟩ = some (.int .i64 b) := cell_of_block HC6.out 2
        have x6_0 : w6.cell? ⟨w.heap.size + 1, 0, none⟩ = some (.int .i64 y0) := cell_of_block HX6.out 0
        have x6_1 : w6.cell? ⟨w.heap.size + 1, 1, none⟩ = some (.int .i64 y1) := cell_of_block HX6.out 1
        have x6_2 : w6.cell? ⟨w.heap.size + 1, 2, none⟩ = some (.int .i64 y2) := cell_of_block HX6.out 2
        have x6_3 : w6.cell? ⟨w.heap.size + 1, 3, none⟩ = some (.int .i64 y3) := cell_of_block HX6.out 3
        have x6_4 : w6.cell? ⟨w.heap.size + 1, 4, none⟩ = some (.int .i64 y4) := cell_of_block HX6.out 4
        have hlt6 : w.heap.size < w6.heap.size := World.block_lt_of_cell? w6 _ c6_0
        have hlx6 : w.heap.size + 1 < w6.heap.size := World.block_lt_of_cell? w6 ⟨w.heap.size + 1, 0, none⟩ (cell_of_block HX6.out 0)
        go_wp2_with fail
        have hA := At_walk 0 0 y2 y3 y4 (by omega) (by omega) (by omega) (by omega) (w6.alloc (.cells #[.int .i64 0, .int .i64 0] 25)) (HT.out.up (HU6.out.alloc _))
        obtain ⟨a1, a2, ea⟩ : ∃ a1 a2, atV 0 0 y2 y3 y4 = (a1, a2) := ⟨_, _, rfl⟩
        rw [ea] at hA
        refine hA.mono ?_
        clear hA ea
        rintro e w7 ⟨rfl, hu⟩
        have hal := (Up.refl w6).alloc (.cells #[.int .i64 0, .int .i64 0] 25)
        have HC7 := Lib.hid (block_up hu (block_up hal HC6.out))
        have HX7 := Lib.hid (block_up hu (block_up hal HX6.out))
        have HU7 := Lib.hid (Up.trans (Up.trans HU6.out hal) hu)
        clear c6_0 c6_1 c6_2 x6_0 x6_1 x6_2 x6_3 x6_4 hlt6 hlx6
        clear hu hal
        go_wp2_with (go_at_call 16; refine (alive_walk _ (HT.out.up HU7.out)).mono ?_; rintro e wq ⟨rfl, hu⟩; have HUQ := Lib.hid (Up.trans HU7.out hu); clear hu)
        go_ret
        exact ⟨rfl, HUQ.out⟩
      | true =>
        have e : ofV c r b y0 y1 = .tuple #[.agg #[.int .i64 (chI c r y0 y1), .int .i64 r], .bool true] := if_pos hc
        rw [e] at hO
        refine hO.mono ?_
        clear hO e
        have hbd := chI_bd hc
        have hrb := rgB_bd (rtB_bd (chB_is hc).1).2.2.1
        rintro e w6 ⟨rfl, hu⟩
        have HC6 := Lib.hid (block_up hu HC5.out)
        have HX6 := Lib.hid (block_up hu HX5.out)
        have HU6 := Lib.hid (Up.trans HU5.out hu)
        clear c5_0 c5_1 c5_2 x5_0 x5_1 x5_2 x5_3 x5_4 hlt5 hlx5
        clear hu
        have c6_0 : w6.cell? ⟨w.heap.size, 0, none⟩ = some (.int .i64 c) := cell_of_block HC6.out 0
        have c6_1 : w6.cell? ⟨w.heap.size, 1, none⟩ = some (.int .i64 r) := cell_of_block HC6.out 1
        have c6_2 : w6.cell? ⟨w.heap.size, 2, none⟩ = some (.int .i64 b) := cell_of_block HC6.out 2
        have x6_0 : w6.cell? ⟨w.heap.size + 1, 0, none⟩ = some (.int .i64 y0) := cell_of_block HX6.out 0
        have x6_1 : w6.cell? ⟨w.heap.size + 1, 1, none⟩ = some (.int .i64 y1) := cell_of_block HX6.out 1
        have x6_2 : w6.cell? ⟨w.heap.size + 1, 2, none⟩ = some (.int .i64 y2) := cell_of_block HX6.out 2
        have x6_3 : w6.cell? ⟨w.heap.size + 1, 3, none⟩ = some (.int .i64 y3) := cell_of_block HX6.out 3
        have x6_4 : w6.cell? ⟨w.heap.size + 1, 4, none⟩ = some (.int .i64 y4) := cell_of_block HX6.out 4
        have hlt6 : w.heap.size < w6.heap.size := World.block_lt_of_cell? w6 _ c6_0
        have hlx6 : w.heap.size + 1 < w6.heap.size := World.block_lt_of_cell? w6 ⟨w.heap.size + 1, 0, none⟩ (cell_of_block HX6.out 0)
        have hA := At_walk (chI c r y0 y1) r y2 y3 y4 (by omega) (by omega) (by omega) (by omega) (w6.alloc (.cells #[.int .i64 (chI c r y0 y1), .int .i64 r] 25)) (HT.out.up (HU6.out.alloc _))
        by_cases ho : okAt r y2 y3 y4
        · have hk := back2 hc ho
          rw [at_off _ _ _ _ _ ho] at hA
          obtain ⟨m0, m1, m2, m3, m4⟩ := hk
          have hW := Where_yes c r b _ hr ⟨m0, m1⟩
          rw [m2, m3, m4] at hW
          clear hc ho hbd hrb m2 m3 m4
          generalize chI c r y0 y1 + off r y2 y3 y4 = xx at *
          generalize chI c r y0 y1 = ch at *
          have HA := Lib.hid hA
          have HW := Lib.hid hW
          have hxx : decide (xx < woI c r b) = true := decide_eq_true m1
          clear hA hW
          go_wp2_with fail
          refine HA.out.mono ?_
          rintro e w7 ⟨rfl, hu⟩
          have hal := (Up.refl w6).alloc (.cells #[.int .i64 ch, .int .i64 r] 25)
          have HC7 := Lib.hid (block_up hu (block_up hal HC6.out))
          have HX7 := Lib.hid (block_up hu (block_up hal HX6.out))
          have HU7 := Lib.hid (Up.trans (Up.trans HU6.out hal) hu)
          clear c6_0 c6_1 c6_2 x6_0 x6_1 x6_2 x6_3 x6_4 hlt6 hlx6
          clear hu hal
          have c7_0 : w7.cell? ⟨w.heap.size, 0, none⟩ = some (.int .i64 c) := cell_of_block HC7.out 0
          have c7_1 : w7.cell? ⟨w.heap.size, 1, none⟩ = some (.int .i64 r) := cell_of_block HC7.out 1
          have c7_2 : w7.cell? ⟨w.heap.size, 2, none⟩ = some (.int .i64 b) := cell_of_block HC7.out 2
          have x7_0 : w7.cell? ⟨w.heap.size + 1, 0, none⟩ = some (.int .i64 y0) := cell_of_block HX7.out 0
          have x7_1 : w7.cell? ⟨w.heap.size + 1, 1, none⟩ = some (.int .i64 y1) := cell_of_block HX7.out 1
          have x7_2 : w7.cell? ⟨w.heap.size + 1, 2, none⟩ = some (.int .i64 y2) := cell_of_block HX7.out 2
          have x7_3 : w7.cell? ⟨w.heap.size + 1, 3, none⟩ = some (.int .i64 y3) := cell_of_block HX7.out 3
          have x7_4 : w7.cell? ⟨w.heap.size + 1, 4, none⟩ = some (.int .i64 y4) := cell_of_block HX7.out 4
          have hlt7 : w.heap.size < w7.heap.size := World.block_lt_of_cell? w7 _ c7_0
          have hlx7 : w.heap.size + 1 < w7.heap.size := World.block_lt_of_cell? w7 ⟨w.heap.size + 1, 0, none⟩ (cell_of_block HX7.out 0)
          go_wp2_with fail
          refine (HW.out _ (HT.out.up HU7.out)).mono ?_
          rintro e w8 ⟨rfl, hu⟩
          have HC8 := Lib.hid (block_up hu HC7.out)
          have HX8 := Lib.hid (block_up hu HX7.out)
          have HU8 := Lib.hid (Up.trans HU7.out hu)
          clear c7_0 c7_1 c7_2 x7_0 x7_1 x7_2 x7_3 x7_4 hlt7 hlx7
          clear hu
          have c8_0 : w8.cell? ⟨w.heap.size, 0, none⟩ = some (.int .i64 c) := cell_of_block HC8.out 0
          have c8_1 : w8.cell? ⟨w.heap.size, 1, none⟩ = some (.int .i64 r) := cell_of_block HC8.out 1
          have c8_2 : w8.cell? ⟨w.heap.size, 2, none⟩ = some (.int .i64 b) := cell_of_block HC8.out 2
          have x8_0 : w8.cell? ⟨w.heap.size + 1, 0, none⟩ = some (.int .i64 y0) := cell_of_block HX8.out 0
          have x8_1 : w8.cell? ⟨w.heap.size + 1, 1, none⟩ = some (.int .i64 y1) := cell_of_block HX8.out 1
          have x8_2 : w8.cell? ⟨w.heap.size + 1, 2, none⟩ = some (.int .i64 y2) := cell_of_block HX8.out 2
          have x8_3 : w8.cell? ⟨w.heap.size + 1, 3, none⟩ = some (.int .i64 y3) := cell_of_block HX8.out 3
          have x8_4 : w8.cell? ⟨w.heap.size + 1, 4, none⟩ = some (.int .i64 y4) := cell_of_block HX8.out 4
          have hlt8 : w.heap.size < w8.heap.size := World.block_lt_of_cell? w8 _ c8_0
          have hlx8 : w.heap.size + 1 < w8.heap.size := World.block_lt_of_cell? w8 ⟨w.heap.size + 1, 0, none⟩ (cell_of_block HX8.out 0)
          go_wp2_with (first | (go_at_call 14; refine (Words_walk c r b hr _ (HT.out.up (HU8.out.alloc _))).mono ?_; rintro e w9 ⟨rfl, hu⟩; have hal := (Up.refl w8).alloc (.cells #[.int .i64 y0, .int .i64 y1, .int .i64 y2, .int .i64 y3, .int .i64 y4] 41); have HU9 := Lib.hid (Up.trans (Up.trans HU8.out hal) hu); clear hu hal) | (go_at_call 16; refine (alive_walk _ (HT.out.up HU9.out)).mono ?_; rintro e wq ⟨rfl, hu⟩; have HUQ := Lib.hid (Up.trans HU9.out hu); clear hu))
          go_ret
          exact ⟨rfl, HUQ.out⟩
        · rw [atV_no _ _ _ _ _ ho] at hA
          clear hc ho hbd hrb
          generalize chI c r y0 y1 = ch at *
          have HA := Lib.hid hA
          clear hA
          go_wp2_with fail
          refine HA.out.mono ?_
          rintro e w7 ⟨rfl, hu⟩
          have hal := (Up.refl w6).alloc (.cells #[.int .i64 ch, .int .i64 r] 25)
          have HC7 := Lib.hid (block_up hu (block_up hal HC6.out))
          have HX7 := Lib.hid (block_up hu (block_up hal HX6.out))
          have HU7 := Lib.hid (Up.trans (Up.trans HU6.out hal) hu)
          clear c6_0 c6_1 c6_2 x6_0 x6_1 x6_2 x6_3 x6_4 hlt6 hlx6
          clear hu hal
          go_wp2_with (go_at_call 16; refine (alive_walk _ (HT.out.up HU7.out)).mono ?_; rintro e wq ⟨rfl, hu⟩; have HUQ := Lib.hid (Up.trans HU7.out hu); clear hu)
          go_ret
          exact ⟨rfl, HUQ.out⟩
theorem back_row (c r b x y0 y1 y2 y3 y4 : Int) (w : World) (_ : (Lit.int .i64 c).wf = true) (hr : (Lit.int .i64 r).wf = true) (_ : (Lit.int .i64 b).wf = true) (_ : (Lit.int .i64 x).wf = true)
    (_ : (Lit.int .i64 y0).wf = true) (_ : (Lit.int .i64 y1).wf = true) (_ : (Lit.int .i64 y2).wf = true) (_ : (Lit.int .i64 y3).wf = true) (_ : (Lit.int .i64 y4).wf = true) (ht : TT w) :
    Calls Tryd.prog 7 #[.agg #[.int .i64 c, .int .i64 r, .int .i64 b], .int .i64 x, .agg #[.int .i64 y0, .int .i64 y1, .int .i64 y2, .int .i64 y3, .int .i64 y4]] w fun e w' => e = .returned (.bool true) ∧ Up w w' := back_law c r b x y0 y1 y2 y3 y4 hr w ht
end Go.Proofs.YtmfpahdbjcpmkaaDoor.Plot
