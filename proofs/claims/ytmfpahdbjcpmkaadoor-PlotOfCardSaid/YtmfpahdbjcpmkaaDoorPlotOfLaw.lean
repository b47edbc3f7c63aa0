/- PlotOf, walked. -/
import Derived.Test.YtmfpahdbjcpmkaaDoorPlotPure
import Derived.Test.YtmfpahdbjcpmkaaDoorPlotAlive
import Derived.Test.YtmfpahdbjcpmkaaDoorPPlotOfx1
import Derived.Deep.RegionHeld3
import Derived.Deep.DrawnRows
namespace Go.Proofs.YtmfpahdbjcpmkaaDoor.Plot
set_option linter.unusedVariables false
set_option linter.unusedSimpArgs false
open Go.RowKit Go.Proofs.YtmfpahdbjcpmkaaDoorW.PrintWords Go.Proofs.YtmfpahdbjcpmkaaDoor.PPlotWhere

theorem Up.of_drawn0 {w w' : World} (h : Drawn0 w w') : Up w w' := by
  obtain ⟨n, rfl⟩ := h
  exact (Up.refl w).drewN n
theorem rRing_c (n : Int) (w : World) : Calls Tryd.prog 22 #[.int .i64 n] w fun e w' => e = .returned (.bool (rgB n)) ∧ Up w w' :=
  (switchyardref13_Ring.calls 7 n _ w (ring_r n 0)).mono fun _ _ h => ⟨h.1, Up.of_drawn0 h.2⟩
theorem rRight_c (c r b : Int) (w : World) : Calls Tryd.prog 11 #[.agg #[.int .i64 c, .int .i64 r, .int .i64 b]] w fun e w' => e = .returned (.bool (rtB c r b)) ∧ Up w w' :=
  (switchyardref13_Right.calls 7 c r b _ w (right_r c r b 0)).mono fun _ _ h => ⟨h.1, h.2⟩
theorem rSize_c (r : Int) (w : World) : Calls Tryd.prog 13 #[.int .i64 r] w fun e w' => e = .returned (.int .i64 (szI r)) ∧ Up w w' :=
  (switchyardref13_Size.calls 7 r _ w (size_r r 7 (Nat.le_refl _))).mono fun _ _ h => ⟨h.1, Up.of_drawn0 h.2⟩
theorem rBase_yes (c r b f t : Int) (h : chB c r b f t = true) (w : World) : Calls Tryd.prog 9 #[.agg #[.int .i64 c, .int .i64 r, .int .i64 b], .int .i64 f, .int .i64 t] w fun e w' => e = .returned (.tuple #[.int .i64 (chI c r f t), .bool true]) ∧ Up w w' :=
  (switchyardref13_Base.calls 200 c r b f t _ _ w (by rw [base_r c r b f t 0, if_pos h])).mono fun _ _ h => ⟨h.1, h.2⟩
theorem rBase_no (c r b f t : Int) (h : chB c r b f t = false) (w : World) : Calls Tryd.prog 9 #[.agg #[.int .i64 c, .int .i64 r, .int .i64 b], .int .i64 f, .int .i64 t] w fun e w' => e = .returned (.tuple #[.int .i64 0, .bool false]) ∧ Up w w' :=
  (switchyardref13_Base.calls 200 c r b f t _ _ w (by rw [base_r c r b f t 0, if_neg (by rw [h]; decide)])).mono fun _ _ h => ⟨h.1, h.2⟩
/-! The print has the reference's functions once more beside PlotOf. -/
theorem ring_o (n : Int) (k : Nat) : PPlotOf.switchyardref13_Ring.f k n = switchyardref13_Ring.f k n := by
  unfold PPlotOf.switchyardref13_Ring.f switchyardref13_Ring.f
  have h : ∀ (k : Nat) (p : Int), PPlotOf.switchyardref13_Ring.l0 k n p = switchyardref13_Ring.l0 k n p := by
    intro k
    induction k with
    | zero => intro p; rfl
    | succ k ih =>
      intro p
      simp only [PPlotOf.switchyardref13_Ring.l0, switchyardref13_Ring.l0, ih]
  exact h k 2
theorem right_o (c r b : Int) (k : Nat) : PPlotOf.switchyardref13_Right.f (k + 7) c r b = some (rtB c r b) := by
  rw [← right_r c r b k]
  unfold PPlotOf.switchyardref13_Right.f switchyardref13_Right.f
  rw [ring_o]
theorem size_o (r : Int) (k : Nat) : PPlotOf.switchyardref13_Size.f (k + 7) r = some (szI r) := by
  rw [← size_r r (k + 7) (by omega)]
  unfold PPlotOf.switchyardref13_Size.f switchyardref13_Size.f
  rw [ring_o]
theorem words_r (c r b : Int) (k : Nat) : PPlotOf.switchyardref13_Words.f (k + 7) c r b = some (woI c r b) := by
  unfold PPlotOf.switchyardref13_Words.f woI
  rw [show PPlotOf.switchyardref13_Right.f (k + 7) c r b = some (rtB c r b) from right_o c r b k]
  simp only [Option.bind_some]
  cases h : rtB c r b with
  | false => rfl
  | true =>
    have hb := rtB_bd h
    have hs := @szI_bd r
    rw [show PPlotOf.switchyardref13_Size.f (k + 7) r = some (szI r) from size_o r k]
    have hm : 0 ≤ c * (c - 1) ∧ c * (c - 1) ≤ 56 := by
      obtain ⟨h1, h2, _⟩ := hb
      have : c = 2 ∨ c = 3 ∨ c = 4 ∨ c = 5 ∨ c = 6 ∨ c = 7 ∨ c = 8 := by omega
      rcases this with rfl | rfl | rfl | rfl | rfl | rfl | rfl <;> decide
    have hq : 0 ≤ c * (c - 1) * szI r ∧ c * (c - 1) * szI r ≤ 56 * 708 := ⟨Int.mul_nonneg hm.1 hs.1, Int.mul_le_mul hm.2 hs.2 hs.1 (by decide)⟩
    have e1 : wrap64 (c - 1) = c - 1 := w64 (by omega) (by omega)
    have e2 : wrap64 (c * (c - 1)) = c * (c - 1) := w64 (by omega) (by omega)
    have e3 : wrap64 (c * (c - 1) * szI r) = c * (c - 1) * szI r := w64 (by omega) (by omega)
    simp [e1, e2, e3]
theorem rWords_c (c r b : Int) (w : World) : Calls Tryd.prog 15 #[.agg #[.int .i64 c, .int .i64 r, .int .i64 b]] w fun e w' => e = .returned (.int .i64 (woI c r b)) ∧ Up w w' :=
  (PPlotOf.switchyardref13_Words.calls 7 c r b _ w (words_r c r b 0)).mono fun _ _ h => ⟨h.1, h.2⟩

attribute [local go_sem ↓] Go.wp_at_zero Go.wp_at_succ
set_option maxHeartbeats 8000000 in
set_option maxRecDepth 100000 in
theorem of_law (c r b f t q : Int) (hr : (Lit.int .i64 r).wf = true) (hq : (Lit.int .i64 q).wf = true) (w : World) (ht : TT w) :
    Calls Tryd.prog 3 #[.agg #[.int .i64 c, .int .i64 r, .int .i64 b], .int .i64 f, .int .i64 t, .int .i64 q] w fun e w' => e = .returned (.bool true) ∧ Up w w' := by
  have HT := Lib.hid ht
  clear ht
  have hg0 : Up w (w.alloc (.cells #[.int .i64 c, .int .i64 r, .int .i64 b] 23)) := (Up.refl w).alloc _
  have HG0 := Lib.hid hg0
  have hb0 := block_new w (.cells #[.int .i64 c, .int .i64 r, .int .i64 b] 23)
  have HB0 := Lib.hid hb0
  have hO := Of_walk c r b f t hr _ (HT.out.up hg0)
  clear hg0 hb0
  cases hc : chB c r b f t with
  | false =>
    have e : ofV c r b f t = .tuple #[.agg #[.int .i64 0, .int .i64 0], .bool false] := if_neg (by rw [hc]; decide)
    rw [e] at hO
    have HO := Lib.hid hO
    have HR := Lib.hid (fun w => rBase_no c r b f t hc w)
    clear hO e hc
    go_enter Tryd.func3, Tryd.ntmps3
    go_wp2_with fail
    refine HO.out.mono ?_
    rintro e w1 ⟨rfl, hu⟩
    have HU := Lib.hid (Up.trans HG0.out hu)
    have HC := Lib.hid (block_up hu HB0.out)
    have c0 : w1.cell? ⟨w.heap.size, 0, none⟩ = some (.int .i64 c) := cell_of_block HC.out 0
    have c1 : w1.cell? ⟨w.heap.size, 1, none⟩ = some (.int .i64 r) := cell_of_block HC.out 1
    have c2 : w1.cell? ⟨w.heap.size, 2, none⟩ = some (.int .i64 b) := cell_of_block HC.out 2
    have hlt : w.heap.size < w1.heap.size := World.block_lt_of_cell? w1 _ c0
    clear hu
    go_wp2_with fail
    refine (HR.out _).mono ?_
    rintro e w2 ⟨rfl, hu⟩
    have HC2 := Lib.hid (block_up hu (block_up ((Up.refl w1).alloc (.cells #[.int .i64 0, .int .i64 0] 25)) HC.out))
    have HP2 := Lib.hid (block_up hu (block_new w1 (.cells #[.int .i64 0, .int .i64 0] 25)))
    have HU2 := Lib.hid (Up.trans (HU.out.alloc (.cells #[.int .i64 0, .int .i64 0] 25)) hu)
    clear hu c0 c1 c2 hlt
    have hlt2 : w.heap.size < w2.heap.size := World.block_lt_of_cell? w2 _ (cell_of_block HC2.out 0)
    have hlt3 : w1.heap.size < w2.heap.size := World.block_lt_of_cell? w2 _ (cell_of_block HP2.out 0)
    go_wp2_with fail
    have hnew := block_new w2 (.cells #[.int .i64 0, .int .i64 0] 25)
    have HU3 : Hid (Up w (w2.alloc (.cells #[.int .i64 0, .int .i64 0] 25))) := Lib.hid (HU2.out.alloc _)
    have k0 := block_up ((Up.refl w2).alloc (.cells #[.int .i64 0, .int .i64 0] 25)) HC2.out
    have k1 := block_up ((Up.refl w2).alloc (.cells #[.int .i64 0, .int .i64 0] 25)) HP2.out
    generalize w2.alloc (.cells #[.int .i64 0, .int .i64 0] 25) = w3 at *
    have d0 : w3.cell? ⟨w.heap.size, 0, none⟩ = some (.int .i64 c) := cell_of_block k0 0
    have d1 : w3.cell? ⟨w.heap.size, 1, none⟩ = some (.int .i64 r) := cell_of_block k0 1
    have d2 : w3.cell? ⟨w.heap.size, 2, none⟩ = some (.int .i64 b) := cell_of_block k0 2
    have p0 : w3.cell? ⟨w1.heap.size, 0, none⟩ = some (.int .i64 0) := cell_of_block k1 0
    have p1 : w3.cell? ⟨w1.heap.size, 1, none⟩ = some (.int .i64 0) := cell_of_block k1 1
    have q0 : w3.cell? ⟨w2.heap.size, 0, none⟩ = some (.int .i64 0) := cell_of_block hnew 0
    have q1 : w3.cell? ⟨w2.heap.size, 1, none⟩ = some (.int .i64 0) := cell_of_block hnew 1
    clear k0 k1 hnew HC HC2 HP2 HB0 HG0
    go_region_held3 (fun wx => Hid (Up w wx) ∧ wx.cell? ⟨w.heap.size, 0, none⟩ = some (.int .i64 c) ∧ wx.cell? ⟨w.heap.size, 1, none⟩ = some (.int .i64 r) ∧ wx.cell? ⟨w.heap.size, 2, none⟩ = some (.int .i64 b) ∧ wx.cell? ⟨w1.heap.size, 0, none⟩ = some (.int .i64 0) ∧ wx.cell? ⟨w1.heap.size, 1, none⟩ = some (.int .i64 0) ∧ wx.cell? ⟨w2.heap.size, 0, none⟩ = some (.int .i64 0) ∧ wx.cell? ⟨w2.heap.size, 1, none⟩ = some (.int .i64 0))
      (first | exact ⟨Lib.hid (Up.drew HU3.out), d0, d1, d2, p0, p1, q0, q1⟩ | (go_split_ands; exact ⟨Lib.hid (Up.trans (Hid.out (by assumption)) hu), pw_cell_below hu (by assumption), pw_cell_below hu (by assumption), pw_cell_below hu (by assumption), pw_cell_below hu (by assumption), pw_cell_below hu (by assumption), pw_cell_below hu (by assumption), pw_cell_below hu (by assumption)⟩))
      (first
        | (go_at_call 10; refine (Right_walk c r b hr _ ?_).mono ?_; (go_split_ands; exact HT.out.up (Hid.out (by assumption))); rintro e w4 ⟨rfl, hu⟩)
        | (go_at_call 11; refine (rRight_c c r b _).mono ?_; rintro e w4 ⟨rfl, hu⟩)
        | (go_at_call 12; refine (Size_walk q hq _ ?_).mono ?_; (go_split_ands; exact HT.out.up (Hid.out (by assumption))); rintro e w4 ⟨rfl, rfl⟩; have hu := Up.refl w4)
        | (go_at_call 13; refine (rSize_c q _).mono ?_; rintro e w4 ⟨rfl, hu⟩)
        | (go_at_call 14; refine (Words_walk c r b hr _ ?_).mono ?_; (go_split_ands; exact HT.out.up (Hid.out (by assumption))); rintro e w4 ⟨rfl, hu⟩)
        | (go_at_call 15; refine (rWords_c c r b _).mono ?_; rintro e w4 ⟨rfl, hu⟩)
        | (go_at_call 16; refine (alive_walk _ ?_).mono ?_; (go_split_ands; exact HT.out.up (Hid.out (by assumption))); rintro e w4 ⟨rfl, hu⟩))
    all_goals go_wp2
    all_goals go_ret
    all_goals (go_split_ands; exact ⟨rfl, Hid.out (by assumption)⟩)
  | true =>
    have e : ofV c r b f t = .tuple #[.agg #[.int .i64 (chI c r f t), .int .i64 r], .bool true] := if_pos hc
    rw [e] at hO
    have HO := Lib.hid hO
    have HR := Lib.hid (fun w => rBase_yes c r b f t hc w)
    clear hO e hc
    generalize chI c r f t = x at *
    go_enter Tryd.func3, Tryd.ntmps3
    go_wp2_with fail
    refine HO.out.mono ?_
    rintro e w1 ⟨rfl, hu⟩
    have HU := Lib.hid (Up.trans HG0.out hu)
    have HC := Lib.hid (block_up hu HB0.out)
    have c0 : w1.cell? ⟨w.heap.size, 0, none⟩ = some (.int .i64 c) := cell_of_block HC.out 0
    have c1 : w1.cell? ⟨w.heap.size, 1, none⟩ = some (.int .i64 r) := cell_of_block HC.out 1
    have c2 : w1.cell? ⟨w.heap.size, 2, none⟩ = some (.int .i64 b) := cell_of_block HC.out 2
    have hlt : w.heap.size < w1.heap.size := World.block_lt_of_cell? w1 _ c0
    clear hu
    go_wp2_with fail
    refine (HR.out _).mono ?_
    rintro e w2 ⟨rfl, hu⟩
    have HC2 := Lib.hid (block_up hu (block_up ((Up.refl w1).alloc (.cells #[.int .i64 x, .int .i64 r] 25)) HC.out))
    have HP2 := Lib.hid (block_up hu (block_new w1 (.cells #[.int .i64 x, .int .i64 r] 25)))
    have HU2 := Lib.hid (Up.trans (HU.out.alloc (.cells #[.int .i64 x, .int .i64 r] 25)) hu)
    clear hu c0 c1 c2 hlt
    have hlt2 : w.heap.size < w2.heap.size := World.block_lt_of_cell? w2 _ (cell_of_block HC2.out 0)
    have hlt3 : w1.heap.size < w2.heap.size := World.block_lt_of_cell? w2 _ (cell_of_block HP2.out 0)
    have e1 : w2.cell? ⟨w.heap.size, 1, none⟩ = some (.int .i64 r) := cell_of_block HC2.out 1
    go_wp2_with fail
    clear e1
    have hnew := block_new w2 (.cells #[.int .i64 x, .int .i64 r] 25)
    have HU3 : Hid (Up w (w2.alloc (.cells #[.int .i64 x, .int .i64 r] 25))) := Lib.hid (HU2.out.alloc _)
    have k0 := block_up ((Up.refl w2).alloc (.cells #[.int .i64 x, .int .i64 r] 25)) HC2.out
    have k1 := block_up ((Up.refl w2).alloc (.cells #[.int .i64 x, .int .i64 r] 25)) HP2.out
    generalize w2.alloc (.cells #[.int .i64 x, .int .i64 r] 25) = w3 at *
    have d0 : w3.cell? ⟨w.heap.size, 0, none⟩ = some (.int .i64 c) := cell_of_block k0 0
    have d1 : w3.cell? ⟨w.heap.size, 1, none⟩ = some (.int .i64 r) := cell_of_block k0 1
    have d2 : w3.cell? ⟨w.heap.size, 2, none⟩ = some (.int .i64 b) := cell_of_block k0 2
    have p0 : w3.cell? ⟨w1.heap.size, 0, none⟩ = some (.int .i64 x) := cell_of_block k1 0
    have p1 : w3.cell? ⟨w1.heap.size, 1, none⟩ = some (.int .i64 r) := cell_of_block k1 1
    have q0 : w3.cell? ⟨w2.heap.size, 0, none⟩ = some (.int .i64 x) := cell_of_block hnew 0
    have q1 : w3.cell? ⟨w2.heap.size, 1, none⟩ = some (.int .i64 r) := cell_of_block hnew 1
    clear k0 k1 hnew HC HC2 HP2 HB0 HG0
    go_region_held3 (fun wx => Hid (Up w wx) ∧ wx.cell? ⟨w.heap.size, 0, none⟩ = some (.int .i64 c) ∧ wx.cell? ⟨w.heap.size, 1, none⟩ = some (.int .i64 r) ∧ wx.cell? ⟨w.heap.size, 2, none⟩ = some (.int .i64 b) ∧ wx.cell? ⟨w1.heap.size, 0, none⟩ = some (.int .i64 x) ∧ wx.cell? ⟨w1.heap.size, 1, none⟩ = some (.int .i64 r) ∧ wx.cell? ⟨w2.heap.size, 0, none⟩ = some (.int .i64 x) ∧ wx.cell? ⟨w2.heap.size, 1, none⟩ = some (.int .i64 r))
      (first | exact ⟨Lib.hid (Up.drew HU3.out), d0, d1, d2, p0, p1, q0, q1⟩ | (go_split_ands; exact ⟨Lib.hid (Up.trans (Hid.out (by assumption)) hu), pw_cell_below hu (by assumption), pw_cell_below hu (by assumption), pw_cell_below hu (by assumption), pw_cell_below hu (by assumption), pw_cell_below hu (by assumption), pw_cell_below hu (by assumption), pw_cell_below hu (by assumption)⟩))
      (first
        | (go_at_call 10; refine (Right_walk c r b hr _ ?_).mono ?_; (go_split_ands; exact HT.out.up (Hid.out (by assumption))); rintro e w4 ⟨rfl, hu⟩)
        | (go_at_call 11; refine (rRight_c c r b _).mono ?_; rintro e w4 ⟨rfl, hu⟩)
        | (go_at_call 12; refine (Size_walk q hq _ ?_).mono ?_; (go_split_ands; exact HT.out.up (Hid.out (by assumption))); rintro e w4 ⟨rfl, rfl⟩; have hu := Up.refl w4)
        | (go_at_call 13; refine (rSize_c q _).mono ?_; rintro e w4 ⟨rfl, hu⟩)
        | (go_at_call 14; refine (Words_walk c r b hr _ ?_).mono ?_; (go_split_ands; exact HT.out.up (Hid.out (by assumption))); rintro e w4 ⟨rfl, hu⟩)
        | (go_at_call 15; refine (rWords_c c r b _).mono ?_; rintro e w4 ⟨rfl, hu⟩)
        | (go_at_call 16; refine (alive_walk _ ?_).mono ?_; (go_split_ands; exact HT.out.up (Hid.out (by assumption))); rintro e w4 ⟨rfl, hu⟩))
    all_goals go_wp2
    all_goals go_ret
    all_goals (go_split_ands; exact ⟨rfl, Hid.out (by assumption)⟩)
theorem of_row (c r b f t q : Int) (w : World) (_ : (Lit.int .i64 c).wf = true) (hr : (Lit.int .i64 r).wf = true) (_ : (Lit.int .i64 b).wf = true) (_ : (Lit.int .i64 f).wf = true) (_ : (Lit.int .i64 t).wf = true) (hq : (Lit.int .i64 q).wf = true) (ht : TT w) :
    Calls Tryd.prog 3 #[.agg #[.int .i64 c, .int .i64 r, .int .i64 b], .int .i64 f, .int .i64 t, .int .i64 q] w fun e w' => e = .returned (.bool true) ∧ Up w w' := of_law c r b f t q hr hq w ht
end Go.Proofs.YtmfpahdbjcpmkaaDoor.Plot
