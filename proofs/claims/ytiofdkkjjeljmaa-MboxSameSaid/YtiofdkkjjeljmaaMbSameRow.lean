/- MboxSame, for every input. -/
import Derived.Test.YtiofdkkjjeljmaaMbSame
namespace Go.Proofs.Ytiofdkkjjeljmaa.Ref09
set_option linter.unusedVariables false
set_option linter.unusedSimpArgs false
open Go.RowKit Go.Proofs.Ytiofdkkjjeljmaa.Sep Go.Proofs.Ytiofdkkjjeljmaa.Mb Go.Proofs.Ytiofdkkjjeljmaa.Open

theorem New_ok (n : Int) (h : 1 ≤ n ∧ n ≤ 8) (w : World) : Calls Try.prog 29 #[.int .i64 n] w fun e w' => ∃ b, e = .returned (.pointer (some ⟨b, 0, none⟩)) ∧ Up w w' := by
  obtain ⟨m, rfl⟩ := Int.eq_ofNat_of_zero_le (show 0 ≤ n by omega)
  refine (New_st (St.nil w) m (by omega) (by omega)).mono ?_
  rintro e w' ⟨b, rfl, hs⟩
  exact ⟨b, rfl, hs.up⟩
theorem New_bad (n : Int) (h : ¬ (1 ≤ n ∧ n ≤ 8)) (w : World) : Calls Try.prog 29 #[.int .i64 n] w fun e w' => e = .returned (.pointer none) ∧ Up w w' := by
  refine (New_no n (by omega) w).mono ?_
  rintro e w' ⟨rfl, rfl⟩
  exact ⟨rfl, Up.refl _⟩
set_option maxHeartbeats 4000000 in
set_option maxRecDepth 100000 in
theorem alive_a (n0 n1 : Int) (A0 A1 : Option Addr) (c0 c1 l0 l1 : Nat) (mk ma mt mz : Int) (w : World) (h0 : ¬ (1 ≤ n0 ∧ n0 ≤ 8)) (h1 : 1 ≤ n1 ∧ n1 ≤ 8) :
    Calls Try.prog 12 #[.agg #[.int .i64 n0, .int .i64 n1], .agg #[.slice A0 l0 c0, .slice A1 l1 c1], .agg #[.int .i64 mk, .int .i64 ma, .int .i64 mt, .int .i64 mz]] w fun e w' => e = .returned (.bool true) ∧ Up w w' := by
  have HN0 := Lib.hid (New_bad n0 h0)
  have HN1 := Lib.hid (New_ok n1 h1)
  have HI1 := Lib.hid (Is_walk n1)
  rw [decide_eq_true h1] at HI1
  have hup := (((Up.refl w).alloc (.cells #[.int .i64 n0, .int .i64 n1] 103)).alloc (.cells #[.slice A0 l0 c0, .slice A1 l1 c1] 104)).alloc (.cells #[.int .i64 mk, .int .i64 ma, .int .i64 mt, .int .i64 mz] 62)
  have hb := (((St.nil w).alloc #[.int .i64 n0, .int .i64 n1] 103).alloc #[.slice A0 l0 c0, .slice A1 l1 c1] 104).alloc #[.int .i64 mk, .int .i64 ma, .int .i64 mt, .int .i64 mz] 62
  simp only [World.size_alloc] at hb
  have x0 : (((w.alloc (.cells #[.int .i64 n0, .int .i64 n1] 103)).alloc (.cells #[.slice A0 l0 c0, .slice A1 l1 c1] 104)).alloc (.cells #[.int .i64 mk, .int .i64 ma, .int .i64 mt, .int .i64 mz] 62)).cell? ⟨w.heap.size, 0, none⟩ = some (.int .i64 n0) := cell_of_block (hb.get 2).bk_at 0
  have x1 : (((w.alloc (.cells #[.int .i64 n0, .int .i64 n1] 103)).alloc (.cells #[.slice A0 l0 c0, .slice A1 l1 c1] 104)).alloc (.cells #[.int .i64 mk, .int .i64 ma, .int .i64 mt, .int .i64 mz] 62)).cell? ⟨w.heap.size, 1, none⟩ = some (.int .i64 n1) := cell_of_block (hb.get 2).bk_at 1
  have y0 : (((w.alloc (.cells #[.int .i64 n0, .int .i64 n1] 103)).alloc (.cells #[.slice A0 l0 c0, .slice A1 l1 c1] 104)).alloc (.cells #[.int .i64 mk, .int .i64 ma, .int .i64 mt, .int .i64 mz] 62)).cell? ⟨w.heap.size + 1, 0, none⟩ = some (.slice A0 l0 c0) := cell_of_block (hb.get 1).bk_at 0
  have y1 : (((w.alloc (.cells #[.int .i64 n0, .int .i64 n1] 103)).alloc (.cells #[.slice A0 l0 c0, .slice A1 l1 c1] 104)).alloc (.cells #[.int .i64 mk, .int .i64 ma, .int .i64 mt, .int .i64 mz] 62)).cell? ⟨w.heap.size + 1, 1, none⟩ = some (.slice A1 l1 c1) := cell_of_block (hb.get 1).bk_at 1
  clear hb h0 h1
  go_enter Try.func12, Try.ntmps12
  go_upto_region 1 with fail
  generalize ((w.alloc (.cells #[.int .i64 n0, .int .i64 n1] 103)).alloc (.cells #[.slice A0 l0 c0, .slice A1 l1 c1] 104)).alloc (.cells #[.int .i64 mk, .int .i64 ma, .int .i64 mt, .int .i64 mz] 62) = wb at *
  have HUP := Lib.hid hup
  clear hup
  go_region_held3 (fun wx => wx.cell? ⟨w.heap.size, 0, none⟩ = some (.int .i64 n0) ∧ wx.cell? ⟨w.heap.size, 1, none⟩ = some (.int .i64 n1) ∧ wx.cell? ⟨w.heap.size + 1, 0, none⟩ = some (.slice A0 l0 c0) ∧ wx.cell? ⟨w.heap.size + 1, 1, none⟩ = some (.slice A1 l1 c1) ∧ Hid (Up wb wx))
    (first | exact ⟨x0, x1, y0, y1, Lib.hid (Up.drew (Up.refl _))⟩ | (go_split_ands; exact ⟨cell_up hu (by assumption), cell_up hu (by assumption), cell_up hu (by assumption), cell_up hu (by assumption), Lib.hid (Up.trans (Hid.out (by assumption)) hu)⟩))
    (first
      | (go_at_call 29; (with_reducible refine (HN0.out _).mono ?_); rintro e w4 ⟨rfl, hu⟩)
      | (go_at_call 29; (with_reducible refine (HN1.out _).mono ?_); rintro e w5 ⟨b, rfl, hu⟩))
  go_split_ands
  have HU5 := Lib.hid (Up.trans HUP.out (Hid.out (by assumption : Hid (Up wb w5))))
  clear hu
  go_wp2_with (first
    | (go_at_call 28; refine (alive_walk _).mono ?_; rintro e w6 ⟨rfl, hu⟩; have HA := Lib.hid (Up.trans HU5.out hu); clear hu)
    | (go_at_call 30; (with_reducible refine (HI1.out _).mono ?_); rintro e w9 ⟨rfl, hw⟩; have hw := hw.symm; subst hw))
  go_ret
  exact ⟨rfl, HA.out⟩
set_option maxHeartbeats 4000000 in
set_option maxRecDepth 100000 in
theorem alive_b (n0 n1 : Int) (A0 A1 : Option Addr) (c0 c1 l0 l1 : Nat) (mk ma mt mz : Int) (w : World) (h0 : ¬ (1 ≤ n0 ∧ n0 ≤ 8)) (h1 : ¬ (1 ≤ n1 ∧ n1 ≤ 8)) :
    Calls Try.prog 12 #[.agg #[.int .i64 n0, .int .i64 n1], .agg #[.slice A0 l0 c0, .slice A1 l1 c1], .agg #[.int .i64 mk, .int .i64 ma, .int .i64 mt, .int .i64 mz]] w fun e w' => e = .returned (.bool true) ∧ Up w w' := by
  have HN0 := Lib.hid (New_bad n0 h0)
  have HN1 := Lib.hid (New_bad n1 h1)
  have hup := (((Up.refl w).alloc (.cells #[.int .i64 n0, .int .i64 n1] 103)).alloc (.cells #[.slice A0 l0 c0, .slice A1 l1 c1] 104)).alloc (.cells #[.int .i64 mk, .int .i64 ma, .int .i64 mt, .int .i64 mz] 62)
  have hb := (((St.nil w).alloc #[.int .i64 n0, .int .i64 n1] 103).alloc #[.slice A0 l0 c0, .slice A1 l1 c1] 104).alloc #[.int .i64 mk, .int .i64 ma, .int .i64 mt, .int .i64 mz] 62
  simp only [World.size_alloc] at hb
  have x0 : (((w.alloc (.cells #[.int .i64 n0, .int .i64 n1] 103)).alloc (.cells #[.slice A0 l0 c0, .slice A1 l1 c1] 104)).alloc (.cells #[.int .i64 mk, .int .i64 ma, .int .i64 mt, .int .i64 mz] 62)).cell? ⟨w.heap.size, 0, none⟩ = some (.int .i64 n0) := cell_of_block (hb.get 2).bk_at 0
  have x1 : (((w.alloc (.cells #[.int .i64 n0, .int .i64 n1] 103)).alloc (.cells #[.slice A0 l0 c0, .slice A1 l1 c1] 104)).alloc (.cells #[.int .i64 mk, .int .i64 ma, .int .i64 mt, .int .i64 mz] 62)).cell? ⟨w.heap.size, 1, none⟩ = some (.int .i64 n1) := cell_of_block (hb.get 2).bk_at 1
  have y0 : (((w.alloc (.cells #[.int .i64 n0, .int .i64 n1] 103)).alloc (.cells #[.slice A0 l0 c0, .slice A1 l1 c1] 104)).alloc (.cells #[.int .i64 mk, .int .i64 ma, .int .i64 mt, .int .i64 mz] 62)).cell? ⟨w.heap.size + 1, 0, none⟩ = some (.slice A0 l0 c0) := cell_of_block (hb.get 1).bk_at 0
  have y1 : (((w.alloc (.cells #[.int .i64 n0, .int .i64 n1] 103)).alloc (.cells #[.slice A0 l0 c0, .slice A1 l1 c1] 104)).alloc (.cells #[.int .i64 mk, .int .i64 ma, .int .i64 mt, .int .i64 mz] 62)).cell? ⟨w.heap.size + 1, 1, none⟩ = some (.slice A1 l1 c1) := cell_of_block (hb.get 1).bk_at 1
  clear hb h0 h1
  go_enter Try.func12, Try.ntmps12
  go_upto_region 1 with fail
  generalize ((w.alloc (.cells #[.int .i64 n0, .int .i64 n1] 103)).alloc (.cells #[.slice A0 l0 c0, .slice A1 l1 c1] 104)).alloc (.cells #[.int .i64 mk, .int .i64 ma, .int .i64 mt, .int .i64 mz] 62) = wb at *
  have HUP := Lib.hid hup
  clear hup
  go_region_held3 (fun wx => wx.cell? ⟨w.heap.size, 0, none⟩ = some (.int .i64 n0) ∧ wx.cell? ⟨w.heap.size, 1, none⟩ = some (.int .i64 n1) ∧ wx.cell? ⟨w.heap.size + 1, 0, none⟩ = some (.slice A0 l0 c0) ∧ wx.cell? ⟨w.heap.size + 1, 1, none⟩ = some (.slice A1 l1 c1) ∧ Hid (Up wb wx))
    (first | exact ⟨x0, x1, y0, y1, Lib.hid (Up.drew (Up.refl _))⟩ | (go_split_ands; exact ⟨cell_up hu (by assumption), cell_up hu (by assumption), cell_up hu (by assumption), cell_up hu (by assumption), Lib.hid (Up.trans (Hid.out (by assumption)) hu)⟩))
    (first
      | (go_at_call 29; (with_reducible refine (HN0.out _).mono ?_); rintro e w4 ⟨rfl, hu⟩)
      | (go_at_call 29; (with_reducible refine (HN1.out _).mono ?_); rintro e w5 ⟨rfl, hu⟩))
  go_split_ands
  have HU5 := Lib.hid (Up.trans HUP.out (Hid.out (by assumption : Hid (Up wb w5))))
  clear hu
  go_wp2_with (first
    | (go_at_call 28; refine (alive_walk _).mono ?_; rintro e w6 ⟨rfl, hu⟩; have HA := Lib.hid (Up.trans HU5.out hu); clear hu))
  go_ret
  exact ⟨rfl, HA.out⟩
set_option maxHeartbeats 4000000 in
set_option maxRecDepth 100000 in
theorem alive_c (n0 n1 : Int) (A0 A1 : Option Addr) (c0 c1 l0 l1 : Nat) (mk ma mt mz : Int) (w : World) (h0 : 1 ≤ n0 ∧ n0 ≤ 8) (h1 : ¬ (1 ≤ n1 ∧ n1 ≤ 8)) :
    Calls Try.prog 12 #[.agg #[.int .i64 n0, .int .i64 n1], .agg #[.slice A0 l0 c0, .slice A1 l1 c1], .agg #[.int .i64 mk, .int .i64 ma, .int .i64 mt, .int .i64 mz]] w fun e w' => e = .returned (.bool true) ∧ Up w w' := by
  have HN0 := Lib.hid (New_ok n0 h0)
  have HN1 := Lib.hid (New_bad n1 h1)
  have HI0 := Lib.hid (Is_walk n0)
  rw [decide_eq_true h0] at HI0
  have hup := (((Up.refl w).alloc (.cells #[.int .i64 n0, .int .i64 n1] 103)).alloc (.cells #[.slice A0 l0 c0, .slice A1 l1 c1] 104)).alloc (.cells #[.int .i64 mk, .int .i64 ma, .int .i64 mt, .int .i64 mz] 62)
  have hb := (((St.nil w).alloc #[.int .i64 n0, .int .i64 n1] 103).alloc #[.slice A0 l0 c0, .slice A1 l1 c1] 104).alloc #[.int .i64 mk, .int .i64 ma, .int .i64 mt, .int .i64 mz] 62
  simp only [World.size_alloc] at hb
  have x0 : (((w.alloc (.cells #[.int .i64 n0, .int .i64 n1] 103)).alloc (.cells #[.slice A0 l0 c0, .slice A1 l1 c1] 104)).alloc (.cells #[.int .i64 mk, .int .i64 ma, .int .i64 mt, .int .i64 mz] 62)).cell? ⟨w.heap.size, 0, none⟩ = some (.int .i64 n0) := cell_of_block (hb.get 2).bk_at 0
  have x1 : (((w.alloc (.cells #[.int .i64 n0, .int .i64 n1] 103)).alloc (.cells #[.slice A0 l0 c0, .slice A1 l1 c1] 104)).alloc (.cells #[.int .i64 mk, .int .i64 ma, .int .i64 mt, .int .i64 mz] 62)).cell? ⟨w.heap.size, 1, none⟩ = some (.int .i64 n1) := cell_of_block (hb.get 2).bk_at 1
  have y0 : (((w.alloc (.cells #[.int .i64 n0, .int .i64 n1] 103)).alloc (.cells #[.slice A0 l0 c0, .slice A1 l1 c1] 104)).alloc (.cells #[.int .i64 mk, .int .i64 ma, .int .i64 mt, .int .i64 mz] 62)).cell? ⟨w.heap.size + 1, 0, none⟩ = some (.slice A0 l0 c0) := cell_of_block (hb.get 1).bk_at 0
  have y1 : (((w.alloc (.cells #[.int .i64 n0, .int .i64 n1] 103)).alloc (.cells #[.slice A0 l0 c0, .slice A1 l1 c1] 104)).alloc (.cells #[.int .i64 mk, .int .i64 ma, .int .i64 mt, .int .i64 mz] 62)).cell? ⟨w.heap.size + 1, 1, none⟩ = some (.slice A1 l1 c1) := cell_of_block (hb.get 1).bk_at 1
  clear hb h0 h1
  go_enter Try.func12, Try.ntmps12
  go_upto_region 1 with fail
  generalize ((w.alloc (.cells #[.int .i64 n0, .int .i64 n1] 103)).alloc (.cells #[.slice A0 l0 c0, .slice A1 l1 c1] 104)).alloc (.cells #[.int .i64 mk, .int .i64 ma, .int .i64 mt, .int .i64 mz] 62) = wb at *
  have HUP := Lib.hid hup
  clear hup
  go_region_held3 (fun wx => wx.cell? ⟨w.heap.size, 0, none⟩ = some (.int .i64 n0) ∧ wx.cell? ⟨w.heap.size, 1, none⟩ = some (.int .i64 n1) ∧ wx.cell? ⟨w.heap.size + 1, 0, none⟩ = some (.slice A0 l0 c0) ∧ wx.cell? ⟨w.heap.size + 1, 1, none⟩ = some (.slice A1 l1 c1) ∧ Hid (Up wb wx))
    (first | exact ⟨x0, x1, y0, y1, Lib.hid (Up.drew (Up.refl _))⟩ | (go_split_ands; exact ⟨cell_up hu (by assumption), cell_up hu (by assumption), cell_up hu (by assumption), cell_up hu (by assumption), Lib.hid (Up.trans (Hid.out (by assumption)) hu)⟩))
    (first
      | (go_at_call 29; (with_reducible refine (HN0.out _).mono ?_); rintro e w4 ⟨a, rfl, hu⟩)
      | (go_at_call 29; (with_reducible refine (HN1.out _).mono ?_); rintro e w5 ⟨rfl, hu⟩))
  go_split_ands
  have HU5 := Lib.hid (Up.trans HUP.out (Hid.out (by assumption : Hid (Up wb w5))))
  clear hu
  go_wp2_with (first
    | (go_at_call 28; refine (alive_walk _).mono ?_; rintro e w6 ⟨rfl, hu⟩; have HA := Lib.hid (Up.trans HU5.out hu); clear hu)
    | (go_at_call 30; (with_reducible refine (HI0.out _).mono ?_); rintro e w9 ⟨rfl, hw⟩; have hw := hw.symm; subst hw))
  go_ret
  exact ⟨rfl, HA.out⟩
set_option maxHeartbeats 4000000 in
set_option maxRecDepth 100000 in
theorem alive_d (n0 n1 : Int) (A0 A1 : Option Addr) (c0 c1 l0 l1 : Nat) (mk ma mt mz : Int) (w : World) (h0 : 1 ≤ n0 ∧ n0 ≤ 8) (h1 : 1 ≤ n1 ∧ n1 ≤ 8) (g : (l0 : Int) > 60) :
    Calls Try.prog 12 #[.agg #[.int .i64 n0, .int .i64 n1], .agg #[.slice A0 l0 c0, .slice A1 l1 c1], .agg #[.int .i64 mk, .int .i64 ma, .int .i64 mt, .int .i64 mz]] w fun e w' => e = .returned (.bool true) ∧ Up w w' := by
  have HN0 := Lib.hid (New_ok n0 h0)
  have HN1 := Lib.hid (New_ok n1 h1)
  have HI0 := Lib.hid (Is_walk n0)
  rw [decide_eq_true h0] at HI0
  have HI1 := Lib.hid (Is_walk n1)
  rw [decide_eq_true h1] at HI1
  have hup := (((Up.refl w).alloc (.cells #[.int .i64 n0, .int .i64 n1] 103)).alloc (.cells #[.slice A0 l0 c0, .slice A1 l1 c1] 104)).alloc (.cells #[.int .i64 mk, .int .i64 ma, .int .i64 mt, .int .i64 mz] 62)
  have hb := (((St.nil w).alloc #[.int .i64 n0, .int .i64 n1] 103).alloc #[.slice A0 l0 c0, .slice A1 l1 c1] 104).alloc #[.int .i64 mk, .int .i64 ma, .int .i64 mt, .int .i64 mz] 62
  simp only [World.size_alloc] at hb
  have x0 : (((w.alloc (.cells #[.int .i64 n0, .int .i64 n1] 103)).alloc (.cells #[.slice A0 l0 c0, .slice A1 l1 c1] 104)).alloc (.cells #[.int .i64 mk, .int .i64 ma, .int .i64 mt, .int .i64 mz] 62)).cell? ⟨w.heap.size, 0, none⟩ = some (.int .i64 n0) := cell_of_block (hb.get 2).bk_at 0
  have x1 : (((w.alloc (.cells #[.int .i64 n0, .int .i64 n1] 103)).alloc (.cells #[.slice A0 l0 c0, .slice A1 l1 c1] 104)).alloc (.cells #[.int .i64 mk, .int .i64 ma, .int .i64 mt, .int .i64 mz] 62)).cell? ⟨w.heap.size, 1, none⟩ = some (.int .i64 n1) := cell_of_block (hb.get 2).bk_at 1
  have y0 : (((w.alloc (.cells #[.int .i64 n0, .int .i64 n1] 103)).alloc (.cells #[.slice A0 l0 c0, .slice A1 l1 c1] 104)).alloc (.cells #[.int .i64 mk, .int .i64 ma, .int .i64 mt, .int .i64 mz] 62)).cell? ⟨w.heap.size + 1, 0, none⟩ = some (.slice A0 l0 c0) := cell_of_block (hb.get 1).bk_at 0
  have y1 : (((w.alloc (.cells #[.int .i64 n0, .int .i64 n1] 103)).alloc (.cells #[.slice A0 l0 c0, .slice A1 l1 c1] 104)).alloc (.cells #[.int .i64 mk, .int .i64 ma, .int .i64 mt, .int .i64 mz] 62)).cell? ⟨w.heap.size + 1, 1, none⟩ = some (.slice A1 l1 c1) := cell_of_block (hb.get 1).bk_at 1
  clear hb h0 h1
  go_enter Try.func12, Try.ntmps12
  go_upto_region 1 with fail
  generalize ((w.alloc (.cells #[.int .i64 n0, .int .i64 n1] 103)).alloc (.cells #[.slice A0 l0 c0, .slice A1 l1 c1] 104)).alloc (.cells #[.int .i64 mk, .int .i64 ma, .int .i64 mt, .int .i64 mz] 62) = wb at *
  have HUP := Lib.hid hup
  clear hup
  go_region_held3 (fun wx => wx.cell? ⟨w.heap.size, 0, none⟩ = some (.int .i64 n0) ∧ wx.cell? ⟨w.heap.size, 1, none⟩ = some (.int .i64 n1) ∧ wx.cell? ⟨w.heap.size + 1, 0, none⟩ = some (.slice A0 l0 c0) ∧ wx.cell? ⟨w.heap.size + 1, 1, none⟩ = some (.slice A1 l1 c1) ∧ Hid (Up wb wx))
    (first | exact ⟨x0, x1, y0, y1, Lib.hid (Up.drew (Up.refl _))⟩ | (go_split_ands; exact ⟨cell_up hu (by assumption), cell_up hu (by assumption), cell_up hu (by assumption), cell_up hu (by assumption), Lib.hid (Up.trans (Hid.out (by assumption)) hu)⟩))
    (first
      | (go_at_call 29; (with_reducible refine (HN0.out _).mono ?_); rintro e w4 ⟨a, rfl, hu⟩)
      | (go_at_call 29; (with_reducible refine (HN1.out _).mono ?_); rintro e w5 ⟨b, rfl, hu⟩))
  go_split_ands
  have HU5 := Lib.hid (Up.trans HUP.out (Hid.out (by assumption : Hid (Up wb w5))))
  clear hu
  go_wp2_with (first
    | (go_at_call 28; refine (alive_walk _).mono ?_; rintro e w6 ⟨rfl, hu⟩; have HA := Lib.hid (Up.trans HU5.out hu); clear hu)
    | (go_at_call 30; (with_reducible refine (HI0.out _).mono ?_); rintro e w9 ⟨rfl, hw⟩; have hw := hw.symm; subst hw)
    | (go_at_call 30; (with_reducible refine (HI1.out _).mono ?_); rintro e w9 ⟨rfl, hw⟩; have hw := hw.symm; subst hw))
  go_ret
  exact ⟨rfl, HA.out⟩
set_option maxHeartbeats 4000000 in
set_option maxRecDepth 100000 in
theorem alive_e (n0 n1 : Int) (A0 A1 : Option Addr) (c0 c1 l0 l1 : Nat) (mk ma mt mz : Int) (w : World) (h0 : 1 ≤ n0 ∧ n0 ≤ 8) (h1 : 1 ≤ n1 ∧ n1 ≤ 8) (g : decide ((l0 : Int) > 60) = false) (g' : (l1 : Int) > 60) :
    Calls Try.prog 12 #[.agg #[.int .i64 n0, .int .i64 n1], .agg #[.slice A0 l0 c0, .slice A1 l1 c1], .agg #[.int .i64 mk, .int .i64 ma, .int .i64 mt, .int .i64 mz]] w fun e w' => e = .returned (.bool true) ∧ Up w w' := by
  have HN0 := Lib.hid (New_ok n0 h0)
  have HN1 := Lib.hid (New_ok n1 h1)
  have HI0 := Lib.hid (Is_walk n0)
  rw [decide_eq_true h0] at HI0
  have HI1 := Lib.hid (Is_walk n1)
  rw [decide_eq_true h1] at HI1
  have hup := (((Up.refl w).alloc (.cells #[.int .i64 n0, .int .i64 n1] 103)).alloc (.cells #[.slice A0 l0 c0, .slice A1 l1 c1] 104)).alloc (.cells #[.int .i64 mk, .int .i64 ma, .int .i64 mt, .int .i64 mz] 62)
  have hb := (((St.nil w).alloc #[.int .i64 n0, .int .i64 n1] 103).alloc #[.slice A0 l0 c0, .slice A1 l1 c1] 104).alloc #[.int .i64 mk, .int .i64 ma, .int .i64 mt, .int .i64 mz] 62
  simp only [World.size_alloc] at hb
  have x0 : (((w.alloc (.cells #[.int .i64 n0, .int .i64 n1] 103)).alloc (.cells #[.slice A0 l0 c0, .slice A1 l1 c1] 104)).alloc (.cells #[.int .i64 mk, .int .i64 ma, .int .i64 mt, .int .i64 mz] 62)).cell? ⟨w.heap.size, 0, none⟩ = some (.int .i64 n0) := cell_of_block (hb.get 2).bk_at 0
  have x1 : (((w.alloc (.cells #[.int .i64 n0, .int .i64 n1] 103)).alloc (.cells #[.slice A0 l0 c0, .slice A1 l1 c1] 104)).alloc (.cells #[.int .i64 mk, .int .i64 ma, .int .i64 mt, .int .i64 mz] 62)).cell? ⟨w.heap.size, 1, none⟩ = some (.int .i64 n1) := cell_of_block (hb.get 2).bk_at 1
  have y0 : (((w.alloc (.cells #[.int .i64 n0, .int .i64 n1] 103)).alloc (.cells #[.slice A0 l0 c0, .slice A1 l1 c1] 104)).alloc (.cells #[.int .i64 mk, .int .i64 ma, .int .i64 mt, .int .i64 mz] 62)).cell? ⟨w.heap.size + 1, 0, none⟩ = some (.slice A0 l0 c0) := cell_of_block (hb.get 1).bk_at 0
  have y1 : (((w.alloc (.cells #[.int .i64 n0, .int .i64 n1] 103)).alloc (.cells #[.slice A0 l0 c0, .slice A1 l1 c1] 104)).alloc (.cells #[.int .i64 mk, .int .i64 ma, .int .i64 mt, .int .i64 mz] 62)).cell? ⟨w.heap.size + 1, 1, none⟩ = some (.slice A1 l1 c1) := cell_of_block (hb.get 1).bk_at 1
  clear hb h0 h1
  go_enter Try.func12, Try.ntmps12
  go_upto_region 1 with fail
  generalize ((w.alloc (.cells #[.int .i64 n0, .int .i64 n1] 103)).alloc (.cells #[.slice A0 l0 c0, .slice A1 l1 c1] 104)).alloc (.cells #[.int .i64 mk, .int .i64 ma, .int .i64 mt, .int .i64 mz] 62) = wb at *
  have HUP := Lib.hid hup
  clear hup
  go_region_held3 (fun wx => wx.cell? ⟨w.heap.size, 0, none⟩ = some (.int .i64 n0) ∧ wx.cell? ⟨w.heap.size, 1, none⟩ = some (.int .i64 n1) ∧ wx.cell? ⟨w.heap.size + 1, 0, none⟩ = some (.slice A0 l0 c0) ∧ wx.cell? ⟨w.heap.size + 1, 1, none⟩ = some (.slice A1 l1 c1) ∧ Hid (Up wb wx))
    (first | exact ⟨x0, x1, y0, y1, Lib.hid (Up.drew (Up.refl _))⟩ | (go_split_ands; exact ⟨cell_up hu (by assumption), cell_up hu (by assumption), cell_up hu (by assumption), cell_up hu (by assumption), Lib.hid (Up.trans (Hid.out (by assumption)) hu)⟩))
    (first
      | (go_at_call 29; (with_reducible refine (HN0.out _).mono ?_); rintro e w4 ⟨a, rfl, hu⟩)
      | (go_at_call 29; (with_reducible refine (HN1.out _).mono ?_); rintro e w5 ⟨b, rfl, hu⟩))
  go_split_ands
  have HU5 := Lib.hid (Up.trans HUP.out (Hid.out (by assumption : Hid (Up wb w5))))
  clear hu
  go_wp2_with (first
    | (go_at_call 28; refine (alive_walk _).mono ?_; rintro e w6 ⟨rfl, hu⟩; have HA := Lib.hid (Up.trans HU5.out hu); clear hu)
    | (go_at_call 30; (with_reducible refine (HI0.out _).mono ?_); rintro e w9 ⟨rfl, hw⟩; have hw := hw.symm; subst hw)
    | (go_at_call 30; (with_reducible refine (HI1.out _).mono ?_); rintro e w9 ⟨rfl, hw⟩; have hw := hw.symm; subst hw))
  go_ret
  exact ⟨rfl, HA.out⟩
theorem same_row (n0 n1 : Int) (A0 : Option Addr) (c0 : Nat) (rows0 : List (List Int)) (A1 : Option Addr) (c1 : Nat) (rows1 : List (List Int)) (mk ma mt mz : Int) (w : World) (_ : (Lit.int .i64 n0).wf = true) (_ : (Lit.int .i64 n1).wf = true)
    (hr0 : Recs 4 w A0 rows0) (hc0 : rows0.length ≤ c0) (hm0 : c0 ≤ maxLen) (hw0 : ∀ q ∈ rows0, q.length = 4 ∧ ∀ z ∈ q, (Lit.int .i64 z).wf = true)
    (hr1 : Recs 4 w A1 rows1) (hc1 : rows1.length ≤ c1) (hm1 : c1 ≤ maxLen) (hw1 : ∀ q ∈ rows1, q.length = 4 ∧ ∀ z ∈ q, (Lit.int .i64 z).wf = true)
    (_ : (Lit.int .i64 mk).wf = true) (_ : (Lit.int .i64 ma).wf = true) (_ : (Lit.int .i64 mt).wf = true) (wz : (Lit.int .i64 mz).wf = true) :
    Calls Try.prog 12 #[.agg #[.int .i64 n0, .int .i64 n1], .agg #[.slice A0 rows0.length c0, .slice A1 rows1.length c1], .agg #[.int .i64 mk, .int .i64 ma, .int .i64 mt, .int .i64 mz]] w fun e w' => e = .returned (.bool true) ∧ Up w w' := by
  by_cases h0 : 1 ≤ n0 ∧ n0 ≤ 8
  · by_cases h1 : 1 ≤ n1 ∧ n1 ≤ 8
    · by_cases g0 : (rows0.length : Int) > 60
      · exact alive_d n0 n1 A0 A1 c0 c1 _ _ mk ma mt mz w h0 h1 g0
      · by_cases g1 : (rows1.length : Int) > 60
        · exact alive_e n0 n1 A0 A1 c0 c1 _ _ mk ma mt mz w h0 h1 (decide_eq_false g0) g1
        · obtain ⟨p, rfl⟩ := Int.eq_ofNat_of_zero_le (show 0 ≤ n0 by omega)
          obtain ⟨q, rfl⟩ := Int.eq_ofNat_of_zero_le (show 0 ≤ n1 by omega)
          exact same_walk p q (by omega) (by omega) (by omega) (by omega) A0 A1 c0 c1 rows0 rows1 mk ma mt mz (bounds_i64 wz) w hr0 hr1 hw0 hw1 (by omega) (by omega)
    · exact alive_c n0 n1 A0 A1 c0 c1 _ _ mk ma mt mz w h0 h1
  · by_cases h1 : 1 ≤ n1 ∧ n1 ≤ 8
    · exact alive_a n0 n1 A0 A1 c0 c1 _ _ mk ma mt mz w h0 h1
    · exact alive_b n0 n1 A0 A1 c0 c1 _ _ mk ma mt mz w h0 h1
end Go.Proofs.Ytiofdkkjjeljmaa.Ref09
