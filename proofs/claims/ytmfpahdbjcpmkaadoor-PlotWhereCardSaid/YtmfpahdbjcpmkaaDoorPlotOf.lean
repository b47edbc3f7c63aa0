/- More contracts of the package plot: Of. -/
import Derived.Test.YtmfpahdbjcpmkaaDoorPlot
namespace Go.Proofs.YtmfpahdbjcpmkaaDoor.Plot
set_option linter.unusedVariables false
set_option linter.unusedSimpArgs false
open Go.RowKit Go.Proofs.YtmfpahdbjcpmkaaDoor.Given Go.Proofs.YtmfpahdbjcpmkaaDoorW.PrintWords

theorem block_new2 (w : World) (o o' : Obj) : ((w.alloc o).alloc o').heap[w.heap.size + 1]? = some o' := by
  have h := block_new (w.alloc o) o'
  have hs : (w.alloc o).heap.size = w.heap.size + 1 := by simp
  rw [hs] at h
  exact h
theorem cell_new2 (w : World) (cs : Array Value) {t : TypeId} (o' : Obj) (i : Nat) {v : Value} (h : cs[i]? = some v) : ((w.alloc (.cells cs t)).alloc o').cell? ⟨w.heap.size, i, none⟩ = some v := by
  have h1 := block_up ((Up.refl (w.alloc (.cells cs t))).alloc o') (block_new w (.cells cs t))
  rw [cell_of_block h1]
  exact h
def chB (c r b f t : Int) : Bool := decide (rtB c r b = true ∧ 0 ≤ f ∧ f < c ∧ 0 ≤ t ∧ t < c ∧ f ≠ t)
def chI (c r f t : Int) : Int := (f * (c - 1) + t - (if t > f then 1 else 0)) * szI r
/-- A channel, or none. -/
def ofV (c r b f t : Int) : Value := if chB c r b f t = true then .tuple #[.agg #[.int .i64 (chI c r f t), .int .i64 r], .bool true] else .tuple #[.agg #[.int .i64 0, .int .i64 0], .bool false]
theorem chB_is {c r b f t : Int} (h : chB c r b f t = true) : rtB c r b = true ∧ 0 ≤ f ∧ f < c ∧ 0 ≤ t ∧ t < c ∧ f ≠ t := of_decide_eq_true h
theorem ofV_no {c r b f t : Int} (h : ¬ (rtB c r b = true ∧ 0 ≤ f ∧ f < c ∧ 0 ≤ t ∧ t < c ∧ f ≠ t)) : ofV c r b f t = .tuple #[.agg #[.int .i64 0, .int .i64 0], .bool false] := if_neg (fun e => h (chB_is e))
theorem ch_bd {c r b f t : Int} (h : rtB c r b = true ∧ 0 ≤ f ∧ f < c ∧ 0 ≤ t ∧ t < c ∧ f ≠ t) : 0 ≤ f * (c - 1) ∧ f * (c - 1) ≤ 49 ∧ 0 ≤ f * (c - 1) + t - (if t > f then 1 else 0) ∧ f * (c - 1) + t - (if t > f then 1 else 0) < c * (c - 1) := by
  obtain ⟨h1, h2, h3, h4, h5, h6⟩ := h
  have hb := rtB_bd h1
  have hc : c = 2 ∨ c = 3 ∨ c = 4 ∨ c = 5 ∨ c = 6 ∨ c = 7 ∨ c = 8 := by omega
  rcases hc with rfl | rfl | rfl | rfl | rfl | rfl | rfl <;> (split <;> omega)
theorem chI_bd {c r b f t : Int} (h : chB c r b f t = true) : 0 ≤ chI c r f t ∧ chI c r f t ≤ 56 * 708 := by
  have h1 := ch_bd (chB_is h)
  have hb := rtB_bd (chB_is h).1
  have hs := @szI_bd r
  have hm : c * (c - 1) ≤ 56 := by
    have : c = 2 ∨ c = 3 ∨ c = 4 ∨ c = 5 ∨ c = 6 ∨ c = 7 ∨ c = 8 := by omega
    rcases this with rfl | rfl | rfl | rfl | rfl | rfl | rfl <;> decide
  unfold chI
  exact ⟨Int.mul_nonneg h1.2.2.1 hs.1, Int.mul_le_mul (by omega) hs.2 hs.1 (by decide)⟩
set_option maxHeartbeats 4000000 in
theorem Of_walk (c r b f t : Int) (hr : (Lit.int .i64 r).wf = true) (w : World) (ht : TT w) :
    Calls Tryd.prog 8 #[.agg #[.int .i64 c, .int .i64 r, .int .i64 b], .int .i64 f, .int .i64 t] w fun e w' => e = .returned (ofV c r b f t) ∧ Up w w' := by
  have HT := Lib.hid ht
  clear ht
  cases h3 : rtB c r b with
  | false =>
    rw [ofV_no (fun h => by rw [h3] at h; exact absurd h.1 (by decide))]
    have H3 := Lib.hid h3
    clear h3
    go_enter Tryd.func8, Tryd.ntmps8
    go_wp2_with (go_at_call 10; refine (Right_walk c r b hr _ (HT.out.up (((Up.refl _).alloc _).alloc _))).mono ?_; rintro e w2 ⟨rfl, hu⟩; have h3 := H3.out; have HU := Lib.hid (Up.trans (((Up.refl _).alloc _).alloc _) hu); have d0 : w2.cell? ⟨w.heap.size, 0, none⟩ = some (.int .i64 c) := pw_cell_below hu (cell_new2 w _ _ 0 rfl); have d1 : w2.cell? ⟨w.heap.size, 1, none⟩ = some (.int .i64 r) := pw_cell_below hu (cell_new2 w _ _ 1 rfl); have hs6 := block_up hu (block_new2 w _ _); have d2 : w2.cell? ⟨w.heap.size + 1, 0, none⟩ = some (.int .i64 0) := cell_of_block hs6 0; have d3 : w2.cell? ⟨w.heap.size + 1, 1, none⟩ = some (.int .i64 0) := cell_of_block hs6 1; have g2 := free_of_block hs6 0; have g3 := free_of_block hs6 1; clear hs6 hu)
    all_goals exact bodyPost_ret (v := .tuple #[.agg #[.int .i64 0, .int .i64 0], .bool false]) (by simp [results, Tryd.results8, go_sem, d2, d3]) rfl ⟨rfl, Up.setCell (Up.setCell HU.out (Nat.le_succ _) _) (Nat.le_succ _) _⟩
  | true =>
    have hb := rtB_bd h3
    have H3 := Lib.hid h3
    by_cases k0 : f < 0
    · rw [ofV_no (fun h => by omega)]
      clear h3 hb
      go_enter Tryd.func8, Tryd.ntmps8
      go_wp2_with (go_at_call 10; refine (Right_walk c r b hr _ (HT.out.up (((Up.refl _).alloc _).alloc _))).mono ?_; rintro e w2 ⟨rfl, hu⟩; have h3 := H3.out; have HU := Lib.hid (Up.trans (((Up.refl _).alloc _).alloc _) hu); have d0 : w2.cell? ⟨w.heap.size, 0, none⟩ = some (.int .i64 c) := pw_cell_below hu (cell_new2 w _ _ 0 rfl); have d1 : w2.cell? ⟨w.heap.size, 1, none⟩ = some (.int .i64 r) := pw_cell_below hu (cell_new2 w _ _ 1 rfl); have hs6 := block_up hu (block_new2 w _ _); have d2 : w2.cell? ⟨w.heap.size + 1, 0, none⟩ = some (.int .i64 0) := cell_of_block hs6 0; have d3 : w2.cell? ⟨w.heap.size + 1, 1, none⟩ = some (.int .i64 0) := cell_of_block hs6 1; have g2 := free_of_block hs6 0; have g3 := free_of_block hs6 1; clear hs6 hu)
      all_goals exact bodyPost_ret (v := .tuple #[.agg #[.int .i64 0, .int .i64 0], .bool false]) (by simp [results, Tryd.results8, go_sem, d2, d3]) rfl ⟨rfl, Up.setCell (Up.setCell HU.out (Nat.le_succ _) _) (Nat.le_succ _) _⟩
    · have k0' : decide (f < 0) = false := decide_eq_false k0
      by_cases k1 : f ≥ c
      · rw [ofV_no (fun h => by omega)]
        clear h3 hb
        go_enter Tryd.func8, Tryd.ntmps8
        go_wp2_with (go_at_call 10; refine (Right_walk c r b hr _ (HT.out.up (((Up.refl _).alloc _).alloc _))).mono ?_; rintro e w2 ⟨rfl, hu⟩; have h3 := H3.out; have HU := Lib.hid (Up.trans (((Up.refl _).alloc _).alloc _) hu); have d0 : w2.cell? ⟨w.heap.size, 0, none⟩ = some (.int .i64 c) := pw_cell_below hu (cell_new2 w _ _ 0 rfl); have d1 : w2.cell? ⟨w.heap.size, 1, none⟩ = some (.int .i64 r) := pw_cell_below hu (cell_new2 w _ _ 1 rfl); have hs6 := block_up hu (block_new2 w _ _); have d2 : w2.cell? ⟨w.heap.size + 1, 0, none⟩ = some (.int .i64 0) := cell_of_block hs6 0; have d3 : w2.cell? ⟨w.heap.size + 1, 1, none⟩ = some (.int .i64 0) := cell_of_block hs6 1; have g2 := free_of_block hs6 0; have g3 := free_of_block hs6 1; clear hs6 hu)
        all_goals exact bodyPost_ret (v := .tuple #[.agg #[.int .i64 0, .int .i64 0], .bool false]) (by simp [results, Tryd.results8, go_sem, d2, d3]) rfl ⟨rfl, Up.setCell (Up.setCell HU.out (Nat.le_succ _) _) (Nat.le_succ _) _⟩
      · have k1' : decide (f ≥ c) = false := decide_eq_false k1
        by_cases k2 : t < 0
        · rw [ofV_no (fun h => by omega)]
          clear h3 hb
          go_enter Tryd.func8, Tryd.ntmps8
          go_wp2_with (go_at_call 10; refine (Right_walk c r b hr _ (HT.out.up (((Up.refl _).alloc _).alloc _))).mono ?_; rintro e w2 ⟨rfl, hu⟩; have h3 := H3.out; have HU := Lib.hid (Up.trans (((Up.refl _).alloc _).alloc _) hu); have d0 : w2.cell? ⟨w.heap.size, 0, none⟩ = some (.int .i64 c) := pw_cell_below hu (cell_new2 w _ _ 0 rfl); have d1 : w2.cell? ⟨w.heap.size, 1, none⟩ = some (.int .i64 r) := pw_cell_below hu (cell_new2 w _ _ 1 rfl); have hs6 := block_up hu (block_new2 w _ _); have d2 : w2.cell? ⟨w.heap.size + 1, 0, none⟩ = some (.int .i64 0) := cell_of_block hs6 0; have d3 : w2.cell? ⟨w.heap.size + 1, 1, none⟩ = some (.int .i64 0) := cell_of_block hs6 1; have g2 := free_of_block hs6 0; have g3 := free_of_block hs6 1; clear hs6 hu)
          all_goals exact bodyPost_ret (v := .tuple #[.agg #[.int .i64 0, .int .i64 0], .bool false]) (by simp [results, Tryd.results8, go_sem, d2, d3]) rfl ⟨rfl, Up.setCell (Up.setCell HU.out (Nat.le_succ _) _) (Nat.le_succ _) _⟩
        · have k2' : decide (t < 0) = false := decide_eq_false k2
          by_cases k3 : t ≥ c
          · rw [ofV_no (fun h => by omega)]
            clear h3 hb
            go_enter Tryd.func8, Tryd.ntmps8
            go_wp2_with (go_at_call 10; refine (Right_walk c r b hr _ (HT.out.up (((Up.refl _).alloc _).alloc _))).mono ?_; rintro e w2 ⟨rfl, hu⟩; have h3 := H3.out; have HU := Lib.hid (Up.trans (((Up.refl _).alloc _).alloc _) hu); have d0 : w2.cell? ⟨w.heap.size, 0, none⟩ = some (.int .i64 c) := pw_cell_below hu (cell_new2 w _ _ 0 rfl); have d1 : w2.cell? ⟨w.heap.size, 1, none⟩ = some (.int .i64 r) := pw_cell_below hu (cell_new2 w _ _ 1 rfl); have hs6 := block_up hu (block_new2 w _ _); have d2 : w2.cell? ⟨w.heap.size + 1, 0, none⟩ = some (.int .i64 0) := cell_of_block hs6 0; have d3 : w2.cell? ⟨w.heap.size + 1, 1, none⟩ = some (.int .i64 0) := cell_of_block hs6 1; have g2 := free_of_block hs6 0; have g3 := free_of_block hs6 1; clear hs6 hu)
            all_goals exact bodyPost_ret (v := .tuple #[.agg #[.int .i64 0, .int .i64 0], .bool false]) (by simp [results, Tryd.results8, go_sem, d2, d3]) rfl ⟨rfl, Up.setCell (Up.setCell HU.out (Nat.le_succ _) _) (Nat.le_succ _) _⟩
          · have k3' : decide (t ≥ c) = false := decide_eq_false k3
            by_cases k4 : f = t
            · rw [ofV_no (fun h => by omega)]
              clear h3 hb
              subst k4
              go_enter Tryd.func8, Tryd.ntmps8
              go_wp2_with (go_at_call 10; refine (Right_walk c r b hr _ (HT.out.up (((Up.refl _).alloc _).alloc _))).mono ?_; rintro e w2 ⟨rfl, hu⟩; have h3 := H3.out; have HU := Lib.hid (Up.trans (((Up.refl _).alloc _).alloc _) hu); have d0 : w2.cell? ⟨w.heap.size, 0, none⟩ = some (.int .i64 c) := pw_cell_below hu (cell_new2 w _ _ 0 rfl); have d1 : w2.cell? ⟨w.heap.size, 1, none⟩ = some (.int .i64 r) := pw_cell_below hu (cell_new2 w _ _ 1 rfl); have hs6 := block_up hu (block_new2 w _ _); have d2 : w2.cell? ⟨w.heap.size + 1, 0, none⟩ = some (.int .i64 0) := cell_of_block hs6 0; have d3 : w2.cell? ⟨w.heap.size + 1, 1, none⟩ = some (.int .i64 0) := cell_of_block hs6 1; have g2 := free_of_block hs6 0; have g3 := free_of_block hs6 1; clear hs6 hu)
              all_goals exact bodyPost_ret (v := .tuple #[.agg #[.int .i64 0, .int .i64 0], .bool false]) (by simp [results, Tryd.results8, go_sem, d2, d3]) rfl ⟨rfl, Up.setCell (Up.setCell HU.out (Nat.le_succ _) _) (Nat.le_succ _) _⟩
            · have k4' : (f == t) = false := beq_eq_false_iff_ne.2 k4
              have hch : rtB c r b = true ∧ 0 ≤ f ∧ f < c ∧ 0 ≤ t ∧ t < c ∧ f ≠ t := ⟨h3, by omega, by omega, by omega, by omega, k4⟩
              have e : ofV c r b f t = .tuple #[.agg #[.int .i64 (chI c r f t), .int .i64 r], .bool true] := if_pos (decide_eq_true hch)
              rw [e]
              have hd := ch_bd hch
              have hs := @szI_bd r
              have hm : c * (c - 1) ≤ 56 := by
                have : c = 2 ∨ c = 3 ∨ c = 4 ∨ c = 5 ∨ c = 6 ∨ c = 7 ∨ c = 8 := by omega
                rcases this with rfl | rfl | rfl | rfl | rfl | rfl | rfl <;> decide
              have hq := chI_bd (decide_eq_true hch : chB c r b f t = true)
              by_cases k5 : t > f
              · rw [if_pos k5] at hd
                have ec : chI c r f t = (f * (c - 1) + t - 1) * szI r := by unfold chI; rw [if_pos k5]
                rw [ec] at hq ⊢
                have e1 : wrap64 (c - 1) = c - 1 := by unfold wrap64; omega
                have e2 : wrap64 (f * (c - 1)) = f * (c - 1) := by unfold wrap64; omega
                have e3 : wrap64 (f * (c - 1) + t) = f * (c - 1) + t := by unfold wrap64; omega
                have e4 : wrap64 (f * (c - 1) + t - 1) = f * (c - 1) + t - 1 := by unfold wrap64; omega
                have e5 : wrap64 ((f * (c - 1) + t - 1) * szI r) = (f * (c - 1) + t - 1) * szI r := by unfold wrap64; omega
                have e6 : IntKind.i64.wrap ((f * (c - 1) + t - 1) * szI r) = (f * (c - 1) + t - 1) * szI r := by rw [IntKind.wrap_i64]; omega
                clear h3 hb e hch hd hs hm hq ec
                go_enter Tryd.func8, Tryd.ntmps8
                go_wp2_with (go_at_call 10; refine (Right_walk c r b hr _ (HT.out.up (((Up.refl _).alloc _).alloc _))).mono ?_; rintro e w2 ⟨rfl, hu⟩; have h3 := H3.out; have HU := Lib.hid (Up.trans (((Up.refl _).alloc _).alloc _) hu); have d0 : w2.cell? ⟨w.heap.size, 0, none⟩ = some (.int .i64 c) := pw_cell_below hu (cell_new2 w _ _ 0 rfl); have d1 : w2.cell? ⟨w.heap.size, 1, none⟩ = some (.int .i64 r) := pw_cell_below hu (cell_new2 w _ _ 1 rfl); have hs6 := block_up hu (block_new2 w _ _); have d2 : w2.cell? ⟨w.heap.size + 1, 0, none⟩ = some (.int .i64 0) := cell_of_block hs6 0; have d3 : w2.cell? ⟨w.heap.size + 1, 1, none⟩ = some (.int .i64 0) := cell_of_block hs6 1; have g2 := free_of_block hs6 0; have g3 := free_of_block hs6 1; clear hs6 hu)
                go_region_with (go_at_call 12; refine (Size_walk r hr _ (by repeat (first | exact HT.out.up HU.out | apply TT.drewN | apply TT.drew))).mono ?_; rintro e w3 ⟨rfl, rfl⟩)
                all_goals go_wp2
                all_goals exact bodyPost_ret (v := .tuple #[.agg #[.int .i64 ((f * (c - 1) + t - 1) * szI r), .int .i64 r], .bool true]) (by simp [results, Tryd.results8, go_sem, d2, d3, e6]) rfl ⟨rfl, Up.drew (Up.setCell (Up.setCell HU.out (Nat.le_succ _) _) (Nat.le_succ _) _)⟩
              · rw [if_neg k5] at hd
                have ec : chI c r f t = (f * (c - 1) + t) * szI r := by unfold chI; rw [if_neg k5]; rw [Int.sub_zero]
                rw [ec] at hq ⊢
                rw [Int.sub_zero] at hd
                have k5' : decide (t > f) = false := decide_eq_false k5
                have e1 : wrap64 (c - 1) = c - 1 := by unfold wrap64; omega
                have e2 : wrap64 (f * (c - 1)) = f * (c - 1) := by unfold wrap64; omega
                have e3 : wrap64 (f * (c - 1) + t) = f * (c - 1) + t := by unfold wrap64; omega
                have e5 : wrap64 ((f * (c - 1) + t) * szI r) = (f * (c - 1) + t) * szI r := by unfold wrap64; omega
                have e6 : IntKind.i64.wrap ((f * (c - 1) + t) * szI r) = (f * (c - 1) + t) * szI r := by rw [IntKind.wrap_i64]; omega
                clear h3 hb e hch hd hs hm hq ec
                go_enter Tryd.func8, Tryd.ntmps8
                go_wp2_with (go_at_call 10; refine (Right_walk c r b hr _ (HT.out.up (((Up.refl _).alloc _).alloc _))).mono ?_; rintro e w2 ⟨rfl, hu⟩; have h3 := H3.out; have HU := Lib.hid (Up.trans (((Up.refl _).alloc _).alloc _) hu); have d0 : w2.cell? ⟨w.heap.size, 0, none⟩ = some (.int .i64 c) := pw_cell_below hu (cell_new2 w _ _ 0 rfl); have d1 : w2.cell? ⟨w.heap.size, 1, none⟩ = some (.int .i64 r) := pw_cell_below hu (cell_new2 w _ _ 1 rfl); have hs6 := block_up hu (block_new2 w _ _); have d2 : w2.cell? ⟨w.heap.size + 1, 0, none⟩ = some (.int .i64 0) := cell_of_block hs6 0; have d3 : w2.cell? ⟨w.heap.size + 1, 1, none⟩ = some (.int .i64 0) := cell_of_block hs6 1; have g2 := free_of_block hs6 0; have g3 := free_of_block hs6 1; clear hs6 hu)
                go_region_with (go_at_call 12; refine (Size_walk r hr _ (by repeat (first | exact HT.out.up HU.out | apply TT.drewN | apply TT.drew))).mono ?_; rintro e w3 ⟨rfl, rfl⟩)
                all_goals go_wp2
                all_goals exact bodyPost_ret (v := .tuple #[.agg #[.int .i64 ((f * (c - 1) + t) * szI r), .int .i64 r], .bool true]) (by simp [results, Tryd.results8, go_sem, d2, d3, e6]) rfl ⟨rfl, Up.drew (Up.setCell (Up.setCell HU.out (Nat.le_succ _) _) (Nat.le_succ _) _)⟩
end Go.Proofs.YtmfpahdbjcpmkaaDoor.Plot
