/- More contracts of the package plot: Where. -/
import Derived.Test.YtmfpahdbjcpmkaaDoorPlotAt
import Derived.ChangeAlike
import Derived.Deep.RegionHeld3
import Derived.Deep.Cut
namespace Go.Proofs.YtmfpahdbjcpmkaaDoor.Plot
set_option linter.unusedVariables false
set_option linter.unusedSimpArgs false
open Go.RowKit Go.Proofs.YtmfpahdbjcpmkaaDoor.Given Go.Proofs.YtmfpahdbjcpmkaaDoorW.PrintWords

def whA (c r x : Int) : Int := x / szI r / (c - 1)
def whB0 (c r x : Int) : Int := x / szI r % (c - 1)
def whB (c r x : Int) : Int := if whB0 c r x ≥ whA c r x then whB0 c r x + 1 else whB0 c r x
/-- Field, slot and index. -/
def whP (r l : Int) : Int × Int × Int := if l < 4 then (1 + l, 0, 0) else if (l - 4) / r < 3 then (5 + (l - 4) / r, (l - 4) % r, 0) else (8, (l - 4 - 3 * r) / 8, (l - 4 - 3 * r) % 8)
def whV (c r b x : Int) : Value := if 0 ≤ x ∧ x < woI c r b then .tuple #[.agg #[.int .i64 (whA c r x), .int .i64 (whB c r x), .int .i64 (whP r (x % szI r)).1, .int .i64 (whP r (x % szI r)).2.1, .int .i64 (whP r (x % szI r)).2.2], .bool true]
  else .tuple #[.agg #[.int .i64 0, .int .i64 0, .int .i64 0, .int .i64 0, .int .i64 0], .bool false]
theorem tdiv_is {a b : Int} (h : 0 ≤ a) (hb : 0 ≤ b) : a.tdiv b = a / b := Int.tdiv_eq_ediv_of_nonneg h
theorem tmod_is {a b : Int} (h : 0 ≤ a) : a.tmod b = a % b := Int.tmod_eq_emod_of_nonneg h
theorem heap_other {w : World} {b i k : Nat} (v : Value) (h : k ≠ b) : (w.setCell ⟨b, i, none⟩ v).heap[k]? = w.heap[k]? := by
  simp only [World.setCell]
  rw [Array.getElem?_modify]
  simp [Ne.symm h]
theorem TT.set6 {w : World} (h : TT w) {g : Nat} {cs : Array Value} (hg : w.heap[g]? = some (.cells cs 41 (0, 0))) (i : Nat) (v : Value) (h0 : g ≠ 1 := by assumption) (h1 : g ≠ 0 := by assumption) : TT (w.setCell ⟨g, i, none⟩ v) :=
  ⟨fun j hj => (World.cell?_setCell_other w ⟨g, i, none⟩ _ v (fun e => h0 (by injection e))).trans (h.tab j hj), fun j hj => (World.cell?_setCell_other w ⟨g, i, none⟩ _ v (fun e => h1 (by injection e))).trans (h.ah j hj)⟩
theorem set5 {w : World} {b : Nat} {a0 a1 a2 a3 a4 : Value} {t : TypeId} (h : w.heap[b]? = some (.cells #[a0, a1, a2, a3, a4] t (0, 0))) (v0 v1 v2 v3 v4 : Value) :
    (((((w.setCell ⟨b, 0, none⟩ v0).setCell ⟨b, 1, none⟩ v1).setCell ⟨b, 2, none⟩ v2).setCell ⟨b, 3, none⟩ v3).setCell ⟨b, 4, none⟩ v4).heap[b]? = some (.cells #[v0, v1, v2, v3, v4] t (0, 0)) :=
  heap_setCell_same (heap_setCell_same (heap_setCell_same (heap_setCell_same (heap_setCell_same h v0) v1) v2) v3) v4
theorem up5 {w0 w : World} (h : Up w0 w) (v0 v1 v2 v3 v4 : Value) :
    Up w0 (((((w.setCell ⟨w0.heap.size + 1, 0, none⟩ v0).setCell ⟨w0.heap.size + 1, 1, none⟩ v1).setCell ⟨w0.heap.size + 1, 2, none⟩ v2).setCell ⟨w0.heap.size + 1, 3, none⟩ v3).setCell ⟨w0.heap.size + 1, 4, none⟩ v4) :=
  Up.setCell (Up.setCell (Up.setCell (Up.setCell (Up.setCell h (Nat.le_succ _) v0) (Nat.le_succ _) v1) (Nat.le_succ _) v2) (Nat.le_succ _) v3) (Nat.le_succ _) v4
theorem wo_rt {c r b x : Int} (h : 0 ≤ x ∧ x < woI c r b) : rtB c r b = true ∧ x < 56 * 708 := by
  unfold woI at h
  split at h
  · rename_i h1
    refine ⟨h1, ?_⟩
    obtain ⟨h3, h2, _⟩ := rtB_bd h1
    have hs := @szI_bd r
    have hm : 0 ≤ c * (c - 1) ∧ c * (c - 1) ≤ 56 := by
      have : c = 2 ∨ c = 3 ∨ c = 4 ∨ c = 5 ∨ c = 6 ∨ c = 7 ∨ c = 8 := by omega
      rcases this with rfl | rfl | rfl | rfl | rfl | rfl | rfl <;> decide
    have hq : c * (c - 1) * szI r ≤ 56 * 708 := Int.mul_le_mul hm.2 hs.2 hs.1 (by decide)
    omega
  · omega
set_option maxHeartbeats 8000000 in
set_option maxRecDepth 100000 in
theorem Where_no (c r b x : Int) (hr : (Lit.int .i64 r).wf = true) (h : ¬ (0 ≤ x ∧ x < woI c r b)) (w : World) (ht : TT w) :
    Calls Tryd.prog 19 #[.agg #[.int .i64 c, .int .i64 r, .int .i64 b], .int .i64 x] w fun e w' => e = .returned (.tuple #[.agg #[.int .i64 0, .int .i64 0, .int .i64 0, .int .i64 0, .int .i64 0], .bool false]) ∧ Up w w' := by
  have hb0 := Lib.hid (block_new2 w (.cells #[.int .i64 c, .int .i64 r, .int .i64 b] 23) (.cells #[.int .i64 0, .int .i64 0, .int .i64 0, .int .i64 0, .int .i64 0] 41))
  have hg0 : Up w ((w.alloc (.cells #[.int .i64 c, .int .i64 r, .int .i64 b] 23)).alloc (.cells #[.int .i64 0, .int .i64 0, .int .i64 0, .int .i64 0, .int .i64 0] 41)) := ((Up.refl w).alloc _).alloc _
  have HW := Lib.hid (Words_walk c r b hr _ (ht.up hg0))
  have HG := Lib.hid hg0
  clear ht hg0
  by_cases h0 : x < 0
  · go_enter Tryd.func19, Tryd.ntmps19
    go_wp2
    exact bodyPost_ret (v := .tuple #[.agg #[.int .i64 0, .int .i64 0, .int .i64 0, .int .i64 0, .int .i64 0], .bool false]) (by simp [results, Tryd.results19, go_sem]) rfl ⟨rfl, by repeat (first | exact HG.out | apply Up.setCell | exact Nat.le_succ _)⟩
  · have h1 : x ≥ woI c r b := by omega
    have h0' : decide (x < 0) = false := decide_eq_false h0
    go_enter Tryd.func19, Tryd.ntmps19
    go_wp2_with fail
    refine HW.out.mono ?_
    rintro e w2 ⟨rfl, hu⟩
    have HU := Lib.hid (Up.trans HG.out hu)
    have hs6 := block_up hu hb0.out
    have d0 : w2.cell? ⟨w.heap.size + 1, 0, none⟩ = some (.int .i64 0) := cell_of_block hs6 0
    have d1 : w2.cell? ⟨w.heap.size + 1, 1, none⟩ = some (.int .i64 0) := cell_of_block hs6 1
    have d2 : w2.cell? ⟨w.heap.size + 1, 2, none⟩ = some (.int .i64 0) := cell_of_block hs6 2
    have d3 : w2.cell? ⟨w.heap.size + 1, 3, none⟩ = some (.int .i64 0) := cell_of_block hs6 3
    have d4 : w2.cell? ⟨w.heap.size + 1, 4, none⟩ = some (.int .i64 0) := cell_of_block hs6 4
    have g0 := free_of_block hs6 0
    have g1 := free_of_block hs6 1
    have g2 := free_of_block hs6 2
    have g3 := free_of_block hs6 3
    have g4 := free_of_block hs6 4
    clear hu hs6
    go_wp2
    exact bodyPost_ret (v := .tuple #[.agg #[.int .i64 0, .int .i64 0, .int .i64 0, .int .i64 0, .int .i64 0], .bool false]) (by simp [results, Tryd.results19, go_sem, d0, d1, d2, d3, d4]) rfl ⟨rfl, by repeat (first | exact HU.out | apply Up.setCell | exact Nat.le_succ _)⟩
set_option maxHeartbeats 8000000 in
set_option maxRecDepth 100000 in
theorem Where_yes (c r b x : Int) (hr : (Lit.int .i64 r).wf = true) (h : 0 ≤ x ∧ x < woI c r b) (w : World) (ht : TT w) :
    Calls Tryd.prog 19 #[.agg #[.int .i64 c, .int .i64 r, .int .i64 b], .int .i64 x] w fun e w' => e = .returned (.tuple #[.agg #[.int .i64 (whA c r x), .int .i64 (whB c r x), .int .i64 (whP r (x % szI r)).1, .int .i64 (whP r (x % szI r)).2.1, .int .i64 (whP r (x % szI r)).2.2], .bool true]) ∧ Up w w' := by
  have hb0 := Lib.hid (block_new2 w (.cells #[.int .i64 c, .int .i64 r, .int .i64 b] 23) (.cells #[.int .i64 0, .int .i64 0, .int .i64 0, .int .i64 0, .int .i64 0] 41))
  have hc0 := Lib.hid (block_up ((Up.refl _).alloc (.cells #[.int .i64 0, .int .i64 0, .int .i64 0, .int .i64 0, .int .i64 0] 41)) (block_new w (.cells #[.int .i64 c, .int .i64 r, .int .i64 b] 23)))
  have hg0 : Up w ((w.alloc (.cells #[.int .i64 c, .int .i64 r, .int .i64 b] 23)).alloc (.cells #[.int .i64 0, .int .i64 0, .int .i64 0, .int .i64 0, .int .i64 0] 41)) := ((Up.refl w).alloc _).alloc _
  have HW := Lib.hid (Words_walk c r b hr _ (ht.up hg0))
  have HT := Lib.hid ht
  have HG := Lib.hid hg0
  clear ht hg0
  obtain ⟨h1, h2⟩ := wo_rt h
  obtain ⟨b1, b2, b3, _, _⟩ := rtB_bd h1
  have b4 := rgB_bd b3
  have hsz : szI r = 4 + 11 * r := if_pos b3
  have h0' : decide (x < 0) = false := decide_eq_false (by omega)
  have h1' : decide (x ≥ woI c r b) = false := decide_eq_false (by omega)
  have hA : whA c r x = x / szI r / (c - 1) := rfl
  have hB : whB c r x = if x / szI r % (c - 1) ≥ x / szI r / (c - 1) then x / szI r % (c - 1) + 1 else x / szI r % (c - 1) := rfl
  have n0 : 0 ≤ x / szI r := Int.ediv_nonneg h.1 (by omega)
  have n1 : x / szI r ≤ x := Int.ediv_le_self _ h.1
  have l0 : 0 ≤ x % szI r := Int.emod_nonneg _ (by omega)
  have l1 : x % szI r < szI r := Int.emod_lt_of_pos _ (by omega)
  have e1 : x.tdiv (szI r) = x / szI r := tdiv_is h.1 (by omega)
  have e2 : x.tmod (szI r) = x % szI r := tmod_is h.1
  have z0 : (szI r == 0) = false := beq_eq_false_iff_ne.2 (by omega)
  have z0' : ¬ (szI r = 0) := by omega
  have hsr : x % szI r < 4 + 11 * r := by omega
  have HZ := Lib.hid hsz
  clear hsz h1 b3 l1
  generalize hn : x / szI r = n at *
  generalize hl : x % szI r = l at *
  have HNL := Lib.hid (And.intro hn hl)
  clear hn hl
  have f0 : 0 ≤ n / (c - 1) := Int.ediv_nonneg n0 (by omega)
  have f1 : n / (c - 1) ≤ n := Int.ediv_le_self _ n0
  have t0 : 0 ≤ n % (c - 1) := Int.emod_nonneg _ (by omega)
  have t1 : n % (c - 1) < c - 1 := Int.emod_lt_of_pos _ (by omega)
  have e3 : n.tdiv (c - 1) = n / (c - 1) := tdiv_is n0 (by omega)
  have e4 : n.tmod (c - 1) = n % (c - 1) := tmod_is n0
  have z1 : (c - 1 == 0) = false := beq_eq_false_iff_ne.2 (by omega)
  have z1' : ¬ (c - 1 = 0) := by omega
  have ew1 : wrap64 (c - 1) = c - 1 := by unfold wrap64; omega
  rw [hA, hB]
  have HAB := Lib.hid (And.intro hA hB)
  clear hA hB
  generalize n / (c - 1) = fr at *
  generalize n % (c - 1) = tq at *
  have i1 : IntKind.i64.wrap n = n := by rw [IntKind.wrap_i64]; omega
  have i2 : IntKind.i64.wrap l = l := by rw [IntKind.wrap_i64]; omega
  have i3 : IntKind.i64.wrap fr = fr := by rw [IntKind.wrap_i64]; omega
  have i4 : IntKind.i64.wrap tq = tq := by rw [IntKind.wrap_i64]; omega
  have i5 : IntKind.i64.wrap (c - 1) = c - 1 := by rw [IntKind.wrap_i64]; omega
  go_enter Tryd.func19, Tryd.ntmps19
  go_wp2_with fail
  refine HW.out.mono ?_
  rintro e w2 ⟨rfl, hu⟩
  have HU := Lib.hid (Up.trans HG.out hu)
  have HS6 := Lib.hid (block_up hu hb0.out)
  have HC := Lib.hid (block_up hu hc0.out)
  have HT2 := Lib.hid (HT.out.up HU.out)
  have c0 : w2.cell? ⟨w.heap.size, 0, none⟩ = some (.int .i64 c) := cell_of_block HC.out 0
  have c1 : w2.cell? ⟨w.heap.size, 1, none⟩ = some (.int .i64 r) := cell_of_block HC.out 1
  clear hu
  go_wp2
  go_quiet ((go_at_call 12; exact Calls.quiet_of_same (Size_walk r hr _ (by repeat (first | exact HT2.out | apply TT.drewN | apply TT.drew)))))
  go_wp2
  generalize hw3 : w2.drewN nq = w3
  have hu3 : Up w2 w3 := hw3 ▸ (Up.refl w2).drewN nq
  have HU3 := Lib.hid (Up.trans HU.out hu3)
  have HS3 := Lib.hid (block_up hu3 HS6.out)
  have HC3 := Lib.hid (block_up hu3 HC.out)
  have HT3 := Lib.hid (HT2.out.up hu3)
  have c03 : w3.cell? ⟨w.heap.size, 0, none⟩ = some (.int .i64 c) := cell_of_block HC3.out 0
  have hlt3 : w.heap.size < w3.heap.size := World.block_lt_of_cell? w3 _ c03
  have hlt4 : w.heap.size + 1 < w3.heap.size := World.block_lt_of_cell? w3 ⟨w.heap.size + 1, 0, none⟩ (cell_of_block HS3.out 0)
  clear hw3 hu3 c0 c1 HC HS6 HU HT2
  have hne3 := World.new_ne w3 _ c03
  go_region_held3 (fun wx => wx.cell? ⟨w.heap.size, 0, none⟩ = some (.int .i64 c)) (go_keep) (fail)
  generalize hw5 : (w3.alloc (.cells #[.int .i64 fr, .int .i64 tq, .int .i64 0, .int .i64 0, .int .i64 0] 41)).drew = w5
  have hu5 : Up w3 w5 := hw5 ▸ Up.drew ((Up.refl w3).alloc _)
  have HU5 := Lib.hid (Up.trans HU3.out hu5)
  have HX5 : Hid (w5.heap[w3.heap.size]? = some (.cells #[.int .i64 fr, .int .i64 tq, .int .i64 0, .int .i64 0, .int .i64 0] 41)) := Lib.hid (hw5 ▸ block_new w3 (.cells #[.int .i64 fr, .int .i64 tq, .int .i64 0, .int .i64 0, .int .i64 0] 41))
  have HS5 := Lib.hid (block_up hu5 HS3.out)
  have HC5 := Lib.hid (block_up hu5 HC3.out)
  have HT5 := Lib.hid (HT3.out.up hu5)
  have hne5 : w3.heap.size ≠ w.heap.size + 1 := by omega
  have hne7 : w3.heap.size ≠ w.heap.size := by omega
  have hgt5 : w.heap.size ≤ w3.heap.size := by omega
  have hb1 : 1 < w.heap.size := World.block_lt_of_cell? w ⟨1, 0, none⟩ (HT.out.tab 0 (by decide))
  have hg0 : w3.heap.size ≠ 1 := by omega
  have hg1 : w3.heap.size ≠ 0 := by omega
  have HNE := Lib.hid (And.intro hne5 hne7)
  generalize w3.heap.size = g at *
  clear hw5 hu5 hne3 hlt3 hlt4 c03 HC3 HS3 HT3 HU3 hb0 hc0 HW HG hne5 hne7
  have q0 : 0 ≤ (l - 4) % r := Int.emod_nonneg _ (by omega)
  have q1 : (l - 4) % r < r := Int.emod_lt_of_pos _ (by omega)
  have HP : Hid (whP r l = if l < 4 then (1 + l, 0, 0) else if (l - 4) / r < 3 then (5 + (l - 4) / r, (l - 4) % r, 0) else (8, (l - 4 - 3 * r) / 8, (l - 4 - 3 * r) % 8)) := Lib.hid rfl
  by_cases kA : tq ≥ fr
  · have HB := Lib.hid (show (if tq ≥ fr then tq + 1 else tq) = tq + 1 from if_pos kA)
    have x0 : w5.cell? ⟨g, 0, none⟩ = some (.int .i64 fr) := cell_of_block HX5.out 0
    have x1 : w5.cell? ⟨g, 1, none⟩ = some (.int .i64 tq) := cell_of_block HX5.out 1
    have gx0 : w5.frozen? ⟨g, 0, none⟩ = false := free_of_block HX5.out 0
    have gx1 : w5.frozen? ⟨g, 1, none⟩ = false := free_of_block HX5.out 1
    go_upto_region 7 with fail
    clear x0 x1 gx0 gx1
    have HX6 : Hid ((w5.setCell ⟨g, 1, none⟩ (.int .i64 (tq + 1))).heap[g]? = some (.cells #[.int .i64 fr, .int .i64 (tq + 1), .int .i64 0, .int .i64 0, .int .i64 0] 41)) := Lib.hid (heap_setCell_same HX5.out (i := 1) (.int .i64 (tq + 1)))
    have HS6 := Lib.hid ((heap_other (w := w5) (i := 1) (.int .i64 (tq + 1)) (Ne.symm HNE.out.1)).trans HS5.out)
    have HC6 := Lib.hid ((heap_other (w := w5) (i := 1) (.int .i64 (tq + 1)) (Ne.symm HNE.out.2)).trans HC5.out)
    have HU6 := Lib.hid (Up.setCell (p := ⟨g, 1, none⟩) HU5.out hgt5 (.int .i64 (tq + 1)))
    have HT6 := Lib.hid (HT5.out.set6 HX5.out 1 (.int .i64 (tq + 1)))
    generalize w5.setCell ⟨g, 1, none⟩ (.int .i64 (tq + 1)) = w6 at *
    have gx2 : w6.frozen? ⟨g, 2, none⟩ = false := free_of_block HX6.out 2
    have x2 : w6.cell? ⟨g, 2, none⟩ = some (.int .i64 0) := cell_of_block HX6.out 2
    have gx3 : w6.frozen? ⟨g, 3, none⟩ = false := free_of_block HX6.out 3
    have x3 : w6.cell? ⟨g, 3, none⟩ = some (.int .i64 0) := cell_of_block HX6.out 3
    have gx4 : w6.frozen? ⟨g, 4, none⟩ = false := free_of_block HX6.out 4
    have x4 : w6.cell? ⟨g, 4, none⟩ = some (.int .i64 0) := cell_of_block HX6.out 4
    by_cases k1 : l < 4
    · have He := Lib.hid (show whP r l = (1 + l, 0, 0) by rw [HP.out, if_pos k1])
      clear HP q0 q1
      go_upto_region 9 with fail
      clear x2 x3 x4 gx2 gx3 gx4
      have HX7 : Hid ((w6.setCell ⟨g, 2, none⟩ (.int .i64 (1 + l))).heap[g]? = some (.cells #[.int .i64 fr, .int .i64 (tq + 1), .int .i64 (1 + l), .int .i64 0, .int .i64 0] 41)) := Lib.hid (heap_setCell_same HX6.out (i := 2) (.int .i64 (1 + l)))
      have HS7 := Lib.hid ((heap_other (w := w6) (i := 2) (.int .i64 (1 + l)) (Ne.symm HNE.out.1)).trans HS6.out)
      have HC7 := Lib.hid ((heap_other (w := w6) (i := 2) (.int .i64 (1 + l)) (Ne.symm HNE.out.2)).trans HC6.out)
      have HU7 := Lib.hid (Up.setCell (p := ⟨g, 2, none⟩) HU6.out hgt5 (.int .i64 (1 + l)))
      generalize w6.setCell ⟨g, 2, none⟩ (.int .i64 (1 + l)) = w7 at *
      have x0 : w7.cell? ⟨g, 0, none⟩ = some (.int .i64 fr) := cell_of_block HX7.out 0
      have x1 : w7.cell? ⟨g, 1, none⟩ = some (.int .i64 (tq + 1)) := cell_of_block HX7.out 1
      have x2 : w7.cell? ⟨g, 2, none⟩ = some (.int .i64 (1 + l)) := cell_of_block HX7.out 2
      have x3 : w7.cell? ⟨g, 3, none⟩ = some (.int .i64 0) := cell_of_block HX7.out 3
      have x4 : w7.cell? ⟨g, 4, none⟩ = some (.int .i64 0) := cell_of_block HX7.out 4
      have s0 : w7.cell? ⟨w.heap.size + 1, 0, none⟩ = some (.int .i64 0) := cell_of_block HS7.out 0
      have s1 : w7.cell? ⟨w.heap.size + 1, 1, none⟩ = some (.int .i64 0) := cell_of_block HS7.out 1
      have s2 : w7.cell? ⟨w.heap.size + 1, 2, none⟩ = some (.int .i64 0) := cell_of_block HS7.out 2
      have s3 : w7.cell? ⟨w.heap.size + 1, 3, none⟩ = some (.int .i64 0) := cell_of_block HS7.out 3
      have s4 : w7.cell? ⟨w.heap.size + 1, 4, none⟩ = some (.int .i64 0) := cell_of_block HS7.out 4
      have gs0 : w7.frozen? ⟨w.heap.size + 1, 0, none⟩ = false := free_of_block HS7.out 0
      have gs1 : w7.frozen? ⟨w.heap.size + 1, 1, none⟩ = false := free_of_block HS7.out 1
      have gs2 : w7.frozen? ⟨w.heap.size + 1, 2, none⟩ = false := free_of_block HS7.out 2
      have gs3 : w7.frozen? ⟨w.heap.size + 1, 3, none⟩ = false := free_of_block HS7.out 3
      have gs4 : w7.frozen? ⟨w.heap.size + 1, 4, none⟩ = false := free_of_block HS7.out 4
      (try clear i1); (try clear i2); (try clear i3); (try clear i4); (try clear i5); (try clear i6); (try clear i7); (try clear i8); (try clear i9); (try clear e1); (try clear e2); (try clear e3); (try clear e4); (try clear e5); (try clear e6); (try clear ew1); (try clear ew3); (try clear ew4); (try clear z0); (try clear z0'); (try clear z1); (try clear z1'); (try clear zr); (try clear zr'); (try clear n0); (try clear n1); (try clear l0); (try clear f0); (try clear f1); (try clear t0); (try clear t1); (try clear h0'); (try clear h1'); (try clear hsr); (try clear b1); (try clear b2); (try clear b4); (try clear h2); (try clear q0); (try clear q1); (try clear p0); (try clear p1); (try clear c1); (try clear vt); (try clear y0); (try clear h3r); (try clear hgt5); (try clear hb1); (try clear hg0); (try clear hg1); (try clear hne7); (try clear h); (try clear hr); (try clear HP); (try clear HZ); (try clear HNL); (try clear HAB)
      go_wp2
      have HW1 := Lib.hid (set5 HS7.out (.int .i64 fr) (.int .i64 (tq + 1)) (.int .i64 (1 + l)) (.int .i64 0) (.int .i64 0))
      have HW2 := Lib.hid (up5 HU7.out (.int .i64 fr) (.int .i64 (tq + 1)) (.int .i64 (1 + l)) (.int .i64 0) (.int .i64 0))
      generalize (((((w7.setCell ⟨w.heap.size + 1, 0, none⟩ (.int .i64 fr)).setCell ⟨w.heap.size + 1, 1, none⟩ (.int .i64 (tq + 1))).setCell ⟨w.heap.size + 1, 2, none⟩ (.int .i64 (1 + l))).setCell ⟨w.heap.size + 1, 3, none⟩ (.int .i64 0)).setCell ⟨w.heap.size + 1, 4, none⟩ (.int .i64 0)) = wf at *
      have r0 : wf.cell? ⟨w.heap.size + 1, 0, none⟩ = some (.int .i64 fr) := cell_of_block HW1.out 0
      have r1 : wf.cell? ⟨w.heap.size + 1, 1, none⟩ = some (.int .i64 (tq + 1)) := cell_of_block HW1.out 1
      have r2 : wf.cell? ⟨w.heap.size + 1, 2, none⟩ = some (.int .i64 (1 + l)) := cell_of_block HW1.out 2
      have r3 : wf.cell? ⟨w.heap.size + 1, 3, none⟩ = some (.int .i64 0) := cell_of_block HW1.out 3
      have r4 : wf.cell? ⟨w.heap.size + 1, 4, none⟩ = some (.int .i64 0) := cell_of_block HW1.out 4
      exact bodyPost_ret (v := .tuple #[.agg #[.int .i64 fr, .int .i64 (tq + 1), .int .i64 (1 + l), .int .i64 0, .int .i64 0], .bool true]) (by simp [results, Tryd.results19, go_sem, r0, r1, r2, r3, r4]) rfl ⟨by first | rw [HB.out, He.out] | rw [He.out], HW2.out⟩
    · have k1' : decide (l < 4) = false := decide_eq_false k1
      have p0 : 0 ≤ (l - 4) / r := Int.ediv_nonneg (by omega) (by omega)
      have p1 : (l - 4) / r ≤ l - 4 := Int.ediv_le_self _ (by omega)
      have e5 : (l - 4).tdiv r = (l - 4) / r := tdiv_is (by omega) (by omega)
      have e6 : (l - 4).tmod r = (l - 4) % r := tmod_is (by omega)
      have zr : (r == 0) = false := beq_eq_false_iff_ne.2 (by omega)
      have zr' : ¬ (r = 0) := by omega
      have hdm := Int.mul_ediv_add_emod (l - 4) r
      have hk3 : ¬ ((l - 4) / r < 3) → 3 * r ≤ l - 4 := by
        intro h3
        have : r * 3 ≤ r * ((l - 4) / r) := Int.mul_le_mul_of_nonneg_left (by omega) (by omega)
        omega
      clear hdm
      have e := HP.out
      rw [if_neg k1] at e
      generalize (l - 4) / r = kk at *
      generalize (l - 4) % r = mm at *
      have i6 : IntKind.i64.wrap kk = kk := by rw [IntKind.wrap_i64]; omega
      have i7 : IntKind.i64.wrap mm = mm := by rw [IntKind.wrap_i64]; omega
      have i8 : IntKind.i64.wrap (5 + kk) = 5 + kk := by rw [IntKind.wrap_i64]; omega
      have i9 : IntKind.i64.wrap (l - 4) = l - 4 := by rw [IntKind.wrap_i64]; omega
      have c1 : w6.cell? ⟨w.heap.size, 1, none⟩ = some (.int .i64 r) := cell_of_block HC6.out 1
      have vt : w6.cell? ⟨0, 8, none⟩ = some (.int .i64 3) := HT6.out.ah 8 (by decide)
      by_cases k2 : kk < 3
      · rw [if_pos k2] at e
        have He := Lib.hid e
        clear e HP hk3
        go_upto_region 13 with fail
        have hne7 := HNE.out.2
        go_region_held3 (fun wx => wx.cell? ⟨w.heap.size, 1, none⟩ = some (.int .i64 r)) (go_keep) (fail)
        clear x2 x3 x4 gx2 gx3 gx4
        have HX7 : Hid ((w6.setCell ⟨g, 2, none⟩ (.int .i64 (5 + kk))).heap[g]? = some (.cells #[.int .i64 fr, .int .i64 (tq + 1), .int .i64 (5 + kk), .int .i64 0, .int .i64 0] 41)) := Lib.hid (heap_setCell_same HX6.out (i := 2) (.int .i64 (5 + kk)))
        have HS7 := Lib.hid ((heap_other (w := w6) (i := 2) (.int .i64 (5 + kk)) (Ne.symm HNE.out.1)).trans HS6.out)
        have HU7 := Lib.hid (Up.setCell (p := ⟨g, 2, none⟩) HU6.out hgt5 (.int .i64 (5 + kk)))
        have HX8 : Hid (((w6.setCell ⟨g, 2, none⟩ (.int .i64 (5 + kk))).setCell ⟨g, 3, none⟩ (.int .i64 mm)).heap[g]? = some (.cells #[.int .i64 fr, .int .i64 (tq + 1), .int .i64 (5 + kk), .int .i64 mm, .int .i64 0] 41)) := Lib.hid (heap_setCell_same HX7.out (i := 3) (.int .i64 mm))
        have HS8 := Lib.hid ((heap_other (w := (w6.setCell ⟨g, 2, none⟩ (.int .i64 (5 + kk)))) (i := 3) (.int .i64 mm) (Ne.symm HNE.out.1)).trans HS7.out)
        have HU8 := Lib.hid (Up.setCell (p := ⟨g, 3, none⟩) HU7.out hgt5 (.int .i64 mm))
        have HX9 : Hid (((w6.setCell ⟨g, 2, none⟩ (.int .i64 (5 + kk))).setCell ⟨g, 3, none⟩ (.int .i64 mm)).drew.heap[g]? = some (.cells #[.int .i64 fr, .int .i64 (tq + 1), .int .i64 (5 + kk), .int .i64 mm, .int .i64 0] 41)) := HX8
        have HS9 : Hid (((w6.setCell ⟨g, 2, none⟩ (.int .i64 (5 + kk))).setCell ⟨g, 3, none⟩ (.int .i64 mm)).drew.heap[w.heap.size + 1]? = some (.cells #[.int .i64 0, .int .i64 0, .int .i64 0, .int .i64 0, .int .i64 0] 41)) := HS8
        have HU9 : Hid (Up w ((w6.setCell ⟨g, 2, none⟩ (.int .i64 (5 + kk))).setCell ⟨g, 3, none⟩ (.int .i64 mm)).drew) := Lib.hid (Up.drew HU8.out)
        generalize ((w6.setCell ⟨g, 2, none⟩ (.int .i64 (5 + kk))).setCell ⟨g, 3, none⟩ (.int .i64 mm)).drew = w9 at *
        have x0 : w9.cell? ⟨g, 0, none⟩ = some (.int .i64 fr) := cell_of_block HX9.out 0
        have x1 : w9.cell? ⟨g, 1, none⟩ = some (.int .i64 (tq + 1)) := cell_of_block HX9.out 1
        have x2 : w9.cell? ⟨g, 2, none⟩ = some (.int .i64 (5 + kk)) := cell_of_block HX9.out 2
        have x3 : w9.cell? ⟨g, 3, none⟩ = some (.int .i64 mm) := cell_of_block HX9.out 3
        have x4 : w9.cell? ⟨g, 4, none⟩ = some (.int .i64 0) := cell_of_block HX9.out 4
        have s0 : w9.cell? ⟨w.heap.size + 1, 0, none⟩ = some (.int .i64 0) := cell_of_block HS9.out 0
        have s1 : w9.cell? ⟨w.heap.size + 1, 1, none⟩ = some (.int .i64 0) := cell_of_block HS9.out 1
        have s2 : w9.cell? ⟨w.heap.size + 1, 2, none⟩ = some (.int .i64 0) := cell_of_block HS9.out 2
        have s3 : w9.cell? ⟨w.heap.size + 1, 3, none⟩ = some (.int .i64 0) := cell_of_block HS9.out 3
        have s4 : w9.cell? ⟨w.heap.size + 1, 4, none⟩ = some (.int .i64 0) := cell_of_block HS9.out 4
        have gs0 : w9.frozen? ⟨w.heap.size + 1, 0, none⟩ = false := free_of_block HS9.out 0
        have gs1 : w9.frozen? ⟨w.heap.size + 1, 1, none⟩ = false := free_of_block HS9.out 1
        have gs2 : w9.frozen? ⟨w.heap.size + 1, 2, none⟩ = false := free_of_block HS9.out 2
        have gs3 : w9.frozen? ⟨w.heap.size + 1, 3, none⟩ = false := free_of_block HS9.out 3
        have gs4 : w9.frozen? ⟨w.heap.size + 1, 4, none⟩ = false := free_of_block HS9.out 4
        (try clear i1); (try clear i2); (try clear i3); (try clear i4); (try clear i5); (try clear i6); (try clear i7); (try clear i8); (try clear i9); (try clear e1); (try clear e2); (try clear e3); (try clear e4); (try clear e5); (try clear e6); (try clear ew1); (try clear ew3); (try clear ew4); (try clear z0); (try clear z0'); (try clear z1); (try clear z1'); (try clear zr); (try clear zr'); (try clear n0); (try clear n1); (try clear l0); (try clear f0); (try clear f1); (try clear t0); (try clear t1); (try clear h0'); (try clear h1'); (try clear hsr); (try clear b1); (try clear b2); (try clear b4); (try clear h2); (try clear q0); (try clear q1); (try clear p0); (try clear p1); (try clear c1); (try clear vt); (try clear y0); (try clear h3r); (try clear hgt5); (try clear hb1); (try clear hg0); (try clear hg1); (try clear hne7); (try clear h); (try clear hr); (try clear HP); (try clear HZ); (try clear HNL); (try clear HAB)
        go_wp2
        have HW1 := Lib.hid (set5 HS9.out (.int .i64 fr) (.int .i64 (tq + 1)) (.int .i64 (5 + kk)) (.int .i64 mm) (.int .i64 0))
        have HW2 := Lib.hid (up5 HU9.out (.int .i64 fr) (.int .i64 (tq + 1)) (.int .i64 (5 + kk)) (.int .i64 mm) (.int .i64 0))
        generalize (((((w9.setCell ⟨w.heap.size + 1, 0, none⟩ (.int .i64 fr)).setCell ⟨w.heap.size + 1, 1, none⟩ (.int .i64 (tq + 1))).setCell ⟨w.heap.size + 1, 2, none⟩ (.int .i64 (5 + kk))).setCell ⟨w.heap.size + 1, 3, none⟩ (.int .i64 mm)).setCell ⟨w.heap.size + 1, 4, none⟩ (.int .i64 0)) = wf at *
        have r0 : wf.cell? ⟨w.heap.size + 1, 0, none⟩ = some (.int .i64 fr) := cell_of_block HW1.out 0
        have r1 : wf.cell? ⟨w.heap.size + 1, 1, none⟩ = some (.int .i64 (tq + 1)) := cell_of_block HW1.out 1
        have r2 : wf.cell? ⟨w.heap.size + 1, 2, none⟩ = some (.int .i64 (5 + kk)) := cell_of_block HW1.out 2
        have r3 : wf.cell? ⟨w.heap.size + 1, 3, none⟩ = some (.int .i64 mm) := cell_of_block HW1.out 3
        have r4 : wf.cell? ⟨w.heap.size + 1, 4, none⟩ = some (.int .i64 0) := cell_of_block HW1.out 4
        exact bodyPost_ret (v := .tuple #[.agg #[.int .i64 fr, .int .i64 (tq + 1), .int .i64 (5 + kk), .int .i64 mm, .int .i64 0], .bool true]) (by simp [results, Tryd.results19, go_sem, r0, r1, r2, r3, r4]) rfl ⟨by first | rw [HB.out, He.out] | rw [He.out], HW2.out⟩
      · have k2' : decide (kk < 3) = false := decide_eq_false k2
        have h3r := hk3 k2
        rw [if_neg k2] at e
        have He := Lib.hid e
        clear e HP hk3
        have y0 : 0 ≤ (l - 4 - 3 * r) / 8 := by omega
        have ew3 : wrap64 (3 * r) = 3 * r := by unfold wrap64; omega
        have ew4 : wrap64 (l - 4 - 3 * r) = l - 4 - 3 * r := by unfold wrap64; omega
        go_upto_region 17 with fail
        clear x2 x3 x4 gx2 gx3 gx4
        have HX7 : Hid ((w6.setCell ⟨g, 2, none⟩ (.int .i64 8)).heap[g]? = some (.cells #[.int .i64 fr, .int .i64 (tq + 1), .int .i64 8, .int .i64 0, .int .i64 0] 41)) := Lib.hid (heap_setCell_same HX6.out (i := 2) (.int .i64 8))
        have HS7 := Lib.hid ((heap_other (w := w6) (i := 2) (.int .i64 8) (Ne.symm HNE.out.1)).trans HS6.out)
        have HU7 := Lib.hid (Up.setCell (p := ⟨g, 2, none⟩) HU6.out hgt5 (.int .i64 8))
        have HX8 : Hid (((w6.setCell ⟨g, 2, none⟩ (.int .i64 8)).setCell ⟨g, 3, none⟩ (.int .i64 ((l - 4 - 3 * r) / 8))).heap[g]? = some (.cells #[.int .i64 fr, .int .i64 (tq + 1), .int .i64 8, .int .i64 ((l - 4 - 3 * r) / 8), .int .i64 0] 41)) := Lib.hid (heap_setCell_same HX7.out (i := 3) (.int .i64 ((l - 4 - 3 * r) / 8)))
        have HS8 := Lib.hid ((heap_other (w := (w6.setCell ⟨g, 2, none⟩ (.int .i64 8))) (i := 3) (.int .i64 ((l - 4 - 3 * r) / 8)) (Ne.symm HNE.out.1)).trans HS7.out)
        have HU8 := Lib.hid (Up.setCell (p := ⟨g, 3, none⟩) HU7.out hgt5 (.int .i64 ((l - 4 - 3 * r) / 8)))
        have HX9 : Hid ((((w6.setCell ⟨g, 2, none⟩ (.int .i64 8)).setCell ⟨g, 3, none⟩ (.int .i64 ((l - 4 - 3 * r) / 8))).setCell ⟨g, 4, none⟩ (.int .i64 ((l - 4 - 3 * r) % 8))).heap[g]? = some (.cells #[.int .i64 fr, .int .i64 (tq + 1), .int .i64 8, .int .i64 ((l - 4 - 3 * r) / 8), .int .i64 ((l - 4 - 3 * r) % 8)] 41)) := Lib.hid (heap_setCell_same HX8.out (i := 4) (.int .i64 ((l - 4 - 3 * r) % 8)))
        have HS9 := Lib.hid ((heap_other (w := ((w6.setCell ⟨g, 2, none⟩ (.int .i64 8)).setCell ⟨g, 3, none⟩ (.int .i64 ((l - 4 - 3 * r) / 8)))) (i := 4) (.int .i64 ((l - 4 - 3 * r) % 8)) (Ne.symm HNE.out.1)).trans HS8.out)
        have HU9 := Lib.hid (Up.setCell (p := ⟨g, 4, none⟩) HU8.out hgt5 (.int .i64 ((l - 4 - 3 * r) % 8)))
        generalize (((w6.setCell ⟨g, 2, none⟩ (.int .i64 8)).setCell ⟨g, 3, none⟩ (.int .i64 ((l - 4 - 3 * r) / 8))).setCell ⟨g, 4, none⟩ (.int .i64 ((l - 4 - 3 * r) % 8))) = w9 at *
        have x0 : w9.cell? ⟨g, 0, none⟩ = some (.int .i64 fr) := cell_of_block HX9.out 0
        have x1 : w9.cell? ⟨g, 1, none⟩ = some (.int .i64 (tq + 1)) := cell_of_block HX9.out 1
        have x2 : w9.cell? ⟨g, 2, none⟩ = some (.int .i64 8) := cell_of_block HX9.out 2
        have x3 : w9.cell? ⟨g, 3, none⟩ = some (.int .i64 ((l - 4 - 3 * r) / 8)) := cell_of_block HX9.out 3
        have x4 : w9.cell? ⟨g, 4, none⟩ = some (.int .i64 ((l - 4 - 3 * r) % 8)) := cell_of_block HX9.out 4
        have s0 : w9.cell? ⟨w.heap.size + 1, 0, none⟩ = some (.int .i64 0) := cell_of_block HS9.out 0
        have s1 : w9.cell? ⟨w.heap.size + 1, 1, none⟩ = some (.int .i64 0) := cell_of_block HS9.out 1
        have s2 : w9.cell? ⟨w.heap.size + 1, 2, none⟩ = some (.int .i64 0) := cell_of_block HS9.out 2
        have s3 : w9.cell? ⟨w.heap.size + 1, 3, none⟩ = some (.int .i64 0) := cell_of_block HS9.out 3
        have s4 : w9.cell? ⟨w.heap.size + 1, 4, none⟩ = some (.int .i64 0) := cell_of_block HS9.out 4
        have gs0 : w9.frozen? ⟨w.heap.size + 1, 0, none⟩ = false := free_of_block HS9.out 0
        have gs1 : w9.frozen? ⟨w.heap.size + 1, 1, none⟩ = false := free_of_block HS9.out 1
        have gs2 : w9.frozen? ⟨w.heap.size + 1, 2, none⟩ = false := free_of_block HS9.out 2
        have gs3 : w9.frozen? ⟨w.heap.size + 1, 3, none⟩ = false := free_of_block HS9.out 3
        have gs4 : w9.frozen? ⟨w.heap.size + 1, 4, none⟩ = false := free_of_block HS9.out 4
        (try clear i1); (try clear i2); (try clear i3); (try clear i4); (try clear i5); (try clear i6); (try clear i7); (try clear i8); (try clear i9); (try clear e1); (try clear e2); (try clear e3); (try clear e4); (try clear e5); (try clear e6); (try clear ew1); (try clear ew3); (try clear ew4); (try clear z0); (try clear z0'); (try clear z1); (try clear z1'); (try clear zr); (try clear zr'); (try clear n0); (try clear n1); (try clear l0); (try clear f0); (try clear f1); (try clear t0); (try clear t1); (try clear h0'); (try clear h1'); (try clear hsr); (try clear b1); (try clear b2); (try clear b4); (try clear h2); (try clear q0); (try clear q1); (try clear p0); (try clear p1); (try clear c1); (try clear vt); (try clear y0); (try clear h3r); (try clear hgt5); (try clear hb1); (try clear hg0); (try clear hg1); (try clear hne7); (try clear h); (try clear hr); (try clear HP); (try clear HZ); (try clear HNL); (try clear HAB)
        go_wp2
        have HW1 := Lib.hid (set5 HS9.out (.int .i64 fr) (.int .i64 (tq + 1)) (.int .i64 8) (.int .i64 ((l - 4 - 3 * r) / 8)) (.int .i64 ((l - 4 - 3 * r) % 8)))
        have HW2 := Lib.hid (up5 HU9.out (.int .i64 fr) (.int .i64 (tq + 1)) (.int .i64 8) (.int .i64 ((l - 4 - 3 * r) / 8)) (.int .i64 ((l - 4 - 3 * r) % 8)))
        generalize (((((w9.setCell ⟨w.heap.size + 1, 0, none⟩ (.int .i64 fr)).setCell ⟨w.heap.size + 1, 1, none⟩ (.int .i64 (tq + 1))).setCell ⟨w.heap.size + 1, 2, none⟩ (.int .i64 8)).setCell ⟨w.heap.size + 1, 3, none⟩ (.int .i64 ((l - 4 - 3 * r) / 8))).setCell ⟨w.heap.size + 1, 4, none⟩ (.int .i64 ((l - 4 - 3 * r) % 8))) = wf at *
        have r0 : wf.cell? ⟨w.heap.size + 1, 0, none⟩ = some (.int .i64 fr) := cell_of_block HW1.out 0
        have r1 : wf.cell? ⟨w.heap.size + 1, 1, none⟩ = some (.int .i64 (tq + 1)) := cell_of_block HW1.out 1
        have r2 : wf.cell? ⟨w.heap.size + 1, 2, none⟩ = some (.int .i64 8) := cell_of_block HW1.out 2
        have r3 : wf.cell? ⟨w.heap.size + 1, 3, none⟩ = some (.int .i64 ((l - 4 - 3 * r) / 8)) := cell_of_block HW1.out 3
        have r4 : wf.cell? ⟨w.heap.size + 1, 4, none⟩ = some (.int .i64 ((l - 4 - 3 * r) % 8)) := cell_of_block HW1.out 4
        exact bodyPost_ret (v := .tuple #[.agg #[.int .i64 fr, .int .i64 (tq + 1), .int .i64 8, .int .i64 ((l - 4 - 3 * r) / 8), .int .i64 ((l - 4 - 3 * r) % 8)], .bool true]) (by simp [results, Tryd.results19, go_sem, r0, r1, r2, r3, r4]) rfl ⟨by first | rw [HB.out, He.out] | rw [He.out], HW2.out⟩
  · have HB := Lib.hid (show (if tq ≥ fr then tq + 1 else tq) = tq from if_neg kA)
    have kA' : decide (fr ≤ tq) = false := decide_eq_false (by omega)
    have x0 : w5.cell? ⟨g, 0, none⟩ = some (.int .i64 fr) := cell_of_block HX5.out 0
    have x1 : w5.cell? ⟨g, 1, none⟩ = some (.int .i64 tq) := cell_of_block HX5.out 1
    have gx0 : w5.frozen? ⟨g, 0, none⟩ = false := free_of_block HX5.out 0
    have gx1 : w5.frozen? ⟨g, 1, none⟩ = false := free_of_block HX5.out 1
    go_upto_region 7 with fail
    clear x0 x1 gx0 gx1
    have HX6 := HX5
    have HS6 := HS5
    have HC6 := HC5
    have HU6 := HU5
    have HT6 := HT5
    generalize w5 = w6 at *
    have gx2 : w6.frozen? ⟨g, 2, none⟩ = false := free_of_block HX6.out 2
    have x2 : w6.cell? ⟨g, 2, none⟩ = some (.int .i64 0) := cell_of_block HX6.out 2
    have gx3 : w6.frozen? ⟨g, 3, none⟩ = false := free_of_block HX6.out 3
    have x3 : w6.cell? ⟨g, 3, none⟩ = some (.int .i64 0) := cell_of_block HX6.out 3
    have gx4 : w6.frozen? ⟨g, 4, none⟩ = false := free_of_block HX6.out 4
    have x4 : w6.cell? ⟨g, 4, none⟩ = some (.int .i64 0) := cell_of_block HX6.out 4
    by_cases k1 : l < 4
    · have He := Lib.hid (show whP r l = (1 + l, 0, 0) by rw [HP.out, if_pos k1])
      clear HP q0 q1
      go_upto_region 9 with fail
      clear x2 x3 x4 gx2 gx3 gx4
      have HX7 : Hid ((w6.setCell ⟨g, 2, none⟩ (.int .i64 (1 + l))).heap[g]? = some (.cells #[.int .i64 fr, .int .i64 tq, .int .i64 (1 + l), .int .i64 0, .int .i64 0] 41)) := Lib.hid (heap_setCell_same HX6.out (i := 2) (.int .i64 (1 + l)))
      have HS7 := Lib.hid ((heap_other (w := w6) (i := 2) (.int .i64 (1 + l)) (Ne.symm HNE.out.1)).trans HS6.out)
      have HC7 := Lib.hid ((heap_other (w := w6) (i := 2) (.int .i64 (1 + l)) (Ne.symm HNE.out.2)).trans HC6.out)
      have HU7 := Lib.hid (Up.setCell (p := ⟨g, 2, none⟩) HU6.out hgt5 (.int .i64 (1 + l)))
      generalize w6.setCell ⟨g, 2, none⟩ (.int .i64 (1 + l)) = w7 at *
      have x0 : w7.cell? ⟨g, 0, none⟩ = some (.int .i64 fr) := cell_of_block HX7.out 0
      have x1 : w7.cell? ⟨g, 1, none⟩ = some (.int .i64 tq) := cell_of_block HX7.out 1
      have x2 : w7.cell? ⟨g, 2, none⟩ = some (.int .i64 (1 + l)) := cell_of_block HX7.out 2
      have x3 : w7.cell? ⟨g, 3, none⟩ = some (.int .i64 0) := cell_of_block HX7.out 3
      have x4 : w7.cell? ⟨g, 4, none⟩ = some (.int .i64 0) := cell_of_block HX7.out 4
      have s0 : w7.cell? ⟨w.heap.size + 1, 0, none⟩ = some (.int .i64 0) := cell_of_block HS7.out 0
      have s1 : w7.cell? ⟨w.heap.size + 1, 1, none⟩ = some (.int .i64 0) := cell_of_block HS7.out 1
      have s2 : w7.cell? ⟨w.heap.size + 1, 2, none⟩ = some (.int .i64 0) := cell_of_block HS7.out 2
      have s3 : w7.cell? ⟨w.heap.size + 1, 3, none⟩ = some (.int .i64 0) := cell_of_block HS7.out 3
      have s4 : w7.cell? ⟨w.heap.size + 1, 4, none⟩ = some (.int .i64 0) := cell_of_block HS7.out 4
      have gs0 : w7.frozen? ⟨w.heap.size + 1, 0, none⟩ = false := free_of_block HS7.out 0
      have gs1 : w7.frozen? ⟨w.heap.size + 1, 1, none⟩ = false := free_of_block HS7.out 1
      have gs2 : w7.frozen? ⟨w.heap.size + 1, 2, none⟩ = false := free_of_block HS7.out 2
      have gs3 : w7.frozen? ⟨w.heap.size + 1, 3, none⟩ = false := free_of_block HS7.out 3
      have gs4 : w7.frozen? ⟨w.heap.size + 1, 4, none⟩ = false := free_of_block HS7.out 4
      (try clear i1); (try clear i2); (try clear i3); (try clear i4); (try clear i5); (try clear i6); (try clear i7); (try clear i8); (try clear i9); (try clear e1); (try clear e2); (try clear e3); (try clear e4); (try clear e5); (try clear e6); (try clear ew1); (try clear ew3); (try clear ew4); (try clear z0); (try clear z0'); (try clear z1); (try clear z1'); (try clear zr); (try clear zr'); (try clear n0); (try clear n1); (try clear l0); (try clear f0); (try clear f1); (try clear t0); (try clear t1); (try clear h0'); (try clear h1'); (try clear hsr); (try clear b1); (try clear b2); (try clear b4); (try clear h2); (try clear q0); (try clear q1); (try clear p0); (try clear p1); (try clear c1); (try clear vt); (try clear y0); (try clear h3r); (try clear hgt5); (try clear hb1); (try clear hg0); (try clear hg1); (try clear hne7); (try clear h); (try clear hr); (try clear HP); (try clear HZ); (try clear HNL); (try clear HAB)
      go_wp2
      have HW1 := Lib.hid (set5 HS7.out (.int .i64 fr) (.int .i64 tq) (.int .i64 (1 + l)) (.int .i64 0) (.int .i64 0))
      have HW2 := Lib.hid (up5 HU7.out (.int .i64 fr) (.int .i64 tq) (.int .i64 (1 + l)) (.int .i64 0) (.int .i64 0))
      generalize (((((w7.setCell ⟨w.heap.size + 1, 0, none⟩ (.int .i64 fr)).setCell ⟨w.heap.size + 1, 1, none⟩ (.int .i64 tq)).setCell ⟨w.heap.size + 1, 2, none⟩ (.int .i64 (1 + l))).setCell ⟨w.heap.size + 1, 3, none⟩ (.int .i64 0)).setCell ⟨w.heap.size + 1, 4, none⟩ (.int .i64 0)) = wf at *
      have r0 : wf.cell? ⟨w.heap.size + 1, 0, none⟩ = some (.int .i64 fr) := cell_of_block HW1.out 0
      have r1 : wf.cell? ⟨w.heap.size + 1, 1, none⟩ = some (.int .i64 tq) := cell_of_block HW1.out 1
      have r2 : wf.cell? ⟨w.heap.size + 1, 2, none⟩ = some (.int .i64 (1 + l)) := cell_of_block HW1.out 2
      have r3 : wf.cell? ⟨w.heap.size + 1, 3, none⟩ = some (.int .i64 0) := cell_of_block HW1.out 3
      have r4 : wf.cell? ⟨w.heap.size + 1, 4, none⟩ = some (.int .i64 0) := cell_of_block HW1.out 4
      exact bodyPost_ret (v := .tuple #[.agg #[.int .i64 fr, .int .i64 tq, .int .i64 (1 + l), .int .i64 0, .int .i64 0], .bool true]) (by simp [results, Tryd.results19, go_sem, r0, r1, r2, r3, r4]) rfl ⟨by first | rw [HB.out, He.out] | rw [He.out], HW2.out⟩
    · have k1' : decide (l < 4) = false := decide_eq_false k1
      have p0 : 0 ≤ (l - 4) / r := Int.ediv_nonneg (by omega) (by omega)
      have p1 : (l - 4) / r ≤ l - 4 := Int.ediv_le_self _ (by omega)
      have e5 : (l - 4).tdiv r = (l - 4) / r := tdiv_is (by omega) (by omega)
      have e6 : (l - 4).tmod r = (l - 4) % r := tmod_is (by omega)
      have zr : (r == 0) = false := beq_eq_false_iff_ne.2 (by omega)
      have zr' : ¬ (r = 0) := by omega
      have hdm := Int.mul_ediv_add_emod (l - 4) r
      have hk3 : ¬ ((l - 4) / r < 3) → 3 * r ≤ l - 4 := by
        intro h3
        have : r * 3 ≤ r * ((l - 4) / r) := Int.mul_le_mul_of_nonneg_left (by omega) (by omega)
        omega
      clear hdm
      have e := HP.out
      rw [if_neg k1] at e
      generalize (l - 4) / r = kk at *
      generalize (l - 4) % r = mm at *
      have i6 : IntKind.i64.wrap kk = kk := by rw [IntKind.wrap_i64]; omega
      have i7 : IntKind.i64.wrap mm = mm := by rw [IntKind.wrap_i64]; omega
      have i8 : IntKind.i64.wrap (5 + kk) = 5 + kk := by rw [IntKind.wrap_i64]; omega
      have i9 : IntKind.i64.wrap (l - 4) = l - 4 := by rw [IntKind.wrap_i64]; omega
      have c1 : w6.cell? ⟨w.heap.size, 1, none⟩ = some (.int .i64 r) := cell_of_block HC6.out 1
      have vt : w6.cell? ⟨0, 8, none⟩ = some (.int .i64 3) := HT6.out.ah 8 (by decide)
      by_cases k2 : kk < 3
      · rw [if_pos k2] at e
        have He := Lib.hid e
        clear e HP hk3
        go_upto_region 13 with fail
        have hne7 := HNE.out.2
        go_region_held3 (fun wx => wx.cell? ⟨w.heap.size, 1, none⟩ = some (.int .i64 r)) (go_keep) (fail)
        clear x2 x3 x4 gx2 gx3 gx4
        have HX7 : Hid ((w6.setCell ⟨g, 2, none⟩ (.int .i64 (5 + kk))).heap[g]? = some (.cells #[.int .i64 fr, .int .i64 tq, .int .i64 (5 + kk), .int .i64 0, .int .i64 0] 41)) := Lib.hid (heap_setCell_same HX6.out (i := 2) (.int .i64 (5 + kk)))
        have HS7 := Lib.hid ((heap_other (w := w6) (i := 2) (.int .i64 (5 + kk)) (Ne.symm HNE.out.1)).trans HS6.out)
        have HU7 := Lib.hid (Up.setCell (p := ⟨g, 2, none⟩) HU6.out hgt5 (.int .i64 (5 + kk)))
        have HX8 : Hid (((w6.setCell ⟨g, 2, none⟩ (.int .i64 (5 + kk))).setCell ⟨g, 3, none⟩ (.int .i64 mm)).heap[g]? = some (.cells #[.int .i64 fr, .int .i64 tq, .int .i64 (5 + kk), .int .i64 mm, .int .i64 0] 41)) := Lib.hid (heap_setCell_same HX7.out (i := 3) (.int .i64 mm))
        have HS8 := Lib.hid ((heap_other (w := (w6.setCell ⟨g, 2, none⟩ (.int .i64 (5 + kk)))) (i := 3) (.int .i64 mm) (Ne.symm HNE.out.1)).trans HS7.out)
        have HU8 := Lib.hid (Up.setCell (p := ⟨g, 3, none⟩) HU7.out hgt5 (.int .i64 mm))
        have HX9 : Hid (((w6.setCell ⟨g, 2, none⟩ (.int .i64 (5 + kk))).setCell ⟨g, 3, none⟩ (.int .i64 mm)).drew.heap[g]? = some (.cells #[.int .i64 fr, .int .i64 tq, .int .i64 (5 + kk), .int .i64 mm, .int .i64 0] 41)) := HX8
        have HS9 : Hid (((w6.setCell ⟨g, 2, none⟩ (.int .i64 (5 + kk))).setCell ⟨g, 3, none⟩ (.int .i64 mm)).drew.heap[w.heap.size + 1]? = some (.cells #[.int .i64 0, .int .i64 0, .int .i64 0, .int .i64 0, .int .i64 0] 41)) := HS8
        have HU9 : Hid (Up w ((w6.setCell ⟨g, 2, none⟩ (.int .i64 (5 + kk))).setCell ⟨g, 3, none⟩ (.int .i64 mm)).drew) := Lib.hid (Up.drew HU8.out)
        generalize ((w6.setCell ⟨g, 2, none⟩ (.int .i64 (5 + kk))).setCell ⟨g, 3, none⟩ (.int .i64 mm)).drew = w9 at *
        have x0 : w9.cell? ⟨g, 0, none⟩ = some (.int .i64 fr) := cell_of_block HX9.out 0
        have x1 : w9.cell? ⟨g, 1, none⟩ = some (.int .i64 tq) := cell_of_block HX9.out 1
        have x2 : w9.cell? ⟨g, 2, none⟩ = some (.int .i64 (5 + kk)) := cell_of_block HX9.out 2
        have x3 : w9.cell? ⟨g, 3, none⟩ = some (.int .i64 mm) := cell_of_block HX9.out 3
        have x4 : w9.cell? ⟨g, 4, none⟩ = some (.int .i64 0) := cell_of_block HX9.out 4
        have s0 : w9.cell? ⟨w.heap.size + 1, 0, none⟩ = some (.int .i64 0) := cell_of_block HS9.out 0
        have s1 : w9.cell? ⟨w.heap.size + 1, 1, none⟩ = some (.int .i64 0) := cell_of_block HS9.out 1
        have s2 : w9.cell? ⟨w.heap.size + 1, 2, none⟩ = some (.int .i64 0) := cell_of_block HS9.out 2
        have s3 : w9.cell? ⟨w.heap.size + 1, 3, none⟩ = some (.int .i64 0) := cell_of_block HS9.out 3
        have s4 : w9.cell? ⟨w.heap.size + 1, 4, none⟩ = some (.int .i64 0) := cell_of_block HS9.out 4
        have gs0 : w9.frozen? ⟨w.heap.size + 1, 0, none⟩ = false := free_of_block HS9.out 0
        have gs1 : w9.frozen? ⟨w.heap.size + 1, 1, none⟩ = false := free_of_block HS9.out 1
        have gs2 : w9.frozen? ⟨w.heap.size + 1, 2, none⟩ = false := free_of_block HS9.out 2
        have gs3 : w9.frozen? ⟨w.heap.size + 1, 3, none⟩ = false := free_of_block HS9.out 3
        have gs4 : w9.frozen? ⟨w.heap.size + 1, 4, none⟩ = false := free_of_block HS9.out 4
        (try clear i1); (try clear i2); (try clear i3); (try clear i4); (try clear i5); (try clear i6); (try clear i7); (try clear i8); (try clear i9); (try clear e1); (try clear e2); (try clear e3); (try clear e4); (try clear e5); (try clear e6); (try clear ew1); (try clear ew3); (try clear ew4); (try clear z0); (try clear z0'); (try clear z1); (try clear z1'); (try clear zr); (try clear zr'); (try clear n0); (try clear n1); (try clear l0); (try clear f0); (try clear f1); (try clear t0); (try clear t1); (try clear h0'); (try clear h1'); (try clear hsr); (try clear b1); (try clear b2); (try clear b4); (try clear h2); (try clear q0); (try clear q1); (try clear p0); (try clear p1); (try clear c1); (try clear vt); (try clear y0); (try clear h3r); (try clear hgt5); (try clear hb1); (try clear hg0); (try clear hg1); (try clear hne7); (try clear h); (try clear hr); (try clear HP); (try clear HZ); (try clear HNL); (try clear HAB)
        go_wp2
        have HW1 := Lib.hid (set5 HS9.out (.int .i64 fr) (.int .i64 tq) (.int .i64 (5 + kk)) (.int .i64 mm) (.int .i64 0))
        have HW2 := Lib.hid (up5 HU9.out (.int .i64 fr) (.int .i64 tq) (.int .i64 (5 + kk)) (.int .i64 mm) (.int .i64 0))
        generalize (((((w9.setCell ⟨w.heap.size + 1, 0, none⟩ (.int .i64 fr)).setCell ⟨w.heap.size + 1, 1, none⟩ (.int .i64 tq)).setCell ⟨w.heap.size + 1, 2, none⟩ (.int .i64 (5 + kk))).setCell ⟨w.heap.size + 1, 3, none⟩ (.int .i64 mm)).setCell ⟨w.heap.size + 1, 4, none⟩ (.int .i64 0)) = wf at *
        have r0 : wf.cell? ⟨w.heap.size + 1, 0, none⟩ = some (.int .i64 fr) := cell_of_block HW1.out 0
        have r1 : wf.cell? ⟨w.heap.size + 1, 1, none⟩ = some (.int .i64 tq) := cell_of_block HW1.out 1
        have r2 : wf.cell? ⟨w.heap.size + 1, 2, none⟩ = some (.int .i64 (5 + kk)) := cell_of_block HW1.out 2
        have r3 : wf.cell? ⟨w.heap.size + 1, 3, none⟩ = some (.int .i64 mm) := cell_of_block HW1.out 3
        have r4 : wf.cell? ⟨w.heap.size + 1, 4, none⟩ = some (.int .i64 0) := cell_of_block HW1.out 4
        exact bodyPost_ret (v := .tuple #[.agg #[.int .i64 fr, .int .i64 tq, .int .i64 (5 + kk), .int .i64 mm, .int .i64 0], .bool true]) (by simp [results, Tryd.results19, go_sem, r0, r1, r2, r3, r4]) rfl ⟨by first | rw [HB.out, He.out] | rw [He.out], HW2.out⟩
      · have k2' : decide (kk < 3) = false := decide_eq_false k2
        have h3r := hk3 k2
        rw [if_neg k2] at e
        have He := Lib.hid e
        clear e HP hk3
        have y0 : 0 ≤ (l - 4 - 3 * r) / 8 := by omega
        have ew3 : wrap64 (3 * r) = 3 * r := by unfold wrap64; omega
        have ew4 : wrap64 (l - 4 - 3 * r) = l - 4 - 3 * r := by unfold wrap64; omega
        go_upto_region 17 with fail
        clear x2 x3 x4 gx2 gx3 gx4
        have HX7 : Hid ((w6.setCell ⟨g, 2, none⟩ (.int .i64 8)).heap[g]? = some (.cells #[.int .i64 fr, .int .i64 tq, .int .i64 8, .int .i64 0, .int .i64 0] 41)) := Lib.hid (heap_setCell_same HX6.out (i := 2) (.int .i64 8))
        have HS7 := Lib.hid ((heap_other (w := w6) (i := 2) (.int .i64 8) (Ne.symm HNE.out.1)).trans HS6.out)
        have HU7 := Lib.hid (Up.setCell (p := ⟨g, 2, none⟩) HU6.out hgt5 (.int .i64 8))
        have HX8 : Hid (((w6.setCell ⟨g, 2, none⟩ (.int .i64 8)).setCell ⟨g, 3, none⟩ (.int .i64 ((l - 4 - 3 * r) / 8))).heap[g]? = some (.cells #[.int .i64 fr, .int .i64 tq, .int .i64 8, .int .i64 ((l - 4 - 3 * r) / 8), .int .i64 0] 41)) := Lib.hid (heap_setCell_same HX7.out (i := 3) (.int .i64 ((l - 4 - 3 * r) / 8)))
        have HS8 := Lib.hid ((heap_other (w := (w6.setCell ⟨g, 2, none⟩ (.int .i64 8))) (i := 3) (.int .i64 ((l - 4 - 3 * r) / 8)) (Ne.symm HNE.out.1)).trans HS7.out)
        have HU8 := Lib.hid (Up.setCell (p := ⟨g, 3, none⟩) HU7.out hgt5 (.int .i64 ((l - 4 - 3 * r) / 8)))
        have HX9 : Hid ((((w6.setCell ⟨g, 2, none⟩ (.int .i64 8)).setCell ⟨g, 3, none⟩ (.int .i64 ((l - 4 - 3 * r) / 8))).setCell ⟨g, 4, none⟩ (.int .i64 ((l - 4 - 3 * r) % 8))).heap[g]? = some (.cells #[.int .i64 fr, .int .i64 tq, .int .i64 8, .int .i64 ((l - 4 - 3 * r) / 8), .int .i64 ((l - 4 - 3 * r) % 8)] 41)) := Lib.hid (heap_setCell_same HX8.out (i := 4) (.int .i64 ((l - 4 - 3 * r) % 8)))
        have HS9 := Lib.hid ((heap_other (w := ((w6.setCell ⟨g, 2, none⟩ (.int .i64 8)).setCell ⟨g, 3, none⟩ (.int .i64 ((l - 4 - 3 * r) / 8)))) (i := 4) (.int .i64 ((l - 4 - 3 * r) % 8)) (Ne.symm HNE.out.1)).trans HS8.out)
        have HU9 := Lib.hid (Up.setCell (p := ⟨g, 4, none⟩) HU8.out hgt5 (.int .i64 ((l - 4 - 3 * r) % 8)))
        generalize (((w6.setCell ⟨g, 2, none⟩ (.int .i64 8)).setCell ⟨g, 3, none⟩ (.int .i64 ((l - 4 - 3 * r) / 8))).setCell ⟨g, 4, none⟩ (.int .i64 ((l - 4 - 3 * r) % 8))) = w9 at *
        have x0 : w9.cell? ⟨g, 0, none⟩ = some (.int .i64 fr) := cell_of_block HX9.out 0
        have x1 : w9.cell? ⟨g, 1, none⟩ = some (.int .i64 tq) := cell_of_block HX9.out 1
        have x2 : w9.cell? ⟨g, 2, none⟩ = some (.int .i64 8) := cell_of_block HX9.out 2
        have x3 : w9.cell? ⟨g, 3, none⟩ = some (.int .i64 ((l - 4 - 3 * r) / 8)) := cell_of_block HX9.out 3
        have x4 : w9.cell? ⟨g, 4, none⟩ = some (.int .i64 ((l - 4 - 3 * r) % 8)) := cell_of_block HX9.out 4
        have s0 : w9.cell? ⟨w.heap.size + 1, 0, none⟩ = some (.int .i64 0) := cell_of_block HS9.out 0
        have s1 : w9.cell? ⟨w.heap.size + 1, 1, none⟩ = some (.int .i64 0) := cell_of_block HS9.out 1
        have s2 : w9.cell? ⟨w.heap.size + 1, 2, none⟩ = some (.int .i64 0) := cell_of_block HS9.out 2
        have s3 : w9.cell? ⟨w.heap.size + 1, 3, none⟩ = some (.int .i64 0) := cell_of_block HS9.out 3
        have s4 : w9.cell? ⟨w.heap.size + 1, 4, none⟩ = some (.int .i64 0) := cell_of_block HS9.out 4
        have gs0 : w9.frozen? ⟨w.heap.size + 1, 0, none⟩ = false := free_of_block HS9.out 0
        have gs1 : w9.frozen? ⟨w.heap.size + 1, 1, none⟩ = false := free_of_block HS9.out 1
        have gs2 : w9.frozen? ⟨w.heap.size + 1, 2, none⟩ = false := free_of_block HS9.out 2
        have gs3 : w9.frozen? ⟨w.heap.size + 1, 3, none⟩ = false := free_of_block HS9.out 3
        have gs4 : w9.frozen? ⟨w.heap.size + 1, 4, none⟩ = false := free_of_block HS9.out 4
        (try clear i1); (try clear i2); (try clear i3); (try clear i4); (try clear i5); (try clear i6); (try clear i7); (try clear i8); (try clear i9); (try clear e1); (try clear e2); (try clear e3); (try clear e4); (try clear e5); (try clear e6); (try clear ew1); (try clear ew3); (try clear ew4); (try clear z0); (try clear z0'); (try clear z1); (try clear z1'); (try clear zr); (try clear zr'); (try clear n0); (try clear n1); (try clear l0); (try clear f0); (try clear f1); (try clear t0); (try clear t1); (try clear h0'); (try clear h1'); (try clear hsr); (try clear b1); (try clear b2); (try clear b4); (try clear h2); (try clear q0); (try clear q1); (try clear p0); (try clear p1); (try clear c1); (try clear vt); (try clear y0); (try clear h3r); (try clear hgt5); (try clear hb1); (try clear hg0); (try clear hg1); (try clear hne7); (try clear h); (try clear hr); (try clear HP); (try clear HZ); (try clear HNL); (try clear HAB)
        go_wp2
        have HW1 := Lib.hid (set5 HS9.out (.int .i64 fr) (.int .i64 tq) (.int .i64 8) (.int .i64 ((l - 4 - 3 * r) / 8)) (.int .i64 ((l - 4 - 3 * r) % 8)))
        have HW2 := Lib.hid (up5 HU9.out (.int .i64 fr) (.int .i64 tq) (.int .i64 8) (.int .i64 ((l - 4 - 3 * r) / 8)) (.int .i64 ((l - 4 - 3 * r) % 8)))
        generalize (((((w9.setCell ⟨w.heap.size + 1, 0, none⟩ (.int .i64 fr)).setCell ⟨w.heap.size + 1, 1, none⟩ (.int .i64 tq)).setCell ⟨w.heap.size + 1, 2, none⟩ (.int .i64 8)).setCell ⟨w.heap.size + 1, 3, none⟩ (.int .i64 ((l - 4 - 3 * r) / 8))).setCell ⟨w.heap.size + 1, 4, none⟩ (.int .i64 ((l - 4 - 3 * r) % 8))) = wf at *
        have r0 : wf.cell? ⟨w.heap.size + 1, 0, none⟩ = some (.int .i64 fr) := cell_of_block HW1.out 0
        have r1 : wf.cell? ⟨w.heap.size + 1, 1, none⟩ = some (.int .i64 tq) := cell_of_block HW1.out 1
        have r2 : wf.cell? ⟨w.heap.size + 1, 2, none⟩ = some (.int .i64 8) := cell_of_block HW1.out 2
        have r3 : wf.cell? ⟨w.heap.size + 1, 3, none⟩ = some (.int .i64 ((l - 4 - 3 * r) / 8)) := cell_of_block HW1.out 3
        have r4 : wf.cell? ⟨w.heap.size + 1, 4, none⟩ = some (.int .i64 ((l - 4 - 3 * r) % 8)) := cell_of_block HW1.out 4
        exact bodyPost_ret (v := .tuple #[.agg #[.int .i64 fr, .int .i64 tq, .int .i64 8, .int .i64 ((l - 4 - 3 * r) / 8), .int .i64 ((l - 4 - 3 * r) % 8)], .bool true]) (by simp [results, Tryd.results19, go_sem, r0, r1, r2, r3, r4]) rfl ⟨by first | rw [HB.out, He.out] | rw [He.out], HW2.out⟩
end Go.Proofs.YtmfpahdbjcpmkaaDoor.Plot
