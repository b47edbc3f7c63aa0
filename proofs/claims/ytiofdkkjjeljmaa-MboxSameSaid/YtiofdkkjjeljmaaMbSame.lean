/- MboxSame, walked. -/
import Derived.Test.YtiofdkkjjeljmaaRef09m
import Derived.Test.YtiofdkkjjeljmaaMbClone
import Derived.Test.YtiofdkkjjeljmaaMbPlays0
namespace Go.Proofs.Ytiofdkkjjeljmaa.Ref09
set_option linter.unusedVariables false
set_option linter.unusedSimpArgs false
open Go.RowKit Go.Proofs.Ytiofdkkjjeljmaa.Sep Go.Proofs.Ytiofdkkjjeljmaa.Mb Go.Proofs.Ytiofdkkjjeljmaa.Open

theorem eqB_comm (S T : List MC) : eqB S T = eqB T S := by
  by_cases h : S = T
  · rw [eqB_yes h, eqB_yes h.symm]
  · rw [eqB_no h, eqB_no fun e => h e.symm]
section
variable {P0 : Nat → Prop} {w0 w w' : World} {F : List Rg} {V U : Value} {S T : List MC}
theorem Same_rb (h : St P0 w0 w (rb V S :: rb U T :: F)) (h8 : S.length ≤ 8) (hS : ∀ C ∈ S, C.q.length ≤ 16) (hT : ∀ C ∈ T, C.q.length ≤ 16) : Calls Try.prog 51 #[V, U] w fun e w' => e = .returned (.bool (eqB S T)) ∧ St P0 w0 w' (rb V S :: rb U T :: F) := by
  obtain ⟨A, c, rfl, ha⟩ := rb_row h
  obtain ⟨B, d, rfl, hb⟩ := rb_row (h.get 1)
  refine (Same_r A B c d h8 hS hT ha hb).mono ?_
  rintro e w' ⟨rfl, hu⟩
  exact ⟨rfl, h.more hu⟩
theorem Same_both (h : St P0 w0 w (both (rb V S) (rb U T) :: F)) (h8 : S.length ≤ 8) (hS : ∀ C ∈ S, C.q.length ≤ 16) (hT : ∀ C ∈ T, C.q.length ≤ 16) : Calls Try.prog 51 #[V, U] w fun e w' => e = .returned (.bool (eqB S T)) ∧ St P0 w0 w' (both (rb V S) (rb U T) :: F) := by
  obtain ⟨A, c, rfl, ha⟩ := rb_row h.left
  obtain ⟨B, d, rfl, hb⟩ := rb_row h.right
  refine (Same_r A B c d h8 hS hT ha hb).mono ?_
  rintro e w' ⟨rfl, hu⟩
  exact ⟨rfl, h.more hu⟩
end
set_option maxHeartbeats 16000000 in
set_option maxRecDepth 100000 in
theorem same_walk (n0 n1 : Nat) (h1 : 1 ≤ n0) (h2 : n0 ≤ 8) (h3 : 1 ≤ n1) (h4 : n1 ≤ 8) (A0 A1 : Option Addr) (c0 c1 : Nat) (rows0 rows1 : List (List Int)) (mk ma mt mz : Int) (hmz : -9223372036854775808 ≤ mz ∧ mz ≤ 9223372036854775807) (w : World) (hr0 : Recs 4 w A0 rows0) (hr1 : Recs 4 w A1 rows1) (hw0 : ∀ q ∈ rows0, q.length = 4 ∧ ∀ z ∈ q, (Lit.int .i64 z).wf = true) (hw1 : ∀ q ∈ rows1, q.length = 4 ∧ ∀ z ∈ q, (Lit.int .i64 z).wf = true) (hl0 : rows0.length ≤ 60) (hl1 : rows1.length ≤ 60) :
    Calls Try.prog 12 #[.agg #[.int .i64 n0, .int .i64 n1], .agg #[.slice A0 rows0.length c0, .slice A1 rows1.length c1], .agg #[.int .i64 mk, .int .i64 ma, .int .i64 mt, .int .i64 mz]] w fun e w' => e = .returned (.bool true) ∧ Up w w' := by
  have HR0 := Lib.hid hr0
  have HR1 := Lib.hid hr1
  have HW0 := Lib.hid hw0
  have HW1 := Lib.hid hw1
  have HMZ := Lib.hid hmz
  clear hr0 hr1 hw0 hw1 hmz
  have g1 : decide ((rows0.length : Int) > 60) = false := decide_eq_false (by omega)
  have g2 : decide ((rows1.length : Int) > 60) = false := decide_eq_false (by omega)
  have HI0 := Lib.hid (Is_walk n0)
  rw [decide_eq_true (show 1 ≤ (n0 : Int) ∧ (n0 : Int) ≤ 8 by omega)] at HI0
  have HI1 := Lib.hid (Is_walk n1)
  rw [decide_eq_true (show 1 ≤ (n1 : Int) ∧ (n1 : Int) ≤ 8 by omega)] at HI1
  have hb := (((St.nil w).alloc #[.int .i64 n0, .int .i64 n1] 103).alloc #[.slice A0 rows0.length c0, .slice A1 rows1.length c1] 104).alloc #[.int .i64 mk, .int .i64 ma, .int .i64 mt, .int .i64 mz] 62
  simp only [World.size_alloc] at hb
  have y3 : St No w _ (bk w.heap.size 103 #[.int .i64 n0, .int .i64 n1] :: _) := hb.get 2
  have x0 := cell_of_block y3.bk_at 0
  have x1 := cell_of_block y3.bk_at 1
  have HB := Lib.hid hb
  clear hb y3
  go_enter Try.func12, Try.ntmps12
  go_upto_region 1 with fail
  have hb := HB.out
  change St No w (((w.alloc (.cells #[.int .i64 n0, .int .i64 n1] 103)).alloc (.cells #[.slice A0 rows0.length c0, .slice A1 rows1.length c1] 104)).alloc (.cells #[.int .i64 mk, .int .i64 ma, .int .i64 mt, .int .i64 mz] 62)) [bk (w.heap.size + 1 + 1) 62 #[.int .i64 mk, .int .i64 ma, .int .i64 mt, .int .i64 mz], bk (w.heap.size + 1) 104 #[.slice A0 rows0.length c0, .slice A1 rows1.length c1], bk w.heap.size 103 #[.int .i64 n0, .int .i64 n1]] at hb
  have x0 : (((w.alloc (.cells #[.int .i64 n0, .int .i64 n1] 103)).alloc (.cells #[.slice A0 rows0.length c0, .slice A1 rows1.length c1] 104)).alloc (.cells #[.int .i64 mk, .int .i64 ma, .int .i64 mt, .int .i64 mz] 62)).cell? ⟨w.heap.size, 0, none⟩ = some (.int .i64 n0) := x0
  have x1 : (((w.alloc (.cells #[.int .i64 n0, .int .i64 n1] 103)).alloc (.cells #[.slice A0 rows0.length c0, .slice A1 rows1.length c1] 104)).alloc (.cells #[.int .i64 mk, .int .i64 ma, .int .i64 mt, .int .i64 mz] 62)).cell? ⟨w.heap.size, 1, none⟩ = some (.int .i64 n1) := x1
  clear HB
  generalize ((w.alloc (.cells #[.int .i64 n0, .int .i64 n1] 103)).alloc (.cells #[.slice A0 rows0.length c0, .slice A1 rows1.length c1] 104)).alloc (.cells #[.int .i64 mk, .int .i64 ma, .int .i64 mt, .int .i64 mz] 62) = wb at *
  have HB := Lib.hid hb
  clear hb
  go_region_held3 (fun wx => wx.cell? ⟨w.heap.size, 0, none⟩ = some (.int .i64 n0) ∧ wx.cell? ⟨w.heap.size, 1, none⟩ = some (.int .i64 n1) ∧ Hid (St No w wx [bk (w.heap.size + 1 + 1) 62 #[.int .i64 mk, .int .i64 ma, .int .i64 mt, .int .i64 mz], bk (w.heap.size + 1) 104 #[.slice A0 rows0.length c0, .slice A1 rows1.length c1], bk w.heap.size 103 #[.int .i64 n0, .int .i64 n1]]))
    (first | exact ⟨x0, x1, Lib.hid HB.out.drew⟩ | (go_split_ands; exact ⟨cell_of_block (St.bk_at (hs5.get 4)) 0, cell_of_block (St.bk_at (hs5.get 4)) 1, Lib.hid hs5.drop.drop⟩) | (go_split_ands; exact ⟨cell_of_block (St.bk_at (hs4.get 3)) 0, cell_of_block (St.bk_at (hs4.get 3)) 1, Lib.hid hs4.drop⟩))
    (first
      | (go_at_call 29; go_split_ands; have hst := Hid.out (‹Hid (St No w _ _)›); (with_reducible refine (New_st hst n0 h1 h2).mono ?_); rintro e w4 ⟨a, rfl, hs4⟩)
      | (go_at_call 29; (with_reducible refine (New_st hs4 n1 h3 h4).mono ?_); rintro e w5 ⟨b, rfl, hs5⟩))
  go_split_ands
  have HS5 := Lib.hid hs5
  have p0 : w5.cell? ⟨w.heap.size, 0, none⟩ = some (.int .i64 n0) := cell_of_block (St.bk_at (hs5.get 4)) 0
  have p1 : w5.cell? ⟨w.heap.size, 1, none⟩ = some (.int .i64 n1) := cell_of_block (St.bk_at (hs5.get 4)) 1
  have q0 : w5.cell? ⟨w.heap.size + 1, 0, none⟩ = some (.slice A0 rows0.length c0) := cell_of_block (St.bk_at (hs5.get 3)) 0
  have q1 : w5.cell? ⟨w.heap.size + 1, 1, none⟩ = some (.slice A1 rows1.length c1) := cell_of_block (St.bk_at (hs5.get 3)) 1
  clear hs4 hs5 HB x0 x1
  go_wp2_with (first
    | (go_at_call 30; (with_reducible refine (HI0.out _).mono ?_); rintro e w9 ⟨rfl, hw⟩; have hw := hw.symm; subst hw)
    | (go_at_call 30; (with_reducible refine (HI1.out _).mono ?_); rintro e w9 ⟨rfl, hw⟩; have hw := hw.symm; subst hw))
  have hmk0 := run_mkBox n0 h2
  have hmk1 := run_mkBox n1 h4
  have l3 := World.block_lt_of_cell? w5 _ p0
  have e3 := World.new_ne w5 _ p0
  go_region
  · have h9 := (rb_zer n1 h4 (rb_zer n0 h2 HS5.out)).drew
    rw [World.size_alloc] at h9
    have h10 : St No w ((w5.alloc (.cells (zer n0).toArray 72)).alloc (.cells (zer n1).toArray 72)).drew [rb (.slice (some ⟨w5.heap.size + 1, 0, none⟩) n1 n1) (List.replicate n1 (⟨0, [], by omega⟩ : MC)), rb (.slice (some ⟨w5.heap.size, 0, none⟩) n0 n0) (List.replicate n0 (⟨0, [], by omega⟩ : MC)), mb b (List.replicate n1 (⟨0, [], by omega⟩ : MC)), mb a (List.replicate n0 (⟨0, [], by omega⟩ : MC)), bk (w.heap.size + 1 + 1) 62 #[.int .i64 mk, .int .i64 ma, .int .i64 mt, .int .i64 mz], bk (w.heap.size + 1) 104 #[.slice A0 rows0.length c0, .slice A1 rows1.length c1], bk w.heap.size 103 #[.int .i64 n0, .int .i64 n1]] := h9
    have HL0 : Hid ((List.replicate n0 (⟨0, [], by omega⟩ : MC)).length = n0) := Lib.hid (by simp)
    have HL1 : Hid ((List.replicate n1 (⟨0, [], by omega⟩ : MC)).length = n1) := Lib.hid (by simp)
    clear h9 HS5 hmk0 hmk1 p0 p1 q0 q1 l3 e3
    generalize ((w5.alloc (.cells (zer n0).toArray 72)).alloc (.cells (zer n1).toArray 72)).drew = w6 at *
    generalize (Value.slice (some ⟨w5.heap.size, 0, none⟩) n0 n0) = V0 at *
    generalize (Value.slice (some ⟨w5.heap.size + 1, 0, none⟩) n1 n1) = V1 at *
    generalize (List.replicate n0 (⟨0, [], by omega⟩ : MC)) = S0 at *
    generalize (List.replicate n1 (⟨0, [], by omega⟩ : MC)) = T0 at *
    have HS21 : Hid (St No w w6 [rb V1 T0, rb V0 S0, mb b T0, mb a S0, bk (w.heap.size + 1 + 1) 62 #[.int .i64 mk, .int .i64 ma, .int .i64 mt, .int .i64 mz], bk (w.heap.size + 1) 104 #[.slice A0 rows0.length c0, .slice A1 rows1.length c1], bk w.heap.size 103 #[.int .i64 n0, .int .i64 n1]]) := Lib.hid (h10)
    clear h10
    have HS22 : Hid (St No w w6 [bk (w.heap.size + 1) 104 #[.slice A0 rows0.length c0, .slice A1 rows1.length c1], rb V1 T0, rb V0 S0, mb b T0, mb a S0, bk (w.heap.size + 1 + 1) 62 #[.int .i64 mk, .int .i64 ma, .int .i64 mt, .int .i64 mz], bk w.heap.size 103 #[.int .i64 n0, .int .i64 n1]]) := Lib.hid ((HS21.out).get 5)
    clear HS21
    have q0 : w6.cell? ⟨w.heap.size + 1, 0, none⟩ = some (.slice A0 rows0.length c0) := cell_of_block HS22.out.bk_at 0
    go_wp2_with fail
    go_loopw [65, 9] (fun v65 v9 wx => ∃ (i : Nat) (Sx : List MC), i ≤ rows0.length ∧ v65 = .int .i64 i ∧ Hid (Sx.length = n0) ∧ Hid (St No w wx [bk (w.heap.size + 1) 104 #[.slice A0 rows0.length c0, .slice A1 rows1.length c1], rb V1 T0, rb v9 Sx, mb b T0, mb a Sx, bk (w.heap.size + 1 + 1) 62 #[.int .i64 mk, .int .i64 ma, .int .i64 mt, .int .i64 mz], bk w.heap.size 103 #[.int .i64 n0, .int .i64 n1]])) (fun v65 _ _ => rows0.length - (intOf v65).toNat)
    case atStart => exact ⟨0, S0, Nat.zero_le _, rfl, HL0, HS22⟩
    case round =>
      clear HS22 HL0
      obtain ⟨i, S, hi, rfl, HL0, HS⟩ := hrel
      by_cases hlt : i < rows0.length
      · obtain ⟨ad, rfl, k, aa, t, z, k0, k1, k2, k3, hz⟩ : ∃ ad, A0 = some ad ∧ ∃ k a t z, w.cell? (ad.add (i * 4)) = some (.int .i64 k) ∧ w.cell? ⟨(ad.add (i * 4)).block, (ad.add (i * 4)).off + 1, none⟩ = some (.int .i64 a) ∧ w.cell? ⟨(ad.add (i * 4)).block, (ad.add (i * 4)).off + 2, none⟩ = some (.int .i64 t) ∧ w.cell? ⟨(ad.add (i * 4)).block, (ad.add (i * 4)).off + 3, none⟩ = some (.int .i64 z) ∧ (-9223372036854775808 ≤ z ∧ z ≤ 9223372036854775807) := by
          obtain ⟨ad, k, a, t, z, e, h⟩ := row4_wf HR0.out HW0.out i hlt
          exact ⟨ad, e, k, a, t, z, h⟩
        have hu := HS.out.up
        have e0 := cell_up hu k0
        have e1 := cell_up hu k1
        have e2 := cell_up hu k2
        have e3 := cell_up hu k3
        have HZ := Lib.hid hz
        clear k0 k1 k2 k3 hu hz
        have H8 := Lib.hid (mb_le ((HS.out).get 4)).2
        have H16 := Lib.hid (mb_q16 ((HS.out).get 4))
        obtain ⟨S', p, q, e0', hd⟩ : ∃ S' p q e0', doM S k aa t z = (S', (p, q), e0') := ⟨_, _, _, _, rfl⟩
        have HD := Lib.hid hd
        have HL2 : Hid (S'.length = n0) := Lib.hid (by have := doM_len S k aa t z; rw [hd] at this; exact this.trans HL0.out)
        clear hd
        have HS53 : Hid (St No w (wr.alloc (.cells #[.int .i64 k, .int .i64 aa, .int .i64 t, .int .i64 z] 62)) [bk wr.heap.size 62 #[.int .i64 k, .int .i64 aa, .int .i64 t, .int .i64 z], bk (w.heap.size + 1) 104 #[.slice (some ad) rows0.length c0, .slice A1 rows1.length c1], rb V1 T0, rb u9 S, mb b T0, mb a S, bk (w.heap.size + 1 + 1) 62 #[.int .i64 mk, .int .i64 ma, .int .i64 mt, .int .i64 mz], bk w.heap.size 103 #[.int .i64 n0, .int .i64 n1]]) := Lib.hid (HS.out.alloc #[.int .i64 k, .int .i64 aa, .int .i64 t, .int .i64 z] 62)
        clear HS
        have m0 : (wr.alloc (.cells #[.int .i64 k, .int .i64 aa, .int .i64 t, .int .i64 z] 62)).cell? ⟨wr.heap.size, 0, none⟩ = some (.int .i64 k) := cell_of_block HS53.out.bk_at 0
        have m1 : (wr.alloc (.cells #[.int .i64 k, .int .i64 aa, .int .i64 t, .int .i64 z] 62)).cell? ⟨wr.heap.size, 1, none⟩ = some (.int .i64 aa) := cell_of_block HS53.out.bk_at 1
        have m2 : (wr.alloc (.cells #[.int .i64 k, .int .i64 aa, .int .i64 t, .int .i64 z] 62)).cell? ⟨wr.heap.size, 2, none⟩ = some (.int .i64 t) := cell_of_block HS53.out.bk_at 2
        have m3 : (wr.alloc (.cells #[.int .i64 k, .int .i64 aa, .int .i64 t, .int .i64 z] 62)).cell? ⟨wr.heap.size, 3, none⟩ = some (.int .i64 z) := cell_of_block HS53.out.bk_at 3
        have HS54 : Hid (St No w (wr.alloc (.cells #[.int .i64 k, .int .i64 aa, .int .i64 t, .int .i64 z] 62)) [mb a S, bk wr.heap.size 62 #[.int .i64 k, .int .i64 aa, .int .i64 t, .int .i64 z], bk (w.heap.size + 1) 104 #[.slice (some ad) rows0.length c0, .slice A1 rows1.length c1], rb V1 T0, rb u9 S, mb b T0, bk (w.heap.size + 1 + 1) 62 #[.int .i64 mk, .int .i64 ma, .int .i64 mt, .int .i64 mz], bk w.heap.size 103 #[.int .i64 n0, .int .i64 n1]]) := Lib.hid ((HS53.out).get 5)
        clear HS53
        go_wp2_with fail
        refine (do_st HS54.out k aa t z).mono ?_
        rw [HD.out]
        rintro e w55 ⟨rfl, hs⟩
        have HS55 : Hid (St No w w55 [mb a S', bk wr.heap.size 62 #[.int .i64 k, .int .i64 aa, .int .i64 t, .int .i64 z], bk (w.heap.size + 1) 104 #[.slice (some ad) rows0.length c0, .slice A1 rows1.length c1], rb V1 T0, rb u9 S, mb b T0, bk (w.heap.size + 1 + 1) 62 #[.int .i64 mk, .int .i64 ma, .int .i64 mt, .int .i64 mz], bk w.heap.size 103 #[.int .i64 n0, .int .i64 n1]]) := Lib.hid (hs)
        clear hs HS54
        have HS56 : Hid (St No w w55 [bk wr.heap.size 62 #[.int .i64 k, .int .i64 aa, .int .i64 t, .int .i64 z], mb a S', bk (w.heap.size + 1) 104 #[.slice (some ad) rows0.length c0, .slice A1 rows1.length c1], rb V1 T0, rb u9 S, mb b T0, bk (w.heap.size + 1 + 1) 62 #[.int .i64 mk, .int .i64 ma, .int .i64 mt, .int .i64 mz], bk w.heap.size 103 #[.int .i64 n0, .int .i64 n1]]) := Lib.hid ((HS55.out).get 1)
        clear HS55
        have d0 : w55.cell? ⟨wr.heap.size, 0, none⟩ = some (.int .i64 k) := cell_of_block HS56.out.bk_at 0
        have d1 : w55.cell? ⟨wr.heap.size, 1, none⟩ = some (.int .i64 aa) := cell_of_block HS56.out.bk_at 1
        have d2 : w55.cell? ⟨wr.heap.size, 2, none⟩ = some (.int .i64 t) := cell_of_block HS56.out.bk_at 2
        have d3 : w55.cell? ⟨wr.heap.size, 3, none⟩ = some (.int .i64 z) := cell_of_block HS56.out.bk_at 3
        clear m0 m1 m2 m3
        have HS57 : Hid (St No w w55 [rb u9 S, bk wr.heap.size 62 #[.int .i64 k, .int .i64 aa, .int .i64 t, .int .i64 z], mb a S', bk (w.heap.size + 1) 104 #[.slice (some ad) rows0.length c0, .slice A1 rows1.length c1], rb V1 T0, mb b T0, bk (w.heap.size + 1 + 1) 62 #[.int .i64 mk, .int .i64 ma, .int .i64 mt, .int .i64 mz], bk w.heap.size 103 #[.int .i64 n0, .int .i64 n1]]) := Lib.hid ((HS56.out).get 4)
        clear HS56
        go_wp2_with fail
        refine (Do_rb HS57.out H8.out H16.out k aa t z HZ.out).mono ?_
        rw [HD.out]
        rintro e w58 ⟨V', rfl, hs⟩
        have HS58 : Hid (St No w w58 [both (rb u9 S) (rb V' S'), bk wr.heap.size 62 #[.int .i64 k, .int .i64 aa, .int .i64 t, .int .i64 z], mb a S', bk (w.heap.size + 1) 104 #[.slice (some ad) rows0.length c0, .slice A1 rows1.length c1], rb V1 T0, mb b T0, bk (w.heap.size + 1 + 1) 62 #[.int .i64 mk, .int .i64 ma, .int .i64 mt, .int .i64 mz], bk w.heap.size 103 #[.int .i64 n0, .int .i64 n1]]) := Lib.hid (hs)
        clear hs HS57
        have HS59 : Hid (St No w w58 [rb V' S', bk wr.heap.size 62 #[.int .i64 k, .int .i64 aa, .int .i64 t, .int .i64 z], mb a S', bk (w.heap.size + 1) 104 #[.slice (some ad) rows0.length c0, .slice A1 rows1.length c1], rb V1 T0, mb b T0, bk (w.heap.size + 1 + 1) 62 #[.int .i64 mk, .int .i64 ma, .int .i64 mt, .int .i64 mz], bk w.heap.size 103 #[.int .i64 n0, .int .i64 n1]]) := Lib.hid (HS58.out.right)
        clear HS58
        have HS60 : Hid (St No w w58 [rb V' S', mb a S', bk (w.heap.size + 1) 104 #[.slice (some ad) rows0.length c0, .slice A1 rows1.length c1], rb V1 T0, mb b T0, bk (w.heap.size + 1 + 1) 62 #[.int .i64 mk, .int .i64 ma, .int .i64 mt, .int .i64 mz], bk w.heap.size 103 #[.int .i64 n0, .int .i64 n1]]) := Lib.hid (((HS59.out).get 1).drop)
        clear HS59
        have HF : Hid (St No w w58 [bk (w.heap.size + 1) 104 #[.slice (some ad) rows0.length c0, .slice A1 rows1.length c1], rb V1 T0, rb V' S', mb b T0, mb a S', bk (w.heap.size + 1 + 1) 62 #[.int .i64 mk, .int .i64 ma, .int .i64 mt, .int .i64 mz], bk w.heap.size 103 #[.int .i64 n0, .int .i64 n1]]) := Lib.hid ((((((((HS60.out).get 6).get 6).get 3).get 6).get 4).get 6).get 6)
        clear HS60
        go_wp2
        go_roundw
        case rel => exact ⟨i + 1, S', by omega, by go_num, HL2, HF⟩
        case measure => simp [intOf]; omega
      · obtain rfl : i = rows0.length := by omega
        obtain ⟨WA, hW⟩ : ∃ W, wr = W := ⟨_, rfl⟩
        rw [hW] at HS ⊢
        clear hW
        have HQa := HS
        clear HS hi hlt
        have q1 : WA.cell? ⟨w.heap.size + 1, 1, none⟩ = some (.slice A1 rows1.length c1) := cell_of_block HQa.out.bk_at 1
        go_wp2_with fail
        go_loopw [83, 10] (fun v83 v10 wx => ∃ (i : Nat) (Sx : List MC), i ≤ rows1.length ∧ v83 = .int .i64 i ∧ Hid (Sx.length = n1) ∧ Hid (St No w wx [bk (w.heap.size + 1) 104 #[.slice A0 rows0.length c0, .slice A1 rows1.length c1], rb v10 Sx, rb u9 S, mb b Sx, mb a S, bk (w.heap.size + 1 + 1) 62 #[.int .i64 mk, .int .i64 ma, .int .i64 mt, .int .i64 mz], bk w.heap.size 103 #[.int .i64 n0, .int .i64 n1]])) (fun v83 _ _ => rows1.length - (intOf v83).toNat)
        case atStart => exact ⟨0, T0, Nat.zero_le _, rfl, HL1, HQa⟩
        case round =>
          clear HQa HL1
          obtain ⟨i, T, hi, rfl, HL1, HS⟩ := hrel
          by_cases hlt : i < rows1.length
          · obtain ⟨ad, rfl, k, aa, t, z, k0, k1, k2, k3, hz⟩ : ∃ ad, A1 = some ad ∧ ∃ k a t z, w.cell? (ad.add (i * 4)) = some (.int .i64 k) ∧ w.cell? ⟨(ad.add (i * 4)).block, (ad.add (i * 4)).off + 1, none⟩ = some (.int .i64 a) ∧ w.cell? ⟨(ad.add (i * 4)).block, (ad.add (i * 4)).off + 2, none⟩ = some (.int .i64 t) ∧ w.cell? ⟨(ad.add (i * 4)).block, (ad.add (i * 4)).off + 3, none⟩ = some (.int .i64 z) ∧ (-9223372036854775808 ≤ z ∧ z ≤ 9223372036854775807) := by
              obtain ⟨ad, k, a, t, z, e, h⟩ := row4_wf HR1.out HW1.out i hlt
              exact ⟨ad, e, k, a, t, z, h⟩
            have hu := HS.out.up
            have e0 := cell_up hu k0
            have e1 := cell_up hu k1
            have e2 := cell_up hu k2
            have e3 := cell_up hu k3
            have HZ := Lib.hid hz
            clear k0 k1 k2 k3 hu hz
            have H8 := Lib.hid (mb_le ((HS.out).get 3)).2
            have H16 := Lib.hid (mb_q16 ((HS.out).get 3))
            obtain ⟨S', p, q, e0', hd⟩ : ∃ S' p q e0', doM T k aa t z = (S', (p, q), e0') := ⟨_, _, _, _, rfl⟩
            have HD := Lib.hid hd
            have HL2 : Hid (S'.length = n1) := Lib.hid (by have := doM_len T k aa t z; rw [hd] at this; exact this.trans HL1.out)
            clear hd
            have HS153 : Hid (St No w (wr.alloc (.cells #[.int .i64 k, .int .i64 aa, .int .i64 t, .int .i64 z] 62)) [bk wr.heap.size 62 #[.int .i64 k, .int .i64 aa, .int .i64 t, .int .i64 z], bk (w.heap.size + 1) 104 #[.slice A0 rows0.length c0, .slice (some ad) rows1.length c1], rb u10 T, rb u9 S, mb b T, mb a S, bk (w.heap.size + 1 + 1) 62 #[.int .i64 mk, .int .i64 ma, .int .i64 mt, .int .i64 mz], bk w.heap.size 103 #[.int .i64 n0, .int .i64 n1]]) := Lib.hid (HS.out.alloc #[.int .i64 k, .int .i64 aa, .int .i64 t, .int .i64 z] 62)
            clear HS
            have m0 : (wr.alloc (.cells #[.int .i64 k, .int .i64 aa, .int .i64 t, .int .i64 z] 62)).cell? ⟨wr.heap.size, 0, none⟩ = some (.int .i64 k) := cell_of_block HS153.out.bk_at 0
            have m1 : (wr.alloc (.cells #[.int .i64 k, .int .i64 aa, .int .i64 t, .int .i64 z] 62)).cell? ⟨wr.heap.size, 1, none⟩ = some (.int .i64 aa) := cell_of_block HS153.out.bk_at 1
            have m2 : (wr.alloc (.cells #[.int .i64 k, .int .i64 aa, .int .i64 t, .int .i64 z] 62)).cell? ⟨wr.heap.size, 2, none⟩ = some (.int .i64 t) := cell_of_block HS153.out.bk_at 2
            have m3 : (wr.alloc (.cells #[.int .i64 k, .int .i64 aa, .int .i64 t, .int .i64 z] 62)).cell? ⟨wr.heap.size, 3, none⟩ = some (.int .i64 z) := cell_of_block HS153.out.bk_at 3
            have HS154 : Hid (St No w (wr.alloc (.cells #[.int .i64 k, .int .i64 aa, .int .i64 t, .int .i64 z] 62)) [mb b T, bk wr.heap.size 62 #[.int .i64 k, .int .i64 aa, .int .i64 t, .int .i64 z], bk (w.heap.size + 1) 104 #[.slice A0 rows0.length c0, .slice (some ad) rows1.length c1], rb u10 T, rb u9 S, mb a S, bk (w.heap.size + 1 + 1) 62 #[.int .i64 mk, .int .i64 ma, .int .i64 mt, .int .i64 mz], bk w.heap.size 103 #[.int .i64 n0, .int .i64 n1]]) := Lib.hid ((HS153.out).get 4)
            clear HS153
            go_wp2_with fail
            refine (do_st HS154.out k aa t z).mono ?_
            rw [HD.out]
            rintro e w155 ⟨rfl, hs⟩
            have HS155 : Hid (St No w w155 [mb b S', bk wr.heap.size 62 #[.int .i64 k, .int .i64 aa, .int .i64 t, .int .i64 z], bk (w.heap.size + 1) 104 #[.slice A0 rows0.length c0, .slice (some ad) rows1.length c1], rb u10 T, rb u9 S, mb a S, bk (w.heap.size + 1 + 1) 62 #[.int .i64 mk, .int .i64 ma, .int .i64 mt, .int .i64 mz], bk w.heap.size 103 #[.int .i64 n0, .int .i64 n1]]) := Lib.hid (hs)
            clear hs HS154
            have HS156 : Hid (St No w w155 [bk wr.heap.size 62 #[.int .i64 k, .int .i64 aa, .int .i64 t, .int .i64 z], mb b S', bk (w.heap.size + 1) 104 #[.slice A0 rows0.length c0, .slice (some ad) rows1.length c1], rb u10 T, rb u9 S, mb a S, bk (w.heap.size + 1 + 1) 62 #[.int .i64 mk, .int .i64 ma, .int .i64 mt, .int .i64 mz], bk w.heap.size 103 #[.int .i64 n0, .int .i64 n1]]) := Lib.hid ((HS155.out).get 1)
            clear HS155
            have d0 : w155.cell? ⟨wr.heap.size, 0, none⟩ = some (.int .i64 k) := cell_of_block HS156.out.bk_at 0
            have d1 : w155.cell? ⟨wr.heap.size, 1, none⟩ = some (.int .i64 aa) := cell_of_block HS156.out.bk_at 1
            have d2 : w155.cell? ⟨wr.heap.size, 2, none⟩ = some (.int .i64 t) := cell_of_block HS156.out.bk_at 2
            have d3 : w155.cell? ⟨wr.heap.size, 3, none⟩ = some (.int .i64 z) := cell_of_block HS156.out.bk_at 3
            clear m0 m1 m2 m3
            have HS157 : Hid (St No w w155 [rb u10 T, bk wr.heap.size 62 #[.int .i64 k, .int .i64 aa, .int .i64 t, .int .i64 z], mb b S', bk (w.heap.size + 1) 104 #[.slice A0 rows0.length c0, .slice (some ad) rows1.length c1], rb u9 S, mb a S, bk (w.heap.size + 1 + 1) 62 #[.int .i64 mk, .int .i64 ma, .int .i64 mt, .int .i64 mz], bk w.heap.size 103 #[.int .i64 n0, .int .i64 n1]]) := Lib.hid ((HS156.out).get 3)
            clear HS156
            go_wp2_with fail
            refine (Do_rb HS157.out H8.out H16.out k aa t z HZ.out).mono ?_
            rw [HD.out]
            rintro e w158 ⟨V', rfl, hs⟩
            have HS158 : Hid (St No w w158 [both (rb u10 T) (rb V' S'), bk wr.heap.size 62 #[.int .i64 k, .int .i64 aa, .int .i64 t, .int .i64 z], mb b S', bk (w.heap.size + 1) 104 #[.slice A0 rows0.length c0, .slice (some ad) rows1.length c1], rb u9 S, mb a S, bk (w.heap.size + 1 + 1) 62 #[.int .i64 mk, .int .i64 ma, .int .i64 mt, .int .i64 mz], bk w.heap.size 103 #[.int .i64 n0, .int .i64 n1]]) := Lib.hid (hs)
            clear hs HS157
            have HS159 : Hid (St No w w158 [rb V' S', bk wr.heap.size 62 #[.int .i64 k, .int .i64 aa, .int .i64 t, .int .i64 z], mb b S', bk (w.heap.size + 1) 104 #[.slice A0 rows0.length c0, .slice (some ad) rows1.length c1], rb u9 S, mb a S, bk (w.heap.size + 1 + 1) 62 #[.int .i64 mk, .int .i64 ma, .int .i64 mt, .int .i64 mz], bk w.heap.size 103 #[.int .i64 n0, .int .i64 n1]]) := Lib.hid (HS158.out.right)
            clear HS158
            have HS160 : Hid (St No w w158 [rb V' S', mb b S', bk (w.heap.size + 1) 104 #[.slice A0 rows0.length c0, .slice (some ad) rows1.length c1], rb u9 S, mb a S, bk (w.heap.size + 1 + 1) 62 #[.int .i64 mk, .int .i64 ma, .int .i64 mt, .int .i64 mz], bk w.heap.size 103 #[.int .i64 n0, .int .i64 n1]]) := Lib.hid (((HS159.out).get 1).drop)
            clear HS159
            have HF : Hid (St No w w158 [bk (w.heap.size + 1) 104 #[.slice A0 rows0.length c0, .slice (some ad) rows1.length c1], rb V' S', rb u9 S, mb b S', mb a S, bk (w.heap.size + 1 + 1) 62 #[.int .i64 mk, .int .i64 ma, .int .i64 mt, .int .i64 mz], bk w.heap.size 103 #[.int .i64 n0, .int .i64 n1]]) := Lib.hid ((((((((HS160.out).get 6).get 6).get 6).get 4).get 6).get 5).get 6)
            clear HS160
            go_wp2
            go_roundw
            case rel => exact ⟨i + 1, S', by omega, by go_num, HL2, HF⟩
            case measure => simp [intOf]; omega
          · obtain rfl : i = rows1.length := by omega
            obtain ⟨WB, hW⟩ : ∃ W, wr = W := ⟨_, rfl⟩
            rw [hW] at HS ⊢
            clear hW
            have HQb := HS
            clear HS hi hlt
            have HS223 : Hid (St No w WB [rb u10 T, rb u9 S, mb b T, mb a S, bk (w.heap.size + 1 + 1) 62 #[.int .i64 mk, .int .i64 ma, .int .i64 mt, .int .i64 mz]]) := Lib.hid (((((HQb.out).get 6).get 1).drop).drop)
            clear HQb
            have H8S := Lib.hid (mb_le ((HS223.out).get 3)).2
            have HSS := Lib.hid (mb_q16 ((HS223.out).get 3))
            have H8T := Lib.hid (mb_le ((HS223.out).get 2)).2
            have HTT := Lib.hid (mb_q16 ((HS223.out).get 2))
            obtain ⟨r, hr⟩ : ∃ r, eqB S T = r := ⟨_, rfl⟩
            have HER := Lib.hid hr
            clear hr
            have HS224 : Hid (St No w WB [mb a S, mb b T, rb u10 T, rb u9 S, bk (w.heap.size + 1 + 1) 62 #[.int .i64 mk, .int .i64 ma, .int .i64 mt, .int .i64 mz]]) := Lib.hid (((HS223.out).get 2).get 3)
            clear HS223
            go_wp2_with fail
            refine (Mb.Same_st HS224.out).mono ?_
            rw [HER.out]
            rintro e w225 ⟨rfl, hs⟩
            have HS225 : Hid (St No w w225 [mb a S, mb b T, rb u10 T, rb u9 S, bk (w.heap.size + 1 + 1) 62 #[.int .i64 mk, .int .i64 ma, .int .i64 mt, .int .i64 mz]]) := Lib.hid (hs)
            clear hs HS224
            have HS226 : Hid (St No w w225 [rb u9 S, rb u10 T, mb a S, mb b T, bk (w.heap.size + 1 + 1) 62 #[.int .i64 mk, .int .i64 ma, .int .i64 mt, .int .i64 mz]]) := Lib.hid (((HS225.out).get 2).get 3)
            clear HS225
            go_wp2_with fail
            refine (Same_rb HS226.out H8S.out HSS.out HTT.out).mono ?_
            rw [HER.out]
            rintro e w227 ⟨rfl, hs⟩
            have HS227 : Hid (St No w w227 [rb u9 S, rb u10 T, mb a S, mb b T, bk (w.heap.size + 1 + 1) 62 #[.int .i64 mk, .int .i64 ma, .int .i64 mt, .int .i64 mz]]) := Lib.hid (hs)
            clear hs HS226
            have HS228 : Hid (St No w w227 [mb a S, rb u9 S, rb u10 T, mb b T, bk (w.heap.size + 1 + 1) 62 #[.int .i64 mk, .int .i64 ma, .int .i64 mt, .int .i64 mz]]) := Lib.hid ((HS227.out).get 2)
            clear HS227
            go_wp2_with fail
            refine (Mb.Same_self HS228.out).mono ?_
            rintro e w229 ⟨rfl, hs⟩
            have HS229 : Hid (St No w w229 [mb a S, rb u9 S, rb u10 T, mb b T, bk (w.heap.size + 1 + 1) 62 #[.int .i64 mk, .int .i64 ma, .int .i64 mt, .int .i64 mz]]) := Lib.hid (hs)
            clear hs HS228
            go_wp2_with fail
            refine (Clone_st HS229.out).mono ?_
            rintro e w230 ⟨cc, rfl, hs⟩
            have HS230 : Hid (St No w w230 [mb cc S, mb a S, rb u9 S, rb u10 T, mb b T, bk (w.heap.size + 1 + 1) 62 #[.int .i64 mk, .int .i64 ma, .int .i64 mt, .int .i64 mz]]) := Lib.hid (hs)
            clear hs HS229
            have HS231 : Hid (St No w w230 [mb a S, mb cc S, rb u9 S, rb u10 T, mb b T, bk (w.heap.size + 1 + 1) 62 #[.int .i64 mk, .int .i64 ma, .int .i64 mt, .int .i64 mz]]) := Lib.hid ((HS230.out).get 1)
            clear HS230
            go_wp2_with fail
            refine (Mb.Same_st HS231.out).mono ?_
            rw [eqB_yes (rfl : S = S)]
            rintro e w232 ⟨rfl, hs⟩
            have HS232 : Hid (St No w w232 [mb a S, mb cc S, rb u9 S, rb u10 T, mb b T, bk (w.heap.size + 1 + 1) 62 #[.int .i64 mk, .int .i64 ma, .int .i64 mt, .int .i64 mz]]) := Lib.hid (hs)
            clear hs HS231
            have HS233 : Hid (St No w w232 [bk (w.heap.size + 1 + 1) 62 #[.int .i64 mk, .int .i64 ma, .int .i64 mt, .int .i64 mz], mb a S, mb cc S, rb u9 S, rb u10 T, mb b T]) := Lib.hid ((HS232.out).get 5)
            clear HS232
            have z0 : w232.cell? ⟨w.heap.size + 1 + 1, 0, none⟩ = some (.int .i64 mk) := cell_of_block HS233.out.bk_at 0
            have z1 : w232.cell? ⟨w.heap.size + 1 + 1, 1, none⟩ = some (.int .i64 ma) := cell_of_block HS233.out.bk_at 1
            have z2 : w232.cell? ⟨w.heap.size + 1 + 1, 2, none⟩ = some (.int .i64 mt) := cell_of_block HS233.out.bk_at 2
            have z3 : w232.cell? ⟨w.heap.size + 1 + 1, 3, none⟩ = some (.int .i64 mz) := cell_of_block HS233.out.bk_at 3
            obtain ⟨S', p, q, e0', hd⟩ : ∃ S' p q e0', doM S mk ma mt mz = (S', (p, q), e0') := ⟨_, _, _, _, rfl⟩
            have HD := Lib.hid hd
            clear hd
            have HS234 : Hid (St No w w232 [mb cc S, bk (w.heap.size + 1 + 1) 62 #[.int .i64 mk, .int .i64 ma, .int .i64 mt, .int .i64 mz], mb a S, rb u9 S, rb u10 T, mb b T]) := Lib.hid ((HS233.out).get 2)
            clear HS233
            go_wp2_with fail
            refine (do_st HS234.out mk ma mt mz).mono ?_
            rw [HD.out]
            rintro e w235 ⟨rfl, hs⟩
            have HS235 : Hid (St No w w235 [mb cc S', bk (w.heap.size + 1 + 1) 62 #[.int .i64 mk, .int .i64 ma, .int .i64 mt, .int .i64 mz], mb a S, rb u9 S, rb u10 T, mb b T]) := Lib.hid (hs)
            clear hs HS234
            have HS236 : Hid (St No w w235 [bk (w.heap.size + 1 + 1) 62 #[.int .i64 mk, .int .i64 ma, .int .i64 mt, .int .i64 mz], mb cc S', mb a S, rb u9 S, rb u10 T, mb b T]) := Lib.hid ((HS235.out).get 1)
            clear HS235
            have y0 : w235.cell? ⟨w.heap.size + 1 + 1, 0, none⟩ = some (.int .i64 mk) := cell_of_block HS236.out.bk_at 0
            have y1 : w235.cell? ⟨w.heap.size + 1 + 1, 1, none⟩ = some (.int .i64 ma) := cell_of_block HS236.out.bk_at 1
            have y2 : w235.cell? ⟨w.heap.size + 1 + 1, 2, none⟩ = some (.int .i64 mt) := cell_of_block HS236.out.bk_at 2
            have y3 : w235.cell? ⟨w.heap.size + 1 + 1, 3, none⟩ = some (.int .i64 mz) := cell_of_block HS236.out.bk_at 3
            clear z0 z1 z2 z3
            have HS237 : Hid (St No w w235 [rb u9 S, bk (w.heap.size + 1 + 1) 62 #[.int .i64 mk, .int .i64 ma, .int .i64 mt, .int .i64 mz], mb cc S', mb a S, rb u10 T, mb b T]) := Lib.hid ((HS236.out).get 3)
            clear HS236
            go_wp2_with fail
            refine (Do_rb HS237.out H8S.out HSS.out mk ma mt mz HMZ.out).mono ?_
            rw [HD.out]
            rintro e w238 ⟨V', rfl, hs⟩
            have HS238 : Hid (St No w w238 [both (rb u9 S) (rb V' S'), bk (w.heap.size + 1 + 1) 62 #[.int .i64 mk, .int .i64 ma, .int .i64 mt, .int .i64 mz], mb cc S', mb a S, rb u10 T, mb b T]) := Lib.hid (hs)
            clear hs HS237
            have HS' := Lib.hid (mb_q16 ((HS238.out).get 2))
            have HS239 : Hid (St No w w238 [both (rb u9 S) (rb V' S'), mb cc S', mb a S, rb u10 T, mb b T]) := Lib.hid (((HS238.out).get 1).drop)
            clear HS238
            have HS240 : Hid (St No w (w238.alloc (.cells #[.int .i64 p, .int .i64 q] 64)) [both (rb u9 S) (rb V' S'), mb cc S', mb a S, rb u10 T, mb b T]) := Lib.hid ((HS239.out.allocU (.cells #[.int .i64 p, .int .i64 q] 64)))
            clear HS239
            obtain ⟨r2, hr2⟩ : ∃ r, eqB S S' = r := ⟨_, rfl⟩
            have HER2 := Lib.hid hr2
            have HER3 : Hid (eqB S' S = r2) := Lib.hid ((eqB_comm _ _).trans hr2)
            clear hr2
            have HS241 : Hid (St No w (w238.alloc (.cells #[.int .i64 p, .int .i64 q] 64)) [mb a S, mb cc S', both (rb u9 S) (rb V' S'), rb u10 T, mb b T]) := Lib.hid (((HS240.out).get 1).get 2)
            clear HS240
            go_wp2_with fail
            refine (Mb.Same_st HS241.out).mono ?_
            rw [HER2.out]
            rintro e w242 ⟨rfl, hs⟩
            have HS242 : Hid (St No w w242 [mb a S, mb cc S', both (rb u9 S) (rb V' S'), rb u10 T, mb b T]) := Lib.hid (hs)
            clear hs HS241
            have HS243 : Hid (St No w w242 [both (rb u9 S) (rb V' S'), mb a S, mb cc S', rb u10 T, mb b T]) := Lib.hid ((HS242.out).get 2)
            clear HS242
            go_wp2_with fail
            refine (Same_both HS243.out H8S.out HSS.out HS'.out).mono ?_
            rw [HER2.out]
            rintro e w244 ⟨rfl, hs⟩
            have HS244 : Hid (St No w w244 [both (rb u9 S) (rb V' S'), mb a S, mb cc S', rb u10 T, mb b T]) := Lib.hid (hs)
            clear hs HS243
            have HS245 : Hid (St No w w244 [mb cc S', mb a S, both (rb u9 S) (rb V' S'), rb u10 T, mb b T]) := Lib.hid (((HS244.out).get 1).get 2)
            clear HS244
            go_wp2_with fail
            refine (Mb.Same_st HS245.out).mono ?_
            rw [HER3.out]
            rintro e w246 ⟨rfl, hs⟩
            have HS246 : Hid (St No w w246 [mb cc S', mb a S, both (rb u9 S) (rb V' S'), rb u10 T, mb b T]) := Lib.hid (hs)
            clear hs HS245
            have HS247 : Hid (St No w w246 [both (rb u9 S) (rb V' S'), mb cc S', mb a S, rb u10 T, mb b T]) := Lib.hid ((HS246.out).get 2)
            clear HS246
            go_wp2_with fail
            refine (Same_both HS247.out H8S.out HSS.out HS'.out).mono ?_
            rw [HER2.out]
            rintro e w248 ⟨rfl, hs⟩
            have HS248 : Hid (St No w w248 [both (rb u9 S) (rb V' S'), mb cc S', mb a S, rb u10 T, mb b T]) := Lib.hid (hs)
            clear hs HS247
            go_wp2_with (go_at_call 28; refine (alive_st HS248.out).mono ?_; rintro e w9 ⟨rfl, hs⟩; have HF := Lib.hid hs.up; clear hs)
            go_ret
            exact ⟨rfl, HF.out⟩
  · have h9 := (rb_zer n0 h2 (rb_zer n1 h4 HS5.out)).drew
    rw [World.size_alloc] at h9
    have h10 : St No w ((w5.alloc (.cells (zer n1).toArray 72)).alloc (.cells (zer n0).toArray 72)).drew [rb (.slice (some ⟨w5.heap.size, 0, none⟩) n1 n1) (List.replicate n1 (⟨0, [], by omega⟩ : MC)), rb (.slice (some ⟨w5.heap.size + 1, 0, none⟩) n0 n0) (List.replicate n0 (⟨0, [], by omega⟩ : MC)), mb b (List.replicate n1 (⟨0, [], by omega⟩ : MC)), mb a (List.replicate n0 (⟨0, [], by omega⟩ : MC)), bk (w.heap.size + 1 + 1) 62 #[.int .i64 mk, .int .i64 ma, .int .i64 mt, .int .i64 mz], bk (w.heap.size + 1) 104 #[.slice A0 rows0.length c0, .slice A1 rows1.length c1], bk w.heap.size 103 #[.int .i64 n0, .int .i64 n1]] := h9.get 1
    have HL0 : Hid ((List.replicate n0 (⟨0, [], by omega⟩ : MC)).length = n0) := Lib.hid (by simp)
    have HL1 : Hid ((List.replicate n1 (⟨0, [], by omega⟩ : MC)).length = n1) := Lib.hid (by simp)
    clear h9 HS5 hmk0 hmk1 p0 p1 q0 q1 l3 e3
    generalize ((w5.alloc (.cells (zer n1).toArray 72)).alloc (.cells (zer n0).toArray 72)).drew = w6 at *
    generalize (Value.slice (some ⟨w5.heap.size + 1, 0, none⟩) n0 n0) = V0 at *
    generalize (Value.slice (some ⟨w5.heap.size, 0, none⟩) n1 n1) = V1 at *
    generalize (List.replicate n0 (⟨0, [], by omega⟩ : MC)) = S0 at *
    generalize (List.replicate n1 (⟨0, [], by omega⟩ : MC)) = T0 at *
    have HS21 : Hid (St No w w6 [rb V1 T0, rb V0 S0, mb b T0, mb a S0, bk (w.heap.size + 1 + 1) 62 #[.int .i64 mk, .int .i64 ma, .int .i64 mt, .int .i64 mz], bk (w.heap.size + 1) 104 #[.slice A0 rows0.length c0, .slice A1 rows1.length c1], bk w.heap.size 103 #[.int .i64 n0, .int .i64 n1]]) := Lib.hid (h10)
    clear h10
    have HS22 : Hid (St No w w6 [bk (w.heap.size + 1) 104 #[.slice A0 rows0.length c0, .slice A1 rows1.length c1], rb V1 T0, rb V0 S0, mb b T0, mb a S0, bk (w.heap.size + 1 + 1) 62 #[.int .i64 mk, .int .i64 ma, .int .i64 mt, .int .i64 mz], bk w.heap.size 103 #[.int .i64 n0, .int .i64 n1]]) := Lib.hid ((HS21.out).get 5)
    clear HS21
    have q0 : w6.cell? ⟨w.heap.size + 1, 0, none⟩ = some (.slice A0 rows0.length c0) := cell_of_block HS22.out.bk_at 0
    go_wp2_with fail
    go_loopw [65, 9] (fun v65 v9 wx => ∃ (i : Nat) (Sx : List MC), i ≤ rows0.length ∧ v65 = .int .i64 i ∧ Hid (Sx.length = n0) ∧ Hid (St No w wx [bk (w.heap.size + 1) 104 #[.slice A0 rows0.length c0, .slice A1 rows1.length c1], rb V1 T0, rb v9 Sx, mb b T0, mb a Sx, bk (w.heap.size + 1 + 1) 62 #[.int .i64 mk, .int .i64 ma, .int .i64 mt, .int .i64 mz], bk w.heap.size 103 #[.int .i64 n0, .int .i64 n1]])) (fun v65 _ _ => rows0.length - (intOf v65).toNat)
    case atStart => exact ⟨0, S0, Nat.zero_le _, rfl, HL0, HS22⟩
    case round =>
      clear HS22 HL0
      obtain ⟨i, S, hi, rfl, HL0, HS⟩ := hrel
      by_cases hlt : i < rows0.length
      · obtain ⟨ad, rfl, k, aa, t, z, k0, k1, k2, k3, hz⟩ : ∃ ad, A0 = some ad ∧ ∃ k a t z, w.cell? (ad.add (i * 4)) = some (.int .i64 k) ∧ w.cell? ⟨(ad.add (i * 4)).block, (ad.add (i * 4)).off + 1, none⟩ = some (.int .i64 a) ∧ w.cell? ⟨(ad.add (i * 4)).block, (ad.add (i * 4)).off + 2, none⟩ = some (.int .i64 t) ∧ w.cell? ⟨(ad.add (i * 4)).block, (ad.add (i * 4)).off + 3, none⟩ = some (.int .i64 z) ∧ (-9223372036854775808 ≤ z ∧ z ≤ 9223372036854775807) := by
          obtain ⟨ad, k, a, t, z, e, h⟩ := row4_wf HR0.out HW0.out i hlt
          exact ⟨ad, e, k, a, t, z, h⟩
        have hu := HS.out.up
        have e0 := cell_up hu k0
        have e1 := cell_up hu k1
        have e2 := cell_up hu k2
        have e3 := cell_up hu k3
        have HZ := Lib.hid hz
        clear k0 k1 k2 k3 hu hz
        have H8 := Lib.hid (mb_le ((HS.out).get 4)).2
        have H16 := Lib.hid (mb_q16 ((HS.out).get 4))
        obtain ⟨S', p, q, e0', hd⟩ : ∃ S' p q e0', doM S k aa t z = (S', (p, q), e0') := ⟨_, _, _, _, rfl⟩
        have HD := Lib.hid hd
        have HL2 : Hid (S'.length = n0) := Lib.hid (by have := doM_len S k aa t z; rw [hd] at this; exact this.trans HL0.out)
        clear hd
        have HS53 : Hid (St No w (wr.alloc (.cells #[.int .i64 k, .int .i64 aa, .int .i64 t, .int .i64 z] 62)) [bk wr.heap.size 62 #[.int .i64 k, .int .i64 aa, .int .i64 t, .int .i64 z], bk (w.heap.size + 1) 104 #[.slice (some ad) rows0.length c0, .slice A1 rows1.length c1], rb V1 T0, rb u9 S, mb b T0, mb a S, bk (w.heap.size + 1 + 1) 62 #[.int .i64 mk, .int .i64 ma, .int .i64 mt, .int .i64 mz], bk w.heap.size 103 #[.int .i64 n0, .int .i64 n1]]) := Lib.hid (HS.out.alloc #[.int .i64 k, .int .i64 aa, .int .i64 t, .int .i64 z] 62)
        clear HS
        have m0 : (wr.alloc (.cells #[.int .i64 k, .int .i64 aa, .int .i64 t, .int .i64 z] 62)).cell? ⟨wr.heap.size, 0, none⟩ = some (.int .i64 k) := cell_of_block HS53.out.bk_at 0
        have m1 : (wr.alloc (.cells #[.int .i64 k, .int .i64 aa, .int .i64 t, .int .i64 z] 62)).cell? ⟨wr.heap.size, 1, none⟩ = some (.int .i64 aa) := cell_of_block HS53.out.bk_at 1
        have m2 : (wr.alloc (.cells #[.int .i64 k, .int .i64 aa, .int .i64 t, .int .i64 z] 62)).cell? ⟨wr.heap.size, 2, none⟩ = some (.int .i64 t) := cell_of_block HS53.out.bk_at 2
        have m3 : (wr.alloc (.cells #[.int .i64 k, .int .i64 aa, .int .i64 t, .int .i64 z] 62)).cell? ⟨wr.heap.size, 3, none⟩ = some (.int .i64 z) := cell_of_block HS53.out.bk_at 3
        have HS54 : Hid (St No w (wr.alloc (.cells #[.int .i64 k, .int .i64 aa, .int .i64 t, .int .i64 z] 62)) [mb a S, bk wr.heap.size 62 #[.int .i64 k, .int .i64 aa, .int .i64 t, .int .i64 z], bk (w.heap.size + 1) 104 #[.slice (some ad) rows0.length c0, .slice A1 rows1.length c1], rb V1 T0, rb u9 S, mb b T0, bk (w.heap.size + 1 + 1) 62 #[.int .i64 mk, .int .i64 ma, .int .i64 mt, .int .i64 mz], bk w.heap.size 103 #[.int .i64 n0, .int .i64 n1]]) := Lib.hid ((HS53.out).get 5)
        clear HS53
        go_wp2_with fail
        refine (do_st HS54.out k aa t z).mono ?_
        rw [HD.out]
        rintro e w55 ⟨rfl, hs⟩
        have HS55 : Hid (St No w w55 [mb a S', bk wr.heap.size 62 #[.int .i64 k, .int .i64 aa, .int .i64 t, .int .i64 z], bk (w.heap.size + 1) 104 #[.slice (some ad) rows0.length c0, .slice A1 rows1.length c1], rb V1 T0, rb u9 S, mb b T0, bk (w.heap.size + 1 + 1) 62 #[.int .i64 mk, .int .i64 ma, .int .i64 mt, .int .i64 mz], bk w.heap.size 103 #[.int .i64 n0, .int .i64 n1]]) := Lib.hid (hs)
        clear hs HS54
        have HS56 : Hid (St No w w55 [bk wr.heap.size 62 #[.int .i64 k, .int .i64 aa, .int .i64 t, .int .i64 z], mb a S', bk (w.heap.size + 1) 104 #[.slice (some ad) rows0.length c0, .slice A1 rows1.length c1], rb V1 T0, rb u9 S, mb b T0, bk (w.heap.size + 1 + 1) 62 #[.int .i64 mk, .int .i64 ma, .int .i64 mt, .int .i64 mz], bk w.heap.size 103 #[.int .i64 n0, .int .i64 n1]]) := Lib.hid ((HS55.out).get 1)
        clear HS55
        have d0 : w55.cell? ⟨wr.heap.size, 0, none⟩ = some (.int .i64 k) := cell_of_block HS56.out.bk_at 0
        have d1 : w55.cell? ⟨wr.heap.size, 1, none⟩ = some (.int .i64 aa) := cell_of_block HS56.out.bk_at 1
        have d2 : w55.cell? ⟨wr.heap.size, 2, none⟩ = some (.int .i64 t) := cell_of_block HS56.out.bk_at 2
        have d3 : w55.cell? ⟨wr.heap.size, 3, none⟩ = some (.int .i64 z) := cell_of_block HS56.out.bk_at 3
        clear m0 m1 m2 m3
        have HS57 : Hid (St No w w55 [rb u9 S, bk wr.heap.size 62 #[.int .i64 k, .int .i64 aa, .int .i64 t, .int .i64 z], mb a S', bk (w.heap.size + 1) 104 #[.slice (some ad) rows0.length c0, .slice A1 rows1.length c1], rb V1 T0, mb b T0, bk (w.heap.size + 1 + 1) 62 #[.int .i64 mk, .int .i64 ma, .int .i64 mt, .int .i64 mz], bk w.heap.size 103 #[.int .i64 n0, .int .i64 n1]]) := Lib.hid ((HS56.out).get 4)
        clear HS56
        go_wp2_with fail
        refine (Do_rb HS57.out H8.out H16.out k aa t z HZ.out).mono ?_
        rw [HD.out]
        rintro e w58 ⟨V', rfl, hs⟩
        have HS58 : Hid (St No w w58 [both (rb u9 S) (rb V' S'), bk wr.heap.size 62 #[.int .i64 k, .int .i64 aa, .int .i64 t, .int .i64 z], mb a S', bk (w.heap.size + 1) 104 #[.slice (some ad) rows0.length c0, .slice A1 rows1.length c1], rb V1 T0, mb b T0, bk (w.heap.size + 1 + 1) 62 #[.int .i64 mk, .int .i64 ma, .int .i64 mt, .int .i64 mz], bk w.heap.size 103 #[.int .i64 n0, .int .i64 n1]]) := Lib.hid (hs)
        clear hs HS57
        have HS59 : Hid (St No w w58 [rb V' S', bk wr.heap.size 62 #[.int .i64 k, .int .i64 aa, .int .i64 t, .int .i64 z], mb a S', bk (w.heap.size + 1) 104 #[.slice (some ad) rows0.length c0, .slice A1 rows1.length c1], rb V1 T0, mb b T0, bk (w.heap.size + 1 + 1) 62 #[.int .i64 mk, .int .i64 ma, .int .i64 mt, .int .i64 mz], bk w.heap.size 103 #[.int .i64 n0, .int .i64 n1]]) := Lib.hid (HS58.out.right)
        clear HS58
        have HS60 : Hid (St No w w58 [rb V' S', mb a S', bk (w.heap.size + 1) 104 #[.slice (some ad) rows0.length c0, .slice A1 rows1.length c1], rb V1 T0, mb b T0, bk (w.heap.size + 1 + 1) 62 #[.int .i64 mk, .int .i64 ma, .int .i64 mt, .int .i64 mz], bk w.heap.size 103 #[.int .i64 n0, .int .i64 n1]]) := Lib.hid (((HS59.out).get 1).drop)
        clear HS59
        have HF : Hid (St No w w58 [bk (w.heap.size + 1) 104 #[.slice (some ad) rows0.length c0, .slice A1 rows1.length c1], rb V1 T0, rb V' S', mb b T0, mb a S', bk (w.heap.size + 1 + 1) 62 #[.int .i64 mk, .int .i64 ma, .int .i64 mt, .int .i64 mz], bk w.heap.size 103 #[.int .i64 n0, .int .i64 n1]]) := Lib.hid ((((((((HS60.out).get 6).get 6).get 3).get 6).get 4).get 6).get 6)
        clear HS60
        go_wp2
        go_roundw
        case rel => exact ⟨i + 1, S', by omega, by go_num, HL2, HF⟩
        case measure => simp [intOf]; omega
      · obtain rfl : i = rows0.length := by omega
        obtain ⟨WA, hW⟩ : ∃ W, wr = W := ⟨_, rfl⟩
        rw [hW] at HS ⊢
        clear hW
        have HQa := HS
        clear HS hi hlt
        have q1 : WA.cell? ⟨w.heap.size + 1, 1, none⟩ = some (.slice A1 rows1.length c1) := cell_of_block HQa.out.bk_at 1
        go_wp2_with fail
        go_loopw [83, 10] (fun v83 v10 wx => ∃ (i : Nat) (Sx : List MC), i ≤ rows1.length ∧ v83 = .int .i64 i ∧ Hid (Sx.length = n1) ∧ Hid (St No w wx [bk (w.heap.size + 1) 104 #[.slice A0 rows0.length c0, .slice A1 rows1.length c1], rb v10 Sx, rb u9 S, mb b Sx, mb a S, bk (w.heap.size + 1 + 1) 62 #[.int .i64 mk, .int .i64 ma, .int .i64 mt, .int .i64 mz], bk w.heap.size 103 #[.int .i64 n0, .int .i64 n1]])) (fun v83 _ _ => rows1.length - (intOf v83).toNat)
        case atStart => exact ⟨0, T0, Nat.zero_le _, rfl, HL1, HQa⟩
        case round =>
          clear HQa HL1
          obtain ⟨i, T, hi, rfl, HL1, HS⟩ := hrel
          by_cases hlt : i < rows1.length
          · obtain ⟨ad, rfl, k, aa, t, z, k0, k1, k2, k3, hz⟩ : ∃ ad, A1 = some ad ∧ ∃ k a t z, w.cell? (ad.add (i * 4)) = some (.int .i64 k) ∧ w.cell? ⟨(ad.add (i * 4)).block, (ad.add (i * 4)).off + 1, none⟩ = some (.int .i64 a) ∧ w.cell? ⟨(ad.add (i * 4)).block, (ad.add (i * 4)).off + 2, none⟩ = some (.int .i64 t) ∧ w.cell? ⟨(ad.add (i * 4)).block, (ad.add (i * 4)).off + 3, none⟩ = some (.int .i64 z) ∧ (-9223372036854775808 ≤ z ∧ z ≤ 9223372036854775807) := by
              obtain ⟨ad, k, a, t, z, e, h⟩ := row4_wf HR1.out HW1.out i hlt
              exact ⟨ad, e, k, a, t, z, h⟩
            have hu := HS.out.up
            have e0 := cell_up hu k0
            have e1 := cell_up hu k1
            have e2 := cell_up hu k2
            have e3 := cell_up hu k3
            have HZ := Lib.hid hz
            clear k0 k1 k2 k3 hu hz
            have H8 := Lib.hid (mb_le ((HS.out).get 3)).2
            have H16 := Lib.hid (mb_q16 ((HS.out).get 3))
            obtain ⟨S', p, q, e0', hd⟩ : ∃ S' p q e0', doM T k aa t z = (S', (p, q), e0') := ⟨_, _, _, _, rfl⟩
            have HD := Lib.hid hd
            have HL2 : Hid (S'.length = n1) := Lib.hid (by have := doM_len T k aa t z; rw [hd] at this; exact this.trans HL1.out)
            clear hd
            have HS153 : Hid (St No w (wr.alloc (.cells #[.int .i64 k, .int .i64 aa, .int .i64 t, .int .i64 z] 62)) [bk wr.heap.size 62 #[.int .i64 k, .int .i64 aa, .int .i64 t, .int .i64 z], bk (w.heap.size + 1) 104 #[.slice A0 rows0.length c0, .slice (some ad) rows1.length c1], rb u10 T, rb u9 S, mb b T, mb a S, bk (w.heap.size + 1 + 1) 62 #[.int .i64 mk, .int .i64 ma, .int .i64 mt, .int .i64 mz], bk w.heap.size 103 #[.int .i64 n0, .int .i64 n1]]) := Lib.hid (HS.out.alloc #[.int .i64 k, .int .i64 aa, .int .i64 t, .int .i64 z] 62)
            clear HS
            have m0 : (wr.alloc (.cells #[.int .i64 k, .int .i64 aa, .int .i64 t, .int .i64 z] 62)).cell? ⟨wr.heap.size, 0, none⟩ = some (.int .i64 k) := cell_of_block HS153.out.bk_at 0
            have m1 : (wr.alloc (.cells #[.int .i64 k, .int .i64 aa, .int .i64 t, .int .i64 z] 62)).cell? ⟨wr.heap.size, 1, none⟩ = some (.int .i64 aa) := cell_of_block HS153.out.bk_at 1
            have m2 : (wr.alloc (.cells #[.int .i64 k, .int .i64 aa, .int .i64 t, .int .i64 z] 62)).cell? ⟨wr.heap.size, 2, none⟩ = some (.int .i64 t) := cell_of_block HS153.out.bk_at 2
            have m3 : (wr.alloc (.cells #[.int .i64 k, .int .i64 aa, .int .i64 t, .int .i64 z] 62)).cell? ⟨wr.heap.size, 3, none⟩ = some (.int .i64 z) := cell_of_block HS153.out.bk_at 3
            have HS154 : Hid (St No w (wr.alloc (.cells #[.int .i64 k, .int .i64 aa, .int .i64 t, .int .i64 z] 62)) [mb b T, bk wr.heap.size 62 #[.int .i64 k, .int .i64 aa, .int .i64 t, .int .i64 z], bk (w.heap.size + 1) 104 #[.slice A0 rows0.length c0, .slice (some ad) rows1.length c1], rb u10 T, rb u9 S, mb a S, bk (w.heap.size + 1 + 1) 62 #[.int .i64 mk, .int .i64 ma, .int .i64 mt, .int .i64 mz], bk w.heap.size 103 #[.int .i64 n0, .int .i64 n1]]) := Lib.hid ((HS153.out).get 4)
            clear HS153
            go_wp2_with fail
            refine (do_st HS154.out k aa t z).mono ?_
            rw [HD.out]
            rintro e w155 ⟨rfl, hs⟩
            have HS155 : Hid (St No w w155 [mb b S', bk wr.heap.size 62 #[.int .i64 k, .int .i64 aa, .int .i64 t, .int .i64 z], bk (w.heap.size + 1) 104 #[.slice A0 rows0.length c0, .slice (some ad) rows1.length c1], rb u10 T, rb u9 S, mb a S, bk (w.heap.size + 1 + 1) 62 #[.int .i64 mk, .int .i64 ma, .int .i64 mt, .int .i64 mz], bk w.heap.size 103 #[.int .i64 n0, .int .i64 n1]]) := Lib.hid (hs)
            clear hs HS154
            have HS156 : Hid (St No w w155 [bk wr.heap.size 62 #[.int .i64 k, .int .i64 aa, .int .i64 t, .int .i64 z], mb b S', bk (w.heap.size + 1) 104 #[.slice A0 rows0.length c0, .slice (some ad) rows1.length c1], rb u10 T, rb u9 S, mb a S, bk (w.heap.size + 1 + 1) 62 #[.int .i64 mk, .int .i64 ma, .int .i64 mt, .int .i64 mz], bk w.heap.size 103 #[.int .i64 n0, .int .i64 n1]]) := Lib.hid ((HS155.out).get 1)
            clear HS155
            have d0 : w155.cell? ⟨wr.heap.size, 0, none⟩ = some (.int .i64 k) := cell_of_block HS156.out.bk_at 0
            have d1 : w155.cell? ⟨wr.heap.size, 1, none⟩ = some (.int .i64 aa) := cell_of_block HS156.out.bk_at 1
            have d2 : w155.cell? ⟨wr.heap.size, 2, none⟩ = some (.int .i64 t) := cell_of_block HS156.out.bk_at 2
            have d3 : w155.cell? ⟨wr.heap.size, 3, none⟩ = some (.int .i64 z) := cell_of_block HS156.out.bk_at 3
            clear m0 m1 m2 m3
            have HS157 : Hid (St No w w155 [rb u10 T, bk wr.heap.size 62 #[.int .i64 k, .int .i64 aa, .int .i64 t, .int .i64 z], mb b S', bk (w.heap.size + 1) 104 #[.slice A0 rows0.length c0, .slice (some ad) rows1.length c1], rb u9 S, mb a S, bk (w.heap.size + 1 + 1) 62 #[.int .i64 mk, .int .i64 ma, .int .i64 mt, .int .i64 mz], bk w.heap.size 103 #[.int .i64 n0, .int .i64 n1]]) := Lib.hid ((HS156.out).get 3)
            clear HS156
            go_wp2_with fail
            refine (Do_rb HS157.out H8.out H16.out k aa t z HZ.out).mono ?_
            rw [HD.out]
            rintro e w158 ⟨V', rfl, hs⟩
            have HS158 : Hid (St No w w158 [both (rb u10 T) (rb V' S'), bk wr.heap.size 62 #[.int .i64 k, .int .i64 aa, .int .i64 t, .int .i64 z], mb b S', bk (w.heap.size + 1) 104 #[.slice A0 rows0.length c0, .slice (some ad) rows1.length c1], rb u9 S, mb a S, bk (w.heap.size + 1 + 1) 62 #[.int .i64 mk, .int .i64 ma, .int .i64 mt, .int .i64 mz], bk w.heap.size 103 #[.int .i64 n0, .int .i64 n1]]) := Lib.hid (hs)
            clear hs HS157
            have HS159 : Hid (St No w w158 [rb V' S', bk wr.heap.size 62 #[.int .i64 k, .int .i64 aa, .int .i64 t, .int .i64 z], mb b S', bk (w.heap.size + 1) 104 #[.slice A0 rows0.length c0, .slice (some ad) rows1.length c1], rb u9 S, mb a S, bk (w.heap.size + 1 + 1) 62 #[.int .i64 mk, .int .i64 ma, .int .i64 mt, .int .i64 mz], bk w.heap.size 103 #[.int .i64 n0, .int .i64 n1]]) := Lib.hid (HS158.out.right)
            clear HS158
            have HS160 : Hid (St No w w158 [rb V' S', mb b S', bk (w.heap.size + 1) 104 #[.slice A0 rows0.length c0, .slice (some ad) rows1.length c1], rb u9 S, mb a S, bk (w.heap.size + 1 + 1) 62 #[.int .i64 mk, .int .i64 ma, .int .i64 mt, .int .i64 mz], bk w.heap.size 103 #[.int .i64 n0, .int .i64 n1]]) := Lib.hid (((HS159.out).get 1).drop)
            clear HS159
            have HF : Hid (St No w w158 [bk (w.heap.size + 1) 104 #[.slice A0 rows0.length c0, .slice (some ad) rows1.length c1], rb V' S', rb u9 S, mb b S', mb a S, bk (w.heap.size + 1 + 1) 62 #[.int .i64 mk, .int .i64 ma, .int .i64 mt, .int .i64 mz], bk w.heap.size 103 #[.int .i64 n0, .int .i64 n1]]) := Lib.hid ((((((((HS160.out).get 6).get 6).get 6).get 4).get 6).get 5).get 6)
            clear HS160
            go_wp2
            go_roundw
            case rel => exact ⟨i + 1, S', by omega, by go_num, HL2, HF⟩
            case measure => simp [intOf]; omega
          · obtain rfl : i = rows1.length := by omega
            obtain ⟨WB, hW⟩ : ∃ W, wr = W := ⟨_, rfl⟩
            rw [hW] at HS ⊢
            clear hW
            have HQb := HS
            clear HS hi hlt
            have HS223 : Hid (St No w WB [rb u10 T, rb u9 S, mb b T, mb a S, bk (w.heap.size + 1 + 1) 62 #[.int .i64 mk, .int .i64 ma, .int .i64 mt, .int .i64 mz]]) := Lib.hid (((((HQb.out).get 6).get 1).drop).drop)
            clear HQb
            have H8S := Lib.hid (mb_le ((HS223.out).get 3)).2
            have HSS := Lib.hid (mb_q16 ((HS223.out).get 3))
            have H8T := Lib.hid (mb_le ((HS223.out).get 2)).2
            have HTT := Lib.hid (mb_q16 ((HS223.out).get 2))
            obtain ⟨r, hr⟩ : ∃ r, eqB S T = r := ⟨_, rfl⟩
            have HER := Lib.hid hr
            clear hr
            have HS224 : Hid (St No w WB [mb a S, mb b T, rb u10 T, rb u9 S, bk (w.heap.size + 1 + 1) 62 #[.int .i64 mk, .int .i64 ma, .int .i64 mt, .int .i64 mz]]) := Lib.hid (((HS223.out).get 2).get 3)
            clear HS223
            go_wp2_with fail
            refine (Mb.Same_st HS224.out).mono ?_
            rw [HER.out]
            rintro e w225 ⟨rfl, hs⟩
            have HS225 : Hid (St No w w225 [mb a S, mb b T, rb u10 T, rb u9 S, bk (w.heap.size + 1 + 1) 62 #[.int .i64 mk, .int .i64 ma, .int .i64 mt, .int .i64 mz]]) := Lib.hid (hs)
            clear hs HS224
            have HS226 : Hid (St No w w225 [rb u9 S, rb u10 T, mb a S, mb b T, bk (w.heap.size + 1 + 1) 62 #[.int .i64 mk, .int .i64 ma, .int .i64 mt, .int .i64 mz]]) := Lib.hid (((HS225.out).get 2).get 3)
            clear HS225
            go_wp2_with fail
            refine (Same_rb HS226.out H8S.out HSS.out HTT.out).mono ?_
            rw [HER.out]
            rintro e w227 ⟨rfl, hs⟩
            have HS227 : Hid (St No w w227 [rb u9 S, rb u10 T, mb a S, mb b T, bk (w.heap.size + 1 + 1) 62 #[.int .i64 mk, .int .i64 ma, .int .i64 mt, .int .i64 mz]]) := Lib.hid (hs)
            clear hs HS226
            have HS228 : Hid (St No w w227 [mb a S, rb u9 S, rb u10 T, mb b T, bk (w.heap.size + 1 + 1) 62 #[.int .i64 mk, .int .i64 ma, .int .i64 mt, .int .i64 mz]]) := Lib.hid ((HS227.out).get 2)
            clear HS227
            go_wp2_with fail
            refine (Mb.Same_self HS228.out).mono ?_
            rintro e w229 ⟨rfl, hs⟩
            have HS229 : Hid (St No w w229 [mb a S, rb u9 S, rb u10 T, mb b T, bk (w.heap.size + 1 + 1) 62 #[.int .i64 mk, .int .i64 ma, .int .i64 mt, .int .i64 mz]]) := Lib.hid (hs)
            clear hs HS228
            go_wp2_with fail
            refine (Clone_st HS229.out).mono ?_
            rintro e w230 ⟨cc, rfl, hs⟩
            have HS230 : Hid (St No w w230 [mb cc S, mb a S, rb u9 S, rb u10 T, mb b T, bk (w.heap.size + 1 + 1) 62 #[.int .i64 mk, .int .i64 ma, .int .i64 mt, .int .i64 mz]]) := Lib.hid (hs)
            clear hs HS229
            have HS231 : Hid (St No w w230 [mb a S, mb cc S, rb u9 S, rb u10 T, mb b T, bk (w.heap.size + 1 + 1) 62 #[.int .i64 mk, .int .i64 ma, .int .i64 mt, .int .i64 mz]]) := Lib.hid ((HS230.out).get 1)
            clear HS230
            go_wp2_with fail
            refine (Mb.Same_st HS231.out).mono ?_
            rw [eqB_yes (rfl : S = S)]
            rintro e w232 ⟨rfl, hs⟩
            have HS232 : Hid (St No w w232 [mb a S, mb cc S, rb u9 S, rb u10 T, mb b T, bk (w.heap.size + 1 + 1) 62 #[.int .i64 mk, .int .i64 ma, .int .i64 mt, .int .i64 mz]]) := Lib.hid (hs)
            clear hs HS231
            have HS233 : Hid (St No w w232 [bk (w.heap.size + 1 + 1) 62 #[.int .i64 mk, .int .i64 ma, .int .i64 mt, .int .i64 mz], mb a S, mb cc S, rb u9 S, rb u10 T, mb b T]) := Lib.hid ((HS232.out).get 5)
            clear HS232
            have z0 : w232.cell? ⟨w.heap.size + 1 + 1, 0, none⟩ = some (.int .i64 mk) := cell_of_block HS233.out.bk_at 0
            have z1 : w232.cell? ⟨w.heap.size + 1 + 1, 1, none⟩ = some (.int .i64 ma) := cell_of_block HS233.out.bk_at 1
            have z2 : w232.cell? ⟨w.heap.size + 1 + 1, 2, none⟩ = some (.int .i64 mt) := cell_of_block HS233.out.bk_at 2
            have z3 : w232.cell? ⟨w.heap.size + 1 + 1, 3, none⟩ = some (.int .i64 mz) := cell_of_block HS233.out.bk_at 3
            obtain ⟨S', p, q, e0', hd⟩ : ∃ S' p q e0', doM S mk ma mt mz = (S', (p, q), e0') := ⟨_, _, _, _, rfl⟩
            have HD := Lib.hid hd
            clear hd
            have HS234 : Hid (St No w w232 [mb cc S, bk (w.heap.size + 1 + 1) 62 #[.int .i64 mk, .int .i64 ma, .int .i64 mt, .int .i64 mz], mb a S, rb u9 S, rb u10 T, mb b T]) := Lib.hid ((HS233.out).get 2)
            clear HS233
            go_wp2_with fail
            refine (do_st HS234.out mk ma mt mz).mono ?_
            rw [HD.out]
            rintro e w235 ⟨rfl, hs⟩
            have HS235 : Hid (St No w w235 [mb cc S', bk (w.heap.size + 1 + 1) 62 #[.int .i64 mk, .int .i64 ma, .int .i64 mt, .int .i64 mz], mb a S, rb u9 S, rb u10 T, mb b T]) := Lib.hid (hs)
            clear hs HS234
            have HS236 : Hid (St No w w235 [bk (w.heap.size + 1 + 1) 62 #[.int .i64 mk, .int .i64 ma, .int .i64 mt, .int .i64 mz], mb cc S', mb a S, rb u9 S, rb u10 T, mb b T]) := Lib.hid ((HS235.out).get 1)
            clear HS235
            have y0 : w235.cell? ⟨w.heap.size + 1 + 1, 0, none⟩ = some (.int .i64 mk) := cell_of_block HS236.out.bk_at 0
            have y1 : w235.cell? ⟨w.heap.size + 1 + 1, 1, none⟩ = some (.int .i64 ma) := cell_of_block HS236.out.bk_at 1
            have y2 : w235.cell? ⟨w.heap.size + 1 + 1, 2, none⟩ = some (.int .i64 mt) := cell_of_block HS236.out.bk_at 2
            have y3 : w235.cell? ⟨w.heap.size + 1 + 1, 3, none⟩ = some (.int .i64 mz) := cell_of_block HS236.out.bk_at 3
            clear z0 z1 z2 z3
            have HS237 : Hid (St No w w235 [rb u9 S, bk (w.heap.size + 1 + 1) 62 #[.int .i64 mk, .int .i64 ma, .int .i64 mt, .int .i64 mz], mb cc S', mb a S, rb u10 T, mb b T]) := Lib.hid ((HS236.out).get 3)
            clear HS236
            go_wp2_with fail
            refine (Do_rb HS237.out H8S.out HSS.out mk ma mt mz HMZ.out).mono ?_
            rw [HD.out]
            rintro e w238 ⟨V', rfl, hs⟩
            have HS238 : Hid (St No w w238 [both (rb u9 S) (rb V' S'), bk (w.heap.size + 1 + 1) 62 #[.int .i64 mk, .int .i64 ma, .int .i64 mt, .int .i64 mz], mb cc S', mb a S, rb u10 T, mb b T]) := Lib.hid (hs)
            clear hs HS237
            have HS' := Lib.hid (mb_q16 ((HS238.out).get 2))
            have HS239 : Hid (St No w w238 [both (rb u9 S) (rb V' S'), mb cc S', mb a S, rb u10 T, mb b T]) := Lib.hid (((HS238.out).get 1).drop)
            clear HS238
            have HS240 : Hid (St No w (w238.alloc (.cells #[.int .i64 p, .int .i64 q] 64)) [both (rb u9 S) (rb V' S'), mb cc S', mb a S, rb u10 T, mb b T]) := Lib.hid ((HS239.out.allocU (.cells #[.int .i64 p, .int .i64 q] 64)))
            clear HS239
            obtain ⟨r2, hr2⟩ : ∃ r, eqB S S' = r := ⟨_, rfl⟩
            have HER2 := Lib.hid hr2
            have HER3 : Hid (eqB S' S = r2) := Lib.hid ((eqB_comm _ _).trans hr2)
            clear hr2
            have HS241 : Hid (St No w (w238.alloc (.cells #[.int .i64 p, .int .i64 q] 64)) [mb a S, mb cc S', both (rb u9 S) (rb V' S'), rb u10 T, mb b T]) := Lib.hid (((HS240.out).get 1).get 2)
            clear HS240
            go_wp2_with fail
            refine (Mb.Same_st HS241.out).mono ?_
            rw [HER2.out]
            rintro e w242 ⟨rfl, hs⟩
            have HS242 : Hid (St No w w242 [mb a S, mb cc S', both (rb u9 S) (rb V' S'), rb u10 T, mb b T]) := Lib.hid (hs)
            clear hs HS241
            have HS243 : Hid (St No w w242 [both (rb u9 S) (rb V' S'), mb a S, mb cc S', rb u10 T, mb b T]) := Lib.hid ((HS242.out).get 2)
            clear HS242
            go_wp2_with fail
            refine (Same_both HS243.out H8S.out HSS.out HS'.out).mono ?_
            rw [HER2.out]
            rintro e w244 ⟨rfl, hs⟩
            have HS244 : Hid (St No w w244 [both (rb u9 S) (rb V' S'), mb a S, mb cc S', rb u10 T, mb b T]) := Lib.hid (hs)
            clear hs HS243
            have HS245 : Hid (St No w w244 [mb cc S', mb a S, both (rb u9 S) (rb V' S'), rb u10 T, mb b T]) := Lib.hid (((HS244.out).get 1).get 2)
            clear HS244
            go_wp2_with fail
            refine (Mb.Same_st HS245.out).mono ?_
            rw [HER3.out]
            rintro e w246 ⟨rfl, hs⟩
            have HS246 : Hid (St No w w246 [mb cc S', mb a S, both (rb u9 S) (rb V' S'), rb u10 T, mb b T]) := Lib.hid (hs)
            clear hs HS245
            have HS247 : Hid (St No w w246 [both (rb u9 S) (rb V' S'), mb cc S', mb a S, rb u10 T, mb b T]) := Lib.hid ((HS246.out).get 2)
            clear HS246
            go_wp2_with fail
            refine (Same_both HS247.out H8S.out HSS.out HS'.out).mono ?_
            rw [HER2.out]
            rintro e w248 ⟨rfl, hs⟩
            have HS248 : Hid (St No w w248 [both (rb u9 S) (rb V' S'), mb cc S', mb a S, rb u10 T, mb b T]) := Lib.hid (hs)
            clear hs HS247
            go_wp2_with (go_at_call 28; refine (alive_st HS248.out).mono ?_; rintro e w9 ⟨rfl, hs⟩; have HF := Lib.hid hs.up; clear hs)
            go_ret
            exact ⟨rfl, HF.out⟩
end Go.Proofs.Ytiofdkkjjeljmaa.Ref09
