/- MboxPlays, walked. -/
import Derived.Test.YtiofdkkjjeljmaaMbPlays0
namespace Go.Proofs.Ytiofdkkjjeljmaa.Ref09
set_option linter.unusedVariables false
set_option linter.unusedSimpArgs false
open Go.RowKit Go.Proofs.Ytiofdkkjjeljmaa.Sep Go.Proofs.Ytiofdkkjjeljmaa.Mb Go.Proofs.Ytiofdkkjjeljmaa.Open

set_option maxHeartbeats 16000000 in
set_option maxRecDepth 100000 in
theorem plays_walk (n : Nat) (h1 : 1 ≤ n) (h2 : n ≤ 8) (A : Option Addr) (c : Nat) (rows : List (List Int)) (w : World) (hr : Recs 4 w A rows) (hw : ∀ q ∈ rows, q.length = 4 ∧ ∀ z ∈ q, (Lit.int .i64 z).wf = true) (hl : rows.length ≤ 120) :
    Calls Try.prog 7 #[.int .i64 n, .slice A rows.length c] w fun e w' => e = .returned (.bool true) ∧ Up w w' := by
  have HR := Lib.hid hr
  have HW := Lib.hid hw
  clear hr hw
  have g1 : decide ((rows.length : Int) > 120) = false := decide_eq_false (by omega)
  have HI := Lib.hid (Is_walk n)
  rw [decide_eq_true (show 1 ≤ (n : Int) ∧ (n : Int) ≤ 8 by omega)] at HI
  have hmk := run_mkBox n h2
  have HS0 := Lib.hid (St.nil w)
  go_enter Try.func7, Try.ntmps7
  go_wp2_with (first
    | (go_at_call 29; refine (New_st HS0.out n h1 h2).mono ?_; rintro e w1 ⟨b, rfl, hs⟩; have hs2 := rb_zer n h2 hs; have HS1 := Lib.hid hs2; clear hs hs2)
    | (go_at_call 30; (with_reducible refine (HI.out _).mono ?_); rintro e w2 ⟨rfl, rfl⟩)
    | fail)
  have hs2 := HS1.out.get 1
  have hs : St No w (w2.alloc (.cells (zer n).toArray 72)) [mb b (List.replicate n ⟨0, [], by omega⟩), rb (.slice (some ⟨w2.heap.size, 0, none⟩) n n) (List.replicate n ⟨0, [], by omega⟩)] := hs2
  have HS2 := Lib.hid hs
  have hlen : Hid ((List.replicate n (⟨0, [], by omega⟩ : MC)).length = n) := Lib.hid (by simp)
  clear hs hs2 HS1 HS0 HI hmk
  generalize (List.replicate n (⟨0, [], by omega⟩ : MC)) = S0 at *
  generalize (zer n).toArray = zz at *
  go_loopw [42, 6] (fun v42 v6 wx => ∃ (i : Nat) (S : List MC), i ≤ rows.length ∧ v42 = .int .i64 i ∧ Hid (S.length = n) ∧ Hid (St No w wx [mb b S, rb v6 S])) (fun v42 _ _ => rows.length - (intOf v42).toNat)
  case atStart => exact ⟨0, S0, Nat.zero_le _, rfl, hlen, HS2⟩
  case round =>
    clear HS2 hlen
    obtain ⟨i, S, hi, rfl, HL, HS⟩ := hrel
    by_cases hlt : i < rows.length
    · obtain ⟨ad, rfl, k, a, t, z, k0, k1, k2, k3, hz⟩ : ∃ ad, A = some ad ∧ ∃ k a t z, w.cell? (ad.add (i * 4)) = some (.int .i64 k) ∧ w.cell? ⟨(ad.add (i * 4)).block, (ad.add (i * 4)).off + 1, none⟩ = some (.int .i64 a) ∧ w.cell? ⟨(ad.add (i * 4)).block, (ad.add (i * 4)).off + 2, none⟩ = some (.int .i64 t) ∧ w.cell? ⟨(ad.add (i * 4)).block, (ad.add (i * 4)).off + 3, none⟩ = some (.int .i64 z) ∧ (-9223372036854775808 ≤ z ∧ z ≤ 9223372036854775807) := by
        obtain ⟨ad, k, a, t, z, e, h⟩ := row4_wf HR.out HW.out i hlt
        exact ⟨ad, e, k, a, t, z, h⟩
      have hu := HS.out.up
      have e0 := cell_up hu k0
      have e1 := cell_up hu k1
      have e2 := cell_up hu k2
      have e3 := cell_up hu k3
      have HZ := Lib.hid hz
      clear k0 k1 k2 k3 hu hz
      have h8 := (mb_le HS.out).2
      have h16 := mb_q16 HS.out
      obtain ⟨S', p, q, e0', hd⟩ : ∃ S' p q e0', doM S k a t z = (S', (p, q), e0') := ⟨_, _, _, _, rfl⟩
      have HD := Lib.hid hd
      have HL2 : Hid (S'.length = n) := Lib.hid (by have := doM_len S k a t z; rw [hd] at this; exact this.trans HL.out)
      have ha : St No w (wr.alloc (.cells #[.int .i64 k, .int .i64 a, .int .i64 t, .int .i64 z] 62)) [rb u6 S, mb b S, bk wr.heap.size 62 #[.int .i64 k, .int .i64 a, .int .i64 t, .int .i64 z]] := ((HS.out.alloc _ 62).get 1).get 2
      have HP := Lib.hid (Do_rb ha h8 h16 k a t z HZ.out)
      have y8 : St No w (wr.alloc (.cells #[.int .i64 k, .int .i64 a, .int .i64 t, .int .i64 z] 62)) (bk wr.heap.size 62 #[.int .i64 k, .int .i64 a, .int .i64 t, .int .i64 z] :: _) := ha.get 2
      have c0 : (wr.alloc (.cells #[.int .i64 k, .int .i64 a, .int .i64 t, .int .i64 z] 62)).cell? ⟨wr.heap.size, 0, none⟩ = some (.int .i64 k) := cell_of_block y8.bk_at 0
      have c1 : (wr.alloc (.cells #[.int .i64 k, .int .i64 a, .int .i64 t, .int .i64 z] 62)).cell? ⟨wr.heap.size, 1, none⟩ = some (.int .i64 a) := cell_of_block y8.bk_at 1
      have c2 : (wr.alloc (.cells #[.int .i64 k, .int .i64 a, .int .i64 t, .int .i64 z] 62)).cell? ⟨wr.heap.size, 2, none⟩ = some (.int .i64 t) := cell_of_block y8.bk_at 2
      have c3 : (wr.alloc (.cells #[.int .i64 k, .int .i64 a, .int .i64 t, .int .i64 z] 62)).cell? ⟨wr.heap.size, 3, none⟩ = some (.int .i64 z) := cell_of_block y8.bk_at 3
      rw [HD.out] at HP
      clear hd h16 ha y8 HS
      go_wp2_with fail
      refine HP.out.mono ?_
      rintro e w4 ⟨V', rfl, hs⟩
      have hs4 : St No w (w4.alloc (.cells #[.int .i64 p, .int .i64 q] 64)) [mb b S, bk w4.heap.size 64 #[.int .i64 p, .int .i64 q], rb V' S', bk wr.heap.size 62 #[.int .i64 k, .int .i64 a, .int .i64 t, .int .i64 z]] := (((St.right hs).alloc #[.int .i64 p, .int .i64 q] 64).get 2)
      have y8 : St No w w4 (bk wr.heap.size 62 #[.int .i64 k, .int .i64 a, .int .i64 t, .int .i64 z] :: _) := hs.get 2
      have d0 : w4.cell? ⟨wr.heap.size, 0, none⟩ = some (.int .i64 k) := cell_of_block y8.bk_at 0
      have d1 : w4.cell? ⟨wr.heap.size, 1, none⟩ = some (.int .i64 a) := cell_of_block y8.bk_at 1
      have d2 : w4.cell? ⟨wr.heap.size, 2, none⟩ = some (.int .i64 t) := cell_of_block y8.bk_at 2
      have d3 : w4.cell? ⟨wr.heap.size, 3, none⟩ = some (.int .i64 z) := cell_of_block y8.bk_at 3
      have n1 := y8.bk_in.2
      have n2 := World.new_ne w4 _ d0
      have HS4 := Lib.hid hs4
      clear hs hs4 y8 HP
      go_wp2_with fail
      refine (do_st HS4.out k a t z).mono ?_
      rw [HD.out]
      rintro e w5 ⟨rfl, hs⟩
      have y10 : St No w w5 (bk w4.heap.size 64 #[.int .i64 p, .int .i64 q] :: _) := hs.get 1
      have m0 : w5.cell? ⟨w4.heap.size, 0, none⟩ = some (.int .i64 p) := cell_of_block y10.bk_at 0
      have m1 : w5.cell? ⟨w4.heap.size, 1, none⟩ = some (.int .i64 q) := cell_of_block y10.bk_at 1
      have n3 := y10.bk_in.2
      have n4 := World.new_ne w5 _ m0
      have HS5 := Lib.hid ((((hs.cut 1).cut 2).alloc #[.int .i64 p, .int .i64 q] 64).drop)
      clear hs y10 HS4
      go_wp2
      go_roundw
      case rel => exact ⟨i + 1, S', by omega, by go_num, HL2, HS5⟩
      case measure => simp [intOf]; omega
    · obtain rfl : i = rows.length := by omega
      clear HR HW hi hlt
      have hL := HL.out
      obtain ⟨AV, cV, rfl, hc1, hc2⟩ := rb_form (HS.out.get 1)
      rw [hL] at hc1 HS ⊢
      have HS2 := Lib.hid HS.out
      clear HS
      go_wp2_with fail
      go_loopw [71] (fun v71 wx => ∃ i : Nat, i ≤ n ∧ v71 = .int .i64 i ∧ Hid (St No w wx [mb b (emp S i), rb (.slice AV n cV) S])) (fun v71 _ => n - (intOf v71).toNat)
      case atStart => exact ⟨0, Nat.zero_le _, rfl, HS2⟩
      case round =>
        clear HS2
        obtain ⟨i, hi, rfl, HS⟩ := hrel
        by_cases hlt : i < n
        · have hiS : i < S.length := by rw [hL]; exact hlt
          have hiE : i < (emp S i).length := by rw [emp_len]; exact hiS
          obtain ⟨g, o, c', Ai, ci, eV, hbits, hlist, hst⟩ := rb_core (HS.out.get 1) i hiS
          rw [hL] at eV
          obtain ⟨rfl, -, rfl⟩ := Value.slice.inj eV
          have HE1 : Hid (emp S (i + 1) = (emp S i).set i (cutC (S.getD i default) (S.getD i default).q.length)) := Lib.hid rfl
          have HE0 := Lib.hid (cut_zero S i hiS)
          have HPD : Hid (pendM (emp S i) i = (((S.getD i default).m : Int), 0)) := Lib.hid (by unfold pendM; rw [if_pos (by omega), Int.toNat_natCast, emp_at S i i (Nat.le_refl _)])
          have HWT : Hid (waitM (emp S i) i = ((S.getD i default).q.length : Int)) := Lib.hid (by unfold waitM; rw [if_pos (by omega), Int.toNat_natCast, emp_at S i i (Nat.le_refl _)])
          have HIE := Lib.hid hiE
          have hm8 := (S.getD i default).hm
          have hq16 : (S.getD i default).q.length ≤ 16 := by
            have h9 := mb_q16 HS.out ((emp S i).getD i default) (by rw [List.getD_eq_getElem?_getD, List.getElem?_eq_getElem hiE]; exact List.getElem_mem hiE)
            rwa [emp_at S i i (Nat.le_refl _)] at h9
          have k0 : wr.cell? ⟨g, o + i * 9, none⟩ = some (.bool ((S.getD i default).m.testBit 0)) := hbits 0 (by omega)
          have k1 := hbits 1 (by omega)
          rw [← Nat.add_assoc] at k1
          have k2 := hbits 2 (by omega)
          rw [← Nat.add_assoc] at k2
          have k3 := hbits 3 (by omega)
          rw [← Nat.add_assoc] at k3
          have k4 := hbits 4 (by omega)
          rw [← Nat.add_assoc] at k4
          have k5 := hbits 5 (by omega)
          rw [← Nat.add_assoc] at k5
          have k6 := hbits 6 (by omega)
          rw [← Nat.add_assoc] at k6
          have k7 := hbits 7 (by omega)
          rw [← Nat.add_assoc] at k7
          rw [← Nat.add_assoc] at hlist
          have HG := Lib.hid (bl_core (S.getD i default).m (.slice Ai (S.getD i default).q.length ci))
          have hbl : cbs (bl (S.getD i default).m) (.slice Ai (S.getD i default).q.length ci) = #[.bool ((S.getD i default).m.testBit 0), .bool ((S.getD i default).m.testBit 1), .bool ((S.getD i default).m.testBit 2), .bool ((S.getD i default).m.testBit 3), .bool ((S.getD i default).m.testBit 4), .bool ((S.getD i default).m.testBit 5), .bool ((S.getD i default).m.testBit 6), .bool ((S.getD i default).m.testBit 7), .slice Ai (S.getD i default).q.length ci] := rfl
          have ha : St No w (wr.alloc (.cells (cbs (bl (S.getD i default).m) (.slice Ai (S.getD i default).q.length ci)) 72)) [mb b (emp S i), _, _] := (hst.alloc (cbs (bl (S.getD i default).m) (.slice Ai (S.getD i default).q.length ci)) 72).get 2
          rw [hbl] at ha HG
          generalize (S.getD i default).m.testBit 0 = b0 at k0 ha HG
          generalize (S.getD i default).m.testBit 1 = b1 at k1 ha HG
          generalize (S.getD i default).m.testBit 2 = b2 at k2 ha HG
          generalize (S.getD i default).m.testBit 3 = b3 at k3 ha HG
          generalize (S.getD i default).m.testBit 4 = b4 at k4 ha HG
          generalize (S.getD i default).m.testBit 5 = b5 at k5 ha HG
          generalize (S.getD i default).m.testBit 6 = b6 at k6 ha HG
          generalize (S.getD i default).m.testBit 7 = b7 at k7 ha HG
          generalize S.getD i default = D at *
          obtain ⟨nq, hn⟩ : ∃ nq, D.q.length = nq := ⟨_, rfl⟩
          have HN := Lib.hid hn
          rw [hn] at ha hlist HG HWT HE1
          rw [hn] at hq16
          have HM := Lib.hid hm8
          have HS3 := Lib.hid ha
          clear hst hbits hbl ha hn hm8 HS eV hiE
          go_wp2_with fail
          refine (Pending_st HS3.out (i : Int)).mono ?_
          rw [HPD.out]
          rintro e w4 ⟨rfl, hs⟩
          generalize wr.heap.size = b15 at hs HS3 ⊢
          have y15 : St No w w4 (bk b15 72 #[.bool b0, .bool b1, .bool b2, .bool b3, .bool b4, .bool b5, .bool b6, .bool b7, .slice Ai nq ci] :: _) := hs.get 1
          have z0 : w4.cell? ⟨b15, 0, none⟩ = some (.bool b0) := cell_of_block y15.bk_at 0
          have z1 : w4.cell? ⟨b15, 1, none⟩ = some (.bool b1) := cell_of_block y15.bk_at 1
          have z2 : w4.cell? ⟨b15, 2, none⟩ = some (.bool b2) := cell_of_block y15.bk_at 2
          have z3 : w4.cell? ⟨b15, 3, none⟩ = some (.bool b3) := cell_of_block y15.bk_at 3
          have z4 : w4.cell? ⟨b15, 4, none⟩ = some (.bool b4) := cell_of_block y15.bk_at 4
          have z5 : w4.cell? ⟨b15, 5, none⟩ = some (.bool b5) := cell_of_block y15.bk_at 5
          have z6 : w4.cell? ⟨b15, 6, none⟩ = some (.bool b6) := cell_of_block y15.bk_at 6
          have z7 : w4.cell? ⟨b15, 7, none⟩ = some (.bool b7) := cell_of_block y15.bk_at 7
          have z8 : w4.cell? ⟨b15, 8, none⟩ = some (.slice Ai nq ci) := cell_of_block y15.bk_at 8
          have HS4 := Lib.hid hs
          have HK := Lib.hid (fun w => Mask_walk D.m HM.out Ai nq ci w)
          rw [← HG.out] at HK
          clear hs y15 HS3 HPD
          go_wp2_with fail
          go_region_held3 (fun wx => wx.cell? ⟨b15, 0, none⟩ = some (.bool b0) ∧ wx.cell? ⟨b15, 1, none⟩ = some (.bool b1) ∧ wx.cell? ⟨b15, 2, none⟩ = some (.bool b2) ∧ wx.cell? ⟨b15, 3, none⟩ = some (.bool b3) ∧ wx.cell? ⟨b15, 4, none⟩ = some (.bool b4) ∧ wx.cell? ⟨b15, 5, none⟩ = some (.bool b5) ∧ wx.cell? ⟨b15, 6, none⟩ = some (.bool b6) ∧ wx.cell? ⟨b15, 7, none⟩ = some (.bool b7) ∧ wx.cell? ⟨b15, 8, none⟩ = some (.slice Ai nq ci) ∧ Hid (St No w wx [mb b (emp S i), bk b15 72 #[.bool b0, .bool b1, .bool b2, .bool b3, .bool b4, .bool b5, .bool b6, .bool b7, .slice Ai nq ci], both (rb (.slice (some ⟨g, o, none⟩) n cV) S) (il (.slice Ai nq ci) D.q)]))
            (first | exact ⟨z0, z1, z2, z3, z4, z5, z6, z7, z8, Lib.hid HS4.out.drew⟩ | (go_split_ands; exact ⟨cell_up hu (by assumption), cell_up hu (by assumption), cell_up hu (by assumption), cell_up hu (by assumption), cell_up hu (by assumption), cell_up hu (by assumption), cell_up hu (by assumption), cell_up hu (by assumption), cell_up hu (by assumption), Lib.hid (hst.more hu)⟩) | (go_split_ands; exact ⟨cell_of_block (St.bk_at (hs6.get 1)) 0, cell_of_block (St.bk_at (hs6.get 1)) 1, cell_of_block (St.bk_at (hs6.get 1)) 2, cell_of_block (St.bk_at (hs6.get 1)) 3, cell_of_block (St.bk_at (hs6.get 1)) 4, cell_of_block (St.bk_at (hs6.get 1)) 5, cell_of_block (St.bk_at (hs6.get 1)) 6, cell_of_block (St.bk_at (hs6.get 1)) 7, cell_of_block (St.bk_at (hs6.get 1)) 8, Lib.hid hs6⟩))
            (first
              | (go_at_call 34; go_split_ands; have hst := Hid.out (‹Hid (St No w _ _)›); refine (HK.out _).mono ?_; rintro e w5 ⟨rfl, hu⟩)
              | (go_at_call 35; go_split_ands; have hst := Hid.out (‹Hid (St No w _ _)›); refine (Waits_st hst (i : Int)).mono ?_; rw [HWT.out]; rintro e w6 ⟨rfl, hs6⟩))
          go_split_ands
          have z8' : w6.cell? ⟨b15, 8, none⟩ = some (.slice Ai nq ci) := cell_of_block (St.bk_at (hs6.get 1)) 8
          have hs7 : St No w w6 [mb b (emp S i), both (rb (.slice (some ⟨g, o, none⟩) n cV) S) (il (.slice Ai nq ci) D.q)] := hs6.cut 1
          have HS7 := Lib.hid hs7
          clear hs6 hs7 HS4 HK HG HWT
          clear z0 z1 z2 z3 z4 z5 z6 z7 z8
          go_wp2_with fail
          go_loopw [102] (fun v102 wx => ∃ j : Nat, j ≤ nq ∧ v102 = .int .i64 j ∧ Hid (St No w wx [mb b ((emp S i).set i (cutC D j)), both (rb (.slice (some ⟨g, o, none⟩) n cV) S) (il (.slice Ai nq ci) D.q)])) (fun v102 _ => nq - (intOf v102).toNat)
          case atStart => exact ⟨0, Nat.zero_le _, rfl, by rw [HE0.out]; exact HS7⟩
          case round =>
            clear HS7
            obtain ⟨j, hj, rfl, HS⟩ := hrel
            by_cases hlt2 : j < nq
            · have hjq : j < D.q.length := by rw [HN.out]; exact hlt2
              have hx : St No w wr (il (.slice Ai nq ci) D.q :: _) := (HS.out.get 1).right
              obtain ⟨_, _, e, -, -, hcI⟩ := il_form hx
              rw [HN.out] at e
              cases e
              obtain ⟨g2, o2, rfl, y0, y1⟩ := hcI j hjq
              have HT := Lib.hid (take_cut (emp S i) i HIE.out D j hjq 0 0)
              clear hcI hx hjq
              generalize D.q.getD j default = x at *
              have ha : St No w (wr.alloc (.cells #[.int .i64 (x.f : Int), .int .i64 (x.w : Int)] 64)) [mb b ((emp S i).set i (cutC D j)), bk wr.heap.size 64 #[.int .i64 (x.f : Int), .int .i64 (x.w : Int)], both (rb (.slice (some ⟨g, o, none⟩) n cV) S) (il (.slice (some ⟨g2, o2, none⟩) nq ci) D.q)] := (HS.out.alloc #[.int .i64 (x.f : Int), .int .i64 (x.w : Int)] 64).get 1
              have HS5 := Lib.hid ha
              clear ha HS
              go_wp2_with fail
              refine (do_st HS5.out 3 (i : Int) 0 0).mono ?_
              rw [HT.out]
              rintro e w7 ⟨rfl, hs⟩
              have y19 : St No w w7 (bk wr.heap.size 64 #[.int .i64 (x.f : Int), .int .i64 (x.w : Int)] :: _) := hs.get 1
              have q0 : w7.cell? ⟨wr.heap.size, 0, none⟩ = some (.int .i64 (x.f : Int)) := cell_of_block y19.bk_at 0
              have q1 : w7.cell? ⟨wr.heap.size, 1, none⟩ = some (.int .i64 (x.w : Int)) := cell_of_block y19.bk_at 1
              have n1 := y19.bk_in.2
              have n2 := World.new_ne w7 _ q0
              have HS8 := Lib.hid (((hs.cut 1).alloc #[.int .i64 (x.f : Int), .int .i64 (x.w : Int)] 64).drop)
              clear hs y19 HS5 HT
              go_wp2
              go_roundw
              case rel => exact ⟨j + 1, by omega, by go_num, HS8⟩
              case measure => simp [intOf]; omega
            · obtain rfl : j = nq := by omega
              have hE := HE1.out
              have HS9 : Hid (St No w wr [mb b (emp S (i + 1)), rb (.slice (some ⟨g, o, none⟩) n cV) S]) := Lib.hid (by rw [hE]; exact (HS.out.get 1).left.get 1)
              clear hE HS HE1 HE0 HN
              go_wp2
              go_roundw
              case rel => exact ⟨i + 1, by omega, by go_num, HS9⟩
              case measure => simp [intOf]; omega
        · obtain rfl : i = n := by omega
          have W1 : Hid (waitM (emp S i) (-1) = 0) := Lib.hid (if_neg (by omega))
          have W2 : Hid (waitM (emp S i) (i : Int) = 0) := Lib.hid (if_neg (by rw [emp_len, hL]; omega))
          clear hL HL
          go_wp2_with fail
          refine (Waits_st HS.out (-1)).mono ?_
          rw [W1.out]
          rintro e w4 ⟨rfl, hs⟩
          have HS4 := Lib.hid hs
          clear hs
          go_wp2_with fail
          refine (Waits_st HS4.out (i : Int)).mono ?_
          rw [W2.out]
          rintro e w5 ⟨rfl, hs⟩
          have HS5 := Lib.hid hs
          clear hs
          go_wp2_with (go_at_call 28; refine (alive_st HS5.out).mono ?_; rintro e w6 ⟨rfl, hs⟩; have HF := Lib.hid hs.up; clear hs)
          go_ret
          exact ⟨rfl, HF.out⟩
end Go.Proofs.Ytiofdkkjjeljmaa.Ref09
