/- EndsApart, walked. -/
import Derived.Test.YtdhgmnnkbjhpaaaEap7
namespace Go.Proofs.Ytdhgmnnkbjhpaaa.Eps
set_option linter.unusedVariables false
set_option linter.unusedSimpArgs false
open Go.RowKit Go.Proofs.Ytdhgmnnkbjhpaaa.Sep Go.Proofs.Ytdhgmnnkbjhpaaa.Mp Go.Proofs.Ytdhgmnnkbjhpaaa.Given Go.Proofs.Ytdhgmnnkbjhpaaa.PEndsApart Go.Proofs.YtdhgmnnkbjhpaaaW.PrintWords
theorem cnt_same {E E' : List EP} {a : Int} (h : findE E' a = findE E a) : cntE E' a = cntE E a := by unfold cntE; rw [h]
set_option maxHeartbeats 16000000 in
set_option maxRecDepth 100000 in
theorem apart_walk (A0 : Option Addr) (c0 : Nat) (l : List S32) (addr : Int) (w : World) (hr : Kd.C k32 w A0 l.length l) (hc : l.length ≤ c0) (hm : c0 ≤ maxLen) (hw : ∀ x ∈ l, (Lit.int .i64 x.f1).wf = true ∧ (Lit.int .i64 x.f2.f1).wf = true) (wa : (Lit.int .i64 addr).wf = true) :
    Calls Try.prog 4 #[.slice A0 l.length c0, .int .i64 addr] w fun x w' => x = .returned (.bool true) ∧ Up w w' := by
  have HR := Lib.hid hr
  have HW := Lib.hid hw
  have HWA := Lib.hid wa
  have HFW := Lib.hid (fun (wx : World) (hu : Up w wx) => few_q l A0 c0 wx (Kd.C_below hr hu) hc hm)
  have HL := Lib.hid (show fewE l = true → l.length ≤ 150 ∧ ∀ x ∈ l, x.f2.f3.length ≤ 50 from fun h => by
    unfold fewE at h
    simp only [Bool.and_eq_true, List.all_eq_true, decide_eq_true_eq] at h
    exact h)
  clear hr hw hc hm wa
  by_cases hb : fewE l = true
  case neg =>
    have hb' : fewE l = false := by simpa using hb
    rw [hb'] at HFW
    clear hb hb'
    go_enter Try.func4, Try.ntmps4
    go_wp2_with (first
      | (go_at_call 12; refine (New_st (St.nil w)).mono ?_; rintro x w1 ⟨e, rfl, hs⟩; have HU1 := Lib.hid hs.up; clear hs)
      | (go_at_call 13; refine (HFW.out _ HU1.out).mono ?_; rintro x w2 ⟨rfl, hu⟩; have HU2 := Lib.hid (HU1.out.trans hu); clear hu)
      | (go_at_call 14; refine (alive_walk _).mono ?_; rintro x w3 ⟨rfl, hu⟩; have HU3 := Lib.hid (HU2.out.trans hu); clear hu))
    go_ret
    exact ⟨rfl, HU3.out⟩
  obtain ⟨hl150, hl50⟩ := HL.out hb
  have HL' := Lib.hid hl50
  rw [hb] at HFW
  clear HL hb hl50
  go_enter Try.func4, Try.ntmps4
  go_wp2_with (first
    | (go_at_call 12; refine (New_st (St.nil w)).mono ?_; rintro x w1 ⟨e, rfl, hs⟩; have HS1 := Lib.hid (eps_start hs); clear hs)
    | (go_at_call 13; refine (HFW.out _ HS1.out.up).mono ?_; rintro x w2 ⟨rfl, hu⟩; have HS2 := Lib.hid (HS1.out.more hu); clear hu))
  clear HFW HS1
  go_loopg [24] l.length (fun gk v24 wx => ∃ (i : Nat) (E : List EP), i ≤ l.length ∧ Hid (i + gk = l.length) ∧ v24 = .int .i64 i ∧ Hid (St No w wx [eps e E]))
  case atStart => exact ⟨0, [], Nat.zero_le _, Lib.hid (Nat.zero_add _), rfl, HS2⟩
  case round =>
    clear HS2
    obtain ⟨i, E, hi, HG, rfl, HS⟩ := hrel
    by_cases hlt : i < l.length
    · obtain ⟨ad, A5, c5, rfl, k0, k1, k2, k3, k4, k5, hl5, hr5⟩ := at_T32 HR.out (i : Int) (by omega) (by omega)
      rw [Int.toNat_natCast] at k0 k1 k2 k3 k4 k5
      have hxm : rd_T32 l (i : Int) ∈ l := by
        unfold rd_T32
        rw [Int.toNat_natCast, List.getD_eq_getElem?_getD, List.getElem?_eq_getElem hlt]
        exact List.getElem_mem hlt
      have hsz := HL'.out _ hxm
      have hwf := HW.out _ hxm
      obtain ⟨⟨k, a, ⟨b0, b1, b2, bl⟩⟩, hx⟩ : ∃ x, rd_T32 l (i : Int) = x := ⟨_, rfl⟩
      rw [hx] at k0 k1 k2 k3 k4 k5 hsz hwf hl5 hr5
      dsimp only at k0 k1 k2 k3 k4 k5 hsz hwf hl5 hr5
      clear hx hxm
      have hu := HS.out.up
      have m0 := cell_up hu k0
      have m1 := cell_up hu k1
      have m2 := cell_up hu k2
      have m3 := cell_up hu k3
      have m4 := cell_up hu k4
      have m5 := cell_up hu k5
      have HSA : Hid (St No w (wr.alloc (.cells #[.int .i64 k, .int .i64 a, .int .i64 b0, .int .i64 b1, .int .i64 b2, .slice A5 bl.length c5] 32)) [eps e E, bk wr.heap.size 32 #[.int .i64 k, .int .i64 a, .int .i64 b0, .int .i64 b1, .int .i64 b2, .slice A5 bl.length c5]]) := Lib.hid ((HS.out.alloc #[.int .i64 k, .int .i64 a, .int .i64 b0, .int .i64 b1, .int .i64 b2, .slice A5 bl.length c5] 32).get 1)
      have HD := Lib.hid (fun (wx : World) (F : List Rg) (hs : St No w wx (eps e E :: F)) => do_q hs k a b0 b1 b2 (Kd.C_below hr5 hs.up) hl5 (by omega) hwf.1 hwf.2)
      have HN1 : Hid (i + 1 + (gk - 1) = l.length) := Lib.hid (by have := HG.out; omega)
      have HN2 : Hid (gk - 1 < gk) := Lib.hid (by have := HG.out; omega)
      have HN3 : Hid (i + 1 ≤ l.length) := Lib.hid (by omega)
      generalize bl.length = nb at *
      clear hu k0 k1 k2 k3 k4 k5 hl5 hr5 hsz hwf HS HG
      go_wp2_with fail
      refine (Has_q HSA.out addr HWA.out).mono ?_
      rintro x w3 ⟨rfl, hu⟩
      have HS3 := Lib.hid (HSA.out.more hu)
      clear hu HSA m0 m1 m2 m3 m4 m5
      go_wp2_with fail
      refine (Waits_q HS3.out addr HWA.out).mono ?_
      rintro x w4 ⟨rfl, hu⟩
      have h4 := HS3.out.more hu
      have q0 : w4.cell? ⟨wr.heap.size, 0, none⟩ = some (.int .i64 k) := cell_of_block (h4.get 1).bk_at 0
      have q1 : w4.cell? ⟨wr.heap.size, 1, none⟩ = some (.int .i64 a) := cell_of_block (h4.get 1).bk_at 1
      have q2 : w4.cell? ⟨wr.heap.size, 2, none⟩ = some (.int .i64 b0) := cell_of_block (h4.get 1).bk_at 2
      have q3 : w4.cell? ⟨wr.heap.size, 3, none⟩ = some (.int .i64 b1) := cell_of_block (h4.get 1).bk_at 3
      have q4 : w4.cell? ⟨wr.heap.size, 4, none⟩ = some (.int .i64 b2) := cell_of_block (h4.get 1).bk_at 4
      have q5 : w4.cell? ⟨wr.heap.size, 5, none⟩ = some (.slice A5 nb c5) := cell_of_block (h4.get 1).bk_at 5
      have HS4 := Lib.hid h4
      clear hu h4 HS3
      go_wp2_with fail
      refine (HD.out _ _ HS4.out).mono ?_
      intro x w5 hd
      unfold DoP at hd
      obtain ⟨a', m0, m1, m2, mA, mn, mc, f, E', rfl, h5, hfd⟩ := hd
      have HFD := Lib.hid hfd
      have h6 := h5.allocU (.cells #[.int .i64 m0, .int .i64 m1, .int .i64 m2, .slice mA mn mc] 30)
      have p0 : (w5.alloc (.cells #[.int .i64 m0, .int .i64 m1, .int .i64 m2, .slice mA mn mc] 30)).cell? ⟨wr.heap.size, 0, none⟩ = some (.int .i64 k) := cell_of_block (h6.get 1).bk_at 0
      have p1 : (w5.alloc (.cells #[.int .i64 m0, .int .i64 m1, .int .i64 m2, .slice mA mn mc] 30)).cell? ⟨wr.heap.size, 1, none⟩ = some (.int .i64 a) := cell_of_block (h6.get 1).bk_at 1
      have p3 : (w5.alloc (.cells #[.int .i64 m0, .int .i64 m1, .int .i64 m2, .slice mA mn mc] 30)).cell? ⟨wr.heap.size, 3, none⟩ = some (.int .i64 b1) := cell_of_block (h6.get 1).bk_at 3
      have HS5 : Hid (St No w _ [eps e E']) := Lib.hid (h6.cut 1)
      have HHAS := Lib.hid (fun (wx : World) (h : St No w wx [eps e E']) => Has_q h addr HWA.out)
      have HWAI := Lib.hid (fun (wx : World) (h : St No w wx [eps e E']) => Waits_q h addr HWA.out)
      have HSAME := Lib.hid (show addr ≠ (if k = 0 then a' else if k = 2 then b1 else a) → (findE E' addr).isSome = (findE E addr).isSome ∧ cntE E' addr = cntE E addr from fun h => ⟨by rw [hfd addr h], cnt_same (hfd addr h)⟩)
      generalize (findE E addr).isSome = has at *
      generalize cntE E addr = cnt at *
      generalize (findE E' addr).isSome = has' at *
      generalize cntE E' addr = cnt' at *
      clear hfd h5 h6 q0 q1 q2 q3 q4 q5 HS4 HD HFD
      rcases (by omega : k = 2 ∨ k = 0 ∨ (k ≠ 0 ∧ k ≠ 2)) with rfl | rfl | ⟨z0, z2⟩
      · by_cases hq : b1 = addr
        · subst hq
          clear HSAME HHAS HWAI
          go_wp2_with fail
          go_roundg (gk - 1)
          case measure => exact HN2.out
          case rel => exact ⟨i + 1, E', HN3.out, HN1, by go_num, HS5⟩
        · have e1 : (b1 == addr) = false := beq_eq_false_iff_ne.2 hq
          obtain ⟨g1, g2⟩ := HSAME.out (by rw [if_neg (by decide), if_pos rfl]; exact fun e => hq e.symm)
          subst g1 g2
          clear HSAME
          go_wp2_with fail
          refine (HHAS.out _ HS5.out).mono ?_
          rintro x w7 ⟨rfl, hu⟩
          have HS7 := Lib.hid (HS5.out.more hu)
          clear hu HHAS HS5
          go_wp2_with fail
          refine (HWAI.out _ HS7.out).mono ?_
          rintro x w8 ⟨rfl, hu⟩
          have HS8 := Lib.hid (HS7.out.more hu)
          clear hu HWAI HS7
          go_wp2_with fail
          go_roundg (gk - 1)
          case measure => exact HN2.out
          case rel => exact ⟨i + 1, E', HN3.out, HN1, by go_num, HS8⟩
      · by_cases hq : a' = addr
        · subst hq
          clear HSAME HHAS HWAI
          go_wp2_with fail
          go_roundg (gk - 1)
          case measure => exact HN2.out
          case rel => exact ⟨i + 1, E', HN3.out, HN1, by go_num, HS5⟩
        · have e1 : (a' == addr) = false := beq_eq_false_iff_ne.2 hq
          obtain ⟨g1, g2⟩ := HSAME.out (by rw [if_pos rfl]; exact fun e => hq e.symm)
          subst g1 g2
          clear HSAME
          go_wp2_with fail
          refine (HHAS.out _ HS5.out).mono ?_
          rintro x w7 ⟨rfl, hu⟩
          have HS7 := Lib.hid (HS5.out.more hu)
          clear hu HHAS HS5
          go_wp2_with fail
          refine (HWAI.out _ HS7.out).mono ?_
          rintro x w8 ⟨rfl, hu⟩
          have HS8 := Lib.hid (HS7.out.more hu)
          clear hu HWAI HS7
          go_wp2_with fail
          go_roundg (gk - 1)
          case measure => exact HN2.out
          case rel => exact ⟨i + 1, E', HN3.out, HN1, by go_num, HS8⟩
      · have y0 : (k == 0) = false := beq_eq_false_iff_ne.2 z0
        have y2 : (k == 2) = false := beq_eq_false_iff_ne.2 z2
        have HZ : Hid (k ≠ 0 ∧ k ≠ 2) := Lib.hid ⟨z0, z2⟩
        clear z0 z2
        by_cases hq : a = addr
        · subst hq
          clear HSAME HHAS HWAI
          go_wp2_with fail
          go_roundg (gk - 1)
          case measure => exact HN2.out
          case rel => exact ⟨i + 1, E', HN3.out, HN1, by go_num, HS5⟩
        · have e1 : (a == addr) = false := beq_eq_false_iff_ne.2 hq
          obtain ⟨g1, g2⟩ := HSAME.out (by rw [if_neg HZ.out.1, if_neg HZ.out.2]; exact fun e => hq e.symm)
          subst g1 g2
          clear HSAME
          go_wp2_with fail
          refine (HHAS.out _ HS5.out).mono ?_
          rintro x w7 ⟨rfl, hu⟩
          have HS7 := Lib.hid (HS5.out.more hu)
          clear hu HHAS HS5
          go_wp2_with fail
          refine (HWAI.out _ HS7.out).mono ?_
          rintro x w8 ⟨rfl, hu⟩
          have HS8 := Lib.hid (HS7.out.more hu)
          clear hu HWAI HS7
          go_wp2_with fail
          go_roundg (gk - 1)
          case measure => exact HN2.out
          case rel => exact ⟨i + 1, E', HN3.out, HN1, by go_num, HS8⟩
    · clear HG
      obtain rfl : i = l.length := by omega
      go_wp2_with fail
      refine (alive_walk _).mono ?_
      rintro x w3 ⟨rfl, hu⟩
      have HU := Lib.hid (HS.out.up.trans hu)
      clear hu HS
      go_wp2_with fail
      go_ret
      exact ⟨rfl, HU.out⟩
end Go.Proofs.Ytdhgmnnkbjhpaaa.Eps
