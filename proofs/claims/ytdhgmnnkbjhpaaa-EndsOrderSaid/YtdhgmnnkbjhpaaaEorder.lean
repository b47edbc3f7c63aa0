/- EndsOrder, walked; written by mkeorder.py. -/
import Derived.Test.YtdhgmnnkbjhpaaaEo2
namespace Go.Proofs.Ytdhgmnnkbjhpaaa.Eor
set_option linter.unusedVariables false
set_option linter.unusedSimpArgs false
open Go.RowKit Go.Proofs.Ytdhgmnnkbjhpaaa.Sep Go.Proofs.Ytdhgmnnkbjhpaaa.Mp Go.Proofs.Ytdhgmnnkbjhpaaa.Given Go.Proofs.Ytdhgmnnkbjhpaaa.Eps Go.Proofs.Ytdhgmnnkbjhpaaa.Epx Go.Proofs.Ytdhgmnnkbjhpaaa.PEndsOrder Go.Proofs.YtdhgmnnkbjhpaaaW.PrintWords
theorem info30 : (Try.prog.info? 30).map (fun i => (i.zero, i.size, i.bytes)) = some (some (.agg #[.int .i64 0, .int .i64 0, .int .i64 0, .slice none 0 0]), 4, 48) := by kernel_rfl
/-- The lists and the endpoints fit. -/
def InvO (L : List EL) (addr : Int) (ins outs : List MS) (ni no i : Nat) : Prop := ni = ins.length ∧ no = outs.length ∧ ni ≤ i ∧ ins = outs ++ msL L addr ∧ ∀ x ∈ ins, x.b.length ≤ 50
theorem invO_same {L L' : List EL} {addr : Int} {ins outs : List MS} {ni no i : Nat} (h : InvO L addr ins outs ni no i) (e : msL L' addr = msL L addr) : InvO L' addr ins outs ni no (i + 1) ∧ ni = no + cntL L' addr := by
  obtain ⟨h1, h2, h3, h4, h5⟩ := h
  refine ⟨⟨h1, h2, by omega, by rw [e]; exact h4, h5⟩, ?_⟩
  rw [cnt_ms, e, h1, h2, h4, List.length_append]
theorem invO_nil {L' : List EL} {addr : Int} {i : Nat} (e : msL L' addr = []) : InvO L' addr [] [] 0 0 (i + 1) ∧ 0 = 0 + cntL L' addr := by
  refine ⟨⟨rfl, rfl, by omega, by rw [e]; rfl, fun x hx => by simp at hx⟩, ?_⟩
  rw [cnt_ms, e]
  rfl
theorem invO_in {L L' : List EL} {addr : Int} {ins outs : List MS} {ni no i : Nat} {m : MS} (h : InvO L addr ins outs ni no i) (e : msL L' addr = msL L addr ++ [m]) (hm : m.b.length ≤ 50) : InvO L' addr (ins ++ [m]) outs (ni + 1) no (i + 1) ∧ ni + 1 = no + cntL L' addr := by
  obtain ⟨h1, h2, h3, h4, h5⟩ := h
  refine ⟨⟨by simp [h1], h2, by omega, by rw [e, h4, List.append_assoc], fun x hx => ?_⟩, ?_⟩
  · rcases List.mem_append.1 hx with hx | hx
    · exact h5 x hx
    · obtain rfl := List.mem_singleton.1 hx
      exact hm
  · rw [cnt_ms, e, h1, h2, h4]
    simp
    omega
theorem invO_out {L L' : List EL} {addr : Int} {ins outs : List MS} {ni no i : Nat} {q : MS} (h : InvO L addr ins outs ni no i) (e : msL L addr = q :: msL L' addr) : InvO L' addr ins (outs ++ [q]) ni (no + 1) (i + 1) ∧ ni = no + 1 + cntL L' addr := by
  obtain ⟨h1, h2, h3, h4, h5⟩ := h
  refine ⟨⟨h1, by simp [h2], by omega, by rw [h4, e, List.append_assoc]; rfl, h5⟩, ?_⟩
  rw [cnt_ms, h1, h2, h4, e]
  simp
  omega
theorem invO_le {L : List EL} {addr : Int} {ins outs : List MS} {ni no i : Nat} (h : InvO L addr ins outs ni no i) : no ≤ ni := by
  obtain ⟨h1, h2, h3, h4, h5⟩ := h
  rw [h1, h2, h4, List.length_append]
  omega
theorem invO_at {L : List EL} {addr : Int} {ins outs : List MS} {ni no i : Nat} (h : InvO L addr ins outs ni no i) {j : Nat} (hj : j < no) : ins.getD j default = outs.getD j default ∧ (outs.getD j default).b.length ≤ 50 := by
  obtain ⟨h1, h2, h3, h4, h5⟩ := h
  have e1 : ins.getD j default = outs.getD j default := by
    rw [h4, List.getD_eq_getElem?_getD, List.getD_eq_getElem?_getD, List.getElem?_append_left (by omega)]
  refine ⟨e1, ?_⟩
  rw [List.getD_eq_getElem?_getD, List.getElem?_eq_getElem (by omega)]
  refine h5 _ ?_
  rw [h4]
  exact List.mem_append_left _ (List.getElem_mem (by omega))
theorem in_done {P0 : Nat → Prop} {w0 w1 w : World} {e ni no co nb : Nat} {L : List EL} {ins outs : List MS} {bs : List (Option Addr × Nat)} {m : MS} {A5 A7 Ao : Option Addr} {c5 c7 : Nat} {B C : Rg} (hbs : bs.length = ins.length ∧ wdsL w1 ins bs) (hn : ni = ins.length) (hm : wds w1 m (A5, c5)) (hb : m.b.length = nb)
    (h : St P0 w0 w [slc 30 4 (.slice A7 (ni + 1) c7) (ni + 1) (rcs mcf ins bs ++ [.int .i64 m.a0, .int .i64 m.a1, .int .i64 m.a2, .slice A5 nb c5]), B, ep e L, C, outq (.slice Ao no co) outs]) : St P0 w0 w [ep e L, inq w1 (.slice A7 (ni + 1) c7) (ins ++ [m]), outq (.slice Ao no co) outs] := by
  subst hb
  have h1 : St P0 w0 w (slc 30 4 (.slice A7 (ni + 1) c7) (ni + 1) (rcs mcf ins bs ++ mcf m (A5, c5)) :: [ep e L, outq (.slice Ao no co) outs]) := (h.cut 1).cut 2
  exact (inq_push hbs hn hm h1).get 1
theorem out_done {P0 : Nat → Prop} {w0 w1 w : World} {e ni no ci nq : Nat} {L : List EL} {ins outs : List MS} {bs : List (Option Addr × Nat)} {m : MS} {Aq A7 Ai : Option Addr} {cq c7 : Nat} {B C : Rg} (hbs : bs.length = outs.length) (hn : no = outs.length) (hb : m.b.length = nq)
    (h : St P0 w0 w [slc 30 4 (.slice A7 (no + 1) c7) (no + 1) (rcs mcf outs bs ++ [.int .i64 m.a0, .int .i64 m.a1, .int .i64 m.a2, .slice Aq nq cq]), B, big (rps mpf outs bs), C, ep e L, mpf m (Aq, cq), inq w1 (.slice Ai ni ci) ins]) : St P0 w0 w [ep e L, inq w1 (.slice Ai ni ci) ins, outq (.slice A7 (no + 1) c7) (outs ++ [m])] := by
  subst hb
  have h1 : St P0 w0 w (slc 30 4 (.slice A7 (no + 1) c7) (no + 1) (rcs mcf outs bs ++ mcf m (Aq, cq)) :: big (rps mpf outs bs) :: mpf m (Aq, cq) :: [ep e L, inq w1 (.slice Ai ni ci) ins]) := (((h.cut 1).cut 2).get 3).get 2 |>.get 2
  have h2 : St P0 w0 w (outq (.slice A7 (no + 1) c7) (outs ++ [m]) :: [ep e L, inq w1 (.slice Ai ni ci) ins]) := out_push hbs hn h1
  exact (h2.get 2).get 2
set_option maxHeartbeats 16000000 in
set_option maxRecDepth 100000 in
theorem order_walk (A0 : Option Addr) (c0 : Nat) (l : List S32) (addr : Int) (w : World) (hr : Kd.C k32 w A0 l.length l) (hc : l.length ≤ c0) (hm : c0 ≤ maxLen) (hw : ∀ x ∈ l, (Lit.int .i64 x.f1).wf = true ∧ (Lit.int .i64 x.f2.f1).wf = true) (wa : (Lit.int .i64 addr).wf = true) :
    Calls Try.prog 3 #[.slice A0 l.length c0, .int .i64 addr] w fun x w' => x = .returned (.bool true) ∧ Up w w' := by
  have HR := Lib.hid hr
  have HW := Lib.hid hw
  have HWA := Lib.hid wa
  have HFW := Lib.hid (fun (wx : World) (hu : Up w wx) => few_q l A0 c0 wx (Kd.C_below hr hu) hc hm)
  have HL := Lib.hid (show fewE l = true → l.length ≤ 150 ∧ ∀ x ∈ l, x.f2.f3.length ≤ 50 from fun h => by
    unfold fewE at h
    simp only [Bool.and_eq_true, List.all_eq_true, decide_eq_true_eq] at h
    exact h)
  clear hr hw hc hm wa
  by_cases hb : fewE l = true
  case neg =>
    have hb' : fewE l = false := by simpa using hb
    rw [hb'] at HFW
    clear hb hb'
    go_enter Try.func3, Try.ntmps3
    go_wp2_with (first
      | (go_at_call 12; refine (New_st (St.nil w)).mono ?_; rintro x w1 ⟨e, rfl, hs⟩; have HU1 := Lib.hid hs.up; clear hs)
      | (go_at_call 13; refine (HFW.out _ HU1.out).mono ?_; rintro x w2 ⟨rfl, hu⟩; have HU2 := Lib.hid (HU1.out.trans hu); clear hu)
      | (go_at_call 14; refine (alive_walk _).mono ?_; rintro x w3 ⟨rfl, hu⟩; have HU3 := Lib.hid (HU2.out.trans hu); clear hu))
    go_ret
    exact ⟨rfl, HU3.out⟩
  obtain ⟨hl150, hl50⟩ := HL.out hb
  have HL' := Lib.hid hl50
  rw [hb] at HFW
  clear HL hb hl50
  obtain ⟨t0, ht0, hz0, hz1, hz2⟩ := info_of' info30
  go_enter Try.func3, Try.ntmps3
  go_wp2_with (first
    | (go_at_call 12; refine (New_st (St.nil w)).mono ?_; rintro x w1 ⟨e, rfl, hs⟩; have HS1 := Lib.hid (ep_start hs); clear hs)
    | (go_at_call 13; refine (HFW.out _ HS1.out.up).mono ?_; rintro x w2 ⟨rfl, hu⟩; have HS2 : Hid (St No w w2 [ep e [], inq w (.slice none 0 0) [], outq (.slice none 0 0) []]) := Lib.hid ((inq_nil (out_nil (HS1.out.more hu))).get 2); clear hu))
  clear HFW HS1
  go_loopg [26, 6, 7] l.length (fun gk v26 v6 v7 wx => ∃ (i : Nat) (L : List EL) (ins outs : List MS) (Ai Ao : Option Addr) (ni ci no co : Nat), i ≤ l.length ∧ Hid (i + gk = l.length) ∧ v26 = .int .i64 i ∧ v6 = .slice Ai ni ci ∧ v7 = .slice Ao no co ∧ Hid (InvO L addr ins outs ni no i) ∧ Hid (St No w wx [ep e L, inq w (.slice Ai ni ci) ins, outq (.slice Ao no co) outs]))
  case atStart => exact ⟨0, [], [], [], none, none, 0, 0, 0, 0, Nat.zero_le _, Lib.hid (Nat.zero_add _), rfl, rfl, rfl, Lib.hid ⟨rfl, rfl, Nat.le_refl _, rfl, fun x hx => by simp at hx⟩, Lib.hid (HS2.out)⟩
  case round =>
    clear HS2
    obtain ⟨i, L, ins, outs, Ai, Ao, ni, ci, no, co, hi, HG, rfl, rfl, rfl, HI, HS⟩ := hrel
    by_cases hlt : i < l.length
    · obtain ⟨ad, A5, c5, rfl, k0, k1, k2, k3, k4, k5, hl5, hr5⟩ := at_T32 HR.out (i : Int) (by omega) (by omega)
      rw [Int.toNat_natCast] at k0 k1 k2 k3 k4 k5
      have hxm : rd_T32 l (i : Int) ∈ l := by
        unfold rd_T32
        rw [Int.toNat_natCast, List.getD_eq_getElem?_getD, List.getElem?_eq_getElem hlt]
        exact List.getElem_mem hlt
      have hsz := HL'.out _ hxm
      have hwf := HW.out _ hxm
      obtain ⟨⟨k, a, ⟨b0, b1, b2, bl⟩⟩, hx⟩ : ∃ x, rd_T32 l (i : Int) = x := ⟨_, rfl⟩
      rw [hx] at k0 k1 k2 k3 k4 k5 hsz hwf hl5 hr5
      dsimp only at k0 k1 k2 k3 k4 k5 hsz hwf hl5 hr5
      clear hx hxm
      have hu := HS.out.up
      have m0 := cell_up hu k0
      have m1 := cell_up hu k1
      have m2 := cell_up hu k2
      have m3 := cell_up hu k3
      have m4 := cell_up hu k4
      have m5 := cell_up hu k5
      have HSA : Hid (St No w (wr.alloc (.cells #[.int .i64 k, .int .i64 a, .int .i64 b0, .int .i64 b1, .int .i64 b2, .slice A5 bl.length c5] 32)) [ep e L, bk wr.heap.size 32 #[.int .i64 k, .int .i64 a, .int .i64 b0, .int .i64 b1, .int .i64 b2, .slice A5 bl.length c5], inq w (.slice Ai ni ci) ins, outq (.slice Ao no co) outs]) := Lib.hid ((HS.out.alloc #[.int .i64 k, .int .i64 a, .int .i64 b0, .int .i64 b1, .int .i64 b2, .slice A5 bl.length c5] 32).get 1)
      have HD := Lib.hid (do_x HSA.out k a b0 b1 b2 (Kd.C_below hr5 HSA.out.up) hl5 (by omega) hwf.1 hwf.2)
      have HWM : Hid (wds w ⟨b0, b1, b2, bl⟩ (A5, c5) ∧ bl.length ≤ 50) := Lib.hid ⟨⟨hl5, hr5⟩, hsz⟩
      have HSTP := Lib.hid (ord_step L k a addr ⟨b0, b1, b2, bl⟩)
      have HN1 : Hid (i + 1 + (gk - 1) = l.length) := Lib.hid (by have := HG.out; omega)
      have HN2 : Hid (gk - 1 < gk) := Lib.hid (by have := HG.out; omega)
      have HN3 : Hid (i + 1 ≤ l.length) := Lib.hid (by omega)
      have HB : Hid (no ≤ ni ∧ ni ≤ 150) := Lib.hid ⟨invO_le HI.out, by have := HI.out.2.2.1; omega⟩
      obtain ⟨⟨L', a', ⟨q0, q1, q2, ql⟩, f⟩, hd⟩ : ∃ r, doL L k a ⟨b0, b1, b2, bl⟩ = r := ⟨_, rfl⟩
      rw [hd] at HD
      have HST := Lib.hid (HSTP.out _ _ _ _ hd)
      obtain ⟨nb, hnb⟩ : ∃ n, bl.length = n := ⟨_, rfl⟩
      obtain ⟨nq, hnq⟩ : ∃ n, ql.length = n := ⟨_, rfl⟩
      rw [hnb] at HD HSA m5
      have HNB := Lib.hid hnb
      have HNQ := Lib.hid hnq
      clear hu k0 k1 k2 k3 k4 k5 hl5 hr5 hsz hwf HS HG hd HSTP hnb
      go_wp2_with fail
      refine HD.out.mono ?_
      intro x w5 hd
      unfold DoX at hd
      dsimp only at hd
      rw [hnq] at hd
      obtain ⟨Aq, cq, rfl, h5⟩ := hd
      have h6 : St No w _ (bk w5.heap.size 30 #[.int .i64 q0, .int .i64 q1, .int .i64 q2, .slice Aq nq cq] :: ep e L' :: mpf ⟨q0, q1, q2, ql⟩ (Aq, cq) :: bk wr.heap.size 32 #[.int .i64 k, .int .i64 a, .int .i64 b0, .int .i64 b1, .int .i64 b2, .slice A5 nb c5] :: [inq w (.slice Ai ni ci) ins, outq (.slice Ao no co) outs]) := h5.alloc #[.int .i64 q0, .int .i64 q1, .int .i64 q2, .slice Aq nq cq] 30
      have p0 : (w5.alloc (.cells #[.int .i64 q0, .int .i64 q1, .int .i64 q2, .slice Aq nq cq] 30)).cell? ⟨wr.heap.size, 0, none⟩ = some (.int .i64 k) := cell_of_block (h6.get 3).bk_at 0
      have p1 : (w5.alloc (.cells #[.int .i64 q0, .int .i64 q1, .int .i64 q2, .slice Aq nq cq] 30)).cell? ⟨wr.heap.size, 1, none⟩ = some (.int .i64 a) := cell_of_block (h6.get 3).bk_at 1
      have p2 : (w5.alloc (.cells #[.int .i64 q0, .int .i64 q1, .int .i64 q2, .slice Aq nq cq] 30)).cell? ⟨wr.heap.size, 2, none⟩ = some (.int .i64 b0) := cell_of_block (h6.get 3).bk_at 2
      have p3 : (w5.alloc (.cells #[.int .i64 q0, .int .i64 q1, .int .i64 q2, .slice Aq nq cq] 30)).cell? ⟨wr.heap.size, 3, none⟩ = some (.int .i64 b1) := cell_of_block (h6.get 3).bk_at 3
      have p4 : (w5.alloc (.cells #[.int .i64 q0, .int .i64 q1, .int .i64 q2, .slice Aq nq cq] 30)).cell? ⟨wr.heap.size, 4, none⟩ = some (.int .i64 b2) := cell_of_block (h6.get 3).bk_at 4
      have p5 : (w5.alloc (.cells #[.int .i64 q0, .int .i64 q1, .int .i64 q2, .slice Aq nq cq] 30)).cell? ⟨wr.heap.size, 5, none⟩ = some (.slice A5 nb c5) := cell_of_block (h6.get 3).bk_at 5
      have y0 : (w5.alloc (.cells #[.int .i64 q0, .int .i64 q1, .int .i64 q2, .slice Aq nq cq] 30)).cell? ⟨w5.heap.size, 0, none⟩ = some (.int .i64 q0) := cell_of_block h6.bk_at 0
      have y1 : (w5.alloc (.cells #[.int .i64 q0, .int .i64 q1, .int .i64 q2, .slice Aq nq cq] 30)).cell? ⟨w5.heap.size, 1, none⟩ = some (.int .i64 q1) := cell_of_block h6.bk_at 1
      have y2 : (w5.alloc (.cells #[.int .i64 q0, .int .i64 q1, .int .i64 q2, .slice Aq nq cq] 30)).cell? ⟨w5.heap.size, 2, none⟩ = some (.int .i64 q2) := cell_of_block h6.bk_at 2
      have y3 : (w5.alloc (.cells #[.int .i64 q0, .int .i64 q1, .int .i64 q2, .slice Aq nq cq] 30)).cell? ⟨w5.heap.size, 3, none⟩ = some (.slice Aq nq cq) := cell_of_block h6.bk_at 3
      have HS6 := Lib.hid h6
      have HWT := Lib.hid (fun (wx : World) (F : List Rg) (h : St No w wx (ep e L' :: F)) => Waits_x h addr HWA.out)
      obtain ⟨cn, hcn⟩ : ∃ n, cntL L' addr = n := ⟨_, rfl⟩
      rw [hcn] at HWT
      have HCN := Lib.hid hcn
      clear h5 h6 hnq hcn HSA HD m0 m1 m2 m3 m4 m5
      by_cases hf : f = 0
      case neg =>
        have ef : (f == 0) = false := beq_eq_false_iff_ne.2 hf
        obtain ⟨hi1, hi2⟩ := invO_same HI.out (HST.out.1 hf)
        rw [HCN.out] at hi2
        have HI' := Lib.hid hi1
        have g1 : ¬ ((ni : Nat) : Int) < ((no : Nat) : Int) := by omega
        have g2 : wrap64 (((ni : Nat) : Int) - ((no : Nat) : Int)) = (cn : Int) := by have := HB.out; unfold wrap64; omega
        have g3 : ((ni : Nat) : Int) - ((no : Nat) : Int) = (cn : Int) := by omega
        have g4 : ¬ ni < no := by omega
        have g5 : wrap64 (cn : Int) = (cn : Int) := by have := HB.out; unfold wrap64; omega
        clear hi1 hi2
        have HS7 : Hid (St No w _ [ep e L', inq w (.slice Ai ni ci) ins, outq (.slice Ao no co) outs]) := Lib.hid (((HS6.out.cut 0).cut 1).cut 1)
        clear HS6 HST HI
        go_wp2_with fail
        refine (HWT.out _ _ HS7.out).mono ?_
        rintro x w8 ⟨rfl, hu⟩
        have HS8 := Lib.hid (HS7.out.more hu)
        clear hu HWT HS7
        go_wp2_with fail
        go_roundg (gk - 1)
        case measure => exact HN2.out
        case rel => exact ⟨i + 1, L', ins, outs, Ai, Ao, ni, ci, no, co, HN3.out, HN1, by go_num, rfl, rfl, HI', HS8⟩
      subst hf
      rcases (by omega : k = 0 ∨ k = 1 ∨ k = 2 ∨ (k ≠ 0 ∧ k ≠ 1 ∧ k ≠ 2)) with rfl | rfl | rfl | ⟨z0, z1, z2⟩
      · by_cases hq : a' = addr
        · have HQ := Lib.hid hq
          subst hq
          obtain ⟨hi1, hi2⟩ := invO_nil (i := i) (HST.out.2.1 rfl rfl rfl)
          rw [HCN.out] at hi2
          have HI' := Lib.hid hi1
          obtain rfl : cn = 0 := by omega
          clear hi1 hi2
          have HS7 : Hid (St No w _ [ep e L', inq w (.slice none 0 0) [], outq (.slice none 0 0) []]) := Lib.hid ((inq_nil (out_nil (((((HS6.out.cut 0).cut 1).cut 1).cut 1).cut 1))).get 2)
          clear HS6 HST HI
          go_wp2_with fail
          refine (HWT.out _ _ HS7.out).mono ?_
          rintro x w8 ⟨rfl, hu⟩
          have HS8 := Lib.hid (HS7.out.more hu)
          clear hu HWT HS7
          go_wp2_with fail
          go_roundg (gk - 1)
          case measure => exact HN2.out
          case rel => exact ⟨i + 1, L', [], [], none, none, 0, 0, 0, 0, HN3.out, HN1, by go_num, rfl, rfl, HI', HS8⟩
        · have e1 : (a' == addr) = false := beq_eq_false_iff_ne.2 hq
          obtain ⟨hi1, hi2⟩ := invO_same HI.out (HST.out.2.2.1 rfl rfl hq)
          rw [HCN.out] at hi2
          have HI' := Lib.hid hi1
          have g1 : ¬ ((ni : Nat) : Int) < ((no : Nat) : Int) := by omega
          have g2 : wrap64 (((ni : Nat) : Int) - ((no : Nat) : Int)) = (cn : Int) := by have := HB.out; unfold wrap64; omega
          have g3 : ((ni : Nat) : Int) - ((no : Nat) : Int) = (cn : Int) := by omega
          have g4 : ¬ ni < no := by omega
          have g5 : wrap64 (cn : Int) = (cn : Int) := by have := HB.out; unfold wrap64; omega
          clear hi1 hi2
          have HS7 : Hid (St No w _ [ep e L', inq w (.slice Ai ni ci) ins, outq (.slice Ao no co) outs]) := Lib.hid (((HS6.out.cut 0).cut 1).cut 1)
          clear HS6 HST HI
          go_wp2_with fail
          refine (HWT.out _ _ HS7.out).mono ?_
          rintro x w8 ⟨rfl, hu⟩
          have HS8 := Lib.hid (HS7.out.more hu)
          clear hu HWT HS7
          go_wp2_with fail
          go_roundg (gk - 1)
          case measure => exact HN2.out
          case rel => exact ⟨i + 1, L', ins, outs, Ai, Ao, ni, ci, no, co, HN3.out, HN1, by go_num, rfl, rfl, HI', HS8⟩
      · by_cases hq : a = addr
        · have HQ := Lib.hid hq
          subst hq
          obtain ⟨hi1, hi2⟩ := invO_nil (i := i) (HST.out.2.2.2.1 rfl rfl rfl)
          rw [HCN.out] at hi2
          have HI' := Lib.hid hi1
          obtain rfl : cn = 0 := by omega
          clear hi1 hi2
          have HS7 : Hid (St No w _ [ep e L', inq w (.slice none 0 0) [], outq (.slice none 0 0) []]) := Lib.hid ((inq_nil (out_nil (((((HS6.out.cut 0).cut 1).cut 1).cut 1).cut 1))).get 2)
          clear HS6 HST HI
          go_wp2_with fail
          refine (HWT.out _ _ HS7.out).mono ?_
          rintro x w8 ⟨rfl, hu⟩
          have HS8 := Lib.hid (HS7.out.more hu)
          clear hu HWT HS7
          go_wp2_with fail
          go_roundg (gk - 1)
          case measure => exact HN2.out
          case rel => exact ⟨i + 1, L', [], [], none, none, 0, 0, 0, 0, HN3.out, HN1, by go_num, rfl, rfl, HI', HS8⟩
        · have e1 : (a == addr) = false := beq_eq_false_iff_ne.2 hq
          obtain ⟨hi1, hi2⟩ := invO_same HI.out (HST.out.2.2.2.2.1 rfl rfl hq)
          rw [HCN.out] at hi2
          have HI' := Lib.hid hi1
          have g1 : ¬ ((ni : Nat) : Int) < ((no : Nat) : Int) := by omega
          have g2 : wrap64 (((ni : Nat) : Int) - ((no : Nat) : Int)) = (cn : Int) := by have := HB.out; unfold wrap64; omega
          have g3 : ((ni : Nat) : Int) - ((no : Nat) : Int) = (cn : Int) := by omega
          have g4 : ¬ ni < no := by omega
          have g5 : wrap64 (cn : Int) = (cn : Int) := by have := HB.out; unfold wrap64; omega
          clear hi1 hi2
          have HS7 : Hid (St No w _ [ep e L', inq w (.slice Ai ni ci) ins, outq (.slice Ao no co) outs]) := Lib.hid (((HS6.out.cut 0).cut 1).cut 1)
          clear HS6 HST HI
          go_wp2_with fail
          refine (HWT.out _ _ HS7.out).mono ?_
          rintro x w8 ⟨rfl, hu⟩
          have HS8 := Lib.hid (HS7.out.more hu)
          clear hu HWT HS7
          go_wp2_with fail
          go_roundg (gk - 1)
          case measure => exact HN2.out
          case rel => exact ⟨i + 1, L', ins, outs, Ai, Ao, ni, ci, no, co, HN3.out, HN1, by go_num, rfl, rfl, HI', HS8⟩
      · by_cases hq : b1 = addr
        · have HQ := Lib.hid hq
          subst hq
          obtain ⟨hi1, hi2⟩ := invO_in HI.out (HST.out.2.2.2.2.2.1 rfl rfl rfl) HWM.out.2
          rw [HCN.out] at hi2
          have HI' := Lib.hid hi1
          have g1 : ¬ (((ni + 1) : Nat) : Int) < ((no : Nat) : Int) := by omega
          have g2 : wrap64 ((((ni + 1) : Nat) : Int) - ((no : Nat) : Int)) = (cn : Int) := by have := HB.out; unfold wrap64; omega
          have g3 : (((ni + 1) : Nat) : Int) - ((no : Nat) : Int) = (cn : Int) := by omega
          have g4 : ¬ (ni + 1) < no := by omega
          have g5 : wrap64 (cn : Int) = (cn : Int) := by have := HB.out; unfold wrap64; omega
          have g6 : ¬ ((ni : Int) + 1) < (no : Int) := by omega
          have g7 : wrap64 (((ni : Int) + 1) - (no : Int)) = (cn : Int) := by have := HB.out; unfold wrap64; omega
          have g8 : ((ni : Int) + 1) - (no : Int) = (cn : Int) := by omega
          clear hi1 hi2
          have hq := ((HS6.out.cut 0).cut 1).get 2
          obtain ⟨bs, hbs, h8⟩ := inq_any hq
          have h9 := h8.alloc #[.int .i64 b0, .int .i64 b1, .int .i64 b2, .slice A5 nb c5] 30
          rw [World.size_alloc] at h9
          have HRD := Lib.hid (Rd.of_block (sz := 4) (m := 1) h9.bk_at rfl (by simp [Value.oneCell']))
          have HS8 : Hid (St No w _ (slc 30 4 (.slice Ai ni ci) ins.length (rcs mcf ins bs) :: bk (w5.heap.size + 1) 30 #[.int .i64 b0, .int .i64 b1, .int .i64 b2, .slice A5 nb c5] :: ep e L' :: bk wr.heap.size 32 #[.int .i64 2, .int .i64 a, .int .i64 b0, .int .i64 b1, .int .i64 b2, .slice A5 nb c5] :: [outq (.slice Ao no co) outs])) := Lib.hid (h9.get 1)
          have hsl : ni = ins.length := HI.out.1
          have HBS : Hid (bs.length = ins.length ∧ wdsL w ins bs) := Lib.hid hbs
          rw [← hsl] at HS8
          have HSL := Lib.hid hsl
          clear hq hbs h8 h9 hsl HS6 HST
          go_wp2_with (at_builtin; refine St.append 30 t0 (.agg #[.int .i64 0, .int .i64 0, .int .i64 0, .slice none 0 0]) 4 48 HS8.out rfl (.tmp 71) (.tmp 74) 27 rfl Try.underlying27 ht0 hz0 hz1 hz2 rfl (by decide) rfl (some ⟨w5.heap.size + 1, 0, none⟩) 1 1 [.int .i64 b0, .int .i64 b1, .int .i64 b2, .slice A5 nb c5] rfl HRD.out (by have := HB.out; unfold maxLen; omega) (by have := HB.out; omega) ?_; intro A7 c7 w7 hs hz; have HS7 : Hid (St No w w7 [ep e L', inq w (.slice A7 (ni + 1) c7) (ins ++ [⟨b0, b1, b2, bl⟩]), outq (.slice Ao no co) outs]) := Lib.hid (in_done HBS.out HSL.out HWM.out.1 HNB.out hs); have z0 : w7.cell? ⟨wr.heap.size, 0, none⟩ = some (.int .i64 2) := cell_of_block (hs.get 3).bk_at 0; clear hs hz HS8)
          refine (HWT.out _ _ HS7.out).mono ?_
          rintro x w8 ⟨rfl, hu⟩
          have HS8 := Lib.hid (HS7.out.more hu)
          clear hu HWT HS7
          go_wp2_with fail
          go_roundg (gk - 1)
          case measure => exact HN2.out
          case rel => exact ⟨i + 1, L', (ins ++ [⟨b0, b1, b2, bl⟩]), outs, A7, Ao, ni + 1, c7, no, co, HN3.out, HN1, by go_num, rfl, rfl, HI', HS8⟩
        · have e1 : (b1 == addr) = false := beq_eq_false_iff_ne.2 hq
          obtain ⟨hi1, hi2⟩ := invO_same HI.out (HST.out.2.2.2.2.2.2.1 rfl rfl hq)
          rw [HCN.out] at hi2
          have HI' := Lib.hid hi1
          have g1 : ¬ ((ni : Nat) : Int) < ((no : Nat) : Int) := by omega
          have g2 : wrap64 (((ni : Nat) : Int) - ((no : Nat) : Int)) = (cn : Int) := by have := HB.out; unfold wrap64; omega
          have g3 : ((ni : Nat) : Int) - ((no : Nat) : Int) = (cn : Int) := by omega
          have g4 : ¬ ni < no := by omega
          have g5 : wrap64 (cn : Int) = (cn : Int) := by have := HB.out; unfold wrap64; omega
          clear hi1 hi2
          have HS7 : Hid (St No w _ [ep e L', inq w (.slice Ai ni ci) ins, outq (.slice Ao no co) outs]) := Lib.hid (((HS6.out.cut 0).cut 1).cut 1)
          clear HS6 HST HI
          go_wp2_with fail
          refine (HWT.out _ _ HS7.out).mono ?_
          rintro x w8 ⟨rfl, hu⟩
          have HS8 := Lib.hid (HS7.out.more hu)
          clear hu HWT HS7
          go_wp2_with fail
          go_roundg (gk - 1)
          case measure => exact HN2.out
          case rel => exact ⟨i + 1, L', ins, outs, Ai, Ao, ni, ci, no, co, HN3.out, HN1, by go_num, rfl, rfl, HI', HS8⟩
      · have y0' : (k == 0) = false := beq_eq_false_iff_ne.2 z0
        have y1' : (k == 1) = false := beq_eq_false_iff_ne.2 z1
        have y2' : (k == 2) = false := beq_eq_false_iff_ne.2 z2
        have HZ : Hid (k ≠ 0 ∧ k ≠ 1 ∧ k ≠ 2) := Lib.hid ⟨z0, z1, z2⟩
        have n0 : (k != 0) = true := by simp [bne, y0']
        have n1 : (k != 1) = true := by simp [bne, y1']
        have n2 : (k != 2) = true := by simp [bne, y2']
        by_cases hq : a = addr
        · have HQ := Lib.hid hq
          subst hq
          obtain ⟨hi1, hi2⟩ := invO_out HI.out (HST.out.2.2.2.2.2.2.2.1 rfl HZ.out.1 HZ.out.2.1 HZ.out.2.2 rfl)
          rw [HCN.out] at hi2
          have HI' := Lib.hid hi1
          have g1 : ¬ ((ni : Nat) : Int) < (((no + 1) : Nat) : Int) := by omega
          have g2 : wrap64 (((ni : Nat) : Int) - (((no + 1) : Nat) : Int)) = (cn : Int) := by have := HB.out; unfold wrap64; omega
          have g3 : ((ni : Nat) : Int) - (((no + 1) : Nat) : Int) = (cn : Int) := by omega
          have g4 : ¬ ni < (no + 1) := by omega
          have g5 : wrap64 (cn : Int) = (cn : Int) := by have := HB.out; unfold wrap64; omega
          have g6 : ¬ (ni : Int) < ((no : Int) + 1) := by omega
          have g7 : wrap64 ((ni : Int) - ((no : Int) + 1)) = (cn : Int) := by have := HB.out; unfold wrap64; omega
          have g8 : (ni : Int) - ((no : Int) + 1) = (cn : Int) := by omega
          clear hi1 hi2
          have hq := (HS6.out.cut 3).get 4
          obtain ⟨bs, hbs, h8⟩ := row_any hq
          have h9 := h8.alloc #[.int .i64 q0, .int .i64 q1, .int .i64 q2, .slice Aq nq cq] 30
          rw [World.size_alloc] at h9
          have HRD := Lib.hid (Rd.of_block (sz := 4) (m := 1) h9.bk_at rfl (by simp [Value.oneCell']))
          have HS8 : Hid (St No w _ (slc 30 4 (.slice Ao no co) outs.length (rcs mcf outs bs) :: bk (w5.heap.size + 1) 30 #[.int .i64 q0, .int .i64 q1, .int .i64 q2, .slice Aq nq cq] :: big (rps mpf outs bs) :: bk w5.heap.size 30 #[.int .i64 q0, .int .i64 q1, .int .i64 q2, .slice Aq nq cq] :: ep e L' :: mpf ⟨q0, q1, q2, ql⟩ (Aq, cq) :: [inq w (.slice Ai ni ci) ins])) := Lib.hid (h9.get 1)
          have hsl : no = outs.length := HI.out.2.1
          have HBS : Hid (bs.length = outs.length) := Lib.hid hbs
          rw [← hsl] at HS8
          have HSL := Lib.hid hsl
          clear hq hbs h8 h9 hsl HS6 HST
          go_wp2_with (at_builtin; refine St.append 30 t0 (.agg #[.int .i64 0, .int .i64 0, .int .i64 0, .slice none 0 0]) 4 48 HS8.out rfl (.tmp 96) (.tmp 98) 27 rfl Try.underlying27 ht0 hz0 hz1 hz2 rfl (by decide) rfl (some ⟨w5.heap.size + 1, 0, none⟩) 1 1 [.int .i64 q0, .int .i64 q1, .int .i64 q2, .slice Aq nq cq] rfl HRD.out (by have := HB.out; unfold maxLen; omega) (by have := HB.out; omega) ?_; intro A7 c7 w7 hs hz; have HS7 : Hid (St No w w7 [ep e L', inq w (.slice Ai ni ci) ins, outq (.slice A7 (no + 1) c7) (outs ++ [⟨q0, q1, q2, ql⟩])]) := Lib.hid (out_done HBS.out HSL.out HNQ.out hs); clear hs hz HS8)
          refine (HWT.out _ _ HS7.out).mono ?_
          rintro x w8 ⟨rfl, hu⟩
          have HS8 := Lib.hid (HS7.out.more hu)
          clear hu HWT HS7
          go_wp2_with fail
          go_roundg (gk - 1)
          case measure => exact HN2.out
          case rel => exact ⟨i + 1, L', ins, (outs ++ [⟨q0, q1, q2, ql⟩]), Ai, A7, ni, ci, no + 1, c7, HN3.out, HN1, by go_num, rfl, rfl, HI', HS8⟩
        · have e1 : (a == addr) = false := beq_eq_false_iff_ne.2 hq
          obtain ⟨hi1, hi2⟩ := invO_same HI.out (HST.out.2.2.2.2.2.2.2.2 rfl HZ.out.1 HZ.out.2.1 HZ.out.2.2 hq)
          rw [HCN.out] at hi2
          have HI' := Lib.hid hi1
          have g1 : ¬ ((ni : Nat) : Int) < ((no : Nat) : Int) := by omega
          have g2 : wrap64 (((ni : Nat) : Int) - ((no : Nat) : Int)) = (cn : Int) := by have := HB.out; unfold wrap64; omega
          have g3 : ((ni : Nat) : Int) - ((no : Nat) : Int) = (cn : Int) := by omega
          have g4 : ¬ ni < no := by omega
          have g5 : wrap64 (cn : Int) = (cn : Int) := by have := HB.out; unfold wrap64; omega
          clear hi1 hi2
          have HS7 : Hid (St No w _ [ep e L', inq w (.slice Ai ni ci) ins, outq (.slice Ao no co) outs]) := Lib.hid (((HS6.out.cut 0).cut 1).cut 1)
          clear HS6 HST HI
          go_wp2_with fail
          refine (HWT.out _ _ HS7.out).mono ?_
          rintro x w8 ⟨rfl, hu⟩
          have HS8 := Lib.hid (HS7.out.more hu)
          clear hu HWT HS7
          go_wp2_with fail
          go_roundg (gk - 1)
          case measure => exact HN2.out
          case rel => exact ⟨i + 1, L', ins, outs, Ai, Ao, ni, ci, no, co, HN3.out, HN1, by go_num, rfl, rfl, HI', HS8⟩
    · clear HG
      obtain rfl : i = l.length := by omega
      have HB : Hid (no ≤ ni ∧ ni ≤ 150) := Lib.hid ⟨invO_le HI.out, by have := HI.out.2.2.1; omega⟩
      go_wp2
      go_loopg [119] no (fun gk v119 wx => ∃ j : Nat, j ≤ no ∧ Hid (j + gk = no) ∧ v119 = .int .i64 j ∧ Hid (St No w wx [ep e L, inq w (.slice Ai ni ci) ins, outq (.slice Ao no co) outs]))
      case atStart => exact ⟨0, Nat.zero_le _, Lib.hid (Nat.zero_add _), rfl, HS⟩
      case round =>
        clear HS
        obtain ⟨j, hj, HG, rfl, HS⟩ := hrel
        by_cases hjn : j < no
        · have HN1 : Hid (j + 1 + (gk - 1) = no) := Lib.hid (by have := HG.out; omega)
          have HN2 : Hid (gk - 1 < gk) := Lib.hid (by have := HG.out; omega)
          have HN3 : Hid (j + 1 ≤ no) := Lib.hid (by omega)
          have hno : no ≤ 150 := by have := HB.out; omega
          have hji : j < ni := by have := HB.out.1; omega
          obtain ⟨g, o, B, cB, rfl, s0', s1', s2', s3', hwo⟩ := out_at HI.out.2.1 (HS.out.get 2) hjn
          obtain ⟨g', o', B', cB', rfl, r0', r1', r2', r3', hwi⟩ := inq_at HI.out.1 (HS.out.get 1) hji
          obtain ⟨hsame, hbl⟩ := invO_at HI.out hjn
          rw [hsame] at r0' r1' r2' r3' hwi
          clear hsame
          obtain ⟨⟨x0, x1, x2, xl⟩, hx⟩ : ∃ x, outs.getD j default = x := ⟨_, rfl⟩
          rw [hx] at r0' r1' r2' r3' hwi s0' s1' s2' s3' hwo hbl
          dsimp only at r0' r1' r2' r3' hwi s0' s1' s2' s3' hwo hbl
          clear hx
          have HUW := Lib.hid (HS.out.up)
          have HSM := Lib.hid (fun (wx : World) (hu : Up wr wx) => same_u (l := xl) x0 x1 x2 (Kd.C_below hwo.2 hu) hwo.1 (Kd.C_below hwi.2 (HUW.out.trans hu)) hwi.1 (by have : xl.length ≤ 50 := hbl; omega))
          generalize xl.length = nx at *
          have s0 : wr.cell? ⟨g, o + j * 4, none⟩ = some (.int .i64 x0) := by have := s0'; rwa [show o + (j * 4 + 0) = o + j * 4 from by omega] at this
          have s1 : wr.cell? ⟨g, o + j * 4 + 1, none⟩ = some (.int .i64 x1) := by have := s1'; rwa [show o + (j * 4 + 1) = o + j * 4 + 1 from by omega] at this
          have s2 : wr.cell? ⟨g, o + j * 4 + 2, none⟩ = some (.int .i64 x2) := by have := s2'; rwa [show o + (j * 4 + 2) = o + j * 4 + 2 from by omega] at this
          have s3 : wr.cell? ⟨g, o + j * 4 + 3, none⟩ = some (.slice B nx cB) := by have := s3'; rwa [show o + (j * 4 + 3) = o + j * 4 + 3 from by omega] at this
          have r0 : wr.cell? ⟨g', o' + j * 4, none⟩ = some (.int .i64 x0) := by have := r0'; rwa [show o' + (j * 4 + 0) = o' + j * 4 from by omega] at this
          have r1 : wr.cell? ⟨g', o' + j * 4 + 1, none⟩ = some (.int .i64 x1) := by have := r1'; rwa [show o' + (j * 4 + 1) = o' + j * 4 + 1 from by omega] at this
          have r2 : wr.cell? ⟨g', o' + j * 4 + 2, none⟩ = some (.int .i64 x2) := by have := r2'; rwa [show o' + (j * 4 + 2) = o' + j * 4 + 2 from by omega] at this
          have r3 : wr.cell? ⟨g', o' + j * 4 + 3, none⟩ = some (.slice B' nx cB') := by have := r3'; rwa [show o' + (j * 4 + 3) = o' + j * 4 + 3 from by omega] at this
          have HUB : Hid (Up wr (wr.alloc (.cells #[.int .i64 x0, .int .i64 x1, .int .i64 x2, .slice B nx cB] 30))) := Lib.hid ((Up.refl wr).alloc _)
          have hsb := HS.out.alloc #[.int .i64 x0, .int .i64 x1, .int .i64 x2, .slice B nx cB] 30
          have b0 : (wr.alloc (.cells #[.int .i64 x0, .int .i64 x1, .int .i64 x2, .slice B nx cB] 30)).cell? ⟨wr.heap.size, 0, none⟩ = some (.int .i64 x0) := cell_of_block hsb.bk_at 0
          have b1 : (wr.alloc (.cells #[.int .i64 x0, .int .i64 x1, .int .i64 x2, .slice B nx cB] 30)).cell? ⟨wr.heap.size, 1, none⟩ = some (.int .i64 x1) := cell_of_block hsb.bk_at 1
          have b2 : (wr.alloc (.cells #[.int .i64 x0, .int .i64 x1, .int .i64 x2, .slice B nx cB] 30)).cell? ⟨wr.heap.size, 2, none⟩ = some (.int .i64 x2) := cell_of_block hsb.bk_at 2
          have b3 : (wr.alloc (.cells #[.int .i64 x0, .int .i64 x1, .int .i64 x2, .slice B nx cB] 30)).cell? ⟨wr.heap.size, 3, none⟩ = some (.slice B nx cB) := cell_of_block hsb.bk_at 3
          have d0 : (wr.alloc (.cells #[.int .i64 x0, .int .i64 x1, .int .i64 x2, .slice B nx cB] 30)).cell? ⟨g', o' + j * 4, none⟩ = some (.int .i64 x0) := cell_up HUB.out r0
          have d1 : (wr.alloc (.cells #[.int .i64 x0, .int .i64 x1, .int .i64 x2, .slice B nx cB] 30)).cell? ⟨g', o' + j * 4 + 1, none⟩ = some (.int .i64 x1) := cell_up HUB.out r1
          have d2 : (wr.alloc (.cells #[.int .i64 x0, .int .i64 x1, .int .i64 x2, .slice B nx cB] 30)).cell? ⟨g', o' + j * 4 + 2, none⟩ = some (.int .i64 x2) := cell_up HUB.out r2
          have d3 : (wr.alloc (.cells #[.int .i64 x0, .int .i64 x1, .int .i64 x2, .slice B nx cB] 30)).cell? ⟨g', o' + j * 4 + 3, none⟩ = some (.slice B' nx cB') := cell_up HUB.out r3
          have HSB : Hid (St No w (wr.alloc (.cells #[.int .i64 x0, .int .i64 x1, .int .i64 x2, .slice B nx cB] 30)) [ep e L, inq w (.slice (some ⟨g', o', none⟩) ni ci) ins, outq (.slice (some ⟨g, o, none⟩) no co) outs]) := Lib.hid hsb.drop
          clear hwo hwi hbl s0' s1' s2' s3' r0' r1' r2' r3' r0 r1 r2 r3 HS HG hsb
          go_upto_region 22 with fail
          have HUB2 := HUB.out
          generalize wr.alloc (.cells #[.int .i64 x0, .int .i64 x1, .int .i64 x2, .slice B nx cB] 30) = wb at *
          go_region_held3 (fun wx => wx.cell? ⟨wr.heap.size, 0, none⟩ = some (.int .i64 x0) ∧ wx.cell? ⟨wr.heap.size, 1, none⟩ = some (.int .i64 x1) ∧ wx.cell? ⟨wr.heap.size, 2, none⟩ = some (.int .i64 x2) ∧ wx.cell? ⟨wr.heap.size, 3, none⟩ = some (.slice B nx cB) ∧ wx.cell? ⟨g', o' + j * 4, none⟩ = some (.int .i64 x0) ∧ wx.cell? ⟨g', o' + j * 4 + 1, none⟩ = some (.int .i64 x1) ∧ wx.cell? ⟨g', o' + j * 4 + 2, none⟩ = some (.int .i64 x2) ∧ wx.cell? ⟨g', o' + j * 4 + 3, none⟩ = some (.slice B' nx cB') ∧ Hid (Up wb wx))
            (first | exact ⟨b0, b1, b2, b3, d0, d1, d2, d3, Lib.hid (Up.drew (Up.refl _))⟩ | (go_split_ands; exact ⟨pw_cell_below hu (by assumption), pw_cell_below hu (by assumption), pw_cell_below hu (by assumption), pw_cell_below hu (by assumption), pw_cell_below hu (by assumption), pw_cell_below hu (by assumption), pw_cell_below hu (by assumption), pw_cell_below hu (by assumption), Lib.hid (Up.trans (Hid.out (by assumption)) hu)⟩))
            (first | (go_at_call 17; go_split_ands; refine (HSM.out _ (HUB.out.trans (Hid.out (by assumption)))).mono ?_; rintro x w9 ⟨rfl, hu⟩))
          go_split_ands
          have hu9 : Up wb w9 := Hid.out (by assumption)
          have HS9 := Lib.hid (HSB.out.more hu9)
          clear hu9 hu HSB HUB HUB2 HSM
          go_wp2_with fail
          go_roundg (gk - 1)
          case measure => exact HN2.out
          case rel => exact ⟨j + 1, HN3.out, HN1, by go_num, HS9⟩
        · clear HG
          obtain rfl : j = no := by omega
          go_wp2_with fail
          refine (alive_walk _).mono ?_
          rintro x w3 ⟨rfl, hu⟩
          have HU := Lib.hid (HS.out.up.trans hu)
          clear hu HS
          go_wp2_with fail
          go_ret
          exact ⟨rfl, HU.out⟩
end Go.Proofs.Ytdhgmnnkbjhpaaa.Eor
