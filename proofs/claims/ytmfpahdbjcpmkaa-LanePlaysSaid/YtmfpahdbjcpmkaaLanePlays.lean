/- LanePlays, walked. -/
import Derived.Test.YtmfpahdbjcpmkaaLaneClone
import Derived.Test.YtmfpahdbjcpmkaaSame
import Derived.Test.YtmfpahdbjcpmkaaOpen
namespace Go.Proofs.Ytmfpahdbjcpmkaa.Lane
set_option linter.unusedVariables false
set_option linter.unusedSimpArgs false
open Go.RowKit Go.Proofs.YtmfpahdbjcpmkaaW.PrintWords

theorem Same_l (P Q : Nat → Prop) (l m : List Int) (A0 A1 : Option Addr) (c0 c1 : Nat) (w : World) (h0 : LAt w P (.slice A0 l.length c0) l) (h1 : LAt w Q (.slice A1 m.length c1) m) (hb : l.length ≤ 1000) (hm : m.length ≤ 1000) :
    Calls Try.prog 16 #[.slice A0 l.length c0, .slice A1 m.length c1] w fun e w' => e = .returned (.bool (decide (l = m))) ∧ Up w w' := by
  obtain ⟨A, c, e, hc, hr⟩ := h0.c (by omega)
  injection e with e1 e2 e3
  subst e1 e3
  obtain ⟨A, c, e, hc', hr'⟩ := h1.c (by omega)
  injection e with e1 e2 e3
  subst e1 e3
  exact (Same_walk l m _ _ _ _ w hr hc hr' hc' hb).mono fun _ _ h => ⟨h.1, h.2.up⟩
theorem Same_eq (P Q : Nat → Prop) (l : List Int) (A0 A1 : Option Addr) (c0 c1 : Nat) (w : World) (h0 : LAt w P (.slice A0 l.length c0) l) (h1 : LAt w Q (.slice A1 l.length c1) l) (hb : l.length ≤ 1000) :
    Calls Try.prog 16 #[.slice A0 l.length c0, .slice A1 l.length c1] w fun e w' => e = .returned (.bool true) ∧ Up w w' := by
  have h := Same_l P Q l l A0 A1 c0 c1 w h0 h1 hb hb
  rw [decide_eq_true (rfl : l = l)] at h
  exact h
theorem QAt.chg {w w' : World} {b R n g : Nat} {q : List Int} (h : QAt w b R n q) (hc : Chg g w w') (hb : b ≠ g) (hR : R ≠ g) : QAt w' b R n q := by
  have hl := h.lt
  obtain ⟨room, f, h1, h2, h3⟩ := h
  exact ⟨room, f, ⟨(hc.block b hl.1 hb).trans h1.hb, (hc.block R hl.2 hR).trans h1.hR, h1.pos, h1.le, h1.flt, h1.kle, h1.ne⟩, h2, h3⟩
theorem QAt.off {w w' : World} {b R b2 R2 n : Nat} {q : List Int} (h : QAt w b R n q) (ho : Off b2 R2 w w') (h1 : b ≠ b2) (h2 : b ≠ R2) (h3 : R ≠ b2) (h4 : R ≠ R2) : QAt w' b R n q := by
  have hl := h.lt
  obtain ⟨room, f, k1, k2, k3⟩ := h
  exact ⟨room, f, ⟨(ho.block b hl.1 h1 h2).trans k1.hb, (ho.block R hl.2 h3 h4).trans k1.hR, k1.pos, k1.le, k1.flt, k1.kle, k1.ne⟩, k2, k3⟩
theorem Len_u (b R n : Nat) (q : List Int) (w : World) (h : QAt w b R n q) : Calls Try.prog 14 #[.pointer (some ⟨b, 0, none⟩)] w fun e w' => e = .returned (.int .i64 q.length) ∧ Up w w' :=
  (Len_q b R n q w h).mono fun _ _ h => ⟨h.1, h.2 ▸ Up.refl _⟩
theorem Is_ok (n : Int) (w : World) : Calls Try.prog 18 #[.int .i64 n] w fun e w' => e = .returned (.bool (decide (1 ≤ n ∧ n ≤ 64))) ∧ Up w w' := by
  have e : PLanePlays.switchyardref04_Is.f n = some (decide (1 ≤ n ∧ n ≤ 64)) := by
    unfold PLanePlays.switchyardref04_Is.f
    by_cases h : n ≥ 1
    · rw [if_pos h]
      congr 1
      rw [decide_eq_decide]
      omega
    · rw [if_neg h, decide_eq_false (by omega)]
  exact (PLanePlays.switchyardref04_Is.calls n _ w e).mono fun _ _ h => ⟨h.1, by obtain ⟨m, hm⟩ := h.2; subst hm; exact (Up.refl w).drewN m⟩
attribute [local go_sem ↓] Go.wp_at_zero Go.wp_at_succ
set_option maxHeartbeats 8000000 in
set_option maxRecDepth 100000 in
theorem plays_walk (n : Nat) (h1 : 1 ≤ n) (h2 : n ≤ 64) (A : Option Addr) (c : Nat) (ops : List (Int × Int)) (ma mx : Int) (w : World) (hr : OpsAt w A ops) (hl : ops.length ≤ 150) :
    Calls Try.prog 5 #[.int .i64 n, .slice A ops.length c, .agg #[.int .i64 ma, .int .i64 mx]] w fun e w' => e = .returned (.bool true) ∧ Up w w' := by
  have HR := Lib.hid hr
  clear hr
  have hgt : decide ((ops.length : Int) > 150) = false := decide_eq_false (by omega)
  have HM0 := Lib.hid (block_new w (.cells #[.int .i64 ma, .int .i64 mx] 38))
  have HU0 : Hid (Up w (w.alloc (.cells #[.int .i64 ma, .int .i64 mx] 38))) := Lib.hid ((Up.refl w).alloc _)
  go_enter Try.func5, Try.ntmps5
  go_wp2_with fail
  refine (New_ok n h1 h2 _).mono ?_
  rintro e w1 ⟨b, R, rfl, hL, hU, hb, hR⟩
  have HQ1 : Hid (QAt w1 b R n []) := Lib.hid ⟨_, _, hL, by simp, rfl⟩
  have HU1 := Lib.hid (Up.trans HU0.out hU)
  have HM1 := Lib.hid (block_up hU HM0.out)
  have hb1 : w.heap.size < b := by
    have h : w.heap.size + 1 ≤ b := by simpa using hb
    omega
  have hR1 : w.heap.size < R := by
    have h : w.heap.size + 1 ≤ R := by simpa using hR
    omega
  have HI := Is_ok n w1
  rw [decide_eq_true (show 1 ≤ (n : Int) ∧ (n : Int) ≤ 64 by omega)] at HI
  have HI := Lib.hid HI
  clear hL hU hb hR HU0 HM0
  go_wp2_with fail
  refine HI.out.mono ?_
  rintro e w2 ⟨rfl, hu⟩
  have HQ2 := Lib.hid (HQ1.out.up hu)
  have HU2 := Lib.hid (Up.trans HU1.out hu)
  have HM2 := Lib.hid (block_up hu HM1.out)
  clear hu HQ1 HU1 HM1 HI
  go_wp2_with fail
  refine (Cap_q b R n _ _ HQ2.out).mono ?_
  rintro e wq ⟨rfl, rfl⟩
  have hlt2 := HQ2.out.lt
  have HLT := Lib.hid hlt2
  have HG3 := Lib.hid (block_new wq (.cells #[.int .i64 n, .slice none 0 0] 47))
  have HQ3 := Lib.hid (HQ2.out.up ((Up.refl wq).alloc (.cells #[.int .i64 n, .slice none 0 0] 47)))
  have HU3 := Lib.hid (HU2.out.alloc (.cells #[.int .i64 n, .slice none 0 0] 47))
  have HM3 := Lib.hid (block_up ((Up.refl wq).alloc (.cells #[.int .i64 n, .slice none 0 0] 47)) HM2.out)
  have hmq : w.heap.size < wq.heap.size := World.block_lt_of_cell? wq ⟨w.heap.size, 0, none⟩ (cell_of_block HM2.out 0)
  clear HQ2 HU2 HM2 hlt2
  obtain ⟨gw, hgw⟩ : ∃ gw, wq.heap.size = gw := ⟨_, rfl⟩
  have hbg : b < gw := by have := HLT.out.1; omega
  have hRg : R < gw := by have := HLT.out.2; omega
  have hmg : w.heap.size < gw := by omega
  rw [hgw] at HG3
  have HGW := Lib.hid hgw
  clear hgw hmq HLT
  go_upto_region 9 with fail
  simp only [HGW.out]
  generalize wq.alloc (.cells #[.int .i64 n, .slice none 0 0] 47) = w3 at *
  clear HGW
  go_wp2
  go_loopw [48] (fun v48 wx => ∃ (i : Nat) (q : List Int) (A0 : Option Addr) (c0 : Nat), i ≤ ops.length ∧ v48 = .int .i64 i ∧ Hid (QAt wx b R n q) ∧ Hid (wx.heap[gw]? = some (.cells #[.int .i64 n, .slice A0 q.length c0] 47 (0, 0))) ∧ Hid (LAt wx (fun k => k ≠ b ∧ k ≠ R ∧ k ≠ gw) (.slice A0 q.length c0) q) ∧ Hid (wx.heap[w.heap.size]? = some (.cells #[.int .i64 ma, .int .i64 mx] 38 (0, 0))) ∧ Hid (Up w wx)) (fun v48 _ => ops.length - (intOf v48).toNat)
  case atStart => exact ⟨0, [], none, 0, Nat.zero_le _, rfl, HQ3, HG3, Lib.hid (.inl ⟨rfl, rfl⟩), HM3, HU3⟩
  case round =>
    obtain ⟨i, q, A0, c0, hi, rfl, HQ, HG, HL, HM, HU⟩ := hrel
    by_cases hlt : i < ops.length
    · obtain ⟨ad, rfl, k0, k1⟩ := HR.out i hlt
      have o0 : wr.cell? (ad.add (i * 2)) = some (.int .i64 (ops.getD i (0, 0)).1) := pw_cell_below HU.out k0
      have o1 : wr.cell? ⟨(ad.add (i * 2)).block, (ad.add (i * 2)).off + 1, none⟩ = some (.int .i64 (ops.getD i (0, 0)).2) := by
        have := pw_cell_below HU.out k1
        rw [← Go.Deep.add_add] at this
        exact this
      clear k0 k1
      generalize (ops.getD i (0, 0)).1 = a at *
      generalize (ops.getD i (0, 0)).2 = x at *
      have hle := HQ.out.le
      have g0 : wr.cell? ⟨gw, 0, none⟩ = some (.int .i64 n) := cell_of_block HG.out 0
      have g1 : wr.cell? ⟨gw, 1, none⟩ = some (.slice A0 q.length c0) := cell_of_block HG.out 1
      have hgl : gw < wr.heap.size := World.block_lt_of_cell? wr _ g0
      have hbl := HQ.out.lt
      have hua := (Up.refl wr).alloc (.cells #[.int .i64 a, .int .i64 x] 38)
      have HD := Lib.hid (rDo_c n (.slice A0 q.length c0) q a x _ _ (HL.out.up hua) hle.1 (by omega))
      have HE := Lib.hid (do_q b R n q a x)
      have HQa := Lib.hid (HQ.out.up hua)
      have HGa := Lib.hid (block_up hua HG.out)
      have HMa := Lib.hid (block_up hua HM.out)
      have HUa := Lib.hid (Up.trans HU.out hua)
      have HOa := Lib.hid (block_new wr (.cells #[.int .i64 a, .int .i64 x] 38))
      have hwr : (wr.alloc (.cells #[.int .i64 a, .int .i64 x] 38)).heap.size = wr.heap.size + 1 := by simp
      have HWR := Lib.hid hwr
      clear hua hwr HL
      generalize doL n q a x = d at *
      obtain ⟨q2, y, er⟩ := d
      dsimp only at HD HE
      go_wp2_with fail
      refine HD.out.mono ?_
      rintro e w5 ⟨v', rfl, hl2, hu⟩
      have hu' : (wr.alloc (.cells #[.int .i64 a, .int .i64 x] 38)).heap.size ≤ w5.heap.size := hu.size
      rw [HWR.out] at hu'
      obtain ⟨A2, c2, rfl⟩ := hl2.len
      have HL5 : Hid (LAt w5 (fun k => k ≠ b ∧ k ≠ R ∧ k ≠ gw) (.slice A2 q2.length c2) q2) := Lib.hid (hl2.mono (fun k hk => by rcases hk with hk | hk; exact hk; rw [HWR.out] at hk; omega))
      have HQ5 := Lib.hid (HQa.out.up hu)
      have HG5 := Lib.hid (block_up hu HGa.out)
      have HM5 := Lib.hid (block_up hu HMa.out)
      have HO5 := Lib.hid (block_up hu HOa.out)
      have HU5 := Lib.hid (Up.trans HUa.out hu)
      clear hl2 hu HD HQa HGa HMa HUa HOa g0 g1 o0 o1
      have g0 : w5.cell? ⟨gw, 0, none⟩ = some (.int .i64 n) := cell_of_block HG5.out 0
      have g1 : w5.cell? ⟨gw, 1, none⟩ = some (.slice A0 q.length c0) := cell_of_block HG5.out 1
      have f0 : w5.frozen? ⟨gw, 0, none⟩ = false := free_of_block HG5.out 0
      have f1 : w5.frozen? ⟨gw, 1, none⟩ = false := free_of_block HG5.out 1
      have o0 : w5.cell? ⟨wr.heap.size, 0, none⟩ = some (.int .i64 a) := cell_of_block HO5.out 0
      have o1 : w5.cell? ⟨wr.heap.size, 1, none⟩ = some (.int .i64 x) := cell_of_block HO5.out 1
      have hg5 : gw < w5.heap.size := by omega
      have ho5 : wr.heap.size < w5.heap.size := by omega
      have hne5 : ¬ (gw = wr.heap.size) := by omega
      go_upto_region 14 with fail
      have hch : Chg gw w5 (((w5.setCell ⟨gw, 0, none⟩ (.int .i64 n)).setCell ⟨gw, 1, none⟩ (.slice A2 q2.length c2)).alloc (.cells #[.int .i64 n, .slice A2 q2.length c2] 47)) := ((Chg.refl gw w5).set 0 _).set 1 _ |>.alloc _
      have HQ6 := Lib.hid (HQ5.out.chg hch (by omega) (by omega))
      have HG6 : Hid ((((w5.setCell ⟨gw, 0, none⟩ (.int .i64 n)).setCell ⟨gw, 1, none⟩ (.slice A2 q2.length c2)).alloc (.cells #[.int .i64 n, .slice A2 q2.length c2] 47)).heap[gw]? = some (.cells #[.int .i64 n, .slice A2 q2.length c2] 47 (0, 0))) := Lib.hid (block_up ((Up.refl _).alloc _) (heap_setCell_same (heap_setCell_same HG5.out (i := 0) (.int .i64 n)) (i := 1) (.slice A2 q2.length c2)))
      have HL6 := Lib.hid (HL5.out.move (fun k hk hlt => hch.block k hlt hk.2.2))
      have HM6 := Lib.hid ((hch.block w.heap.size (by omega) (by omega)).trans HM5.out)
      have HO6 := Lib.hid ((hch.block wr.heap.size ho5 (by omega)).trans HO5.out)
      have HU6 : Hid (Up w (((w5.setCell ⟨gw, 0, none⟩ (.int .i64 n)).setCell ⟨gw, 1, none⟩ (.slice A2 q2.length c2)).alloc (.cells #[.int .i64 n, .slice A2 q2.length c2] 47))) := Lib.hid (Up.alloc (Up.setCell (Up.setCell HU5.out (p := ⟨gw, 0, none⟩) (Nat.le_of_lt hmg) _) (p := ⟨gw, 1, none⟩) (Nat.le_of_lt hmg) _) _)
      have h6s : w5.heap.size ≤ (((w5.setCell ⟨gw, 0, none⟩ (.int .i64 n)).setCell ⟨gw, 1, none⟩ (.slice A2 q2.length c2)).alloc (.cells #[.int .i64 n, .slice A2 q2.length c2] 47)).heap.size := hch.size
      generalize (((w5.setCell ⟨gw, 0, none⟩ (.int .i64 n)).setCell ⟨gw, 1, none⟩ (.slice A2 q2.length c2)).alloc (.cells #[.int .i64 n, .slice A2 q2.length c2] 47)) = w6 at *
      clear hch HQ5 HG5 HL5 HM5 HO5 HU5 g0 g1 f0 f1 o0 o1 hg5 ho5 hne5
      have o0 : w6.cell? ⟨wr.heap.size, 0, none⟩ = some (.int .i64 a) := cell_of_block HO6.out 0
      have o1 : w6.cell? ⟨wr.heap.size, 1, none⟩ = some (.int .i64 x) := cell_of_block HO6.out 1
      go_wp2_with fail
      refine (HE.out _ HQ6.out).mono ?_
      rintro e w7 ⟨rfl, hq7, ho⟩
      have hle7 := hq7.le
      have HQ7 := Lib.hid hq7
      have HG7 := Lib.hid ((ho.block gw (by omega) (by omega) (by omega)).trans HG6.out)
      have HL7 := Lib.hid (HL6.out.off ho (fun k hk => ⟨hk.1, hk.2.1⟩))
      have HM7 := Lib.hid ((ho.block w.heap.size (by omega) (by omega) (by omega)).trans HM6.out)
      have HU7 := Lib.hid (Up.of_off HU6.out ho (by omega) (by omega))
      clear hq7 ho HQ6 HG6 HL6 HM6 HO6 HU6 o0 o1 HE
      have g1 : w7.cell? ⟨gw, 1, none⟩ = some (.slice A2 q2.length c2) := cell_of_block HG7.out 1
      go_upto_region 15 with fail
      go_region_held3 (fun wx => wx.cell? ⟨gw, 1, none⟩ = some (.slice A2 q2.length c2) ∧ Hid (Up w7 wx))
        (first | exact ⟨g1, Lib.hid (Up.drew (Up.refl _))⟩ | (go_split_ands; exact ⟨pw_cell_below hu (by assumption), Lib.hid (Up.trans (Hid.out (by assumption)) hu)⟩))
        (first
          | (go_at_call 14; refine (Len_u b R n q2 _ ?_).mono ?_; (go_split_ands; exact HQ7.out.up (Hid.out (by assumption))); rintro e w8 ⟨rfl, hu⟩)
          | (go_at_call 17; refine (All_s b R n q2 _ ?_).mono ?_; (go_split_ands; exact HQ7.out.up (Hid.out (by assumption))); rintro e w8 ⟨A8, c8, rfl, hl8, hu⟩)
          | (go_at_call 16; refine (Same_eq _ (fun k => k ≠ b ∧ k ≠ R ∧ k ≠ gw) q2 A8 A2 c8 c2 _ hl8 ?_ ?_).mono ?_; (go_split_ands; exact HL7.out.up (Hid.out (by assumption))); omega; rintro e w9 ⟨rfl, hu⟩))
      go_split_ands
      have hu9 : Up w7 w9 := Hid.out (by assumption)
      have HQ9 := Lib.hid (HQ7.out.up hu9)
      have HG9 := Lib.hid (block_up hu9 HG7.out)
      have HL9 := Lib.hid (HL7.out.up hu9)
      have HM9 := Lib.hid (block_up hu9 HM7.out)
      have HU9 := Lib.hid (Up.trans HU7.out hu9)
      clear hu9 HQ7 HG7 HL7 HM7 HU7 g1 hu hl8
      go_wp2
      go_roundw
      case rel => exact ⟨i + 1, q2, A2, c2, by omega, by go_num, HQ9, HG9, HL9, HM9, HU9⟩
      case measure => simp [intOf]; omega
    · obtain rfl : i = ops.length := by omega
      have hle := HQ.out.le
      have hbl := HQ.out.lt
      have hgl : gw < wr.heap.size := World.block_lt_of_cell? wr ⟨gw, 0, none⟩ (cell_of_block HG.out 0)
      have hml : w.heap.size < wr.heap.size := World.block_lt_of_cell? wr ⟨w.heap.size, 0, none⟩ (cell_of_block HM.out 0)
      go_wp2_with fail
      refine (Clone_q b R n q _ HQ.out).mono ?_
      rintro e w4 ⟨b2, R2, rfl, hq2, hu, hb2, hR2⟩
      have hC4l := hq2.lt
      have HC4 := Lib.hid hq2
      have HQ4 := Lib.hid (HQ.out.up hu)
      have HG4 := Lib.hid (block_up hu HG.out)
      have HM4 := Lib.hid (block_up hu HM.out)
      have HU4 := Lib.hid (Up.trans HU.out hu)
      have HL4 := Lib.hid ((HL.out.bound.up hu).mono (P' := fun k => k ≠ b ∧ k ≠ R ∧ k ≠ gw ∧ k ≠ b2 ∧ k ≠ R2) (fun k hk => ⟨hk.1.1, hk.1.2.1, hk.1.2.2, by omega, by omega⟩))
      have hs4 : wr.heap.size ≤ w4.heap.size := hu.size
      have HD := Lib.hid (rDo_c n (.slice A0 q.length c0) q ma mx w4 _ HL4.out hle.1 (by omega))
      have HE := Lib.hid (do_q b2 R2 n q ma mx)
      clear hq2 hu HQ HG HM HU HL
      generalize doL n q ma mx = d at *
      obtain ⟨q2, y, er⟩ := d
      dsimp only at HD HE
      have g0 : w4.cell? ⟨gw, 0, none⟩ = some (.int .i64 n) := cell_of_block HG4.out 0
      have g1 : w4.cell? ⟨gw, 1, none⟩ = some (.slice A0 q.length c0) := cell_of_block HG4.out 1
      have m0 : w4.cell? ⟨w.heap.size, 0, none⟩ = some (.int .i64 ma) := cell_of_block HM4.out 0
      have m1 : w4.cell? ⟨w.heap.size, 1, none⟩ = some (.int .i64 mx) := cell_of_block HM4.out 1
      go_wp2_with fail
      refine HD.out.mono ?_
      rintro e w5 ⟨v', rfl, hl2, hu⟩
      obtain ⟨A2, c2, rfl⟩ := hl2.len
      have hs5 : w4.heap.size ≤ w5.heap.size := hu.size
      have HV5 : Hid (LAt w5 (fun k => k ≠ b ∧ k ≠ R ∧ k ≠ gw ∧ k ≠ b2 ∧ k ≠ R2) (.slice A2 q2.length c2) q2) := Lib.hid (hl2.mono (fun k hk => by rcases hk with hk | hk; exact hk; exact ⟨by omega, by omega, by omega, by omega, by omega⟩))
      have hal := (Up.refl w5).alloc (.cells #[.int .i64 n, .slice A2 q2.length c2] 47)
      have hul := Up.trans hu hal
      have H17 := Lib.hid (block_new w5 (.cells #[.int .i64 n, .slice A2 q2.length c2] 47))
      have HV6 := Lib.hid (HV5.out.up hal)
      have HC6 := Lib.hid (HC4.out.up hul)
      have HQ6 := Lib.hid (HQ4.out.up hul)
      have HG6 := Lib.hid (block_up hul HG4.out)
      have HM6 := Lib.hid (block_up hul HM4.out)
      have HU6 := Lib.hid (Up.trans HU4.out hul)
      have HL6 := Lib.hid (HL4.out.up hul)
      clear hl2 hu hal hul HD HV5 HC4 HQ4 HG4 HM4 HU4 HL4 g0 g1 m0 m1
      obtain ⟨g17, hg17⟩ : ∃ g, w5.heap.size = g := ⟨_, rfl⟩
      have hgb : gw < g17 ∧ b2 < g17 ∧ R2 < g17 := by omega
      rw [hg17] at H17
      have HG17 := Lib.hid hg17
      clear hg17
      go_upto_region 20 with fail
      simp only [HG17.out]
      generalize w5.alloc (.cells #[.int .i64 n, .slice A2 q2.length c2] 47) = w6 at *
      clear HG17
      have m0 : w6.cell? ⟨w.heap.size, 0, none⟩ = some (.int .i64 ma) := cell_of_block HM6.out 0
      have m1 : w6.cell? ⟨w.heap.size, 1, none⟩ = some (.int .i64 mx) := cell_of_block HM6.out 1
      go_wp2_with (go_at_call 15; refine (Cap_q b2 R2 n _ _ HC6.out).mono ?_; rintro e wz ⟨rfl, rfl⟩)
      refine (HE.out _ HC6.out).mono ?_
      rintro e w7 ⟨rfl, hq7, ho⟩
      have hle7 := hq7.le
      have h17l : g17 < wz.heap.size := World.block_lt_of_cell? wz ⟨g17, 0, none⟩ (cell_of_block H17.out 0)
      have HC7 := Lib.hid hq7
      have HQ7 := Lib.hid (HQ6.out.off ho (by omega) (by omega) (by omega) (by omega))
      have HG7 := Lib.hid ((ho.block gw (by omega) (by omega) (by omega)).trans HG6.out)
      have H177 := Lib.hid ((ho.block g17 h17l (by omega) (by omega)).trans H17.out)
      have HL7 := Lib.hid (HL6.out.off ho (fun k hk => ⟨hk.2.2.2.1, hk.2.2.2.2⟩))
      have HV7 := Lib.hid (HV6.out.off ho (fun k hk => ⟨hk.2.2.2.1, hk.2.2.2.2⟩))
      have HU7 := Lib.hid (Up.of_off HU6.out ho (by omega) (by omega))
      clear hq7 ho HC6 HQ6 HG6 H17 HL6 HV6 HU6 HM6 m0 m1 HE
      have g1 : w7.cell? ⟨gw, 1, none⟩ = some (.slice A0 q.length c0) := cell_of_block HG7.out 1
      have j1 : w7.cell? ⟨g17, 1, none⟩ = some (.slice A2 q2.length c2) := cell_of_block H177.out 1
      go_upto_region 23 with fail
      go_region_held3 (fun wx => wx.cell? ⟨g17, 1, none⟩ = some (.slice A2 q2.length c2) ∧ wx.cell? ⟨gw, 1, none⟩ = some (.slice A0 q.length c0) ∧ Hid (Up w7 wx))
        (first | exact ⟨j1, g1, Lib.hid (Up.drew (Up.refl _))⟩ | (go_split_ands; exact ⟨pw_cell_below hu (by assumption), pw_cell_below hu (by assumption), Lib.hid (Up.trans (Hid.out (by assumption)) hu)⟩))
        (first
          | (go_at_call 17; (with_reducible refine (All_s b2 R2 n q2 _ ?_).mono ?_); (go_split_ands; exact HC7.out.up (Hid.out (by assumption))); rintro e w8 ⟨A8, c8, rfl, hl8, hu⟩)
          | (go_at_call 17; (with_reducible refine (All_s b R n q _ ?_).mono ?_); (go_split_ands; exact HQ7.out.up (Hid.out (by assumption))); rintro e w8 ⟨A8, c8, rfl, hl8, hu⟩)
          | (go_at_call 16; (with_reducible refine (Same_eq _ (fun k => k ≠ b ∧ k ≠ R ∧ k ≠ gw ∧ k ≠ b2 ∧ k ≠ R2) q2 A8 A2 c8 c2 _ hl8 ?_ ?_).mono ?_); (go_split_ands; exact HV7.out.up (Hid.out (by assumption))); omega; rintro e w9 ⟨rfl, hu⟩)
          | (go_at_call 16; (with_reducible refine (Same_eq _ (fun k => k ≠ b ∧ k ≠ R ∧ k ≠ gw ∧ k ≠ b2 ∧ k ≠ R2) q A8 A0 c8 c0 _ hl8 ?_ ?_).mono ?_); (go_split_ands; exact HL7.out.up (Hid.out (by assumption))); omega; rintro e w9 ⟨rfl, hu⟩)
          | (go_at_call 12; refine (alive_walk _).mono ?_; rintro e w9 ⟨rfl, hu⟩))
      go_split_ands
      have hu9 : Up w7 w9 := Hid.out (by assumption)
      have HU9 := Lib.hid (Up.trans HU7.out hu9)
      clear hu9 hu
      go_wp2
      go_ret
      exact ⟨rfl, HU9.out⟩
end Go.Proofs.Ytmfpahdbjcpmkaa.Lane
