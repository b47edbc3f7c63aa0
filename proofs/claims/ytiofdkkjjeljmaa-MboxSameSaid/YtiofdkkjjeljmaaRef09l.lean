/- The reference's Do of chapter 09. -/
import Derived.Test.YtiofdkkjjeljmaaRef09k
import Derived.Deep.RegionHeld3
namespace Go.Proofs.Ytiofdkkjjeljmaa.Ref09
set_option linter.unusedVariables false
set_option linter.unusedSimpArgs false
open Go.RowKit Go.Proofs.Ytiofdkkjjeljmaa.Sep Go.Proofs.Ytiofdkkjjeljmaa.Mb

theorem doM_out (S : List MC) (k core to W : Int) (h0 : k ≠ 0) (hc : ¬ (0 ≤ core ∧ core < S.length)) : doM S k core to W = (S, (0, 0), 3) := by
  unfold doM
  rw [if_neg h0]
  split
  · unfold ackM; rw [if_neg hc]
  · split
    · unfold takeM; rw [if_neg hc]
    · split
      · unfold resetM; rw [if_neg hc]
      · unfold pendM; rw [if_neg hc]
theorem hbl0 (A : Option Addr) (n c m : Nat) : cbs (bl m) (.slice A n (c - 1)) = #[.bool (m.testBit 0), .bool (m.testBit 1), .bool (m.testBit 2), .bool (m.testBit 3), .bool (m.testBit 4), .bool (m.testBit 5), .bool (m.testBit 6), .bool (m.testBit 7), .slice A n (c - 1)] := rfl
theorem takeM_in (S : List MC) (i : Nat) (hi : i < S.length) : takeM S (i : Int) = (S.set i ⟨(S.getD i default).m, (S.getD i default).q.tail, (S.getD i default).hm⟩, (((S.getD i default).q.headD default).f : Int), (((S.getD i default).q.headD default).w : Int), if (S.getD i default).q.isEmpty = true then 6 else 0) := by
  unfold takeM
  rw [if_pos (by omega)]
  rfl
theorem take_nil (S : List MC) (i : Nat) : ∀ C : MC, C.q = [] → ((S.set i ⟨C.m, C.q.tail, C.hm⟩, ((C.q.headD default).f : Int), ((C.q.headD default).w : Int), if C.q.isEmpty = true then 6 else 0) : List MC × Int × Int × Int) = (S.set i C, 0, 0, 6) := by
  rintro ⟨m, q, hm⟩ h
  simp only at h
  subst h
  rfl
theorem take_cons (S : List MC) (i : Nat) : ∀ (C : MC) (x : It) (t : List It), C.q = x :: t → ((S.set i ⟨C.m, C.q.tail, C.hm⟩, ((C.q.headD default).f : Int), ((C.q.headD default).w : Int), if C.q.isEmpty = true then 6 else 0) : List MC × Int × Int × Int) = (S.set i ⟨C.m, t, C.hm⟩, (x.f : Int), (x.w : Int), 0) := by
  rintro ⟨m, q, hm⟩ x t h
  simp only at h
  subst h
  rfl
section
variable {P0 : Nat → Prop} {w0 w w' : World} {F : List Rg} {V : Value} {S : List MC}
set_option maxHeartbeats 8000000 in
set_option maxRecDepth 100000 in
theorem Do_ring (h : St P0 w0 w (rb V S :: F)) (h8 : S.length ≤ 8) (h16 : ∀ C ∈ S, C.q.length ≤ 16) (core to W : Int) :
    Calls Try.prog 31 #[V, .agg #[.int .i64 0, .int .i64 core, .int .i64 to, .int .i64 W]] w fun e w' => ∃ V', e = .returned (.tuple #[V', .agg #[.int .i64 (doM S 0 core to W).2.1.1, .int .i64 (doM S 0 core to W).2.1.2], .int .i64 (doM S 0 core to W).2.2]) ∧ St P0 w0 w' (both (rb V S) (rb V' (doM S 0 core to W).1) :: F) := by
  have hb := (h.alloc #[.int .i64 0, .int .i64 core, .int .i64 to, .int .i64 W] 62).alloc #[.int .i64 0, .int .i64 0] 64
  rw [World.size_alloc] at hb
  have hs : St P0 w0 _ (rb V S :: bk (w.heap.size + 1) 64 #[.int .i64 0, .int .i64 0] :: bk w.heap.size 62 #[.int .i64 0, .int .i64 core, .int .i64 to, .int .i64 W] :: F) := hb.get 2
  have HP := Lib.hid (Ring_rb hs h8 h16 core to W)
  obtain ⟨A, c, rfl, -⟩ := rb_form h
  have E : doM S 0 core to W = ((ringM S core to W).1, (0, 0), (ringM S core to W).2) := by unfold doM; rw [if_pos rfl]
  rw [E]
  clear E h hb hs
  generalize ringM S core to W = d at *
  go_enter Try.func31, Try.ntmps31
  go_wp2_with fail
  refine HP.out.mono ?_
  rintro e w1 ⟨V', rfl, hs⟩
  have H1 := Lib.hid hs
  have y1 : St P0 w0 w1 (bk (w.heap.size + 1) 64 #[.int .i64 0, .int .i64 0] :: _) := H1.out.get 1
  have g0 : w1.cell? ⟨w.heap.size + 1, 0, none⟩ = some (.int .i64 0) := cell_of_block y1.bk_at 0
  have gf0 : w1.frozen? ⟨w.heap.size + 1, 0, none⟩ = false := free_of_block y1.bk_at 0
  have g1 : w1.cell? ⟨w.heap.size + 1, 1, none⟩ = some (.int .i64 0) := cell_of_block y1.bk_at 1
  have gf1 : w1.frozen? ⟨w.heap.size + 1, 1, none⟩ = false := free_of_block y1.bk_at 1
  clear y1 hs HP
  go_wp2
  refine bodyPost_ret (v := .tuple #[V', .agg #[.int .i64 0, .int .i64 0], .int .i64 d.2]) ?_ rfl ⟨_, rfl, ?_⟩
  · simp [results, Try.results31, go_sem, *]
  · exact ((((((H1.out.get 1).set 0 (.int .i64 0)).set 1 (.int .i64 0)).get 1).cut 1).cut 1)
set_option maxHeartbeats 8000000 in
set_option maxRecDepth 100000 in
theorem Do_out (h : St P0 w0 w (rb V S :: F)) (k core to W : Int) (h0 : k ≠ 0) (hc : ¬ (0 ≤ core ∧ core < S.length)) :
    Calls Try.prog 31 #[V, .agg #[.int .i64 k, .int .i64 core, .int .i64 to, .int .i64 W]] w fun e w' => ∃ V', e = .returned (.tuple #[V', .agg #[.int .i64 (doM S k core to W).2.1.1, .int .i64 (doM S k core to W).2.1.2], .int .i64 (doM S k core to W).2.2]) ∧ St P0 w0 w' (both (rb V S) (rb V' (doM S k core to W).1) :: F) := by
  rw [doM_out S k core to W h0 hc]
  have hb := (h.alloc #[.int .i64 k, .int .i64 core, .int .i64 to, .int .i64 W] 62).alloc #[.int .i64 0, .int .i64 0] 64
  rw [World.size_alloc] at hb
  obtain ⟨A, c, rfl, -⟩ := rb_form h
  have HA := Lib.hid (fun w => has_walk A S.length c core w)
  rw [decide_eq_false hc] at HA
  have e0 : (k == 0) = false := beq_eq_false_iff_ne.2 h0
  have HS := Lib.hid hb
  clear h hb hc h0
  go_enter Try.func31, Try.ntmps31
  go_wp2_with (go_at_call 69; (with_reducible refine (HA.out _).mono ?_); rintro e w9 ⟨rfl, rfl⟩)
  refine bodyPost_ret (v := .tuple #[.slice A S.length c, .agg #[.int .i64 0, .int .i64 0], .int .i64 3]) ?_ rfl ⟨_, rfl, ?_⟩
  · simp [results, Try.results31, go_sem, *]
  · exact ((HS.out.drop).drop).twice
set_option maxHeartbeats 16000000 in
set_option maxRecDepth 100000 in
theorem Do_ack (h : St P0 w0 w (rb V S :: F)) (h8 : S.length ≤ 8) (i : Nat) (hi : i < S.length) (to W : Int) (hW : -9223372036854775808 ≤ W ∧ W ≤ 9223372036854775807) :
    Calls Try.prog 31 #[V, .agg #[.int .i64 2, .int .i64 (i : Int), .int .i64 to, .int .i64 W]] w fun e w' => ∃ V', e = .returned (.tuple #[V', .agg #[.int .i64 (doM S 2 (i : Int) to W).2.1.1, .int .i64 (doM S 2 (i : Int) to W).2.1.2], .int .i64 (doM S 2 (i : Int) to W).2.2]) ∧ St P0 w0 w' (both (rb V S) (rb V' (doM S 2 (i : Int) to W).1) :: F) := by
  have E : doM S 2 (i : Int) to W = (S.set i ⟨ackN (S.getD i default).m W, (S.getD i default).q, ackN_lt _ W (S.getD i default).hm⟩, (0, 0), 0) := by
    unfold doM ackM
    rw [if_neg (by decide), if_pos rfl, if_pos (by omega)]
    rfl
  rw [E]
  clear E
  obtain ⟨g, o, c, Ai, ci, rfl, hbits, hlist, hst⟩ := rb_core h i hi
  have HA := Lib.hid (fun w => has_walk (some ⟨g, o, none⟩) S.length c i w)
  rw [decide_eq_true (show 0 ≤ (i : Int) ∧ (i : Int) < S.length by omega)] at HA
  have hm8 := (S.getD i default).hm
  have k0 : w.cell? ⟨g, o + i * 9, none⟩ = some (.bool ((S.getD i default).m.testBit 0)) := hbits 0 (by omega)
  have k1 := hbits 1 (by omega)
  rw [← Nat.add_assoc] at k1
  have k2 := hbits 2 (by omega)
  rw [← Nat.add_assoc] at k2
  have k3 := hbits 3 (by omega)
  rw [← Nat.add_assoc] at k3
  have k4 := hbits 4 (by omega)
  rw [← Nat.add_assoc] at k4
  have k5 := hbits 5 (by omega)
  rw [← Nat.add_assoc] at k5
  have k6 := hbits 6 (by omega)
  rw [← Nat.add_assoc] at k6
  have k7 := hbits 7 (by omega)
  rw [← Nat.add_assoc] at k7
  rw [← Nat.add_assoc] at hlist
  have hup := ((Up.refl w).alloc (.cells #[.int .i64 2, .int .i64 (i : Int), .int .i64 to, .int .i64 W] 62)).alloc (.cells #[.int .i64 0, .int .i64 0] 64)
  replace hlist := cell_up hup hlist
  replace k0 := cell_up hup k0
  replace k1 := cell_up hup k1
  replace k2 := cell_up hup k2
  replace k3 := cell_up hup k3
  replace k4 := cell_up hup k4
  replace k5 := cell_up hup k5
  replace k6 := cell_up hup k6
  replace k7 := cell_up hup k7
  clear hup
  have hbl : cbs (bl (S.getD i default).m) (.slice Ai (S.getD i default).q.length ci) = #[.bool ((S.getD i default).m.testBit 0), .bool ((S.getD i default).m.testBit 1), .bool ((S.getD i default).m.testBit 2), .bool ((S.getD i default).m.testBit 3), .bool ((S.getD i default).m.testBit 4), .bool ((S.getD i default).m.testBit 5), .bool ((S.getD i default).m.testBit 6), .bool ((S.getD i default).m.testBit 7), .slice Ai (S.getD i default).q.length ci] := rfl
  have HG := Lib.hid (bl_core (S.getD i default).m (.slice Ai (S.getD i default).q.length ci))
  have ha := ((hst.alloc #[.int .i64 2, .int .i64 (i : Int), .int .i64 to, .int .i64 W] 62).alloc #[.int .i64 0, .int .i64 0] 64).alloc (cbs (bl (S.getD i default).m) (.slice Ai (S.getD i default).q.length ci)) 72
  simp only [World.size_alloc] at ha
  rw [hbl] at ha HG
  generalize (S.getD i default).m.testBit 0 = b0 at k0 ha HG
  generalize (S.getD i default).m.testBit 1 = b1 at k1 ha HG
  generalize (S.getD i default).m.testBit 2 = b2 at k2 ha HG
  generalize (S.getD i default).m.testBit 3 = b3 at k3 ha HG
  generalize (S.getD i default).m.testBit 4 = b4 at k4 ha HG
  generalize (S.getD i default).m.testBit 5 = b5 at k5 ha HG
  generalize (S.getD i default).m.testBit 6 = b6 at k6 ha HG
  generalize (S.getD i default).m.testBit 7 = b7 at k7 ha HG
  obtain ⟨n, hn⟩ : ∃ n, (S.getD i default).q.length = n := ⟨_, rfl⟩
  rw [hn] at ha hlist HG
  have HN := Lib.hid hn
  have HI := Lib.hid hi
  have H8 := Lib.hid h8
  have HM := Lib.hid hm8
  have hi0 : (i : Int) < S.length := by omega
  have HS := Lib.hid ha
  clear h hbits hst ha hbl hn hm8 h8
  generalize S.getD i default = C at *
  go_enter Try.func31, Try.ntmps31
  go_upto_region 9 with (go_at_call 69; (with_reducible refine (HA.out _).mono ?_); rintro e w9 ⟨rfl, hw⟩; have hw := hw.symm; subst hw)
  have hs := HS.out
  change St P0 w0 (((w.alloc (.cells #[.int .i64 2, .int .i64 (i : Int), .int .i64 to, .int .i64 W] 62)).alloc (.cells #[.int .i64 0, .int .i64 0] 64)).alloc (.cells #[.bool b0, .bool b1, .bool b2, .bool b3, .bool b4, .bool b5, .bool b6, .bool b7, .slice Ai n ci] 72)) _ at hs
  generalize ((w.alloc (.cells #[.int .i64 2, .int .i64 (i : Int), .int .i64 to, .int .i64 W] 62)).alloc (.cells #[.int .i64 0, .int .i64 0] 64)).alloc (.cells #[.bool b0, .bool b1, .bool b2, .bool b3, .bool b4, .bool b5, .bool b6, .bool b7, .slice Ai n ci] 72) = wb at hs ⊢
  have y3 : St P0 w0 wb (bk (w.heap.size) 62 #[.int .i64 2, .int .i64 (i : Int), .int .i64 to, .int .i64 W] :: _) := hs.get 2
  have y5 : St P0 w0 wb (bk (w.heap.size + 1) 64 #[.int .i64 0, .int .i64 0] :: _) := hs.get 1
  have t0 : wb.cell? ⟨w.heap.size, 0, none⟩ = some (.int .i64 2) := cell_of_block y3.bk_at 0
  have t1 : wb.cell? ⟨w.heap.size, 1, none⟩ = some (.int .i64 (i : Int)) := cell_of_block y3.bk_at 1
  have t2 : wb.cell? ⟨w.heap.size, 2, none⟩ = some (.int .i64 to) := cell_of_block y3.bk_at 2
  have t3 : wb.cell? ⟨w.heap.size, 3, none⟩ = some (.int .i64 W) := cell_of_block y3.bk_at 3
  have r0 : wb.cell? ⟨w.heap.size + 1, 0, none⟩ = some (.int .i64 0) := cell_of_block y5.bk_at 0
  have rf0 : wb.frozen? ⟨w.heap.size + 1, 0, none⟩ = false := free_of_block y5.bk_at 0
  have r1 : wb.cell? ⟨w.heap.size + 1, 1, none⟩ = some (.int .i64 0) := cell_of_block y5.bk_at 1
  have rf1 : wb.frozen? ⟨w.heap.size + 1, 1, none⟩ = false := free_of_block y5.bk_at 1
  have q0 : wb.cell? ⟨w.heap.size + 1 + 1, 0, none⟩ = some (.bool b0) := cell_of_block hs.bk_at 0
  have q1 : wb.cell? ⟨w.heap.size + 1 + 1, 1, none⟩ = some (.bool b1) := cell_of_block hs.bk_at 1
  have q2 : wb.cell? ⟨w.heap.size + 1 + 1, 2, none⟩ = some (.bool b2) := cell_of_block hs.bk_at 2
  have q3 : wb.cell? ⟨w.heap.size + 1 + 1, 3, none⟩ = some (.bool b3) := cell_of_block hs.bk_at 3
  have q4 : wb.cell? ⟨w.heap.size + 1 + 1, 4, none⟩ = some (.bool b4) := cell_of_block hs.bk_at 4
  have q5 : wb.cell? ⟨w.heap.size + 1 + 1, 5, none⟩ = some (.bool b5) := cell_of_block hs.bk_at 5
  have q6 : wb.cell? ⟨w.heap.size + 1 + 1, 6, none⟩ = some (.bool b6) := cell_of_block hs.bk_at 6
  have q7 : wb.cell? ⟨w.heap.size + 1 + 1, 7, none⟩ = some (.bool b7) := cell_of_block hs.bk_at 7
  have q8 : wb.cell? ⟨w.heap.size + 1 + 1, 8, none⟩ = some (.slice Ai n ci) := cell_of_block hs.bk_at 8
  have HS := Lib.hid hs
  clear hs y3 y5
  have HK := Lib.hid (fun w => ack_walk C.m HM.out W hW Ai n ci w)
  have hx : St P0 w0 wb (both (rb (.slice (some ⟨g, o, none⟩) S.length c) S) (il (.slice Ai n ci) C.q) :: bk (w.heap.size + 1 + 1) 72 #[.bool b0, .bool b1, .bool b2, .bool b3, .bool b4, .bool b5, .bool b6, .bool b7, .slice Ai n ci] :: bk (w.heap.size + 1) 64 #[.int .i64 0, .int .i64 0] :: bk (w.heap.size) 62 #[.int .i64 2, .int .i64 (i : Int), .int .i64 to, .int .i64 W] :: F) := by
    have := HS.out.get 3
    exact this
  have HX := Lib.hid hx
  clear hx
  have HG2 : Hid (.agg #[.bool b0, .bool b1, .bool b2, .bool b3, .bool b4, .bool b5, .bool b6, .bool b7, .slice Ai n ci] = coreV C.m (.slice Ai n ci)) := HG
  rw [← HG2.out] at HK
  go_wp2_with fail
  go_region_held3 (fun wx => wx.cell? ⟨w.heap.size, 1, none⟩ = some (.int .i64 (i : Int)) ∧ wx.cell? ⟨w.heap.size, 3, none⟩ = some (.int .i64 W) ∧ wx.cell? ⟨w.heap.size + 1 + 1, 0, none⟩ = some (.bool b0) ∧ wx.cell? ⟨w.heap.size + 1 + 1, 1, none⟩ = some (.bool b1) ∧ wx.cell? ⟨w.heap.size + 1 + 1, 2, none⟩ = some (.bool b2) ∧ wx.cell? ⟨w.heap.size + 1 + 1, 3, none⟩ = some (.bool b3) ∧ wx.cell? ⟨w.heap.size + 1 + 1, 4, none⟩ = some (.bool b4) ∧ wx.cell? ⟨w.heap.size + 1 + 1, 5, none⟩ = some (.bool b5) ∧ wx.cell? ⟨w.heap.size + 1 + 1, 6, none⟩ = some (.bool b6) ∧ wx.cell? ⟨w.heap.size + 1 + 1, 7, none⟩ = some (.bool b7) ∧ wx.cell? ⟨w.heap.size + 1 + 1, 8, none⟩ = some (.slice Ai n ci) ∧ Hid (∃ v0 v1 : Value, St P0 w0 wx (bk (w.heap.size + 1) 64 #[v0, v1] :: both (rb (.slice (some ⟨g, o, none⟩) S.length c) S) (il (.slice Ai n ci) C.q) :: bk (w.heap.size + 1 + 1) 72 #[.bool b0, .bool b1, .bool b2, .bool b3, .bool b4, .bool b5, .bool b6, .bool b7, .slice Ai n ci] :: bk (w.heap.size) 62 #[.int .i64 2, .int .i64 (i : Int), .int .i64 to, .int .i64 W] :: F)))
    (first | exact ⟨t1, t3, q0, q1, q2, q3, q4, q5, q6, q7, q8, Lib.hid ⟨_, _, (HX.out.get 2).drew⟩⟩ | (go_split_ands; exact ⟨cell_up hu (by assumption), cell_up hu (by assumption), cell_up hu (by assumption), cell_up hu (by assumption), cell_up hu (by assumption), cell_up hu (by assumption), cell_up hu (by assumption), cell_up hu (by assumption), cell_up hu (by assumption), cell_up hu (by assumption), cell_up hu (by assumption), Lib.hid ⟨_, _, hst.more hu⟩⟩) | (go_split_ands; exact ⟨cell_set2 (by omega) (cell_up hu (by assumption)), cell_set2 (by omega) (cell_up hu (by assumption)), cell_set2 (by omega) (cell_up hu (by assumption)), cell_set2 (by omega) (cell_up hu (by assumption)), cell_set2 (by omega) (cell_up hu (by assumption)), cell_set2 (by omega) (cell_up hu (by assumption)), cell_set2 (by omega) (cell_up hu (by assumption)), cell_set2 (by omega) (cell_up hu (by assumption)), cell_set2 (by omega) (cell_up hu (by assumption)), cell_set2 (by omega) (cell_up hu (by assumption)), cell_set2 (by omega) (cell_up hu (by assumption)), Lib.hid ⟨_, _, ((hst.more hu).set 0 _).set 1 _⟩⟩))
    (first
      | (go_at_call 71; go_split_ands; (obtain ⟨v0, v1, hst⟩ := Hid.out (‹Hid (∃ v0 v1 : Value, St P0 w0 _ _)›)); refine (HK.out _).mono ?_; rintro e w8 ⟨rfl, hu⟩)
      | (go_at_call 70; go_split_ands; (obtain ⟨v0, v1, hst⟩ := Hid.out (‹Hid (∃ v0 v1 : Value, St P0 w0 _ _)›)); refine (with_u (hst.get 1) i HI.out H8.out (ackN C.m W) (ackN_lt _ W HM.out)).mono ?_; rintro e w9 ⟨V9, rfl, hs9, hu⟩; have z0 : w9.cell? ⟨w.heap.size + 1, 0, none⟩ = some v0 := cell_of_block ((hst.more hu).bk_at) 0; have z1 : w9.cell? ⟨w.heap.size + 1, 1, none⟩ = some v1 := cell_of_block ((hst.more hu).bk_at) 1; have zf0 : w9.frozen? ⟨w.heap.size + 1, 0, none⟩ = false := free_of_block ((hst.more hu).bk_at) 0; have zf1 : w9.frozen? ⟨w.heap.size + 1, 1, none⟩ = false := free_of_block ((hst.more hu).bk_at) 1))
  go_split_ands
  have H9 := Lib.hid hs9
  clear hs9 hu
  go_wp2
  refine bodyPost_ret (v := .tuple #[V9, .agg #[.int .i64 0, .int .i64 0], .int .i64 0]) ?_ rfl ⟨V9, rfl, ?_⟩
  · simp [results, Try.results31, go_sem, *]
  · exact (((((H9.out.get 1).set 0 (.int .i64 0)).set 1 (.int .i64 0)).cut 0).cut 1).cut 1
set_option maxHeartbeats 16000000 in
set_option maxRecDepth 100000 in
theorem Do_take0 (h : St P0 w0 w (rb V S :: F)) (h8 : S.length ≤ 8) (i : Nat) (hi : i < S.length) (to W : Int) (hq : (S.getD i default).q = []) :
    Calls Try.prog 31 #[V, .agg #[.int .i64 3, .int .i64 (i : Int), .int .i64 to, .int .i64 W]] w fun e w' => ∃ V', e = .returned (.tuple #[V', .agg #[.int .i64 (doM S 3 (i : Int) to W).2.1.1, .int .i64 (doM S 3 (i : Int) to W).2.1.2], .int .i64 (doM S 3 (i : Int) to W).2.2]) ∧ St P0 w0 w' (both (rb V S) (rb V' (doM S 3 (i : Int) to W).1) :: F) := by
  have E : doM S 3 (i : Int) to W = (S, (0, 0), 6) := by
    have e1 : S.set i (S.getD i default) = S := by
      rw [List.getD_eq_getElem?_getD, List.getElem?_eq_getElem hi]
      simp
    have e2 := take_nil S i (S.getD i default) hq
    rw [e1] at e2
    unfold doM
    rw [if_neg (by decide), if_neg (by decide), if_pos rfl, takeM_in S i hi, e2]
  rw [E]
  clear E
  obtain ⟨g, o, c, Ai, ci, rfl, hbits, hlist, hst⟩ := rb_core h i hi
  have HA := Lib.hid (fun w => has_walk (some ⟨g, o, none⟩) S.length c i w)
  rw [decide_eq_true (show 0 ≤ (i : Int) ∧ (i : Int) < S.length by omega)] at HA
  have hm8 := (S.getD i default).hm
  have k0 : w.cell? ⟨g, o + i * 9, none⟩ = some (.bool ((S.getD i default).m.testBit 0)) := hbits 0 (by omega)
  have k1 := hbits 1 (by omega)
  rw [← Nat.add_assoc] at k1
  have k2 := hbits 2 (by omega)
  rw [← Nat.add_assoc] at k2
  have k3 := hbits 3 (by omega)
  rw [← Nat.add_assoc] at k3
  have k4 := hbits 4 (by omega)
  rw [← Nat.add_assoc] at k4
  have k5 := hbits 5 (by omega)
  rw [← Nat.add_assoc] at k5
  have k6 := hbits 6 (by omega)
  rw [← Nat.add_assoc] at k6
  have k7 := hbits 7 (by omega)
  rw [← Nat.add_assoc] at k7
  rw [← Nat.add_assoc] at hlist
  have hup := ((Up.refl w).alloc (.cells #[.int .i64 3, .int .i64 (i : Int), .int .i64 to, .int .i64 W] 62)).alloc (.cells #[.int .i64 0, .int .i64 0] 64)
  replace hlist := cell_up hup hlist
  replace k0 := cell_up hup k0
  replace k1 := cell_up hup k1
  replace k2 := cell_up hup k2
  replace k3 := cell_up hup k3
  replace k4 := cell_up hup k4
  replace k5 := cell_up hup k5
  replace k6 := cell_up hup k6
  replace k7 := cell_up hup k7
  clear hup
  have hbl : cbs (bl (S.getD i default).m) (.slice Ai (S.getD i default).q.length ci) = #[.bool ((S.getD i default).m.testBit 0), .bool ((S.getD i default).m.testBit 1), .bool ((S.getD i default).m.testBit 2), .bool ((S.getD i default).m.testBit 3), .bool ((S.getD i default).m.testBit 4), .bool ((S.getD i default).m.testBit 5), .bool ((S.getD i default).m.testBit 6), .bool ((S.getD i default).m.testBit 7), .slice Ai (S.getD i default).q.length ci] := rfl
  have HG := Lib.hid (bl_core (S.getD i default).m (.slice Ai (S.getD i default).q.length ci))
  have ha := ((hst.alloc #[.int .i64 3, .int .i64 (i : Int), .int .i64 to, .int .i64 W] 62).alloc #[.int .i64 0, .int .i64 0] 64).alloc (cbs (bl (S.getD i default).m) (.slice Ai (S.getD i default).q.length ci)) 72
  simp only [World.size_alloc] at ha
  rw [hbl] at ha HG
  generalize (S.getD i default).m.testBit 0 = b0 at k0 ha HG
  generalize (S.getD i default).m.testBit 1 = b1 at k1 ha HG
  generalize (S.getD i default).m.testBit 2 = b2 at k2 ha HG
  generalize (S.getD i default).m.testBit 3 = b3 at k3 ha HG
  generalize (S.getD i default).m.testBit 4 = b4 at k4 ha HG
  generalize (S.getD i default).m.testBit 5 = b5 at k5 ha HG
  generalize (S.getD i default).m.testBit 6 = b6 at k6 ha HG
  generalize (S.getD i default).m.testBit 7 = b7 at k7 ha HG
  obtain ⟨n, hn⟩ : ∃ n, (S.getD i default).q.length = n := ⟨_, rfl⟩
  have hn0 : n = 0 := by rw [← hn, hq]; rfl
  subst hn0
  clear hq
  rw [hn] at ha hlist HG
  have HN := Lib.hid hn
  have HI := Lib.hid hi
  have H8 := Lib.hid h8
  have HM := Lib.hid hm8
  have hi0 : (i : Int) < S.length := by omega
  have HS := Lib.hid ha
  clear h hbits hst ha hbl hn hm8 h8
  generalize S.getD i default = C at *
  go_enter Try.func31, Try.ntmps31
  go_upto_region 11 with (go_at_call 69; (with_reducible refine (HA.out _).mono ?_); rintro e w9 ⟨rfl, hw⟩; have hw := hw.symm; subst hw)
  have hs := HS.out
  change St P0 w0 (((w.alloc (.cells #[.int .i64 3, .int .i64 (i : Int), .int .i64 to, .int .i64 W] 62)).alloc (.cells #[.int .i64 0, .int .i64 0] 64)).alloc (.cells #[.bool b0, .bool b1, .bool b2, .bool b3, .bool b4, .bool b5, .bool b6, .bool b7, .slice Ai 0 ci] 72)) _ at hs
  generalize ((w.alloc (.cells #[.int .i64 3, .int .i64 (i : Int), .int .i64 to, .int .i64 W] 62)).alloc (.cells #[.int .i64 0, .int .i64 0] 64)).alloc (.cells #[.bool b0, .bool b1, .bool b2, .bool b3, .bool b4, .bool b5, .bool b6, .bool b7, .slice Ai 0 ci] 72) = wb at hs ⊢
  have y3 : St P0 w0 wb (bk (w.heap.size) 62 #[.int .i64 3, .int .i64 (i : Int), .int .i64 to, .int .i64 W] :: _) := hs.get 2
  have y5 : St P0 w0 wb (bk (w.heap.size + 1) 64 #[.int .i64 0, .int .i64 0] :: _) := hs.get 1
  have t0 : wb.cell? ⟨w.heap.size, 0, none⟩ = some (.int .i64 3) := cell_of_block y3.bk_at 0
  have t1 : wb.cell? ⟨w.heap.size, 1, none⟩ = some (.int .i64 (i : Int)) := cell_of_block y3.bk_at 1
  have t2 : wb.cell? ⟨w.heap.size, 2, none⟩ = some (.int .i64 to) := cell_of_block y3.bk_at 2
  have t3 : wb.cell? ⟨w.heap.size, 3, none⟩ = some (.int .i64 W) := cell_of_block y3.bk_at 3
  have r0 : wb.cell? ⟨w.heap.size + 1, 0, none⟩ = some (.int .i64 0) := cell_of_block y5.bk_at 0
  have rf0 : wb.frozen? ⟨w.heap.size + 1, 0, none⟩ = false := free_of_block y5.bk_at 0
  have r1 : wb.cell? ⟨w.heap.size + 1, 1, none⟩ = some (.int .i64 0) := cell_of_block y5.bk_at 1
  have rf1 : wb.frozen? ⟨w.heap.size + 1, 1, none⟩ = false := free_of_block y5.bk_at 1
  have q0 : wb.cell? ⟨w.heap.size + 1 + 1, 0, none⟩ = some (.bool b0) := cell_of_block hs.bk_at 0
  have q1 : wb.cell? ⟨w.heap.size + 1 + 1, 1, none⟩ = some (.bool b1) := cell_of_block hs.bk_at 1
  have q2 : wb.cell? ⟨w.heap.size + 1 + 1, 2, none⟩ = some (.bool b2) := cell_of_block hs.bk_at 2
  have q3 : wb.cell? ⟨w.heap.size + 1 + 1, 3, none⟩ = some (.bool b3) := cell_of_block hs.bk_at 3
  have q4 : wb.cell? ⟨w.heap.size + 1 + 1, 4, none⟩ = some (.bool b4) := cell_of_block hs.bk_at 4
  have q5 : wb.cell? ⟨w.heap.size + 1 + 1, 5, none⟩ = some (.bool b5) := cell_of_block hs.bk_at 5
  have q6 : wb.cell? ⟨w.heap.size + 1 + 1, 6, none⟩ = some (.bool b6) := cell_of_block hs.bk_at 6
  have q7 : wb.cell? ⟨w.heap.size + 1 + 1, 7, none⟩ = some (.bool b7) := cell_of_block hs.bk_at 7
  have q8 : wb.cell? ⟨w.heap.size + 1 + 1, 8, none⟩ = some (.slice Ai 0 ci) := cell_of_block hs.bk_at 8
  have HS := Lib.hid hs
  clear hs y3 y5
  clear HG HN
  go_wp2
  refine bodyPost_ret (v := .tuple #[.slice (some ⟨g, o, none⟩) S.length c, .agg #[.int .i64 0, .int .i64 0], .int .i64 6]) ?_ rfl ⟨_, rfl, ?_⟩
  · simp [results, Try.results31, go_sem, *]
  · exact ((((((HS.out.get 1).set 0 (.int .i64 0)).set 1 (.int .i64 0)).drop).drop).drop).left.twice
set_option maxHeartbeats 16000000 in
set_option maxRecDepth 100000 in
theorem Do_take1 (h : St P0 w0 w (rb V S :: F)) (h8 : S.length ≤ 8) (i : Nat) (hi : i < S.length) (to W : Int) (x : It) (t : List It) (hq : (S.getD i default).q = x :: t) (hlt : t.length ≤ 16) :
    Calls Try.prog 31 #[V, .agg #[.int .i64 3, .int .i64 (i : Int), .int .i64 to, .int .i64 W]] w fun e w' => ∃ V', e = .returned (.tuple #[V', .agg #[.int .i64 (doM S 3 (i : Int) to W).2.1.1, .int .i64 (doM S 3 (i : Int) to W).2.1.2], .int .i64 (doM S 3 (i : Int) to W).2.2]) ∧ St P0 w0 w' (both (rb V S) (rb V' (doM S 3 (i : Int) to W).1) :: F) := by
  have E : doM S 3 (i : Int) to W = (S.set i ⟨(S.getD i default).m, t, (S.getD i default).hm⟩, ((x.f : Int), (x.w : Int)), 0) := by
    unfold doM
    rw [if_neg (by decide), if_neg (by decide), if_pos rfl, takeM_in S i hi, take_cons S i (S.getD i default) x t hq]
  rw [E]
  clear E
  obtain ⟨g, o, c, Ai, ci, rfl, hbits, hlist, hst⟩ := rb_core h i hi
  have HA := Lib.hid (fun w => has_walk (some ⟨g, o, none⟩) S.length c i w)
  rw [decide_eq_true (show 0 ≤ (i : Int) ∧ (i : Int) < S.length by omega)] at HA
  have hm8 := (S.getD i default).hm
  have k0 : w.cell? ⟨g, o + i * 9, none⟩ = some (.bool ((S.getD i default).m.testBit 0)) := hbits 0 (by omega)
  have k1 := hbits 1 (by omega)
  rw [← Nat.add_assoc] at k1
  have k2 := hbits 2 (by omega)
  rw [← Nat.add_assoc] at k2
  have k3 := hbits 3 (by omega)
  rw [← Nat.add_assoc] at k3
  have k4 := hbits 4 (by omega)
  rw [← Nat.add_assoc] at k4
  have k5 := hbits 5 (by omega)
  rw [← Nat.add_assoc] at k5
  have k6 := hbits 6 (by omega)
  rw [← Nat.add_assoc] at k6
  have k7 := hbits 7 (by omega)
  rw [← Nat.add_assoc] at k7
  rw [hq] at hlist hst
  obtain ⟨_, _, e, -, -, hc0⟩ := il_form hst.right
  cases e
  obtain ⟨g2, o2, rfl, y0, y1⟩ := hc0 0 (by simp)
  replace y0 : w.cell? ⟨g2, o2, none⟩ = some (.int .i64 (x.f : Int)) := by simpa using y0
  replace y1 : w.cell? ⟨g2, o2 + 1, none⟩ = some (.int .i64 (x.w : Int)) := by simpa using y1
  clear hc0
  rw [List.length_cons] at hlist
  obtain ⟨t0, ht0, hz0, hz1, hz2⟩ := info_of' info_item
  obtain ⟨A', hsl, h3⟩ : ∃ A', (∀ W : World, (Instr.slice 70 (.slice (some ⟨g2, o2, none⟩) (t.length + 1) ci) (some (.int .i64 1)) none none).run Try.prog W = .ok (.slice A' t.length (ci - 1)) W) ∧ St P0 w0 w (both (rb (.slice (some ⟨g, o, none⟩) S.length c) S) (il (.slice A' t.length (ci - 1)) t) :: F) := by
    obtain ⟨hf, Q, R, hq, hr, hd, hA, hL⟩ := hst
    obtain ⟨A', q1, q2⟩ := slc_drop (P := Try.prog) Try.underlying70 ht0 hz1 hA.2 1 (by simp) (by have := hi; have := hlt; simp; omega)
    exact ⟨A', q1, hf, Q, R, hq, hr, hd, ⟨hA.1, by simpa [iw] using q2⟩, hL⟩
  clear hst ht0 hz0 hz1 hz2
  obtain ⟨n, hn⟩ : ∃ n, t.length = n := ⟨_, rfl⟩
  rw [hn] at hlist hsl
  have h3' : St P0 w0 w (both (rb (.slice (some ⟨g, o, none⟩) S.length c) S) (slc 64 2 (.slice A' n (ci - 1)) n (t.flatMap iw)) :: F) := by rw [← hn]; exact h3
  have hnz : (((n : Int) + 1) == 0) = false := beq_eq_false_iff_ne.2 (by omega)
  have HTL := Lib.hid hn
  have HG3 := Lib.hid (bl_core (S.getD i default).m (.slice A' n (ci - 1)))
  rw [hbl0 A' n ci (S.getD i default).m] at HG3
  clear hn
  rw [← Nat.add_assoc] at hlist
  have hup := ((Up.refl w).alloc (.cells #[.int .i64 3, .int .i64 (i : Int), .int .i64 to, .int .i64 W] 62)).alloc (.cells #[.int .i64 0, .int .i64 0] 64)
  replace hlist := cell_up hup hlist
  replace y0 := cell_up hup y0
  replace y1 := cell_up hup y1
  replace k0 := cell_up hup k0
  replace k1 := cell_up hup k1
  replace k2 := cell_up hup k2
  replace k3 := cell_up hup k3
  replace k4 := cell_up hup k4
  replace k5 := cell_up hup k5
  replace k6 := cell_up hup k6
  replace k7 := cell_up hup k7
  clear hup
  have hbl : cbs (bl (S.getD i default).m) (.slice (some ⟨g2, o2, none⟩) (n + 1) ci) = #[.bool ((S.getD i default).m.testBit 0), .bool ((S.getD i default).m.testBit 1), .bool ((S.getD i default).m.testBit 2), .bool ((S.getD i default).m.testBit 3), .bool ((S.getD i default).m.testBit 4), .bool ((S.getD i default).m.testBit 5), .bool ((S.getD i default).m.testBit 6), .bool ((S.getD i default).m.testBit 7), .slice (some ⟨g2, o2, none⟩) (n + 1) ci] := rfl
  have HG := Lib.hid (bl_core (S.getD i default).m (.slice (some ⟨g2, o2, none⟩) (n + 1) ci))
  have ha := ((h3'.alloc #[.int .i64 3, .int .i64 (i : Int), .int .i64 to, .int .i64 W] 62).alloc #[.int .i64 0, .int .i64 0] 64).alloc (cbs (bl (S.getD i default).m) (.slice (some ⟨g2, o2, none⟩) (n + 1) ci)) 72
  simp only [World.size_alloc] at ha
  rw [hbl] at ha HG
  generalize (S.getD i default).m.testBit 0 = b0 at k0 ha HG HG3
  generalize (S.getD i default).m.testBit 1 = b1 at k1 ha HG HG3
  generalize (S.getD i default).m.testBit 2 = b2 at k2 ha HG HG3
  generalize (S.getD i default).m.testBit 3 = b3 at k3 ha HG HG3
  generalize (S.getD i default).m.testBit 4 = b4 at k4 ha HG HG3
  generalize (S.getD i default).m.testBit 5 = b5 at k5 ha HG HG3
  generalize (S.getD i default).m.testBit 6 = b6 at k6 ha HG HG3
  generalize (S.getD i default).m.testBit 7 = b7 at k7 ha HG HG3
  have HI := Lib.hid hi
  have H8 := Lib.hid h8
  have HM := Lib.hid hm8
  have hi0 : (i : Int) < S.length := by omega
  have HS := Lib.hid ha
  clear h hbits h3 h3' ha hbl hm8 h8 hq
  generalize S.getD i default = C at *
  replace y0 := cell_up ((Up.refl _).alloc (.cells #[.bool b0, .bool b1, .bool b2, .bool b3, .bool b4, .bool b5, .bool b6, .bool b7, .slice (some ⟨g2, o2, none⟩) (n + 1) ci] 72)) y0
  replace y1 := cell_up ((Up.refl _).alloc (.cells #[.bool b0, .bool b1, .bool b2, .bool b3, .bool b4, .bool b5, .bool b6, .bool b7, .slice (some ⟨g2, o2, none⟩) (n + 1) ci] 72)) y1
  go_enter Try.func31, Try.ntmps31
  go_upto_region 11 with (go_at_call 69; (with_reducible refine (HA.out _).mono ?_); rintro e w9 ⟨rfl, hw⟩; have hw := hw.symm; subst hw)
  have hs := HS.out
  change (((w.alloc (.cells #[.int .i64 3, .int .i64 (i : Int), .int .i64 to, .int .i64 W] 62)).alloc (.cells #[.int .i64 0, .int .i64 0] 64)).alloc (.cells #[.bool b0, .bool b1, .bool b2, .bool b3, .bool b4, .bool b5, .bool b6, .bool b7, .slice (some ⟨g2, o2, none⟩) (n + 1) ci] 72)).cell? _ = _ at y0
  change (((w.alloc (.cells #[.int .i64 3, .int .i64 (i : Int), .int .i64 to, .int .i64 W] 62)).alloc (.cells #[.int .i64 0, .int .i64 0] 64)).alloc (.cells #[.bool b0, .bool b1, .bool b2, .bool b3, .bool b4, .bool b5, .bool b6, .bool b7, .slice (some ⟨g2, o2, none⟩) (n + 1) ci] 72)).cell? _ = _ at y1
  change St P0 w0 (((w.alloc (.cells #[.int .i64 3, .int .i64 (i : Int), .int .i64 to, .int .i64 W] 62)).alloc (.cells #[.int .i64 0, .int .i64 0] 64)).alloc (.cells #[.bool b0, .bool b1, .bool b2, .bool b3, .bool b4, .bool b5, .bool b6, .bool b7, .slice (some ⟨g2, o2, none⟩) (n + 1) ci] 72)) _ at hs
  generalize ((w.alloc (.cells #[.int .i64 3, .int .i64 (i : Int), .int .i64 to, .int .i64 W] 62)).alloc (.cells #[.int .i64 0, .int .i64 0] 64)).alloc (.cells #[.bool b0, .bool b1, .bool b2, .bool b3, .bool b4, .bool b5, .bool b6, .bool b7, .slice (some ⟨g2, o2, none⟩) (n + 1) ci] 72) = wb at hs y0 y1 ⊢
  have y3 : St P0 w0 wb (bk (w.heap.size) 62 #[.int .i64 3, .int .i64 (i : Int), .int .i64 to, .int .i64 W] :: _) := hs.get 2
  have y5 : St P0 w0 wb (bk (w.heap.size + 1) 64 #[.int .i64 0, .int .i64 0] :: _) := hs.get 1
  have t0 : wb.cell? ⟨w.heap.size, 0, none⟩ = some (.int .i64 3) := cell_of_block y3.bk_at 0
  have t1 : wb.cell? ⟨w.heap.size, 1, none⟩ = some (.int .i64 (i : Int)) := cell_of_block y3.bk_at 1
  have t2 : wb.cell? ⟨w.heap.size, 2, none⟩ = some (.int .i64 to) := cell_of_block y3.bk_at 2
  have t3 : wb.cell? ⟨w.heap.size, 3, none⟩ = some (.int .i64 W) := cell_of_block y3.bk_at 3
  have r0 : wb.cell? ⟨w.heap.size + 1, 0, none⟩ = some (.int .i64 0) := cell_of_block y5.bk_at 0
  have rf0 : wb.frozen? ⟨w.heap.size + 1, 0, none⟩ = false := free_of_block y5.bk_at 0
  have r1 : wb.cell? ⟨w.heap.size + 1, 1, none⟩ = some (.int .i64 0) := cell_of_block y5.bk_at 1
  have rf1 : wb.frozen? ⟨w.heap.size + 1, 1, none⟩ = false := free_of_block y5.bk_at 1
  have q0 : wb.cell? ⟨w.heap.size + 1 + 1, 0, none⟩ = some (.bool b0) := cell_of_block hs.bk_at 0
  have q1 : wb.cell? ⟨w.heap.size + 1 + 1, 1, none⟩ = some (.bool b1) := cell_of_block hs.bk_at 1
  have q2 : wb.cell? ⟨w.heap.size + 1 + 1, 2, none⟩ = some (.bool b2) := cell_of_block hs.bk_at 2
  have q3 : wb.cell? ⟨w.heap.size + 1 + 1, 3, none⟩ = some (.bool b3) := cell_of_block hs.bk_at 3
  have q4 : wb.cell? ⟨w.heap.size + 1 + 1, 4, none⟩ = some (.bool b4) := cell_of_block hs.bk_at 4
  have q5 : wb.cell? ⟨w.heap.size + 1 + 1, 5, none⟩ = some (.bool b5) := cell_of_block hs.bk_at 5
  have q6 : wb.cell? ⟨w.heap.size + 1 + 1, 6, none⟩ = some (.bool b6) := cell_of_block hs.bk_at 6
  have q7 : wb.cell? ⟨w.heap.size + 1 + 1, 7, none⟩ = some (.bool b7) := cell_of_block hs.bk_at 7
  have q8 : wb.cell? ⟨w.heap.size + 1 + 1, 8, none⟩ = some (.slice (some ⟨g2, o2, none⟩) (n + 1) ci) := cell_of_block hs.bk_at 8
  have HS := Lib.hid hs
  clear hs y3 y5
  have hp5 : w.heap.size + 1 + 1 < wb.heap.size := (HS.out.bk_in).2
  have qf8 : wb.frozen? ⟨w.heap.size + 1 + 1, 8, none⟩ = false := free_of_block HS.out.bk_at 8
  go_upto_region 15 with fail
  have hs := ((HS.out.set 8 (.slice A' n (ci - 1))).alloc #[.int .i64 (x.f : Int), .int .i64 (x.w : Int)] 64)
  have es : (wb.setCell ⟨w.heap.size + 1 + 1, 8, none⟩ (.slice A' n (ci - 1))).heap.size = wb.heap.size := by simp [World.setCell]
  rw [es] at hs
  have eil : slc 64 2 (.slice A' n (ci - 1)) n (t.flatMap iw) = il (.slice A' n (ci - 1)) t := by
    unfold il
    rw [HTL.out]
  rw [eil] at hs
  clear eil
  have hs2 : St P0 w0 ((wb.setCell ⟨w.heap.size + 1 + 1, 8, none⟩ (.slice A' n (ci - 1))).alloc (.cells #[.int .i64 (x.f : Int), .int .i64 (x.w : Int)] 64)) (bk wb.heap.size 64 #[.int .i64 (x.f : Int), .int .i64 (x.w : Int)] :: bk (w.heap.size + 1 + 1) 72 #[.bool b0, .bool b1, .bool b2, .bool b3, .bool b4, .bool b5, .bool b6, .bool b7, .slice A' n (ci - 1)] :: bk (w.heap.size + 1) 64 #[.int .i64 0, .int .i64 0] :: bk (w.heap.size) 62 #[.int .i64 3, .int .i64 (i : Int), .int .i64 to, .int .i64 W] :: both (rb (.slice (some ⟨g, o, none⟩) S.length c) S) (il (.slice A' n (ci - 1)) t) :: F) := hs
  clear hs es qf8
  generalize (wb.setCell ⟨w.heap.size + 1 + 1, 8, none⟩ (.slice A' n (ci - 1))).alloc (.cells #[.int .i64 (x.f : Int), .int .i64 (x.w : Int)] 64) = wd at hs2 ⊢
  generalize wb.heap.size = b10 at hs2 hp5 ⊢
  have hs := hs2
  clear hs2 HS
  have y3 : St P0 w0 wd (bk (w.heap.size) 62 #[.int .i64 3, .int .i64 (i : Int), .int .i64 to, .int .i64 W] :: _) := hs.get 3
  have y9 : St P0 w0 wd (bk (w.heap.size + 1 + 1) 72 #[.bool b0, .bool b1, .bool b2, .bool b3, .bool b4, .bool b5, .bool b6, .bool b7, .slice A' n (ci - 1)] :: _) := hs.get 1
  have m1 : wd.cell? ⟨w.heap.size, 1, none⟩ = some (.int .i64 (i : Int)) := cell_of_block y3.bk_at 1
  have n0 : wd.cell? ⟨w.heap.size + 1 + 1, 0, none⟩ = some (.bool b0) := cell_of_block y9.bk_at 0
  have n1 : wd.cell? ⟨w.heap.size + 1 + 1, 1, none⟩ = some (.bool b1) := cell_of_block y9.bk_at 1
  have n2 : wd.cell? ⟨w.heap.size + 1 + 1, 2, none⟩ = some (.bool b2) := cell_of_block y9.bk_at 2
  have n3 : wd.cell? ⟨w.heap.size + 1 + 1, 3, none⟩ = some (.bool b3) := cell_of_block y9.bk_at 3
  have n4 : wd.cell? ⟨w.heap.size + 1 + 1, 4, none⟩ = some (.bool b4) := cell_of_block y9.bk_at 4
  have n5 : wd.cell? ⟨w.heap.size + 1 + 1, 5, none⟩ = some (.bool b5) := cell_of_block y9.bk_at 5
  have n6 : wd.cell? ⟨w.heap.size + 1 + 1, 6, none⟩ = some (.bool b6) := cell_of_block y9.bk_at 6
  have n7 : wd.cell? ⟨w.heap.size + 1 + 1, 7, none⟩ = some (.bool b7) := cell_of_block y9.bk_at 7
  have n8 : wd.cell? ⟨w.heap.size + 1 + 1, 8, none⟩ = some (.slice A' n (ci - 1)) := cell_of_block y9.bk_at 8
  have p0 : wd.cell? ⟨b10, 0, none⟩ = some (.int .i64 (x.f : Int)) := cell_of_block hs.bk_at 0
  have p1 : wd.cell? ⟨b10, 1, none⟩ = some (.int .i64 (x.w : Int)) := cell_of_block hs.bk_at 1
  have HX := Lib.hid hs
  clear hs y3 y9
  have HG2 : Hid (.agg #[.bool b0, .bool b1, .bool b2, .bool b3, .bool b4, .bool b5, .bool b6, .bool b7, .slice A' n (ci - 1)] = coreV C.m (.slice A' n (ci - 1))) := HG3
  go_wp2_with fail
  go_region_held3 (fun wx => wx.cell? ⟨w.heap.size, 1, none⟩ = some (.int .i64 (i : Int)) ∧ wx.cell? ⟨w.heap.size + 1 + 1, 0, none⟩ = some (.bool b0) ∧ wx.cell? ⟨w.heap.size + 1 + 1, 1, none⟩ = some (.bool b1) ∧ wx.cell? ⟨w.heap.size + 1 + 1, 2, none⟩ = some (.bool b2) ∧ wx.cell? ⟨w.heap.size + 1 + 1, 3, none⟩ = some (.bool b3) ∧ wx.cell? ⟨w.heap.size + 1 + 1, 4, none⟩ = some (.bool b4) ∧ wx.cell? ⟨w.heap.size + 1 + 1, 5, none⟩ = some (.bool b5) ∧ wx.cell? ⟨w.heap.size + 1 + 1, 6, none⟩ = some (.bool b6) ∧ wx.cell? ⟨w.heap.size + 1 + 1, 7, none⟩ = some (.bool b7) ∧ wx.cell? ⟨w.heap.size + 1 + 1, 8, none⟩ = some (.slice A' n (ci - 1)) ∧ wx.cell? ⟨b10, 0, none⟩ = some (.int .i64 (x.f : Int)) ∧ wx.cell? ⟨b10, 1, none⟩ = some (.int .i64 (x.w : Int)) ∧ Hid (∃ v0 v1 : Value, St P0 w0 wx (bk (w.heap.size + 1) 64 #[v0, v1] :: bk b10 64 #[.int .i64 (x.f : Int), .int .i64 (x.w : Int)] :: bk (w.heap.size + 1 + 1) 72 #[.bool b0, .bool b1, .bool b2, .bool b3, .bool b4, .bool b5, .bool b6, .bool b7, .slice A' n (ci - 1)] :: bk (w.heap.size) 62 #[.int .i64 3, .int .i64 (i : Int), .int .i64 to, .int .i64 W] :: both (rb (.slice (some ⟨g, o, none⟩) S.length c) S) (il (.slice A' n (ci - 1)) t) :: F)))
    (first | exact ⟨m1, n0, n1, n2, n3, n4, n5, n6, n7, n8, p0, p1, Lib.hid ⟨_, _, (HX.out.get 2).drew⟩⟩ | (go_split_ands; exact ⟨cell_up hu (by assumption), cell_up hu (by assumption), cell_up hu (by assumption), cell_up hu (by assumption), cell_up hu (by assumption), cell_up hu (by assumption), cell_up hu (by assumption), cell_up hu (by assumption), cell_up hu (by assumption), cell_up hu (by assumption), cell_up hu (by assumption), cell_up hu (by assumption), Lib.hid ⟨_, _, hst.more hu⟩⟩) | (go_split_ands; exact ⟨cell_set2 (by omega) (cell_up hu (by assumption)), cell_set2 (by omega) (cell_up hu (by assumption)), cell_set2 (by omega) (cell_up hu (by assumption)), cell_set2 (by omega) (cell_up hu (by assumption)), cell_set2 (by omega) (cell_up hu (by assumption)), cell_set2 (by omega) (cell_up hu (by assumption)), cell_set2 (by omega) (cell_up hu (by assumption)), cell_set2 (by omega) (cell_up hu (by assumption)), cell_set2 (by omega) (cell_up hu (by assumption)), cell_set2 (by omega) (cell_up hu (by assumption)), cell_set2 (by omega) (cell_up hu (by assumption)), cell_set2 (by omega) (cell_up hu (by assumption)), Lib.hid ⟨_, _, ((hst.more hu).set 0 _).set 1 _⟩⟩))
    (first
      | (go_at_call 70; go_split_ands; (obtain ⟨v0, v1, hst⟩ := Hid.out (‹Hid (∃ v0 v1 : Value, St P0 w0 _ _)›)); rw [HG2.out]; refine (with_u (hst.get 4) i HI.out H8.out C.m HM.out).mono ?_; rintro e w9 ⟨V9, rfl, hs9, hu⟩; have z0 : w9.cell? ⟨w.heap.size + 1, 0, none⟩ = some v0 := cell_of_block ((hst.more hu).bk_at) 0; have z1 : w9.cell? ⟨w.heap.size + 1, 1, none⟩ = some v1 := cell_of_block ((hst.more hu).bk_at) 1; have zf0 : w9.frozen? ⟨w.heap.size + 1, 0, none⟩ = false := free_of_block ((hst.more hu).bk_at) 0; have zf1 : w9.frozen? ⟨w.heap.size + 1, 1, none⟩ = false := free_of_block ((hst.more hu).bk_at) 1))
  go_split_ands
  have H9 := Lib.hid hs9
  clear hs9 hu
  go_wp2
  refine bodyPost_ret (v := .tuple #[V9, .agg #[.int .i64 x.f, .int .i64 x.w], .int .i64 0]) ?_ rfl ⟨V9, rfl, ?_⟩
  · simp [results, Try.results31, go_sem, *]
  · exact ((((((H9.out.get 1).set 0 (.int .i64 x.f)).set 1 (.int .i64 x.w)).cut 0).cut 1).cut 1).cut 1
set_option maxHeartbeats 16000000 in
set_option maxRecDepth 100000 in
theorem Do_reset (h : St P0 w0 w (rb V S :: F)) (h8 : S.length ≤ 8) (i : Nat) (hi : i < S.length) (to W : Int) :
    Calls Try.prog 31 #[V, .agg #[.int .i64 4, .int .i64 (i : Int), .int .i64 to, .int .i64 W]] w fun e w' => ∃ V', e = .returned (.tuple #[V', .agg #[.int .i64 (doM S 4 (i : Int) to W).2.1.1, .int .i64 (doM S 4 (i : Int) to W).2.1.2], .int .i64 (doM S 4 (i : Int) to W).2.2]) ∧ St P0 w0 w' (both (rb V S) (rb V' (doM S 4 (i : Int) to W).1) :: F) := by
  have E : doM S 4 (i : Int) to W = (S.set i ⟨0, [], by omega⟩, (0, ((S.getD i default).q.length : Int)), 0) := by
    unfold doM resetM
    rw [if_neg (by decide), if_neg (by decide), if_neg (by decide), if_pos rfl, if_pos (by omega)]
    rfl
  rw [E]
  clear E
  obtain ⟨g, o, c, Ai, ci, rfl, hbits, hlist, hst⟩ := rb_core h i hi
  have HA := Lib.hid (fun w => has_walk (some ⟨g, o, none⟩) S.length c i w)
  rw [decide_eq_true (show 0 ≤ (i : Int) ∧ (i : Int) < S.length by omega)] at HA
  have hm8 := (S.getD i default).hm
  have k0 : w.cell? ⟨g, o + i * 9, none⟩ = some (.bool ((S.getD i default).m.testBit 0)) := hbits 0 (by omega)
  have k1 := hbits 1 (by omega)
  rw [← Nat.add_assoc] at k1
  have k2 := hbits 2 (by omega)
  rw [← Nat.add_assoc] at k2
  have k3 := hbits 3 (by omega)
  rw [← Nat.add_assoc] at k3
  have k4 := hbits 4 (by omega)
  rw [← Nat.add_assoc] at k4
  have k5 := hbits 5 (by omega)
  rw [← Nat.add_assoc] at k5
  have k6 := hbits 6 (by omega)
  rw [← Nat.add_assoc] at k6
  have k7 := hbits 7 (by omega)
  rw [← Nat.add_assoc] at k7
  rw [← Nat.add_assoc] at hlist
  have hup := ((Up.refl w).alloc (.cells #[.int .i64 4, .int .i64 (i : Int), .int .i64 to, .int .i64 W] 62)).alloc (.cells #[.int .i64 0, .int .i64 0] 64)
  replace hlist := cell_up hup hlist
  replace k0 := cell_up hup k0
  replace k1 := cell_up hup k1
  replace k2 := cell_up hup k2
  replace k3 := cell_up hup k3
  replace k4 := cell_up hup k4
  replace k5 := cell_up hup k5
  replace k6 := cell_up hup k6
  replace k7 := cell_up hup k7
  clear hup
  have hbl : cbs (bl (S.getD i default).m) (.slice Ai (S.getD i default).q.length ci) = #[.bool ((S.getD i default).m.testBit 0), .bool ((S.getD i default).m.testBit 1), .bool ((S.getD i default).m.testBit 2), .bool ((S.getD i default).m.testBit 3), .bool ((S.getD i default).m.testBit 4), .bool ((S.getD i default).m.testBit 5), .bool ((S.getD i default).m.testBit 6), .bool ((S.getD i default).m.testBit 7), .slice Ai (S.getD i default).q.length ci] := rfl
  have HG := Lib.hid (bl_core (S.getD i default).m (.slice Ai (S.getD i default).q.length ci))
  have ha := ((hst.alloc #[.int .i64 4, .int .i64 (i : Int), .int .i64 to, .int .i64 W] 62).alloc #[.int .i64 0, .int .i64 0] 64).alloc (cbs (bl (S.getD i default).m) (.slice Ai (S.getD i default).q.length ci)) 72
  simp only [World.size_alloc] at ha
  rw [hbl] at ha HG
  generalize (S.getD i default).m.testBit 0 = b0 at k0 ha HG
  generalize (S.getD i default).m.testBit 1 = b1 at k1 ha HG
  generalize (S.getD i default).m.testBit 2 = b2 at k2 ha HG
  generalize (S.getD i default).m.testBit 3 = b3 at k3 ha HG
  generalize (S.getD i default).m.testBit 4 = b4 at k4 ha HG
  generalize (S.getD i default).m.testBit 5 = b5 at k5 ha HG
  generalize (S.getD i default).m.testBit 6 = b6 at k6 ha HG
  generalize (S.getD i default).m.testBit 7 = b7 at k7 ha HG
  obtain ⟨n, hn⟩ : ∃ n, (S.getD i default).q.length = n := ⟨_, rfl⟩
  rw [hn] at ha hlist HG
  have HN := Lib.hid hn
  have HI := Lib.hid hi
  have H8 := Lib.hid h8
  have HM := Lib.hid hm8
  have hi0 : (i : Int) < S.length := by omega
  have HS := Lib.hid ha
  clear h hbits hst ha hbl hn hm8 h8
  generalize S.getD i default = C at *
  rw [HN.out]
  go_enter Try.func31, Try.ntmps31
  go_upto_region 17 with (go_at_call 69; (with_reducible refine (HA.out _).mono ?_); rintro e w9 ⟨rfl, hw⟩; have hw := hw.symm; subst hw)
  have hs := HS.out
  change St P0 w0 (((w.alloc (.cells #[.int .i64 4, .int .i64 (i : Int), .int .i64 to, .int .i64 W] 62)).alloc (.cells #[.int .i64 0, .int .i64 0] 64)).alloc (.cells #[.bool b0, .bool b1, .bool b2, .bool b3, .bool b4, .bool b5, .bool b6, .bool b7, .slice Ai n ci] 72)) _ at hs
  generalize ((w.alloc (.cells #[.int .i64 4, .int .i64 (i : Int), .int .i64 to, .int .i64 W] 62)).alloc (.cells #[.int .i64 0, .int .i64 0] 64)).alloc (.cells #[.bool b0, .bool b1, .bool b2, .bool b3, .bool b4, .bool b5, .bool b6, .bool b7, .slice Ai n ci] 72) = wb at hs ⊢
  have y3 : St P0 w0 wb (bk (w.heap.size) 62 #[.int .i64 4, .int .i64 (i : Int), .int .i64 to, .int .i64 W] :: _) := hs.get 2
  have y5 : St P0 w0 wb (bk (w.heap.size + 1) 64 #[.int .i64 0, .int .i64 0] :: _) := hs.get 1
  have t0 : wb.cell? ⟨w.heap.size, 0, none⟩ = some (.int .i64 4) := cell_of_block y3.bk_at 0
  have t1 : wb.cell? ⟨w.heap.size, 1, none⟩ = some (.int .i64 (i : Int)) := cell_of_block y3.bk_at 1
  have t2 : wb.cell? ⟨w.heap.size, 2, none⟩ = some (.int .i64 to) := cell_of_block y3.bk_at 2
  have t3 : wb.cell? ⟨w.heap.size, 3, none⟩ = some (.int .i64 W) := cell_of_block y3.bk_at 3
  have r0 : wb.cell? ⟨w.heap.size + 1, 0, none⟩ = some (.int .i64 0) := cell_of_block y5.bk_at 0
  have rf0 : wb.frozen? ⟨w.heap.size + 1, 0, none⟩ = false := free_of_block y5.bk_at 0
  have r1 : wb.cell? ⟨w.heap.size + 1, 1, none⟩ = some (.int .i64 0) := cell_of_block y5.bk_at 1
  have rf1 : wb.frozen? ⟨w.heap.size + 1, 1, none⟩ = false := free_of_block y5.bk_at 1
  have q0 : wb.cell? ⟨w.heap.size + 1 + 1, 0, none⟩ = some (.bool b0) := cell_of_block hs.bk_at 0
  have q1 : wb.cell? ⟨w.heap.size + 1 + 1, 1, none⟩ = some (.bool b1) := cell_of_block hs.bk_at 1
  have q2 : wb.cell? ⟨w.heap.size + 1 + 1, 2, none⟩ = some (.bool b2) := cell_of_block hs.bk_at 2
  have q3 : wb.cell? ⟨w.heap.size + 1 + 1, 3, none⟩ = some (.bool b3) := cell_of_block hs.bk_at 3
  have q4 : wb.cell? ⟨w.heap.size + 1 + 1, 4, none⟩ = some (.bool b4) := cell_of_block hs.bk_at 4
  have q5 : wb.cell? ⟨w.heap.size + 1 + 1, 5, none⟩ = some (.bool b5) := cell_of_block hs.bk_at 5
  have q6 : wb.cell? ⟨w.heap.size + 1 + 1, 6, none⟩ = some (.bool b6) := cell_of_block hs.bk_at 6
  have q7 : wb.cell? ⟨w.heap.size + 1 + 1, 7, none⟩ = some (.bool b7) := cell_of_block hs.bk_at 7
  have q8 : wb.cell? ⟨w.heap.size + 1 + 1, 8, none⟩ = some (.slice Ai n ci) := cell_of_block hs.bk_at 8
  have HS := Lib.hid hs
  clear hs y3 y5
  have HZ : coreV 0 (.slice none 0 0) = .agg #[.bool false, .bool false, .bool false, .bool false, .bool false, .bool false, .bool false, .bool false, .slice none 0 0] := rfl
  have hx : St P0 w0 wb (bk (w.heap.size + 1) 64 #[.int .i64 0, .int .i64 0] :: both (rb (.slice (some ⟨g, o, none⟩) S.length c) S) (il (.slice Ai n ci) C.q) :: bk (w.heap.size + 1 + 1) 72 #[.bool b0, .bool b1, .bool b2, .bool b3, .bool b4, .bool b5, .bool b6, .bool b7, .slice Ai n ci] :: bk (w.heap.size) 62 #[.int .i64 4, .int .i64 (i : Int), .int .i64 to, .int .i64 W] :: F) := (HS.out.get 3).get 2
  have HX := Lib.hid hx
  clear hx
  clear HG
  go_wp2_with fail
  go_region_held3 (fun wx => wx.cell? ⟨w.heap.size, 1, none⟩ = some (.int .i64 (i : Int)) ∧ wx.cell? ⟨w.heap.size + 1 + 1, 8, none⟩ = some (.slice Ai n ci) ∧ Hid (∃ v0 v1 : Value, St P0 w0 wx (bk (w.heap.size + 1) 64 #[v0, v1] :: both (rb (.slice (some ⟨g, o, none⟩) S.length c) S) (il (.slice Ai n ci) C.q) :: bk (w.heap.size + 1 + 1) 72 #[.bool b0, .bool b1, .bool b2, .bool b3, .bool b4, .bool b5, .bool b6, .bool b7, .slice Ai n ci] :: bk (w.heap.size) 62 #[.int .i64 4, .int .i64 (i : Int), .int .i64 to, .int .i64 W] :: F)))
    (first | exact ⟨t1, q8, Lib.hid ⟨_, _, (HX.out).drew⟩⟩ | (go_split_ands; exact ⟨cell_up hu (by assumption), cell_up hu (by assumption), Lib.hid ⟨_, _, hst.more hu⟩⟩) | (go_split_ands; exact ⟨cell_set2 (by omega) (cell_up hu (by assumption)), cell_set2 (by omega) (cell_up hu (by assumption)), Lib.hid ⟨_, _, ((hst.more hu).set 0 _).set 1 _⟩⟩))
    (first
      | (go_at_call 70; go_split_ands; (obtain ⟨v0, v1, hst⟩ := Hid.out (‹Hid (∃ v0 v1 : Value, St P0 w0 _ _)›)); rw [← HZ]; refine (with_u (Vx := .slice none 0 0) (q := []) ((hst.get 1).imp fun P hP => ⟨hP.1, slc_nil _ _ _ _⟩) i HI.out H8.out 0 (by omega)).mono ?_; rintro e w9 ⟨V9, rfl, hs9, hu⟩; have z0 : w9.cell? ⟨w.heap.size + 1, 0, none⟩ = some v0 := cell_of_block ((hst.more hu).bk_at) 0; have z1 : w9.cell? ⟨w.heap.size + 1, 1, none⟩ = some v1 := cell_of_block ((hst.more hu).bk_at) 1; have zf0 : w9.frozen? ⟨w.heap.size + 1, 0, none⟩ = false := free_of_block ((hst.more hu).bk_at) 0; have zf1 : w9.frozen? ⟨w.heap.size + 1, 1, none⟩ = false := free_of_block ((hst.more hu).bk_at) 1))
  go_split_ands
  have H9 := Lib.hid hs9
  clear hs9 hu
  go_wp2
  refine bodyPost_ret (v := .tuple #[V9, .agg #[.int .i64 0, .int .i64 (n : Int)], .int .i64 0]) ?_ rfl ⟨V9, rfl, ?_⟩
  · simp [results, Try.results31, go_sem, *]
  · exact (((((H9.out.get 1).set 0 (.int .i64 0)).set 1 (.int .i64 (n : Int))).cut 0).cut 1).cut 1
set_option maxHeartbeats 16000000 in
set_option maxRecDepth 100000 in
theorem Do_pend (h : St P0 w0 w (rb V S :: F)) (h8 : S.length ≤ 8) (i : Nat) (hi : i < S.length) (k to W : Int) (h0 : k ≠ 0) (h2 : k ≠ 2) (h3 : k ≠ 3) (h4 : k ≠ 4) :
    Calls Try.prog 31 #[V, .agg #[.int .i64 k, .int .i64 (i : Int), .int .i64 to, .int .i64 W]] w fun e w' => ∃ V', e = .returned (.tuple #[V', .agg #[.int .i64 (doM S k (i : Int) to W).2.1.1, .int .i64 (doM S k (i : Int) to W).2.1.2], .int .i64 (doM S k (i : Int) to W).2.2]) ∧ St P0 w0 w' (both (rb V S) (rb V' (doM S k (i : Int) to W).1) :: F) := by
  have E : doM S k (i : Int) to W = (S, (0, ((S.getD i default).m : Int)), 0) := by
    unfold doM pendM
    rw [if_neg h0, if_neg h2, if_neg h3, if_neg h4, if_pos (by omega)]
    rfl
  rw [E]
  clear E
  have e0 : (k == 0) = false := beq_eq_false_iff_ne.2 h0
  have e2 : (k == 2) = false := beq_eq_false_iff_ne.2 h2
  have e3 : (k == 3) = false := beq_eq_false_iff_ne.2 h3
  have e4 : (k == 4) = false := beq_eq_false_iff_ne.2 h4
  clear h0 h2 h3 h4
  obtain ⟨g, o, c, Ai, ci, rfl, hbits, hlist, hst⟩ := rb_core h i hi
  have HA := Lib.hid (fun w => has_walk (some ⟨g, o, none⟩) S.length c i w)
  rw [decide_eq_true (show 0 ≤ (i : Int) ∧ (i : Int) < S.length by omega)] at HA
  have hm8 := (S.getD i default).hm
  have k0 : w.cell? ⟨g, o + i * 9, none⟩ = some (.bool ((S.getD i default).m.testBit 0)) := hbits 0 (by omega)
  have k1 := hbits 1 (by omega)
  rw [← Nat.add_assoc] at k1
  have k2 := hbits 2 (by omega)
  rw [← Nat.add_assoc] at k2
  have k3 := hbits 3 (by omega)
  rw [← Nat.add_assoc] at k3
  have k4 := hbits 4 (by omega)
  rw [← Nat.add_assoc] at k4
  have k5 := hbits 5 (by omega)
  rw [← Nat.add_assoc] at k5
  have k6 := hbits 6 (by omega)
  rw [← Nat.add_assoc] at k6
  have k7 := hbits 7 (by omega)
  rw [← Nat.add_assoc] at k7
  rw [← Nat.add_assoc] at hlist
  have hup := ((Up.refl w).alloc (.cells #[.int .i64 k, .int .i64 (i : Int), .int .i64 to, .int .i64 W] 62)).alloc (.cells #[.int .i64 0, .int .i64 0] 64)
  replace hlist := cell_up hup hlist
  replace k0 := cell_up hup k0
  replace k1 := cell_up hup k1
  replace k2 := cell_up hup k2
  replace k3 := cell_up hup k3
  replace k4 := cell_up hup k4
  replace k5 := cell_up hup k5
  replace k6 := cell_up hup k6
  replace k7 := cell_up hup k7
  clear hup
  have hbl : cbs (bl (S.getD i default).m) (.slice Ai (S.getD i default).q.length ci) = #[.bool ((S.getD i default).m.testBit 0), .bool ((S.getD i default).m.testBit 1), .bool ((S.getD i default).m.testBit 2), .bool ((S.getD i default).m.testBit 3), .bool ((S.getD i default).m.testBit 4), .bool ((S.getD i default).m.testBit 5), .bool ((S.getD i default).m.testBit 6), .bool ((S.getD i default).m.testBit 7), .slice Ai (S.getD i default).q.length ci] := rfl
  have HG := Lib.hid (bl_core (S.getD i default).m (.slice Ai (S.getD i default).q.length ci))
  have ha := ((hst.alloc #[.int .i64 k, .int .i64 (i : Int), .int .i64 to, .int .i64 W] 62).alloc #[.int .i64 0, .int .i64 0] 64).alloc (cbs (bl (S.getD i default).m) (.slice Ai (S.getD i default).q.length ci)) 72
  simp only [World.size_alloc] at ha
  rw [hbl] at ha HG
  generalize (S.getD i default).m.testBit 0 = b0 at k0 ha HG
  generalize (S.getD i default).m.testBit 1 = b1 at k1 ha HG
  generalize (S.getD i default).m.testBit 2 = b2 at k2 ha HG
  generalize (S.getD i default).m.testBit 3 = b3 at k3 ha HG
  generalize (S.getD i default).m.testBit 4 = b4 at k4 ha HG
  generalize (S.getD i default).m.testBit 5 = b5 at k5 ha HG
  generalize (S.getD i default).m.testBit 6 = b6 at k6 ha HG
  generalize (S.getD i default).m.testBit 7 = b7 at k7 ha HG
  obtain ⟨n, hn⟩ : ∃ n, (S.getD i default).q.length = n := ⟨_, rfl⟩
  rw [hn] at ha hlist HG
  have HN := Lib.hid hn
  have HI := Lib.hid hi
  have H8 := Lib.hid h8
  have HM := Lib.hid hm8
  have hi0 : (i : Int) < S.length := by omega
  have HS := Lib.hid ha
  clear h hbits hst ha hbl hn hm8 h8
  generalize S.getD i default = C at *
  go_enter Try.func31, Try.ntmps31
  go_upto_region 18 with (go_at_call 69; (with_reducible refine (HA.out _).mono ?_); rintro e w9 ⟨rfl, hw⟩; have hw := hw.symm; subst hw)
  have hs := HS.out
  change St P0 w0 (((w.alloc (.cells #[.int .i64 k, .int .i64 (i : Int), .int .i64 to, .int .i64 W] 62)).alloc (.cells #[.int .i64 0, .int .i64 0] 64)).alloc (.cells #[.bool b0, .bool b1, .bool b2, .bool b3, .bool b4, .bool b5, .bool b6, .bool b7, .slice Ai n ci] 72)) _ at hs
  generalize ((w.alloc (.cells #[.int .i64 k, .int .i64 (i : Int), .int .i64 to, .int .i64 W] 62)).alloc (.cells #[.int .i64 0, .int .i64 0] 64)).alloc (.cells #[.bool b0, .bool b1, .bool b2, .bool b3, .bool b4, .bool b5, .bool b6, .bool b7, .slice Ai n ci] 72) = wb at hs ⊢
  have y3 : St P0 w0 wb (bk (w.heap.size) 62 #[.int .i64 k, .int .i64 (i : Int), .int .i64 to, .int .i64 W] :: _) := hs.get 2
  have y5 : St P0 w0 wb (bk (w.heap.size + 1) 64 #[.int .i64 0, .int .i64 0] :: _) := hs.get 1
  have t0 : wb.cell? ⟨w.heap.size, 0, none⟩ = some (.int .i64 k) := cell_of_block y3.bk_at 0
  have t1 : wb.cell? ⟨w.heap.size, 1, none⟩ = some (.int .i64 (i : Int)) := cell_of_block y3.bk_at 1
  have t2 : wb.cell? ⟨w.heap.size, 2, none⟩ = some (.int .i64 to) := cell_of_block y3.bk_at 2
  have t3 : wb.cell? ⟨w.heap.size, 3, none⟩ = some (.int .i64 W) := cell_of_block y3.bk_at 3
  have r0 : wb.cell? ⟨w.heap.size + 1, 0, none⟩ = some (.int .i64 0) := cell_of_block y5.bk_at 0
  have rf0 : wb.frozen? ⟨w.heap.size + 1, 0, none⟩ = false := free_of_block y5.bk_at 0
  have r1 : wb.cell? ⟨w.heap.size + 1, 1, none⟩ = some (.int .i64 0) := cell_of_block y5.bk_at 1
  have rf1 : wb.frozen? ⟨w.heap.size + 1, 1, none⟩ = false := free_of_block y5.bk_at 1
  have q0 : wb.cell? ⟨w.heap.size + 1 + 1, 0, none⟩ = some (.bool b0) := cell_of_block hs.bk_at 0
  have q1 : wb.cell? ⟨w.heap.size + 1 + 1, 1, none⟩ = some (.bool b1) := cell_of_block hs.bk_at 1
  have q2 : wb.cell? ⟨w.heap.size + 1 + 1, 2, none⟩ = some (.bool b2) := cell_of_block hs.bk_at 2
  have q3 : wb.cell? ⟨w.heap.size + 1 + 1, 3, none⟩ = some (.bool b3) := cell_of_block hs.bk_at 3
  have q4 : wb.cell? ⟨w.heap.size + 1 + 1, 4, none⟩ = some (.bool b4) := cell_of_block hs.bk_at 4
  have q5 : wb.cell? ⟨w.heap.size + 1 + 1, 5, none⟩ = some (.bool b5) := cell_of_block hs.bk_at 5
  have q6 : wb.cell? ⟨w.heap.size + 1 + 1, 6, none⟩ = some (.bool b6) := cell_of_block hs.bk_at 6
  have q7 : wb.cell? ⟨w.heap.size + 1 + 1, 7, none⟩ = some (.bool b7) := cell_of_block hs.bk_at 7
  have q8 : wb.cell? ⟨w.heap.size + 1 + 1, 8, none⟩ = some (.slice Ai n ci) := cell_of_block hs.bk_at 8
  have HS := Lib.hid hs
  clear hs y3 y5
  have HK := Lib.hid (fun w => Mask_walk C.m HM.out Ai n ci w)
  rw [← HG.out] at HK
  go_wp2_with fail
  refine (HK.out _).mono ?_
  rintro e w9 ⟨rfl, hu⟩
  have H9 := Lib.hid (HS.out.more hu)
  have z0 := cell_up hu r0
  have zf0 := frz_up hu r0 rf0
  have z1 := cell_up hu r1
  have zf1 := frz_up hu r1 rf1
  clear HG HK hu HS
  go_wp2
  refine bodyPost_ret (v := .tuple #[.slice (some ⟨g, o, none⟩) S.length c, .agg #[.int .i64 0, .int .i64 (C.m : Int)], .int .i64 0]) ?_ rfl ⟨_, rfl, ?_⟩
  · simp [results, Try.results31, go_sem, *]
  · exact ((((((H9.out.get 1).set 0 (.int .i64 0)).set 1 (.int .i64 (C.m : Int))).drop).drop).drop).left.twice
theorem Do_rb (h : St P0 w0 w (rb V S :: F)) (h8 : S.length ≤ 8) (h16 : ∀ C ∈ S, C.q.length ≤ 16) (k core to W : Int) (hW : -9223372036854775808 ≤ W ∧ W ≤ 9223372036854775807) :
    Calls Try.prog 31 #[V, .agg #[.int .i64 k, .int .i64 core, .int .i64 to, .int .i64 W]] w fun e w' => ∃ V', e = .returned (.tuple #[V', .agg #[.int .i64 (doM S k core to W).2.1.1, .int .i64 (doM S k core to W).2.1.2], .int .i64 (doM S k core to W).2.2]) ∧ St P0 w0 w' (both (rb V S) (rb V' (doM S k core to W).1) :: F) := by
  by_cases h0 : k = 0
  · subst h0
    exact Do_ring h h8 h16 core to W
  · by_cases hc : 0 ≤ core ∧ core < S.length
    · obtain ⟨i, rfl⟩ := Int.eq_ofNat_of_zero_le hc.1
      have hi : i < S.length := by omega
      by_cases h2 : k = 2
      · subst h2
        exact Do_ack h h8 i hi to W hW
      · by_cases h3 : k = 3
        · subst h3
          cases hq : (S.getD i default).q with
          | nil => exact Do_take0 h h8 i hi to W hq
          | cons x t =>
            refine Do_take1 h h8 i hi to W x t hq ?_
            have h5 : (S.getD i default).q.length ≤ 16 := by
              rw [List.getD_eq_getElem?_getD, List.getElem?_eq_getElem hi]
              exact h16 _ (List.getElem_mem hi)
            rw [hq, List.length_cons] at h5
            omega
        · by_cases h4 : k = 4
          · subst h4
            exact Do_reset h h8 i hi to W
          · exact Do_pend h h8 i hi k to W h0 h2 h3 h4
    · exact Do_out h k core to W h0 hc
end
end Go.Proofs.Ytiofdkkjjeljmaa.Ref09
