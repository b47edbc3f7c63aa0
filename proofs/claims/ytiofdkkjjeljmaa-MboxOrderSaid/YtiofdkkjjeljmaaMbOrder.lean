/- MboxOrder, walked. -/
import Derived.Test.YtiofdkkjjeljmaaMbOrder0
import Derived.Deep.Cut
import Derived.BigQuiet
import Derived.Deep.QuietTactic
namespace Go.Proofs.Ytiofdkkjjeljmaa.Mb
set_option linter.unusedVariables false
set_option linter.unusedSimpArgs false
open Go.RowKit Go.Proofs.Ytiofdkkjjeljmaa.Sep Go.Proofs.Ytiofdkkjjeljmaa.Lane Go.Proofs.Ytiofdkkjjeljmaa.Open

theorem info_of2 {P : Program} {t : TypeId} {z : Value} {n b : Nat} (h : (P.info? t).map (fun i => (i.zero, i.size, i.bytes)) = some (some z, n, b)) : ∃ i, P.info? t = some i ∧ i.zero = some z ∧ i.size = n ∧ i.bytes = b := info_of' h
theorem pend_in (S : List MC) (c : Nat) (hc : c < S.length) : pendM S c = (((S.getD c default).m : Int), 0) := by
  unfold pendM
  rw [if_pos (by omega)]
  rfl
theorem wait_in (S : List MC) (c : Nat) (hc : c < S.length) : waitM S c = ((S.getD c default).q.length : Int) := by
  unfold waitM
  rw [if_pos (by omega)]
  rfl
theorem cell_up {w w' : World} {p : Addr} {v : Value} (h : Up w w') (hc : w.cell? p = some v) : w'.cell? p = some v := by
  rw [← hc]
  exact Below.cell h (World.block_lt_of_cell? w _ hc)
theorem len_sub (a b q : Nat) (h : a = b + q) (ha : a ≤ 1000) : wrap64 ((a : Int) - b) = (q : Int) := by
  unfold wrap64
  omega
set_option maxHeartbeats 16000000 in
set_option maxRecDepth 100000 in
theorem order_walk (n : Nat) (h1 : 1 ≤ n) (h2 : n ≤ 8) (A : Option Addr) (cc : Nat) (rows : List (List Int)) (c : Nat) (hcn : c < n) (w : World) (hr : Recs 4 w A rows) (hl : rows.length ≤ 120) :
    Calls Try.prog 8 #[.int .i64 n, .slice A rows.length cc, .int .i64 (c : Int)] w fun e w' => e = .returned (.bool true) ∧ Up w w' := by
  have HR := Lib.hid hr
  clear hr
  have g3 : decide ((rows.length : Int) > 120) = false := decide_eq_false (by omega)
  have g4 : decide ((c : Int) < 0) = false := decide_eq_false (by omega)
  have g5 : decide (n ≤ c) = false := decide_eq_false (by omega)
  have g6 : decide ((n : Int) > 8) = false := decide_eq_false (by omega)
  go_enter Try.func8, Try.ntmps8
  go_wp2_with fail
  refine (New_st (St.nil w) n h1 h2).mono ?_
  rintro e w1 ⟨b, rfl, hs⟩
  have HS1 : Hid (St No w w1 [mb b (List.replicate n ⟨0, [], by omega⟩), il (.slice none 0 0) [], il (.slice none 0 0) []]) := Lib.hid ((St.fresh (M := [il (.slice none 0 0) [], il (.slice none 0 0) []]) hs (Up.refl _) ⟨No, No, fun _ e => e.elim, fun _ e => e.elim, fun _ e => e.elim, slc_nil _ _ _ _, No, No, fun _ e => e.elim, fun _ e => e.elim, fun _ e => e.elim, slc_nil _ _ _ _, trivial⟩).get 2)
  have HQ0 : Hid ((List.replicate n (⟨0, [], by omega⟩ : MC)).getD c default = ⟨0, [], by omega⟩) := Lib.hid (by simp [List.getD_eq_getElem?_getD, hcn])
  clear hs
  go_wp2_with fail
  go_loopw [44, 8, 9, 10] (fun v44 v8 v9 v10 wx => ∃ (i : Nat) (S : List MC) (R Tk : List It), i ≤ rows.length ∧ v44 = .int .i64 i ∧ v10 = .int .i64 ((S.getD c default).m : Int) ∧ Hid (St No w wx [mb b S, il v8 R, il v9 Tk]) ∧ Hid (S.length = n ∧ R = Tk ++ (S.getD c default).q ∧ R.length ≤ i)) (fun v44 _ _ _ _ => rows.length - (intOf v44).toNat)
  case atStart => exact ⟨0, List.replicate n ⟨0, [], by omega⟩, [], [], Nat.zero_le _, rfl, by rw [HQ0.out]; rfl, HS1, Lib.hid ⟨by simp, by rw [HQ0.out]; rfl, Nat.le_refl _⟩⟩
  case round =>
    clear HS1 HQ0
    obtain ⟨i, S, R, Tk, hi, rfl, rfl, HS, HI⟩ := hrel
    have hs := HS.out
    obtain ⟨A1, c1, rfl, hc1, hc2, -⟩ := il_form (hs.get 1)
    obtain ⟨A2, c2, rfl, hd1, hd2, -⟩ := il_form (hs.get 2)
    by_cases hlt : i < rows.length
    · obtain ⟨ad, k, a, t, z, rfl, k0, k1, k2, k3⟩ := row4_cells HR.out i hlt
      have m0 := cell_up hs.up k0
      have m1 := cell_up hs.up k1
      have m2 := cell_up hs.up k2
      have m3 := cell_up hs.up k3
      clear k0 k1 k2 k3
      by_cases hk4 : k = 4
      · subst hk4
        have HS2 := Lib.hid (hs.allocU (.cells #[.int .i64 4, .int .i64 a, .int .i64 t, .int .i64 z] 62))
        clear hs HS
        go_wp2
        go_roundw
        case rel => exact ⟨i + 1, S, R, Tk, by omega, by go_num, rfl, HS2, Lib.hid ⟨HI.out.1, HI.out.2.1, by have := HI.out.2.2; omega⟩⟩
        case measure => simp [intOf]; omega
      · have K4 : (k == 4) = false := beq_eq_false_iff_ne.2 hk4
        have HS1 : Hid (St No w (wr.alloc (.cells #[.int .i64 k, .int .i64 a, .int .i64 t, .int .i64 z] 62)) [mb b S, bk wr.heap.size 62 #[.int .i64 k, .int .i64 a, .int .i64 t, .int .i64 z], il (.slice A1 R.length c1) R, il (.slice A2 Tk.length c2) Tk]) := Lib.hid ((hs.alloc _ _).get 1)
        obtain ⟨S', p, q, e0, hd, hlen, hcase⟩ := order_cases S c (by have := HI.out.1; omega) (by have := HI.out.1; omega) k a t z hk4
        have HD := Lib.hid hd
        have hc' : c < S'.length := by have := HI.out.1; omega
        have HP := Lib.hid (pend_in S' c hc')
        have HW := Lib.hid (wait_in S' c hc')
        have HLEN := Lib.hid (hlen.trans HI.out.1)
        have HRL : Hid (R.length ≤ 120 ∧ Tk.length ≤ 120) := Lib.hid (by have h5 := congrArg List.length HI.out.2.1; have := HI.out.2.2; simp at h5; omega)
        clear hs HS hd hk4 hc' hlen
        obtain ⟨m', hm'⟩ : ∃ m', (S'.getD c default).m = m' := ⟨_, rfl⟩
        obtain ⟨q', hq'⟩ : ∃ q', (S'.getD c default).q = q' := ⟨_, rfl⟩
        rw [hm'] at HP
        rw [hq'] at HW
        have HM' := Lib.hid hm'
        have HQ' := Lib.hid hq'
        rw [hm', hq'] at hcase
        clear hm' hq'
        have HM0 : ∃ m, (S.getD c default).m = m := ⟨_, rfl⟩
        obtain ⟨m, hm0⟩ := HM0
        have HM0h := Lib.hid hm0
        have hm8 : m < 256 := by rw [← hm0]; exact (S.getD c default).hm
        rw [hm0] at hcase ⊢
        clear hm0
        rcases hcase with ⟨f, v, hf, hv, rfl, rfl, rfl, rfl, hfn, rfl, hmm, hqq⟩ | ⟨f, hf, rfl, rfl, rfl, hfn, rfl, hmm, hqq⟩ | ⟨rfl, rfl, hmm, hqq⟩ | ⟨x, rfl, rfl, rfl, rfl, rfl, hmm, hqq⟩ | ⟨hsame, hcase⟩
        · have hqq' : q' = (S.getD c default).q ++ [⟨f, v, hf, hv⟩] := hqq
          have hB : bits .or .i64 (m : Int) (wrap64 (2 ^ f)) = (m' : Int) := by rw [pow_small f hf, bits_or m f hm8 hf, hmm]
          have HI2 : Hid (S'.length = n ∧ (R ++ [⟨f, v, hf, hv⟩]) = Tk ++ (S'.getD c default).q ∧ (R ++ [(⟨f, v, hf, hv⟩ : It)]).length ≤ i + 1) := Lib.hid ⟨HLEN.out, by rw [HQ'.out, hqq', HI.out.2.1, List.append_assoc], by have := HI.out.2.2; simp; omega⟩
          have g8 : wrap64 ((R.length : Int) + 1 - Tk.length) = (q'.length : Int) := by
            have h5 := congrArg List.length HI.out.2.1
            have := HI.out.2.2
            rw [hqq']
            simp at h5 ⊢
            unfold wrap64
            omega
          have ge0 : decide ((f : Int) < 0) = false := decide_eq_false (by omega)
          have ge1 : decide (n ≤ f) = false := decide_eq_false (by have := HI.out.1; omega)
          have HX : Hid (iw ⟨f, v, hf, hv⟩ = [.int .i64 (f : Int), .int .i64 (v : Int)]) := Lib.hid rfl
          obtain ⟨t0, ht0, hz0, hz1, hz2⟩ := info_of2 info_item
          have hR120 := HRL.out.1
          clear hmm hqq hqq'
          go_wp2_with fail
          refine (do_st HS1.out 0 (f : Int) (c : Int) (v : Int)).mono ?_
          rw [HD.out]
          rintro e w4 ⟨rfl, hs⟩
          have p0 : w4.cell? ⟨wr.heap.size, 0, none⟩ = some (.int .i64 0) := cell_of_block (hs.get 1).bk_at 0
          have p1 : w4.cell? ⟨wr.heap.size, 1, none⟩ = some (.int .i64 (f : Int)) := cell_of_block (hs.get 1).bk_at 1
          have p2 : w4.cell? ⟨wr.heap.size, 2, none⟩ = some (.int .i64 (c : Int)) := cell_of_block (hs.get 1).bk_at 2
          have p3 : w4.cell? ⟨wr.heap.size, 3, none⟩ = some (.int .i64 (v : Int)) := cell_of_block (hs.get 1).bk_at 3
          have n1 := (hs.get 1).bk_in.2
          have n2 := World.new_ne w4 _ p0
          have hs5 : St No w (w4.alloc (.cells #[.int .i64 p, .int .i64 q] 64)) [mb b S', bk w4.heap.size 64 #[.int .i64 p, .int .i64 q], bk wr.heap.size 62 #[.int .i64 0, .int .i64 (f : Int), .int .i64 (c : Int), .int .i64 (v : Int)], il (.slice A1 R.length c1) R, il (.slice A2 Tk.length c2) Tk] := (hs.alloc #[.int .i64 p, .int .i64 q] 64).get 1
          have hs6 := (hs5.alloc #[.int .i64 (f : Int), .int .i64 (v : Int)] 64).get 4
          rw [World.size_alloc] at hs6
          have HRD4 := Lib.hid (Rd.of_block (sz := 2) (m := 1) ((hs5.alloc #[.int .i64 (f : Int), .int .i64 (v : Int)] 64).bk_at) rfl (by simp [Value.oneCell']))
          rw [World.size_alloc] at HRD4
          have HS6 := Lib.hid hs6
          clear hs hs5 hs6 HS1 HD m0 m1 m2 m3
          go_wp2_with (at_builtin; refine St.append 64 t0 (.agg #[.int .i64 0, .int .i64 0]) 2 16 HS6.out rfl (.tmp 92) (.tmp 98) 70 rfl Try.underlying70 ht0 hz0 hz1 hz2 rfl (by decide) rfl (some ⟨w4.heap.size + 1, 0, none⟩) 1 1 [.int .i64 (f : Int), .int .i64 (v : Int)] rfl HRD4.out (by unfold maxLen; omega) (by omega) ?_; intro A5 c5 w5 hst hsz; have HB0 : Hid (St No w w5 [slc 64 2 (.slice A5 (R.length + 1) c5) (R.length + 1) (R.flatMap iw ++ [.int .i64 (f : Int), .int .i64 (v : Int)]), mb b S', il (.slice A2 Tk.length c2) Tk]) := Lib.hid (((hst.cut 1).cut 2).cut 2); have y0 : w5.cell? ⟨wr.heap.size, 0, none⟩ = some (.int .i64 0) := cell_of_block (hst.get 4).bk_at 0; have y1 : w5.cell? ⟨wr.heap.size, 1, none⟩ = some (.int .i64 (f : Int)) := cell_of_block (hst.get 4).bk_at 1; clear hst hsz)
          have hb : St No w w5 [mb b S', il (.slice A5 (R.length + 1) c5) (R ++ [⟨f, v, hf, hv⟩]), il (.slice A2 Tk.length c2) Tk] := by
            unfold il
            have e2 : (R ++ [(⟨f, v, hf, hv⟩ : It)]).length = R.length + 1 := by simp
            rw [e2, iw_snoc, HX.out]
            exact HB0.out.get 1
          have HB := Lib.hid hb
          clear hb HB0
          go_wp2_with fail
          refine (Pending_st HB.out c).mono ?_
          rw [HP.out]
          rintro e w8 ⟨rfl, hs⟩
          have HB8 := Lib.hid hs
          clear hs
          go_wp2_with fail
          refine (Waits_st HB8.out c).mono ?_
          rw [HW.out]
          rintro e w9 ⟨rfl, hs⟩
          have HB9 := Lib.hid hs
          clear hs
          go_wp2
          go_roundw
          case rel => exact ⟨i + 1, S', R ++ [⟨f, v, hf, hv⟩], Tk, by omega, by go_num, by rw [HM'.out], HB9, HI2⟩
          case measure => simp [intOf]; omega
        · have hB : bits .or .i64 (m : Int) (wrap64 (2 ^ f)) = (m' : Int) := by rw [pow_small f hf, bits_or m f hm8 hf, hmm]
          have HI2 : Hid (S'.length = n ∧ R = Tk ++ (S'.getD c default).q ∧ R.length ≤ i + 1) := Lib.hid ⟨HLEN.out, by rw [HQ'.out, hqq]; exact HI.out.2.1, by have := HI.out.2.2; omega⟩
          have g8 : wrap64 ((R.length : Int) - Tk.length) = (q'.length : Int) := by
            have h5 := congrArg List.length HI.out.2.1
            have := HI.out.2.2
            rw [hqq]
            rw [List.length_append] at h5
            unfold wrap64
            omega
          have ge0 : decide ((f : Int) < 0) = false := decide_eq_false (by omega)
          have ge1 : decide (n ≤ f) = false := decide_eq_false (by have := HI.out.1; omega)
          clear hmm hqq
          go_wp2_with fail
          refine (do_st HS1.out 0 (f : Int) (c : Int) z).mono ?_
          rw [HD.out]
          rintro e w4 ⟨rfl, hs⟩
          have p0 : w4.cell? ⟨wr.heap.size, 0, none⟩ = some (.int .i64 0) := cell_of_block (hs.get 1).bk_at 0
          have p1 : w4.cell? ⟨wr.heap.size, 1, none⟩ = some (.int .i64 (f : Int)) := cell_of_block (hs.get 1).bk_at 1
          have p2 : w4.cell? ⟨wr.heap.size, 2, none⟩ = some (.int .i64 (c : Int)) := cell_of_block (hs.get 1).bk_at 2
          have p3 : w4.cell? ⟨wr.heap.size, 3, none⟩ = some (.int .i64 z) := cell_of_block (hs.get 1).bk_at 3
          have n1 := (hs.get 1).bk_in.2
          have n2 := World.new_ne w4 _ p0
          have hs5 : St No w (w4.alloc (.cells #[.int .i64 p, .int .i64 q] 64)) [mb b S', bk w4.heap.size 64 #[.int .i64 p, .int .i64 q], bk wr.heap.size 62 #[.int .i64 0, .int .i64 (f : Int), .int .i64 (c : Int), .int .i64 z], il (.slice A1 R.length c1) R, il (.slice A2 Tk.length c2) Tk] := (hs.alloc #[.int .i64 p, .int .i64 q] 64).get 1
          have HB : Hid (St No w (w4.alloc (.cells #[.int .i64 p, .int .i64 q] 64)) [mb b S', il (.slice A1 R.length c1) R, il (.slice A2 Tk.length c2) Tk]) := Lib.hid ((hs5.cut 1).cut 1)
          clear hs hs5 HS1 HD m0 m1 m2 m3
          go_wp2_with fail
          refine (Pending_st HB.out c).mono ?_
          rw [HP.out]
          rintro e w8 ⟨rfl, hs⟩
          have HB8 := Lib.hid hs
          clear hs
          go_wp2_with fail
          refine (Waits_st HB8.out c).mono ?_
          rw [HW.out]
          rintro e w9 ⟨rfl, hs⟩
          have HB9 := Lib.hid hs
          clear hs
          go_wp2
          go_roundw
          case rel => exact ⟨i + 1, S', R, Tk, by omega, by go_num, by rw [HM'.out], HB9, HI2⟩
          case measure => simp [intOf]; omega
        · have hB : bits .andNot .i64 (m : Int) z = (m' : Int) := by rw [bits_ack m z hm8, hmm]
          have HI2 : Hid (S'.length = n ∧ R = Tk ++ (S'.getD c default).q ∧ R.length ≤ i + 1) := Lib.hid ⟨HLEN.out, by rw [HQ'.out, hqq]; exact HI.out.2.1, by have := HI.out.2.2; omega⟩
          have g8 : wrap64 ((R.length : Int) - Tk.length) = (q'.length : Int) := by
            have h5 := congrArg List.length HI.out.2.1
            have := HI.out.2.2
            rw [hqq]
            rw [List.length_append] at h5
            unfold wrap64
            omega
          clear hmm hqq
          go_wp2_with fail
          refine (do_st HS1.out 2 (c : Int) t z).mono ?_
          rw [HD.out]
          rintro e w4 ⟨rfl, hs⟩
          have p0 : w4.cell? ⟨wr.heap.size, 0, none⟩ = some (.int .i64 2) := cell_of_block (hs.get 1).bk_at 0
          have p1 : w4.cell? ⟨wr.heap.size, 1, none⟩ = some (.int .i64 (c : Int)) := cell_of_block (hs.get 1).bk_at 1
          have p2 : w4.cell? ⟨wr.heap.size, 2, none⟩ = some (.int .i64 t) := cell_of_block (hs.get 1).bk_at 2
          have p3 : w4.cell? ⟨wr.heap.size, 3, none⟩ = some (.int .i64 z) := cell_of_block (hs.get 1).bk_at 3
          have n1 := (hs.get 1).bk_in.2
          have n2 := World.new_ne w4 _ p0
          have hs5 : St No w (w4.alloc (.cells #[.int .i64 p, .int .i64 q] 64)) [mb b S', bk w4.heap.size 64 #[.int .i64 p, .int .i64 q], bk wr.heap.size 62 #[.int .i64 2, .int .i64 (c : Int), .int .i64 t, .int .i64 z], il (.slice A1 R.length c1) R, il (.slice A2 Tk.length c2) Tk] := (hs.alloc #[.int .i64 p, .int .i64 q] 64).get 1
          have HB : Hid (St No w (w4.alloc (.cells #[.int .i64 p, .int .i64 q] 64)) [mb b S', il (.slice A1 R.length c1) R, il (.slice A2 Tk.length c2) Tk]) := Lib.hid ((hs5.cut 1).cut 1)
          clear hs hs5 HS1 HD m0 m1 m2 m3
          go_wp2_with fail
          refine (Pending_st HB.out c).mono ?_
          rw [HP.out]
          rintro e w8 ⟨rfl, hs⟩
          have HB8 := Lib.hid hs
          clear hs
          go_wp2_with fail
          refine (Waits_st HB8.out c).mono ?_
          rw [HW.out]
          rintro e w9 ⟨rfl, hs⟩
          have HB9 := Lib.hid hs
          clear hs
          go_wp2
          go_roundw
          case rel => exact ⟨i + 1, S', R, Tk, by omega, by go_num, by rw [HM'.out], HB9, HI2⟩
          case measure => simp [intOf]; omega
        · have HX : Hid (iw x = [.int .i64 (x.f : Int), .int .i64 (x.w : Int)]) := Lib.hid rfl
          have HI2 : Hid (S'.length = n ∧ R = (Tk ++ [x]) ++ (S'.getD c default).q ∧ R.length ≤ i + 1) := Lib.hid ⟨HLEN.out, by rw [HQ'.out, List.append_assoc, List.singleton_append, ← hqq]; exact HI.out.2.1, by have := HI.out.2.2; omega⟩
          have g8 : wrap64 ((R.length : Int) - ((Tk.length : Int) + 1)) = (q'.length : Int) := by
            have h5 := congrArg List.length HI.out.2.1
            have := HI.out.2.2
            rw [hqq, List.length_append, List.length_cons] at h5
            unfold wrap64
            omega
          obtain ⟨t0, ht0, hz0, hz1, hz2⟩ := info_of2 info_item
          have hR120 := HRL.out.2
          subst hmm
          clear hqq
          go_wp2_with fail
          refine (do_st HS1.out 3 (c : Int) t z).mono ?_
          rw [HD.out]
          rintro e w4 ⟨rfl, hs⟩
          have p0 : w4.cell? ⟨wr.heap.size, 0, none⟩ = some (.int .i64 3) := cell_of_block (hs.get 1).bk_at 0
          have p1 : w4.cell? ⟨wr.heap.size, 1, none⟩ = some (.int .i64 (c : Int)) := cell_of_block (hs.get 1).bk_at 1
          have p2 : w4.cell? ⟨wr.heap.size, 2, none⟩ = some (.int .i64 t) := cell_of_block (hs.get 1).bk_at 2
          have p3 : w4.cell? ⟨wr.heap.size, 3, none⟩ = some (.int .i64 z) := cell_of_block (hs.get 1).bk_at 3
          have n1 := (hs.get 1).bk_in.2
          have n2 := World.new_ne w4 _ p0
          have hs5 : St No w (w4.alloc (.cells #[.int .i64 (x.f : Int), .int .i64 (x.w : Int)] 64)) [mb b S', bk w4.heap.size 64 #[.int .i64 (x.f : Int), .int .i64 (x.w : Int)], bk wr.heap.size 62 #[.int .i64 3, .int .i64 (c : Int), .int .i64 t, .int .i64 z], il (.slice A1 R.length c1) R, il (.slice A2 Tk.length c2) Tk] := (hs.alloc #[.int .i64 (x.f : Int), .int .i64 (x.w : Int)] 64).get 1
          have hs6 := (hs5.alloc #[.int .i64 (x.f : Int), .int .i64 (x.w : Int)] 64).get 5
          rw [World.size_alloc] at hs6
          have HRD4 := Lib.hid (Rd.of_block (sz := 2) (m := 1) ((hs5.alloc #[.int .i64 (x.f : Int), .int .i64 (x.w : Int)] 64).bk_at) rfl (by simp [Value.oneCell']))
          rw [World.size_alloc] at HRD4
          have HS6 := Lib.hid hs6
          clear hs hs5 hs6 HS1 HD m0 m1 m2 m3
          go_wp2_with (at_builtin; refine St.append 64 t0 (.agg #[.int .i64 0, .int .i64 0]) 2 16 HS6.out rfl (.tmp 128) (.tmp 130) 70 rfl Try.underlying70 ht0 hz0 hz1 hz2 rfl (by decide) rfl (some ⟨w4.heap.size + 1, 0, none⟩) 1 1 [.int .i64 (x.f : Int), .int .i64 (x.w : Int)] rfl HRD4.out (by unfold maxLen; omega) (by omega) ?_; intro A5 c5 w5 hst hsz; have HB0 : Hid (St No w w5 [slc 64 2 (.slice A5 (Tk.length + 1) c5) (Tk.length + 1) (Tk.flatMap iw ++ [.int .i64 (x.f : Int), .int .i64 (x.w : Int)]), mb b S', il (.slice A1 R.length c1) R]) := Lib.hid (((hst.cut 1).cut 2).cut 2); clear hst hsz)
          have hb : St No w w5 [mb b S', il (.slice A1 R.length c1) R, il (.slice A5 (Tk.length + 1) c5) (Tk ++ [x])] := by
            unfold il
            have e2 : (Tk ++ [x]).length = Tk.length + 1 := by simp
            rw [e2, iw_snoc, HX.out]
            exact ((HB0.out.get 1).get 2).get 1
          have HB := Lib.hid hb
          clear hb HB0
          go_wp2_with fail
          refine (Pending_st HB.out c).mono ?_
          rw [HP.out]
          rintro e w8 ⟨rfl, hs⟩
          have HB8 := Lib.hid hs
          clear hs
          go_wp2_with fail
          refine (Waits_st HB8.out c).mono ?_
          rw [HW.out]
          rintro e w9 ⟨rfl, hs⟩
          have HB9 := Lib.hid hs
          clear hs
          go_wp2
          go_roundw
          case rel => exact ⟨i + 1, S', R, Tk ++ [x], by omega, by go_num, by rw [HM'.out], HB9, HI2⟩
          case measure => simp [intOf]; omega
        · have hqq : q' = (S.getD c default).q := by rw [← HQ'.out, hsame]
          have hmm : m' = m := by rw [← HM'.out, hsame, HM0h.out]
          have HI2 : Hid (S'.length = n ∧ R = Tk ++ (S'.getD c default).q ∧ R.length ≤ i + 1) := Lib.hid ⟨HLEN.out, by rw [HQ'.out, hqq]; exact HI.out.2.1, by have := HI.out.2.2; omega⟩
          have g8 : wrap64 ((R.length : Int) - Tk.length) = (q'.length : Int) := by
            have h5 := congrArg List.length HI.out.2.1
            have := HI.out.2.2
            rw [hqq]
            rw [List.length_append] at h5
            unfold wrap64
            omega
          have hw6 : (k = 0 ∧ (k == 0) = true ∧ (t == (c : Int)) = false ∧ (k == 2) = false ∧ (k == 3) = false) ∨ (k = 0 ∧ (k == 0) = true ∧ (t == (c : Int)) = true ∧ (e0 == 0) = false ∧ (e0 == 5) = false ∧ (k == 2) = false ∧ (k == 3) = false) ∨ ((k == 0) = false ∧ (k == 2) = true ∧ (a == (c : Int)) = false ∧ (k == 3) = false) ∨ ((k == 0) = false ∧ (k == 2) = false ∧ (k == 3) = true ∧ (a == (c : Int)) = false) ∨ ((k == 0) = false ∧ (k == 2) = false ∧ (k == 3) = true ∧ (a == (c : Int)) = true ∧ (e0 == 0) = false) ∨ ((k == 0) = false ∧ (k == 2) = false ∧ (k == 3) = false) := by
            rcases hcase with ⟨rfl, h⟩ | ⟨rfl, rfl, h, h'⟩ | ⟨rfl, h⟩ | ⟨rfl, h⟩ | ⟨rfl, rfl, h⟩ | ⟨h, h', h''⟩
            · exact .inl ⟨rfl, rfl, beq_eq_false_iff_ne.2 h, rfl, rfl⟩
            · exact .inr (.inl ⟨rfl, rfl, by simp, beq_eq_false_iff_ne.2 h, beq_eq_false_iff_ne.2 h', rfl, rfl⟩)
            · exact .inr (.inr (.inl ⟨rfl, rfl, beq_eq_false_iff_ne.2 h, rfl⟩))
            · exact .inr (.inr (.inr (.inl ⟨rfl, rfl, rfl, beq_eq_false_iff_ne.2 h⟩)))
            · exact .inr (.inr (.inr (.inr (.inl ⟨rfl, rfl, rfl, by simp, beq_eq_false_iff_ne.2 h⟩))))
            · exact .inr (.inr (.inr (.inr (.inr ⟨beq_eq_false_iff_ne.2 h, beq_eq_false_iff_ne.2 h', beq_eq_false_iff_ne.2 h''⟩))))
          subst hmm
          clear hqq hsame hcase
          rcases hw6 with ⟨-, r1, r2, r3, r4⟩ | ⟨-, r1, r2, r3, r4, r5, r6⟩ | ⟨r1, r2, r3, r4⟩ | ⟨r1, r2, r3, r4⟩ | ⟨r1, r2, r3, r4, r5⟩ | ⟨r1, r2, r3⟩
          all_goals
            go_wp2_with fail
            refine (do_st HS1.out k a t z).mono ?_
            rw [HD.out]
            rintro e w4 ⟨rfl, hs⟩
            have p0 : w4.cell? ⟨wr.heap.size, 0, none⟩ = some (.int .i64 k) := cell_of_block (hs.get 1).bk_at 0
            have p1 : w4.cell? ⟨wr.heap.size, 1, none⟩ = some (.int .i64 a) := cell_of_block (hs.get 1).bk_at 1
            have p2 : w4.cell? ⟨wr.heap.size, 2, none⟩ = some (.int .i64 t) := cell_of_block (hs.get 1).bk_at 2
            have p3 : w4.cell? ⟨wr.heap.size, 3, none⟩ = some (.int .i64 z) := cell_of_block (hs.get 1).bk_at 3
            have n1 := (hs.get 1).bk_in.2
            have n2 := World.new_ne w4 _ p0
            have hs5 : St No w (w4.alloc (.cells #[.int .i64 p, .int .i64 q] 64)) [mb b S', bk w4.heap.size 64 #[.int .i64 p, .int .i64 q], bk wr.heap.size 62 #[.int .i64 k, .int .i64 a, .int .i64 t, .int .i64 z], il (.slice A1 R.length c1) R, il (.slice A2 Tk.length c2) Tk] := (hs.alloc #[.int .i64 p, .int .i64 q] 64).get 1
            have HB : Hid (St No w (w4.alloc (.cells #[.int .i64 p, .int .i64 q] 64)) [mb b S', il (.slice A1 R.length c1) R, il (.slice A2 Tk.length c2) Tk]) := Lib.hid ((hs5.cut 1).cut 1)
            clear hs hs5 HS1 HD m0 m1 m2 m3
            go_wp2_with fail
            refine (Pending_st HB.out c).mono ?_
            rw [HP.out]
            rintro e w8 ⟨rfl, hs⟩
            have HB8 := Lib.hid hs
            clear hs
            go_wp2_with fail
            refine (Waits_st HB8.out c).mono ?_
            rw [HW.out]
            rintro e w9 ⟨rfl, hs⟩
            have HB9 := Lib.hid hs
            clear hs
            go_wp2
            go_roundw
            case rel => exact ⟨i + 1, S', R, Tk, by omega, by go_num, by rw [HM'.out], HB9, HI2⟩
            case measure => simp [intOf]; omega
    · obtain rfl : i = rows.length := by omega
      have HS2 := Lib.hid hs
      have hpre : ∀ j, j < Tk.length → j < R.length ∧ R.getD j default = Tk.getD j default := by
        intro j hj
        rw [HI.out.2.1]
        refine ⟨by simp; omega, ?_⟩
        simp [List.getD_eq_getElem?_getD, List.getElem?_append_left hj]
      have HPRE := Lib.hid hpre
      have hT120 : Tk.length ≤ 120 := by
        have h5 := congrArg List.length HI.out.2.1
        have := HI.out.2.2
        rw [List.length_append] at h5
        omega
      clear hpre hs HS HI
      go_wp2_with fail
      go_loopw [159] (fun v159 wx => ∃ j : Nat, j ≤ Tk.length ∧ v159 = .int .i64 j ∧ Hid (St No w wx [mb b S, il (.slice A1 R.length c1) R, il (.slice A2 Tk.length c2) Tk])) (fun v159 _ => Tk.length - (intOf v159).toNat)
      case atStart => exact ⟨0, Nat.zero_le _, rfl, HS2⟩
      case round =>
        clear HS2
        obtain ⟨j, hj, rfl, HS⟩ := hrel
        by_cases hlt2 : j < Tk.length
        · obtain ⟨hjR, hjx⟩ := HPRE.out j hlt2
          have hs := HS.out
          obtain ⟨A3, c3, e3, -, -, hcR⟩ := il_form (hs.get 1)
          cases e3
          obtain ⟨A4, c4, e4, -, -, hcT⟩ := il_form (hs.get 2)
          cases e4
          obtain ⟨g, o, rfl, j0, j1⟩ := hcR j hjR
          obtain ⟨g2, o2, rfl, i0, i1⟩ := hcT j hlt2
          rw [hjx] at j0 j1
          clear hcR hcT hjx
          generalize Tk.getD j default = x at *
          have HS4 := Lib.hid (hs.alloc #[.int .i64 (x.f : Int), .int .i64 (x.w : Int)] 64)
          have hup := (Up.refl wr).alloc (.cells #[.int .i64 (x.f : Int), .int .i64 (x.w : Int)] 64)
          have j2 := cell_up hup j0
          have j3 := cell_up hup j1
          have z0 : (wr.alloc (.cells #[.int .i64 (x.f : Int), .int .i64 (x.w : Int)] 64)).cell? ⟨wr.heap.size, 0, none⟩ = some (.int .i64 (x.f : Int)) := cell_of_block HS4.out.bk_at 0
          have z1 : (wr.alloc (.cells #[.int .i64 (x.f : Int), .int .i64 (x.w : Int)] 64)).cell? ⟨wr.heap.size, 1, none⟩ = some (.int .i64 (x.w : Int)) := cell_of_block HS4.out.bk_at 1
          have hb1 : (j : Int) < R.length := by omega
          have hb2 : decide (R.length ≤ j) = false := decide_eq_false (by omega)
          clear hs HS hup j0 j1
          go_upto_region 28 with fail
          clear i0 i1
          generalize wr.alloc (.cells #[.int .i64 (x.f : Int), .int .i64 (x.w : Int)] 64) = wb at *
          go_quiet (fail)
          have HS5 := Lib.hid ((HS4.out.drop).drewN nq)
          clear HS4 z0 z1 j2 j3
          go_wp2
          go_roundw
          case rel => exact ⟨j + 1, by omega, by go_num, HS5⟩
          case measure => simp [intOf]; omega
        · obtain rfl : j = Tk.length := by omega
          go_wp2_with (go_at_call 28; refine (alive_st HS.out).mono ?_; rintro e w5 ⟨rfl, hs⟩; have HF := Lib.hid hs.up; clear hs)
          go_ret
          exact ⟨rfl, HF.out⟩
end Go.Proofs.Ytiofdkkjjeljmaa.Mb
