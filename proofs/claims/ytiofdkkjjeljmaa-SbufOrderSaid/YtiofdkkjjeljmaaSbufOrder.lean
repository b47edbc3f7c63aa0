/- SbufOrder, walked. -/
import Derived.Test.YtiofdkkjjeljmaaSbufPlays
namespace Go.Proofs.Ytiofdkkjjeljmaa.Sbuf
set_option linter.unusedVariables false
set_option linter.unusedSimpArgs false
open Go.RowKit Go.Proofs.Ytiofdkkjjeljmaa.CellOf Go.Proofs.Ytiofdkkjjeljmaa.CellP Go.Proofs.Ytiofdkkjjeljmaa.Sep Go.Proofs.Ytiofdkkjjeljmaa.Find Go.Proofs.Ytiofdkkjjeljmaa.Ref05 Go.Proofs.Ytiofdkkjjeljmaa.Pairs Go.Proofs.Ytiofdkkjjeljmaa.Open

theorem findW_snoc (L : List W16) (x : W16) (a : Int) : (findW (L ++ [x]) a = if (x.a : Int) = a then (x.v : Int) else findW L a) ∧ (findB (L ++ [x]) a = if (x.a : Int) = a then true else findB L a) := by
  have h := findV_snoc L x a
  rw [findV_eq, findV_eq] at h
  by_cases e : (x.a : Int) = a
  · rw [if_pos e] at h
    rw [if_pos e, if_pos e]
    simpa using h
  · rw [if_neg e] at h
    rw [if_neg e, if_neg e]
    simpa using h
theorem sw_drop : ∀ (L : List W16) (k : Nat), (L.drop k).flatMap sw = (L.flatMap sw).drop (k * 2)
  | L, 0 => by simp
  | [], k + 1 => by simp
  | x :: L, k + 1 => by
    rw [List.drop_succ_cons, sw_drop L k, List.flatMap_cons, show (k + 1) * 2 = 2 + k * 2 by omega, ← List.drop_drop]
    rfl
theorem do_idle (n : Nat) (L : List W16) (k a v : Int) (h : (k = 0 ∧ (putB n L a v).2 ≠ 0) ∨ (k = 1 ∧ L = []) ∨ (k ≠ 0 ∧ k ≠ 1 ∧ k ≠ 2)) :
    ∃ p q e, doB n L k a v = (L, (p, q), e) ∧ (((k == 0) = true ∧ (e == 0) = false ∧ (k == 1) = false) ∨ ((k == 0) = false ∧ (k == 1) = true ∧ (e == 1) = false) ∨ ((k == 0) = false ∧ (k == 1) = false)) := by
  rcases h with ⟨rfl, h⟩ | ⟨rfl, rfl⟩ | ⟨h0, h1, h2⟩
  · refine ⟨0, 0, (putB n L a v).2, ?_, .inl ⟨rfl, beq_eq_false_iff_ne.2 h, rfl⟩⟩
    unfold doB
    rw [if_pos rfl]
    have : (putB n L a v).1 = L := by
      unfold putB at h ⊢
      split
      · split
        · rfl
        · next x hx hf => rw [hx] at h; simp [hf] at h
      · rfl
    rw [this]
  · exact ⟨0, 0, 0, rfl, .inr (.inl ⟨rfl, rfl, rfl⟩)⟩
  · refine ⟨0, findW L a, (if findB L a = true then 1 else 0), ?_, .inr (.inr ⟨beq_eq_false_iff_ne.2 h0, beq_eq_false_iff_ne.2 h1⟩)⟩
    unfold doB
    rw [if_neg h0, if_neg h1, if_neg h2]
theorem do_put (n : Nat) (L : List W16) (a v : Int) (h : (putB n L a v).2 = 0) : ∃ x : W16, a = (x.a : Int) ∧ v = (x.v : Int) ∧ doB n L 0 a v = (L ++ [x], (0, 0), 0) ∧ L.length < n := by
  unfold putB at h
  split at h
  · next x hx =>
    split at h
    · simp at h
    · next hf =>
      obtain ⟨ea, ev⟩ := mkW_some hx
      refine ⟨x, ea, ev, ?_, by omega⟩
      unfold doB putB
      rw [if_pos rfl, hx]
      simp [hf]
  · simp at h
theorem order_len {L PL : List W16} {dr : Nat} (h : dr ≤ PL.length) (hm : PL.length ≤ 1000) (hL : L = PL.drop dr) : wrap64 ((PL.length : Int) - dr) = (L.length : Int) := by
  rw [hL, List.length_drop]
  unfold wrap64
  omega
set_option maxHeartbeats 16000000 in
set_option maxRecDepth 100000 in
theorem order_walk (n : Nat) (h1 : 1 ≤ n) (h2 : n ≤ 16) (A : Option Addr) (c : Nat) (rows : List (List Int)) (addr : Int) (w : World) (hr : Recs 3 w A rows) (hl : rows.length ≤ 100) :
    Calls Try.prog 9 #[.int .i64 n, .slice A rows.length c, .int .i64 addr] w fun e w' => e = .returned (.bool true) ∧ Up w w' := by
  have HR := Lib.hid hr
  clear hr
  have g3 : decide ((rows.length : Int) > 100) = false := decide_eq_false (by omega)
  go_enter Try.func9, Try.ntmps9
  go_wp2_with fail
  refine (New_st (St.nil w) n h1 h2).mono ?_
  rintro e w1 ⟨b, rfl, hs⟩
  have HS1 : Hid (St No w w1 [buf b n [], rl (.slice none 0 0) []]) := Lib.hid ((St.fresh (M := [rl (.slice none 0 0) []]) hs (Up.refl _) ⟨No, No, fun _ e => e.elim, fun _ e => e.elim, fun _ e => e.elim, slc_nil _ _ _ _, trivial⟩).get 1)
  clear hs
  go_wp2_with fail
  go_loopw [32, 8, 9] (fun v32 v8 v9 wx => ∃ (i dr : Nat) (L PL : List W16), i ≤ rows.length ∧ v32 = .int .i64 i ∧ v9 = .int .i64 dr ∧ Hid (St No w wx [buf b n L, rl v8 PL]) ∧ Hid (dr ≤ PL.length ∧ PL.length ≤ i ∧ L = PL.drop dr)) (fun v32 _ _ _ => rows.length - (intOf v32).toNat)
  case atStart => exact ⟨0, 0, [], [], Nat.zero_le _, rfl, rfl, HS1, Lib.hid ⟨Nat.le_refl _, Nat.le_refl _, rfl⟩⟩
  case round =>
    clear HS1
    obtain ⟨i, dr, L, PL, hi, rfl, rfl, HS, HI⟩ := hrel
    have hs := HS.out
    obtain ⟨A1, c1, rfl, hc1, hc2, -⟩ := rl_form (hs.get 1)
    by_cases hlt : i < rows.length
    · obtain ⟨ad, k, a, v, rfl, k0, k1, k2⟩ := row3_cells HR.out i hlt
      have m0 := cell_below hs.up k0
      have m1 := cell_below hs.up k1
      have m2 := cell_below hs.up k2
      clear k0 k1 k2
      by_cases hk2 : k = 2
      · subst hk2
        have HS2 := Lib.hid (hs.allocU (.cells #[.int .i64 2, .int .i64 a, .int .i64 v] 85))
        clear hs HS
        go_wp2
        go_roundw
        case rel => exact ⟨i + 1, dr, L, PL, by omega, by go_num, rfl, HS2, Lib.hid ⟨HI.out.1, by have := HI.out.2.1; omega, HI.out.2.2⟩⟩
        case measure => simp [intOf]; omega
      · have K2 : (k == 2) = false := beq_eq_false_iff_ne.2 hk2
        have HS1 : Hid (St No w (wr.alloc (.cells #[.int .i64 k, .int .i64 a, .int .i64 v] 85)) [buf b n L, bk wr.heap.size 85 #[.int .i64 k, .int .i64 a, .int .i64 v], rl (.slice A1 PL.length c1) PL]) := Lib.hid ((hs.alloc _ _).get 1)
        have HLE := Lib.hid (buf_le hs)
        clear hs HS
        have hcase : ((k = 0 ∧ (putB n L a v).2 ≠ 0) ∨ (k = 1 ∧ L = []) ∨ (k ≠ 0 ∧ k ≠ 1 ∧ k ≠ 2)) ∨ (k = 0 ∧ (putB n L a v).2 = 0) ∨ (k = 1 ∧ ∃ x L', L = x :: L') := by
          by_cases e0 : k = 0
          · by_cases e1 : (putB n L a v).2 = 0
            · exact .inr (.inl ⟨e0, e1⟩)
            · exact .inl (.inl ⟨e0, e1⟩)
          · by_cases e1 : k = 1
            · cases L with
              | nil => exact .inl (.inr (.inl ⟨e1, rfl⟩))
              | cons x L' => exact .inr (.inr ⟨e1, x, L', rfl⟩)
            · exact .inl (.inr (.inr ⟨e0, e1, hk2⟩))
        clear hk2
        rcases hcase with hcase | ⟨rfl, hcase⟩ | ⟨rfl, x, L', rfl⟩
        · obtain ⟨p, q, e0, hd, hc⟩ := do_idle n L k a v hcase
          have HD := Lib.hid hd
          have HLE2 := HLE
          clear hcase hd
          rcases hc with ⟨t1, t2, t3⟩ | ⟨t1, t2, t3⟩ | ⟨t1, t2⟩
          all_goals
            go_wp2_with fail
            refine (do_st HS1.out k a v).mono ?_
            rw [HD.out]
            rintro e w4 ⟨rfl, hs⟩
            have p0 : w4.cell? ⟨wr.heap.size, 0, none⟩ = some (.int .i64 k) := cell_of_block (hs.get 1).bk_at 0
            have p1 : w4.cell? ⟨wr.heap.size, 1, none⟩ = some (.int .i64 a) := cell_of_block (hs.get 1).bk_at 1
            have p2 : w4.cell? ⟨wr.heap.size, 2, none⟩ = some (.int .i64 v) := cell_of_block (hs.get 1).bk_at 2
            have n1 := (hs.get 1).bk_in.2
            have n2 := World.new_ne w4 _ p0
            have hs5 : St No w (w4.alloc (.cells #[.int .i64 p, .int .i64 q] 83)) [rl (.slice A1 PL.length c1) PL, bk w4.heap.size 83 #[.int .i64 p, .int .i64 q], buf b n L, bk wr.heap.size 85 #[.int .i64 k, .int .i64 a, .int .i64 v]] := (hs.alloc #[.int .i64 p, .int .i64 q] 83).get 3
            have HB : Hid (St No w (w4.alloc (.cells #[.int .i64 p, .int .i64 q] 83)) [buf b n L, rl (.slice A1 PL.length c1) PL]) := Lib.hid ((hs5.get 2).take (L := [buf b n L, rl (.slice A1 PL.length c1) PL]) (F := [_, _]))
            clear hs hs5 HS1 HD m0 m1 m2
            have HI2 : Hid (dr ≤ PL.length ∧ PL.length ≤ i + 1 ∧ L = PL.drop dr) := Lib.hid ⟨HI.out.1, by have := HI.out.2.1; omega, HI.out.2.2⟩
            have g7 : decide (n < L.length) = false := decide_eq_false (by have := HLE2.out.2.2; omega)
            have g8 := order_len HI2.out.1 (by have := HI2.out.2.1; omega) HI2.out.2.2
            go_wp2_with (first
              | (go_at_call 39; refine (Len_q _ HB.out).mono ?_; rintro e w8 ⟨rfl, rfl⟩)
              | (go_at_call 40; refine (Cap_q (P := No) _ HB.out).mono ?_; rintro e w8 ⟨rfl, rfl⟩))
            go_roundw
            case rel => exact ⟨i + 1, dr, L, PL, by omega, by go_num, by first | rfl | go_num, HB, Lib.hid ⟨HI2.out.1, by have := HI2.out.2.1; omega, HI2.out.2.2⟩⟩
            case measure => simp [intOf]; omega
        · obtain ⟨x, rfl, rfl, hd, hlen⟩ := do_put n L a v hcase
          have hle2 : 1 ≤ n ∧ n ≤ 16 ∧ (L ++ [x]).length ≤ n := ⟨h1, h2, by simp; omega⟩
          obtain ⟨L2, hL2⟩ : ∃ L2, L ++ [x] = L2 := ⟨_, rfl⟩
          rw [hL2] at hd hle2
          have HL2 := Lib.hid hL2
          have HD := Lib.hid hd
          have HLE2 := Lib.hid hle2
          clear hcase hd hL2 hlen hle2
          obtain ⟨t0, ht0, hz0, hz1, hz2⟩ := Clone.info_of info_store
          have hPL : PL.length ≤ 100 := by have := HI.out.2.1; omega
          go_wp2_with fail
          refine (do_st HS1.out 0 (x.a : Int) (x.v : Int)).mono ?_
          rw [HD.out]
          rintro e w4 ⟨rfl, hs⟩
          have p0 : w4.cell? ⟨wr.heap.size, 0, none⟩ = some (.int .i64 0) := cell_of_block (hs.get 1).bk_at 0
          have p1 : w4.cell? ⟨wr.heap.size, 1, none⟩ = some (.int .i64 (x.a : Int)) := cell_of_block (hs.get 1).bk_at 1
          have p2 : w4.cell? ⟨wr.heap.size, 2, none⟩ = some (.int .i64 (x.v : Int)) := cell_of_block (hs.get 1).bk_at 2
          have n1 := (hs.get 1).bk_in.2
          have n2 := World.new_ne w4 _ p0
          have hs5 : St No w (w4.alloc (.cells #[.int .i64 0, .int .i64 0] 83)) [rl (.slice A1 PL.length c1) PL, bk w4.heap.size 83 #[.int .i64 0, .int .i64 0], buf b n L2, bk wr.heap.size 85 #[.int .i64 0, .int .i64 (x.a : Int), .int .i64 (x.v : Int)]] := (hs.alloc #[.int .i64 0, .int .i64 0] 83).get 3
          have hs6 := (hs5.alloc #[.int .i64 (x.a : Int), .int .i64 (x.v : Int)] 83).get 1
          rw [World.size_alloc] at hs6
          have HRD4 := Lib.hid (Rd.of_block (sz := 2) (m := 1) ((hs5.alloc #[.int .i64 (x.a : Int), .int .i64 (x.v : Int)] 83).bk_at) rfl (by simp [Value.oneCell']))
          rw [World.size_alloc] at HRD4
          have HS6 := Lib.hid hs6
          have HI2 : Hid (dr ≤ (PL ++ [x]).length ∧ (PL ++ [x]).length ≤ i + 1 ∧ L2 = (PL ++ [x]).drop dr) := Lib.hid ⟨by have := HI.out.1; simp; omega, by have := HI.out.2.1; simp; omega, by rw [← HL2.out, List.drop_append_of_le_length HI.out.1, ← HI.out.2.2]⟩
          clear hs hs5 hs6 HS1 HD m0 m1 m2
          have g8 := order_len HI2.out.1 (by have := HI2.out.2.1; omega) HI2.out.2.2
          have e2 : (PL ++ [x]).length = PL.length + 1 := by simp
          rw [e2, show ((PL.length + 1 : Nat) : Int) = (PL.length : Int) + 1 from by omega] at g8
          have HE2 := Lib.hid e2
          clear e2
          have g7 : decide (n < L2.length) = false := decide_eq_false (by have := HLE2.out.2.2; omega)
          go_wp2_with (first
            | (at_builtin; refine St.append 83 t0 (.agg #[.int .i64 0, .int .i64 0]) 2 16 HS6.out rfl (.tmp 52) (.tmp 55) 81 rfl Try.underlying81 ht0 hz0 hz1 hz2 rfl (by decide) rfl (some ⟨w4.heap.size + 1, 0, none⟩) 1 1 [.int .i64 (x.a : Int), .int .i64 (x.v : Int)] rfl HRD4.out (by unfold maxLen; omega) (by omega) ?_; intro A2 c2 w5 hst hsz; have HB0 : Hid (St No w w5 [slc 83 2 (.slice A2 (PL.length + 1) c2) (PL.length + 1) (PL.flatMap sw ++ [.int .i64 (x.a : Int), .int .i64 (x.v : Int)]), buf b n L2]) := Lib.hid (((hst.cut 1).cut 1).take (L := [_, _]) (F := [_])); have HB1 := Lib.hid (HB0.out.get 1); have y0 : w5.cell? ⟨wr.heap.size, 0, none⟩ = some (.int .i64 0) := cell_of_block (hst.get 4).bk_at 0; clear hst hsz)
            | (go_at_call 39; refine (Len_q _ HB1.out).mono ?_; rintro e w8 ⟨rfl, rfl⟩)
            | (go_at_call 40; refine (Cap_q (P := No) _ HB1.out).mono ?_; rintro e w8 ⟨rfl, rfl⟩))
          have hb : St No w w8 [buf b n L2, rl (.slice A2 (PL.length + 1) c2) (PL ++ [x])] := by
            unfold rl
            rw [HE2.out, sw_snoc]
            exact HB1.out
          have HB := Lib.hid hb
          clear hb HB0 HB1
          go_roundw
          case rel => exact ⟨i + 1, dr, L2, PL ++ [x], by omega, by go_num, rfl, HB, HI2⟩
          case measure => simp [intOf]; omega
        · have HD : Hid (doB n (x :: L') 1 a v = (L', ((x.a : Int), (x.v : Int)), 1)) := Lib.hid rfl
          have HLE2 := Lib.hid (show 1 ≤ n ∧ n ≤ 16 ∧ L'.length ≤ n from ⟨h1, h2, by have := HLE.out.2.2; simp at this; omega⟩)
          have HDR : Hid (dr < PL.length ∧ PL.getD dr default = x ∧ L' = PL.drop (dr + 1)) := by
            have h := HI.out.2.2
            have hl : dr < PL.length := by
              rcases Nat.lt_or_ge dr PL.length with h5 | h5
              · exact h5
              · rw [List.drop_eq_nil_of_le h5] at h; cases h
            rw [List.drop_eq_getElem_cons hl] at h
            cases h
            exact Lib.hid ⟨hl, by simp [List.getD_eq_getElem?_getD, hl], rfl⟩
          obtain ⟨d2, hd2⟩ : ∃ d2, dr + 1 = d2 := ⟨_, rfl⟩
          have hw1 : wrap64 ((dr : Int) + 1) = (d2 : Int) := by have := HDR.out.1; have := HI.out.2.1; unfold wrap64; omega
          have hi2 : dr + 1 ≤ PL.length ∧ PL.length ≤ i + 1 ∧ L' = PL.drop (dr + 1) := ⟨HDR.out.1, by have := HI.out.2.1; omega, HDR.out.2.2⟩
          rw [hd2] at hi2
          have HI2 := Lib.hid hi2
          clear hi2 hd2
          have hdr1 : (dr : Int) < PL.length := by have := HDR.out.1; omega
          have hdr2 : decide (PL.length ≤ dr) = false := decide_eq_false (by have := HDR.out.1; omega)
          go_wp2_with fail
          refine (do_st HS1.out 1 a v).mono ?_
          rw [HD.out]
          rintro e w4 ⟨rfl, hs⟩
          have p0 : w4.cell? ⟨wr.heap.size, 0, none⟩ = some (.int .i64 1) := cell_of_block (hs.get 1).bk_at 0
          have p1 : w4.cell? ⟨wr.heap.size, 1, none⟩ = some (.int .i64 a) := cell_of_block (hs.get 1).bk_at 1
          have p2 : w4.cell? ⟨wr.heap.size, 2, none⟩ = some (.int .i64 v) := cell_of_block (hs.get 1).bk_at 2
          have n1 := (hs.get 1).bk_in.2
          have n2 := World.new_ne w4 _ p0
          have hs5 : St No w (w4.alloc (.cells #[.int .i64 (x.a : Int), .int .i64 (x.v : Int)] 83)) [rl (.slice A1 PL.length c1) PL, bk w4.heap.size 83 #[.int .i64 (x.a : Int), .int .i64 (x.v : Int)], buf b n L', bk wr.heap.size 85 #[.int .i64 1, .int .i64 a, .int .i64 v]] := (hs.alloc #[.int .i64 (x.a : Int), .int .i64 (x.v : Int)] 83).get 3
          have hs6 : St No w w4 (rl (.slice A1 PL.length c1) PL :: _) := hs.get 2
          obtain ⟨A6, c6, e6, -, -, -, hcells⟩ := rl_form hs6
          cases e6
          obtain ⟨g, o, rfl, j0, j1⟩ := hcells dr HDR.out.1
          rw [HDR.out.2.1] at j0 j1
          have z0 : (w4.alloc (.cells #[.int .i64 (x.a : Int), .int .i64 (x.v : Int)] 83)).cell? ⟨w4.heap.size, 0, none⟩ = some (.int .i64 (x.a : Int)) := cell_of_block (hs5.get 1).bk_at 0
          have z1 : (w4.alloc (.cells #[.int .i64 (x.a : Int), .int .i64 (x.v : Int)] 83)).cell? ⟨w4.heap.size, 1, none⟩ = some (.int .i64 (x.v : Int)) := cell_of_block (hs5.get 1).bk_at 1
          have q0 := cell_below ((Up.refl w4).alloc (.cells #[.int .i64 (x.a : Int), .int .i64 (x.v : Int)] 83)) p0
          have j2 := cell_below ((Up.refl w4).alloc (.cells #[.int .i64 (x.a : Int), .int .i64 (x.v : Int)] 83)) j0
          have j3 := cell_below ((Up.refl w4).alloc (.cells #[.int .i64 (x.a : Int), .int .i64 (x.v : Int)] 83)) j1
          have HB : Hid (St No w (w4.alloc (.cells #[.int .i64 (x.a : Int), .int .i64 (x.v : Int)] 83)) [buf b n L', rl (.slice (some ⟨g, o, none⟩) PL.length c1) PL]) := Lib.hid ((hs5.get 2).take (L := [buf b n L', rl (.slice (some ⟨g, o, none⟩) PL.length c1) PL]) (F := [_, _]))
          have HB2 := HB
          clear hs hs5 hs6 hcells HS1 HD m0 m1 m2 j0 j1
          go_upto_region 14 with fail
          clear p0 p1 p2
          generalize w4.alloc (.cells #[.int .i64 (x.a : Int), .int .i64 (x.v : Int)] 83) = wb at *
          go_quiet (fail)
          have g7 : decide (n < L'.length) = false := decide_eq_false (by have := HLE2.out.2.2; omega)
          have g8 := order_len HI2.out.1 (by have := HI2.out.2.1; omega) HI2.out.2.2
          go_wp2_with (first
            | (go_at_call 39; refine (Len_q _ (HB.out.drewN _)).mono ?_; rintro e w8 ⟨rfl, rfl⟩)
            | (go_at_call 40; refine (Cap_q (P := No) _ (HB.out.drewN _)).mono ?_; rintro e w8 ⟨rfl, rfl⟩))
          go_roundw
          case rel => exact ⟨i + 1, d2, L', PL, by omega, by go_num, by first | rfl | go_num, Lib.hid (HB.out.drewN _), Lib.hid ⟨HI2.out.1, by have := HI2.out.2.1; omega, HI2.out.2.2⟩⟩
          case measure => simp [intOf]; omega
    · obtain rfl : i = rows.length := by omega
      have HLE := Lib.hid (buf_le hs)
      obtain ⟨t0, ht0, hz0, hz1, hz2⟩ := Clone.info_of info_store
      obtain ⟨A5, hsl, h3⟩ : ∃ A', (∀ W : World, (Instr.slice 81 (.slice A1 PL.length c1) (some (.int .i64 (dr : Int))) none none).run Try.prog W = .ok (.slice A' (PL.length - dr) (c1 - dr)) W) ∧ St No w wr (both (rl (.slice A1 PL.length c1) PL) (slc 83 2 (.slice A' (PL.length - dr) (c1 - dr)) (PL.length - dr) ((PL.flatMap sw).drop (dr * 2))) :: [buf b n L]) := by
        obtain ⟨hf, Q, R, hq, hr', hd, hA, hL⟩ := hs.get 1
        obtain ⟨A', q1, q2⟩ := slc_drop (P := Try.prog) Try.underlying81 ht0 hz1 hA dr HI.out.1 (by have := HI.out.2.1; omega)
        exact ⟨A', q1, hf, Q, R, hq, hr', hd, ⟨hA, q2⟩, hL⟩
      have hlen : PL.length - dr = L.length := by rw [HI.out.2.2, List.length_drop]
      obtain ⟨m, hm⟩ : ∃ m, PL.length - dr = m := ⟨_, rfl⟩
      obtain ⟨c5, hc5⟩ : ∃ c5, c1 - dr = c5 := ⟨_, rfl⟩
      rw [hlen, ← sw_drop, ← HI.out.2.2, hc5] at h3
      rw [hlen, hc5] at hsl
      have HS2 := Lib.hid h3.right
      have HL100 : L.length ≤ 100 := by have := HI.out.2.1; omega
      have hdrc : (dr : Int) ≤ c1 := by have := HI.out.1; omega
      clear h3 hs HS hlen hm hc5 ht0 hz0 hz1 hz2
      go_wp2_with fail
      refine (Find_st (HS2.out.get 1) addr).mono ?_
      rw [findV_eq]
      rintro e w3 ⟨rfl, hs⟩
      have HS3 : Hid (St No w w3 [rl (.slice A5 L.length c5) L, buf b n L]) := Lib.hid (hs.get 1)
      clear hs HS2
      go_wp2_with fail
      go_loopw [103, 16, 17] (fun v103 v16 v17 wx => ∃ j : Nat, j ≤ L.length ∧ v103 = .int .i64 j ∧ Hid (v16 = .int .i64 (findW (L.take j) addr) ∧ v17 = .bool (findB (L.take j) addr)) ∧ Hid (St No w wx [rl (.slice A5 L.length c5) L, buf b n L])) (fun v103 _ _ _ => L.length - (intOf v103).toNat)
      case atStart => exact ⟨0, Nat.zero_le _, rfl, Lib.hid ⟨rfl, rfl⟩, HS3⟩
      case round =>
        clear HS3
        obtain ⟨j, hj, rfl, HV, HS⟩ := hrel
        by_cases hlt2 : j < L.length
        · obtain ⟨A6, c6, e6, -, -, -, hcells⟩ := rl_form HS.out
          cases e6
          obtain ⟨g, o, rfl, k0, k1⟩ := hcells j hlt2
          have HT := Lib.hid (take_succ' L j hlt2)
          have HV2 := Lib.hid (findW_snoc (L.take j) (L.getD j default) addr)
          rw [← HT.out] at HV2
          clear hcells
          generalize L.getD j default = x at *
          have HS4 := Lib.hid (HS.out.allocU (.cells #[.int .i64 (x.a : Int), .int .i64 (x.v : Int)] 83))
          clear HS HI
          by_cases e : (x.a : Int) = addr
          · have e1 : ((x.a : Int) == addr) = true := beq_iff_eq.2 e
            have HE := Lib.hid e
            clear e
            go_wp2
            go_roundw
            case rel => exact ⟨j + 1, by omega, by go_num, Lib.hid ⟨by rw [HV2.out.1, if_pos HE.out], by rw [HV2.out.2, if_pos HE.out]⟩, HS4⟩
            case measure => simp [intOf]; omega
          · have e1 : ((x.a : Int) == addr) = false := beq_eq_false_iff_ne.2 e
            have HE := Lib.hid e
            clear e
            go_wp2
            go_roundw
            case rel => exact ⟨j + 1, by omega, by go_num, Lib.hid ⟨by rw [HV2.out.1, if_neg HE.out, HV.out.1], by rw [HV2.out.2, if_neg HE.out, HV.out.2]⟩, HS4⟩
            case measure => simp [intOf]; omega
        · obtain rfl : j = L.length := by omega
          have hv := HV.out
          rw [List.take_length] at hv
          obtain ⟨rfl, rfl⟩ := hv
          obtain ⟨A6, c6, e6, -, -, hrd, -⟩ := rl_form HS.out
          cases e6
          have HRD := Lib.hid hrd
          have HB : Hid (St No w _ [buf b n L, rl (.slice A5 L.length c5) L]) := Lib.hid (HS.out.get 1)
          clear hrd HV HI
          go_wp2_with fail
          go_region_held3 (fun wx => Hid (Up wr wx))
            (first | exact Lib.hid (Up.drew (Up.refl _)) | exact Lib.hid (Up.trans (Hid.out (by assumption)) hu))
            (first
              | (go_at_call 44; refine (All_u (HB.out.more ?_)).mono ?_; (go_split_ands; exact Hid.out (by assumption)); rintro e w8 ⟨A8, c8, rfl, hr8, hu⟩)
              | (go_at_call 43; refine (Pairs_walk L A8 c8 _ hr8 (by omega)).mono ?_; rintro e w9 ⟨A9, c9, rfl, hr9, hu⟩)
              | (go_at_call 45; refine (Cells_walk L A5 c5 _ (HRD.out.up ?_) (by omega)).mono ?_; (go_split_ands; exact Hid.out (by assumption)); rintro e w10 ⟨A10, c10, rfl, hr10, hu⟩; have hu10 := hu)
              | (go_at_call 42; refine (SameCells_walk L A9 A10 c9 c10 _ (hr9.up hu10) hr10 (by omega)).mono ?_; rintro e w11 ⟨rfl, hu⟩)
              | (go_at_call 37; refine (alive_walk _).mono ?_; rintro e w12 ⟨rfl, hu⟩))
          go_split_ands
          have HF := Lib.hid (HB.out.more (Hid.out (by assumption : Hid (Up wr w12)))).up
          go_wp2
          go_ret
          exact ⟨rfl, HF.out⟩
end Go.Proofs.Ytiofdkkjjeljmaa.Sbuf
