/- BusFenced, walked. -/
import Derived.Test.YtlefefcakffepaaBusPlain3
import Derived.Test.YtlefefcakffepaaBusAlone
import Derived.Test.YtlefefcakffepaaBusSame
namespace Go.Proofs.Ytlefefcakffepaa.Bus
set_option linter.unusedVariables false
set_option linter.unusedSimpArgs false
open Go.RowKit Go.Proofs.Ytlefefcakffepaa.Lat Go.Proofs.Ytlefefcakffepaa.Sep Go.Proofs.Ytlefefcakffepaa.Sram Go.Proofs.Ytlefefcakffepaa.Find Go.Proofs.Ytlefefcakffepaa.Sbuf Go.Proofs.Ytlefefcakffepaa.Open

theorem lat_cell' {P0 : Nat → Prop} {w0 w : World} {F : List Rg} {v : Value} {l : List Int} (h : St P0 w0 w (lat v l :: F)) (j : Nat) (hj : j < l.length) : ∃ ad c, v = .slice (some ad) l.length c ∧ w.cell? (ad.add j) = some (.int .i64 (l.getD j 0)) := by
  obtain ⟨P, ⟨Q, Q2, _, _, _, h2, _⟩, _⟩ := St.step (L := [lat v l]) h
  rcases h2 with ⟨rfl, rfl⟩ | ⟨ad, c, rfl, hc, hh⟩
  · simp at hj
  · exact ⟨ad, c, rfl, (hh j hj).2⟩
set_option maxHeartbeats 16000000 in
set_option maxRecDepth 100000 in
theorem fenced_walk (n m k : Nat) (hh : (1 ≤ n ∧ n ≤ 8) ∧ (1 ≤ m ∧ m ≤ 200) ∧ 1 ≤ k ∧ k ≤ 16) (A : Option Addr) (c : Nat) (rows : List (List Int)) (x : Int) (w : World) (hr : Recs 4 w A rows) (hl : rows.length ≤ 80) (hlc : rows.length ≤ c) :
    Calls Try.prog 7 #[.int .i64 n, .int .i64 m, .int .i64 k, .agg #[.slice A rows.length c, .int .i64 x]] w fun e w' => e = .returned (.bool true) ∧ Up w w' := by
  have HR := Lib.hid hr
  have HH := Lib.hid hh
  have HF := Lib.hid (fun wx => few_q m A rows.length c wx hl (by omega))
  have hn8 : n ≤ 8 := hh.1.2
  have HS0 : Hid (St No w (w.alloc (.cells #[.slice A rows.length c, .int .i64 x] 66)) [bk w.heap.size 66 #[.slice A rows.length c, .int .i64 x]]) := Lib.hid ((St.nil w).alloc _ _)
  obtain ⟨h, hh2⟩ : ∃ h, rows.length / 2 = h := ⟨_, rfl⟩
  have eh : (rows.length : Int) / 2 = (h : Int) := by omega
  have hle : h ≤ rows.length := by omega
  clear hr hh hh2
  go_enter Try.func7, Try.ntmps7
  go_wp2_with fail
  refine (New_st HS0.out n m k ⟨HH.out.1, by have := HH.out.2.1; omega, HH.out.2.2⟩).mono ?_
  rintro e w1 ⟨b, rfl, hs⟩
  have HS1 : Hid (St No w w1 [bus b k (List.replicate m 0) (List.replicate n []), bk w.heap.size 66 #[.slice A rows.length c, .int .i64 x]]) := Lib.hid hs
  have x0 : w1.cell? ⟨w.heap.size, 0, none⟩ = some (.slice A rows.length c) := cell_of_block (hs.get 1).bk_at 0
  clear hs HS0
  go_wp2_with (go_at_call 10; refine (HF.out _).mono ?_; rintro e wg ⟨rfl, rfl⟩)
  clear x0
  go_loopw [56] (fun v56 wx => ∃ (i : Nat) (ws : List Int) (Ls : List (List W16)), i ≤ h ∧ v56 = .int .i64 i ∧ Hid (St No w wx [bus b k ws Ls, bk w.heap.size 66 #[.slice A rows.length c, .int .i64 x]]) ∧ Hid (ws.length = m ∧ Ls.length = n)) (fun v56 _ => h - (intOf v56).toNat)
  case atStart => exact ⟨0, _, _, Nat.zero_le _, rfl, HS1, Lib.hid ⟨by simp, by simp⟩⟩
  case round =>
    clear HS1
    obtain ⟨i, ws, Ls, hi, rfl, HS, HLN⟩ := hrel
    by_cases hlt : i < h
    · obtain ⟨ad, kk, co, a, z, rfl, k0, k1, k2, k3⟩ := row4_cells HR.out i (by omega)
      have hs := HS.out
      have m0 := cell_up hs.up k0
      have m1 := cell_up hs.up k1
      have m2 := cell_up hs.up k2
      have m3 := cell_up hs.up k3
      clear k0 k1 k2 k3
      have HD := Lib.hid (do_len k ws Ls kk co a z)
      have HS1 : Hid (St No w (wr.alloc (.cells #[.int .i64 kk, .int .i64 co, .int .i64 a, .int .i64 z] 31)) [bus b k ws Ls, bk wr.heap.size 31 #[.int .i64 kk, .int .i64 co, .int .i64 a, .int .i64 z], bk w.heap.size 66 #[.slice (some ad) rows.length c, .int .i64 x]]) := Lib.hid ((hs.alloc _ _).get 1)
      clear hs HS
      go_wp2_with fail
      refine (do_st HS1.out kk co a z).mono ?_
      rintro e w4 ⟨rfl, hs⟩
      have HS4 := Lib.hid (hs.cut 1)
      have HL4 := Lib.hid (And.intro (HD.out.1.trans HLN.out.1) (HD.out.2.trans HLN.out.2))
      clear hs HS1 HD HLN m0 m1 m2 m3
      generalize doB k ws Ls kk co a z = d at *
      go_wp2
      go_roundw
      case rel => exact ⟨i + 1, _, _, by omega, by go_num, HS4, HL4⟩
      case measure => simp [intOf]; omega
    · obtain rfl : i = h := by omega
      clear hlt hi
      go_wp2_with fail
      refine (Clone_st HS.out).mono ?_
      rintro e w2 ⟨b2, rfl, hs⟩
      obtain ⟨BX, hBX⟩ : ∃ BX : Rg, bk w.heap.size 66 #[.slice A rows.length c, .int .i64 x] = BX := ⟨_, rfl⟩
      have HX0 : Hid (∀ (wx : World) (F : List Rg), St No w wx (BX :: F) → wx.cell? ⟨w.heap.size, 0, none⟩ = some (.slice A rows.length c)) := Lib.hid (fun wx F h => by rw [← hBX] at h; exact cell_of_block h.bk_at 0)
      have HX1 : Hid (∀ (wx : World) (F : List Rg), St No w wx (BX :: F) → wx.cell? ⟨w.heap.size, 1, none⟩ = some (.int .i64 x)) := Lib.hid (fun wx F h => by rw [← hBX] at h; exact cell_of_block h.bk_at 1)
      have hs' : St No w w2 [bus b k ws Ls, bus b2 k ws Ls, bk w.heap.size 66 #[.slice A rows.length c, .int .i64 x]] := hs.get 1
      rw [hBX] at hs'
      have HS2 := Lib.hid hs'
      clear hs hs' HS hBX
      go_wp2_with (go_at_call 27; refine (Same_st HS2.out).mono ?_; rintro e w3 ⟨rfl, hs⟩; have HS3 := Lib.hid hs; have x0 := HX0.out _ _ (hs.get 2); clear hs)
      all_goals
        obtain ⟨B, hB⟩ : ∃ B, Option.map (fun x : Addr => x.add (i * 4)) A = B := ⟨_, rfl⟩
        try rw [hB]
        have HB := Lib.hid hB
        clear x0 HX0 HS2 hB
        go_loopw [79] (fun v79 wx => ∃ (j : Nat) (ws : List Int) (Ls : List (List W16)), j ≤ rows.length - i ∧ v79 = .int .i64 j ∧ Hid (St No w wx [bus b k ws Ls, bus b2 k ws Ls, BX]) ∧ Hid (ws.length = m ∧ Ls.length = n)) (fun v79 _ => (rows.length - i) - (intOf v79).toNat)
        case atStart => exact ⟨0, _, _, Nat.zero_le _, rfl, HS3, HLN⟩
        case round =>
          clear HS3 HLN
          obtain ⟨j, ws, Ls, hj, rfl, HS, HLN⟩ := hrel
          by_cases hlt : j < rows.length - i
          · obtain ⟨ad, kk, co, a, z, rfl, k0, k1, k2, k3⟩ := row4_cells HR.out (i + j) (by omega)
            rw [show (i + j) * 4 = i * 4 + j * 4 by omega, ← Go.Deep.add_add] at k0 k1 k2 k3
            obtain rfl : some (ad.add (i * 4)) = B := HB.out
            have hs := HS.out
            have m0 := cell_up hs.up k0
            have m1 := cell_up hs.up k1
            have m2 := cell_up hs.up k2
            have m3 := cell_up hs.up k3
            clear k0 k1 k2 k3
            have HD := Lib.hid (do_len k ws Ls kk co a z)
            have HS1 : Hid (St No w (wr.alloc (.cells #[.int .i64 kk, .int .i64 co, .int .i64 a, .int .i64 z] 31)) [bus b k ws Ls, bk wr.heap.size 31 #[.int .i64 kk, .int .i64 co, .int .i64 a, .int .i64 z], bus b2 k ws Ls, BX]) := Lib.hid ((hs.alloc _ _).get 1)
            have HDO := Lib.hid (fun (wx : World) (F : List Rg) (bb : Nat) (h : St No w wx (bus bb k ws Ls :: F)) => do_st h kk co a z)
            clear hs HS
            generalize hd : doB k ws Ls kk co a z = d at *
            clear hd
            first
              | omega
              | (
                go_wp2_with fail
                refine (HDO.out _ _ _ HS1.out).mono ?_
                rintro e w4 ⟨rfl, hs⟩
                have HS4 : Hid (St No w w4 [bus b2 k ws Ls, bus b k d.1 d.2.1, bk wr.heap.size 31 #[.int .i64 kk, .int .i64 co, .int .i64 a, .int .i64 z], BX]) := Lib.hid (hs.get 2)
                have q0 : w4.cell? ⟨wr.heap.size, 0, none⟩ = some (.int .i64 kk) := cell_of_block (hs.get 1).bk_at 0
                have q1 : w4.cell? ⟨wr.heap.size, 1, none⟩ = some (.int .i64 co) := cell_of_block (hs.get 1).bk_at 1
                have q2 : w4.cell? ⟨wr.heap.size, 2, none⟩ = some (.int .i64 a) := cell_of_block (hs.get 1).bk_at 2
                have q3 : w4.cell? ⟨wr.heap.size, 3, none⟩ = some (.int .i64 z) := cell_of_block (hs.get 1).bk_at 3
                clear hs HS1 m0 m1 m2 m3
                go_wp2_with fail
                refine (HDO.out _ _ _ HS4.out).mono ?_
                rintro e w5 ⟨rfl, hs⟩
                have HS5 : Hid (St No w w5 [bus b k d.1 d.2.1, bus b2 k d.1 d.2.1, BX]) := Lib.hid ((hs.cut 2).get 1)
                have HL5 := Lib.hid (And.intro (HD.out.1.trans HLN.out.1) (HD.out.2.trans HLN.out.2))
                clear hs HS4 HD HLN HDO q0 q1 q2 q3
                go_wp2
                go_roundw
                case rel => exact ⟨j + 1, _, _, by omega, by go_num, HS5, HL5⟩
                case measure => simp [intOf]; omega)
          · obtain rfl : j = rows.length - i := by omega
            clear hlt hj
            go_wp2_with (first
              | (go_at_call 27; (with_reducible refine (Same_st HS.out).mono ?_); rintro e w3 ⟨rfl, hs⟩; have HS3 := Lib.hid (hs.get 1); clear hs)
              | (go_at_call 27; refine (Same_st HS3.out).mono ?_; rintro e w4 ⟨rfl, hs⟩; have HS4 : Hid (St No w w4 [bus b k ws Ls, BX]) := Lib.hid hs.drop; clear hs))
            clear HS HS3
            go_loopw [115] (fun v115 wx => ∃ (j : Nat) (ws : List Int) (Ls : List (List W16)), j ≤ n ∧ v115 = .int .i64 j ∧ Hid (St No w wx [bus b k ws Ls, BX]) ∧ Hid (ws.length = m ∧ Ls.length = n ∧ ∀ t, t < j → Ls.getD t default = [])) (fun v115 _ => n - (intOf v115).toNat)
            case atStart => exact ⟨0, _, _, Nat.zero_le _, rfl, HS4, Lib.hid ⟨HLN.out.1, HLN.out.2, fun t ht => by omega⟩⟩
            case round =>
              clear HS4 HLN
              obtain ⟨j, ws, Ls, hj, rfl, HS, HLN⟩ := hrel
              by_cases hlt : j < n
              · have HD := Lib.hid (fence_next (ws := ws) (Ls := Ls) j (by rw [HLN.out.2.1]; exact hlt) HLN.out.2.2)
                have HFE := Lib.hid (Fence_st HS.out (j : Int))
                generalize hd : fenceB ws Ls (j : Int) = d at *
                clear hd
                go_wp2_with fail
                refine HFE.out.mono ?_
                rintro e w5 ⟨rfl, hs⟩
                have HS5 := Lib.hid hs
                have HL5 := Lib.hid (And.intro (HD.out.1.trans HLN.out.1) (And.intro (HD.out.2.1.trans HLN.out.2.1) HD.out.2.2))
                clear hs HD HLN HFE HS
                go_wp2
                go_roundw
                case rel => exact ⟨j + 1, _, _, by omega, by go_num, HS5, HL5⟩
                case measure => simp [intOf]; omega
              · obtain rfl : j = n := by omega
                clear hlt hj
                go_wp2_with fail
                refine (Ram_st HS.out).mono ?_
                rintro e w6 ⟨r6, rfl, hs⟩
                have HS6 : Hid (St No w w6 [ram r6 ws, bus b k ws Ls, BX]) := Lib.hid hs
                clear hs HS
                go_wp2_with fail
                refine (Words_st HS6.out).mono ?_
                rintro e w7 ⟨v7, rfl, hs⟩
                have HS7 : Hid (St No w w7 [bus b k ws Ls, BX, lat v7 ws]) := Lib.hid (((hs.cut 1).get 2).get 2)
                clear hs HS6
                go_wp2_with fail
                go_loopw [126] (fun v126 wx => ∃ t : Nat, t ≤ j ∧ v126 = .int .i64 t ∧ Hid (St No w wx [bus b k ws Ls, BX, lat v7 ws])) (fun v126 _ => j - (intOf v126).toNat)
                case atStart => exact ⟨0, Nat.zero_le _, rfl, HS7⟩
                case round =>
                  clear HS7
                  obtain ⟨t, ht, rfl, HS⟩ := hrel
                  by_cases hlt : t < j
                  · have HLD := Lib.hid (load_none (ws := ws) (Ls := Ls) t (by rw [HLN.out.2.1]; exact hlt) (HLN.out.2.2 t hlt) x)
                    have x1 := HX1.out _ _ (HS.out.get 1)
                    by_cases hx : 0 ≤ x ∧ x < ws.length
                    · rw [if_pos hx] at HLD
                      have HXX := Lib.hid hx
                      have hg1 : x ≥ 0 := hx.1
                      have hg2 : x < (m : Int) := by rw [← HLN.out.1]; exact hx.2
                      clear hx
                      go_wp2_with fail
                      refine (Load_st HS.out (t : Int) x).mono ?_
                      rw [HLD.out]
                      rintro e w8 ⟨rfl, hs⟩
                      have HS8 := Lib.hid hs
                      have x2 := HX1.out _ _ (HS8.out.get 1)
                      obtain ⟨y, rfl⟩ := Int.eq_ofNat_of_zero_le HXX.out.1
                      have hy : y < ws.length := by have := HXX.out.2; omega
                      obtain ⟨ad, cc, e7, hc⟩ := lat_cell' (hs.get 2) y hy
                      subst e7
                      have hg3 : (y : Int) < (ws.length : Int) := by omega
                      have hg4 : decide (ws.length ≤ y) = false := decide_eq_false (by omega)
                      rw [Int.toNat_natCast]
                      generalize ws.getD y 0 = u at *
                      clear hs HS HLD x1
                      go_wp2
                      go_roundw
                      case rel => exact ⟨t + 1, by omega, by go_num, HS8⟩
                      case measure => simp [intOf]; omega
                    · rw [if_neg hx] at HLD
                      have hg : decide (x ≥ 0) = false ∨ (x ≥ 0 ∧ decide (x < (m : Int)) = false) := by
                        by_cases h0 : x ≥ 0
                        · exact .inr ⟨h0, decide_eq_false (by have := HLN.out.1; omega)⟩
                        · exact .inl (decide_eq_false h0)
                      clear hx
                      rcases hg with hg | ⟨hg, hg'⟩
                      all_goals
                        go_wp2_with fail
                        refine (Load_st HS.out (t : Int) x).mono ?_
                        rw [HLD.out]
                        rintro e w8 ⟨rfl, hs⟩
                        have HS8 := Lib.hid hs
                        have x2 := HX1.out _ _ (HS8.out.get 1)
                        clear hs HS HLD x1
                        go_wp2
                        go_roundw
                        case rel => exact ⟨t + 1, by omega, by go_num, HS8⟩
                        case measure => simp [intOf]; omega
                  · obtain rfl : t = j := by omega
                    go_wp2_with (go_at_call 11; refine (alive_st HS.out).mono ?_; rintro e w9 ⟨rfl, hs⟩; have HF9 := Lib.hid hs.up; clear hs)
                    go_ret
                    exact ⟨rfl, HF9.out⟩
end Go.Proofs.Ytlefefcakffepaa.Bus
