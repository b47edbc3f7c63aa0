/- BusOwn, walked. -/
import Derived.Test.YtlefefcakffepaaBusPlain2
import Derived.Test.YtlefefcakffepaaBusAlone
import Derived.Test.YtlefefcakffepaaBusSame
namespace Go.Proofs.Ytlefefcakffepaa.Bus
set_option linter.unusedVariables false
set_option linter.unusedSimpArgs false
open Go.RowKit Go.Proofs.Ytlefefcakffepaa.Lat Go.Proofs.Ytlefefcakffepaa.Sep Go.Proofs.Ytlefefcakffepaa.Sram Go.Proofs.Ytlefefcakffepaa.Find Go.Proofs.Ytlefefcakffepaa.Sbuf Go.Proofs.Ytlefefcakffepaa.Open

theorem lat_cell {P0 : Nat → Prop} {w0 w : World} {F : List Rg} {v : Value} {l : List Int} (h : St P0 w0 w (lat v l :: F)) (j : Nat) (hj : j < l.length) : ∃ ad c, v = .slice (some ad) l.length c ∧ w.cell? (ad.add j) = some (.int .i64 (l.getD j 0)) := by
  obtain ⟨P, ⟨Q, Q2, _, _, _, h2, _⟩, _⟩ := St.step (L := [lat v l]) h
  rcases h2 with ⟨rfl, rfl⟩ | ⟨ad, c, rfl, hc, hh⟩
  · simp at hj
  · exact ⟨ad, c, rfl, (hh j hj).2⟩
set_option maxHeartbeats 16000000 in
set_option maxRecDepth 100000 in
theorem own_walk (n m k : Nat) (hh : (1 ≤ n ∧ n ≤ 8) ∧ (1 ≤ m ∧ m ≤ 200) ∧ 1 ≤ k ∧ k ≤ 16) (A : Option Addr) (c : Nat) (rows : List (List Int)) (lk lc la lz : Int) (w : World) (hr : Recs 4 w A rows) (hl : rows.length ≤ 80) :
    Calls Try.prog 8 #[.int .i64 n, .int .i64 m, .int .i64 k, .agg #[.slice A rows.length c, .int .i64 lk, .int .i64 lc, .int .i64 la, .int .i64 lz]] w fun e w' => e = .returned (.bool true) ∧ Up w w' := by
  have HR := Lib.hid hr
  have HH := Lib.hid hh
  have HF := Lib.hid (fun wx => few_q m A rows.length c wx hl (by omega))
  have HS0 : Hid (St No w (w.alloc (.cells #[.slice A rows.length c, .int .i64 lk, .int .i64 lc, .int .i64 la, .int .i64 lz] 70)) [bk w.heap.size 70 #[.slice A rows.length c, .int .i64 lk, .int .i64 lc, .int .i64 la, .int .i64 lz]]) := Lib.hid ((St.nil w).alloc _ _)
  clear hr hh
  go_enter Try.func8, Try.ntmps8
  go_wp2_with fail
  refine (New_st HS0.out n m k ⟨HH.out.1, by have := HH.out.2.1; omega, HH.out.2.2⟩).mono ?_
  rintro e w1 ⟨b, rfl, hs⟩
  have HS1 : Hid (St No w w1 [bus b k (List.replicate m 0) (List.replicate n []), bk w.heap.size 70 #[.slice A rows.length c, .int .i64 lk, .int .i64 lc, .int .i64 la, .int .i64 lz]]) := Lib.hid hs
  have x0 : w1.cell? ⟨w.heap.size, 0, none⟩ = some (.slice A rows.length c) := cell_of_block (hs.get 1).bk_at 0
  clear hs HS0
  go_wp2_with (go_at_call 10; refine (HF.out _).mono ?_; rintro e wg ⟨rfl, rfl⟩)
  clear x0
  go_loopw [46] (fun v46 wx => ∃ (i : Nat) (ws : List Int) (Ls : List (List W16)), i ≤ rows.length ∧ v46 = .int .i64 i ∧ Hid (St No w wx [bus b k ws Ls, bk w.heap.size 70 #[.slice A rows.length c, .int .i64 lk, .int .i64 lc, .int .i64 la, .int .i64 lz]])) (fun v46 _ => rows.length - (intOf v46).toNat)
  case atStart => exact ⟨0, _, _, Nat.zero_le _, rfl, HS1⟩
  case round =>
    clear HS1
    obtain ⟨i, ws, Ls, hi, rfl, HS⟩ := hrel
    by_cases hlt : i < rows.length
    · obtain ⟨ad, kk, co, a, z, rfl, k0, k1, k2, k3⟩ := row4_cells HR.out i hlt
      have hs := HS.out
      have m0 := cell_up hs.up k0
      have m1 := cell_up hs.up k1
      have m2 := cell_up hs.up k2
      have m3 := cell_up hs.up k3
      clear k0 k1 k2 k3
      have HD := Lib.hid (do_refused (bus_ok hs) kk co a z)
      have HS1 : Hid (St No w (wr.alloc (.cells #[.int .i64 kk, .int .i64 co, .int .i64 a, .int .i64 z] 31)) [bus b k ws Ls, bk wr.heap.size 31 #[.int .i64 kk, .int .i64 co, .int .i64 a, .int .i64 z], bk w.heap.size 70 #[.slice (some ad) rows.length c, .int .i64 lk, .int .i64 lc, .int .i64 la, .int .i64 lz]]) := Lib.hid ((hs.alloc _ _).get 1)
      clear hs HS
      go_wp2_with fail
      refine (Clone_st HS1.out).mono ?_
      rintro e w2 ⟨b2, rfl, hs⟩
      have HS2 : Hid (St No w w2 [bus b k ws Ls, bus b2 k ws Ls, bk wr.heap.size 31 #[.int .i64 kk, .int .i64 co, .int .i64 a, .int .i64 z], bk w.heap.size 70 #[.slice (some ad) rows.length c, .int .i64 lk, .int .i64 lc, .int .i64 la, .int .i64 lz]]) := Lib.hid (hs.get 1)
      have p0 : w2.cell? ⟨wr.heap.size, 0, none⟩ = some (.int .i64 kk) := cell_of_block (hs.get 2).bk_at 0
      have p1 : w2.cell? ⟨wr.heap.size, 1, none⟩ = some (.int .i64 co) := cell_of_block (hs.get 2).bk_at 1
      have p2 : w2.cell? ⟨wr.heap.size, 2, none⟩ = some (.int .i64 a) := cell_of_block (hs.get 2).bk_at 2
      have p3 : w2.cell? ⟨wr.heap.size, 3, none⟩ = some (.int .i64 z) := cell_of_block (hs.get 2).bk_at 3
      clear hs HS1 m0 m1 m2 m3
      have HDO := Lib.hid (do_st HS2.out kk co a z)
      obtain ⟨⟨d1, d2, d3, d4⟩, hd⟩ : ∃ d, doB k ws Ls kk co a z = d := ⟨_, rfl⟩
      rw [hd] at HDO HD
      clear hd
      go_wp2_with fail
      refine HDO.out.mono ?_
      rintro e w4 ⟨rfl, hs⟩
      have q0 : w4.cell? ⟨wr.heap.size, 0, none⟩ = some (.int .i64 kk) := cell_of_block (St.bk_at (hs.get 2)) 0
      have HS4 : Hid (St No w w4 [bus b k d1 d2, bus b2 k ws Ls, bk wr.heap.size 31 #[.int .i64 kk, .int .i64 co, .int .i64 a, .int .i64 z], bk w.heap.size 70 #[.slice (some ad) rows.length c, .int .i64 lk, .int .i64 lc, .int .i64 la, .int .i64 lz]]) := Lib.hid hs
      clear hs HS2 HDO p0 p1 p2 p3
      by_cases hE : d4 ≠ 0 ∨ kk = 1
      · obtain ⟨rfl, rfl⟩ := HD.out hE
        have HSA := Lib.hid (Same_st HS4.out)
        have E0 : ((d4 == 0) = false ∧ ¬ d4 = 0) ∨ (d4 = 0 ∧ kk = 1) := by
          by_cases h : d4 = 0
          · exact .inr ⟨h, by rcases hE with h' | h'; exact absurd h h'; exact h'⟩
          · exact .inl ⟨beq_eq_false_iff_ne.2 h, h⟩
        clear hE HD HS4
        rcases E0 with ⟨E0, E1⟩ | ⟨rfl, rfl⟩
        all_goals
          go_wp2_with (go_at_call 27; refine HSA.out.mono ?_; rintro e w5 ⟨rfl, hs⟩; have HS5 := Lib.hid ((hs.cut 1).cut 1); clear hs)
          go_roundw
          case rel => exact ⟨i + 1, _, _, by omega, by go_num, HS5⟩
          case measure => simp [intOf]; omega
      · obtain rfl : d4 = 0 := by omega
        have K2 : ¬ kk = 1 := by omega
        have K1 : (kk == 1) = false := beq_eq_false_iff_ne.2 K2
        have HS5 := Lib.hid ((HS4.out.cut 1).cut 1)
        clear hE HD HS4
        go_wp2
        go_roundw
        case rel => exact ⟨i + 1, _, _, by omega, by go_num, HS5⟩
        case measure => simp [intOf]; omega
    · obtain rfl : i = rows.length := by omega
      have hs := HS.out
      have x1 : wr.cell? ⟨w.heap.size, 1, none⟩ = some (.int .i64 lk) := cell_of_block (hs.get 1).bk_at 1
      have x2 : wr.cell? ⟨w.heap.size, 2, none⟩ = some (.int .i64 lc) := cell_of_block (hs.get 1).bk_at 2
      have x3 : wr.cell? ⟨w.heap.size, 3, none⟩ = some (.int .i64 la) := cell_of_block (hs.get 1).bk_at 3
      have x4 : wr.cell? ⟨w.heap.size, 4, none⟩ = some (.int .i64 lz) := cell_of_block (hs.get 1).bk_at 4
      have HL := Lib.hid (own_last (bus_ok hs) lc la lz)
      have HS1 : Hid (St No w (wr.alloc (.cells #[.int .i64 lk, .int .i64 lc, .int .i64 la, .int .i64 lz] 31)) [bus b k ws Ls, bk wr.heap.size 31 #[.int .i64 lk, .int .i64 lc, .int .i64 la, .int .i64 lz]]) := Lib.hid (((hs.alloc _ _).get 1).cut 2)
      clear hs HS
      go_wp2_with fail
      clear x1 x2 x3 x4
      refine (Store_st HS1.out lc la lz).mono ?_
      rintro e w2 ⟨rfl, hs⟩
      by_cases hE : (storeB k ws Ls lc la lz).2.2 = 0
      · obtain ⟨ws1, Ls1, ws2, Ls2, mm, e1, e2, e3, e4, e5, ha, hg⟩ := HL.out hE
        rw [e1] at hs ⊢
        have HE2 := Lib.hid e2
        have HE3 := Lib.hid e3
        have HE4 := Lib.hid e4
        have HE5 := Lib.hid e5
        have HA := Lib.hid ha
        have HG := Lib.hid hg
        have HS2 : Hid (St No w w2 [bus b k ws1 Ls1, bk wr.heap.size 31 #[.int .i64 lk, .int .i64 lc, .int .i64 la, .int .i64 lz]]) := Lib.hid hs
        have y1 : w2.cell? ⟨wr.heap.size, 1, none⟩ = some (.int .i64 lc) := cell_of_block (hs.get 1).bk_at 1
        have y2 : w2.cell? ⟨wr.heap.size, 2, none⟩ = some (.int .i64 la) := cell_of_block (hs.get 1).bk_at 2
        clear hE HL HS1 hs e1 e2 e3 e4 e5 ha hg
        go_wp2_with fail
        refine (Load_st HS2.out lc la).mono ?_
        rw [HE2.out]
        rintro e w3 ⟨rfl, hs⟩
        have HS3 : Hid (St No w w3 [bus b k ws1 Ls1, bk wr.heap.size 31 #[.int .i64 lk, .int .i64 lc, .int .i64 la, .int .i64 lz]]) := Lib.hid hs
        have z1 : w3.cell? ⟨wr.heap.size, 1, none⟩ = some (.int .i64 lc) := cell_of_block (hs.get 1).bk_at 1
        clear hs HS2 y1 y2
        go_wp2_with fail
        refine (Fence_st HS3.out lc).mono ?_
        rw [HE3.out]
        rintro e w4 ⟨rfl, hs⟩
        have HS4 : Hid (St No w w4 [bus b k ws2 Ls2, bk wr.heap.size 31 #[.int .i64 lk, .int .i64 lc, .int .i64 la, .int .i64 lz]]) := Lib.hid hs
        have y1 : w4.cell? ⟨wr.heap.size, 1, none⟩ = some (.int .i64 lc) := cell_of_block (hs.get 1).bk_at 1
        have y2 : w4.cell? ⟨wr.heap.size, 2, none⟩ = some (.int .i64 la) := cell_of_block (hs.get 1).bk_at 2
        clear hs HS3 z1
        go_wp2_with fail
        refine (Load_st HS4.out lc la).mono ?_
        rw [HE4.out]
        rintro e w5 ⟨rfl, hs⟩
        have HS5 : Hid (St No w w5 [bus b k ws2 Ls2, bk wr.heap.size 31 #[.int .i64 lk, .int .i64 lc, .int .i64 la, .int .i64 lz]]) := Lib.hid hs
        clear hs HS4 y1 y2
        go_wp2_with fail
        refine (Ram_st HS5.out).mono ?_
        rintro e w6 ⟨r6, rfl, hs⟩
        have HS6 : Hid (St No w w6 [ram r6 ws2, bus b k ws2 Ls2, bk wr.heap.size 31 #[.int .i64 lk, .int .i64 lc, .int .i64 la, .int .i64 lz]]) := Lib.hid hs
        clear hs HS5
        go_wp2_with fail
        refine (Words_st HS6.out).mono ?_
        rintro e w7 ⟨v7, rfl, hs⟩
        obtain ⟨j, rfl⟩ := Int.eq_ofNat_of_zero_le HA.out.1
        have hj : j < ws2.length := by have := HA.out.2; omega
        obtain ⟨ad, cc, rfl, hc⟩ := lat_cell hs j hj
        rw [show ws2.getD j 0 = lz from HG.out] at hc
        have HLAT : Hid (∀ (wx : World) (F : List Rg), St No w wx (lat (.slice (some ad) ws2.length cc) ws2 :: F) → wx.cell? (ad.add j) = some (.int .i64 lz)) := Lib.hid (fun wx F h => by
          obtain ⟨ad', cc', e, h'⟩ := lat_cell h j hj
          obtain ⟨e1, -, -⟩ := Value.slice.inj e
          obtain rfl := Option.some.inj e1
          rw [h']
          exact congrArg (fun t => some (Value.int .i64 t)) HG.out)
        have HS7 : Hid (St No w w7 [bus b k ws2 Ls2, bk wr.heap.size 31 #[.int .i64 lk, .int .i64 lc, .int .i64 (j : Int), .int .i64 lz], lat (.slice (some ad) ws2.length cc) ws2]) := Lib.hid (((hs.cut 1).get 2).get 2)
        have y1 : w7.cell? ⟨wr.heap.size, 1, none⟩ = some (.int .i64 lc) := cell_of_block (HS7.out.get 1).bk_at 1
        have y2 : w7.cell? ⟨wr.heap.size, 2, none⟩ = some (.int .i64 (j : Int)) := cell_of_block (HS7.out.get 1).bk_at 2
        have y3 : w7.cell? ⟨wr.heap.size, 3, none⟩ = some (.int .i64 lz) := cell_of_block (HS7.out.get 1).bk_at 3
        have j1 : (j : Int) < (ws2.length : Int) := by omega
        have j2 : decide (ws2.length ≤ j) = false := decide_eq_false (by omega)
        clear hs HS6
        go_upto_region 19 with fail
        go_region_held3 (fun wx => wx.cell? ⟨wr.heap.size, 1, none⟩ = some (.int .i64 lc) ∧ wx.cell? ⟨wr.heap.size, 2, none⟩ = some (.int .i64 (j : Int)) ∧ wx.cell? ⟨wr.heap.size, 3, none⟩ = some (.int .i64 lz) ∧ wx.cell? (ad.add j) = some (.int .i64 lz) ∧ Hid (St No w wx [bus b k ws2 Ls2, bk wr.heap.size 31 #[.int .i64 lk, .int .i64 lc, .int .i64 (j : Int), .int .i64 lz], lat (.slice (some ad) ws2.length cc) ws2]))
          (first | exact ⟨y1, y2, y3, hc, HS7⟩ | exact ⟨y1, y2, y3, hc, Lib.hid HS7.out.drew⟩ | exact ⟨cell_of_block (hs.get 1).bk_at 1, cell_of_block (hs.get 1).bk_at 2, cell_of_block (hs.get 1).bk_at 3, HLAT.out _ _ (hs.get 2), Lib.hid hs⟩)
          (first
            | (go_at_call 22; go_split_ands; refine (Waits_st (Hid.out (by assumption : Hid (St No w _ [bus b k ws2 Ls2, _, _]))) lc).mono ?_; rw [HE5.out]; rintro e w8 ⟨A8, c8, rfl, hs8⟩; have hs := hs8.drop)
            | (go_at_call 11; go_split_ands; refine (alive_st (Hid.out (by assumption : Hid (St No w _ [bus b k ws2 Ls2, _, _])))).mono ?_; rintro e w9 ⟨rfl, hs⟩))
        have HF9 := Lib.hid hs.up
        clear hs
        go_wp2
        go_ret
        exact ⟨rfl, HF9.out⟩
      · have E0 : ((storeB k ws Ls lc la lz).2.2 == 0) = false := beq_eq_false_iff_ne.2 hE
        have HS2 := Lib.hid hs
        clear hs hE HL HS1
        generalize (storeB k ws Ls lc la lz).2.2 = er at *
        go_wp2_with (go_at_call 11; refine (alive_st HS2.out).mono ?_; rintro e w5 ⟨rfl, hs⟩; have HA := Lib.hid hs.up; clear hs)
        go_ret
        exact ⟨rfl, HA.out⟩
end Go.Proofs.Ytlefefcakffepaa.Bus
