/- SramCells, walked. -/
import Derived.Test.YtiofdkkjjeljmaaSramSame
namespace Go.Proofs.Ytiofdkkjjeljmaa.Sram
set_option linter.unusedVariables false
set_option linter.unusedSimpArgs false
open Go.RowKit Go.Proofs.Ytiofdkkjjeljmaa.Lat Go.Proofs.Ytiofdkkjjeljmaa.Sep Go.Proofs.Ytiofdkkjjeljmaa.Same3 Go.Proofs.Ytiofdkkjjeljmaa.Open Go.Proofs.YtiofdkkjjeljmaaW.PrintWords Go.Proofs.Ytiofdkkjjeljmaa.PSramPlays

theorem lat_form {P0 : Nat → Prop} {w0 w : World} {L : List Rg} {v : Value} {q : List Int} (h : St P0 w0 w (lat v q :: L)) : ∃ A c, v = .slice A q.length c := by
  obtain ⟨P, ⟨Q, Q2, _, _, _, h1, _⟩, _⟩ := St.step (L := [lat v q]) h
  exact LAt.len h1
theorem lat_cell {P0 : Nat → Prop} {w0 w : World} {L : List Rg} {A : Option Addr} {n c : Nat} {q : List Int} (h : St P0 w0 w (lat (.slice A n c) q :: L)) (i : Nat) (hi : i < q.length) : ∃ ad, A = some ad ∧ w.cell? (ad.add i) = some (.int .i64 (q.getD i 0)) := by
  obtain ⟨P, ⟨Q, Q2, _, _, _, h1, _⟩, _⟩ := St.step (L := [lat (.slice A n c) q]) h
  rcases h1 with ⟨_, rfl⟩ | ⟨ad, c', hv, _, hh⟩
  · simp at hi
  · cases hv
    exact ⟨ad, rfl, (hh i hi).2⟩
theorem doM_snd (ws : List Int) (k a n z : Int) : (doM ws k a n z).1.length = ws.length := (doM_len ws k a n z).1
set_option maxHeartbeats 16000000 in
set_option maxRecDepth 100000 in
theorem cells_walk (n m : Nat) (h1 : 1 ≤ n) (h2 : n ≤ 200) (h3 : 1 ≤ m) (h4 : m ≤ 200) (A0 A1 : Option Addr) (c0 c1 : Nat) (rows0 rows1 : List (List Int)) (k0 a0 n0 z0 : Int) (w : World) (hr0 : Recs 4 w A0 rows0) (hr1 : Recs 4 w A1 rows1) (hl0 : rows0.length ≤ 40) (hl1 : rows1.length ≤ 40) :
    Calls Try.prog 5 #[.int .i64 n, .int .i64 m, .agg #[.slice A0 rows0.length c0, .slice A1 rows1.length c1], .agg #[.int .i64 k0, .int .i64 a0, .int .i64 n0, .int .i64 z0]] w fun e w' => e = .returned (.bool true) ∧ Up w w' := by
  have HR0 := Lib.hid hr0
  have HR1 := Lib.hid hr1
  clear hr0 hr1
  have g1 : decide ((n : Int) < 1) = false := decide_eq_false (by omega)
  have g2 : decide ((n : Int) > 200) = false := decide_eq_false (by omega)
  have g3 : decide ((m : Int) < 1) = false := decide_eq_false (by omega)
  have g4 : decide ((m : Int) > 200) = false := decide_eq_false (by omega)
  have g5 : decide ((rows0.length : Int) > 40) = false := decide_eq_false (by omega)
  have g6 : decide ((rows1.length : Int) > 40) = false := decide_eq_false (by omega)
  have hb := ((St.nil w).alloc #[.slice A0 rows0.length c0, .slice A1 rows1.length c1] 46).alloc #[.int .i64 k0, .int .i64 a0, .int .i64 n0, .int .i64 z0] 30
  rw [World.size_alloc] at hb
  have HS0 := Lib.hid hb
  clear hb
  go_enter Try.func5, Try.ntmps5
  go_wp2_with fail
  refine (New_st HS0.out n h1 (by omega)).mono ?_
  rintro e w1 ⟨a, rfl, hs⟩
  clear g1 g2 g5 g6
  have HS1 : Hid (St No w w1 [ram a (List.replicate n 0), bk (w.heap.size + 1) 30 #[.int .i64 k0, .int .i64 a0, .int .i64 n0, .int .i64 z0], bk w.heap.size 46 #[.slice A0 rows0.length c0, .slice A1 rows1.length c1]]) := Lib.hid (hs)
  clear hs HS0
  go_wp2_with fail
  refine (New_st HS1.out m h3 (by omega)).mono ?_
  rintro e w2 ⟨b, rfl, hs⟩
  clear g3 g4
  have HS2 : Hid (St No w w2 [ram b (List.replicate m 0), ram a (List.replicate n 0), bk (w.heap.size + 1) 30 #[.int .i64 k0, .int .i64 a0, .int .i64 n0, .int .i64 z0], bk w.heap.size 46 #[.slice A0 rows0.length c0, .slice A1 rows1.length c1]]) := Lib.hid (hs)
  clear hs HS1
  have HS3 : Hid (St No w w2 [bk w.heap.size 46 #[.slice A0 rows0.length c0, .slice A1 rows1.length c1], ram b (List.replicate m 0), ram a (List.replicate n 0), bk (w.heap.size + 1) 30 #[.int .i64 k0, .int .i64 a0, .int .i64 n0, .int .i64 z0]]) := Lib.hid ((HS2.out).get 3)
  clear HS2
  have d0 : w2.cell? ⟨w.heap.size, 0, none⟩ = some (.slice A0 rows0.length c0) := cell_of_block HS3.out.bk_at 0
  have HS4 : Hid (St No w w2 [ram a (List.replicate n 0), bk w.heap.size 46 #[.slice A0 rows0.length c0, .slice A1 rows1.length c1], ram b (List.replicate m 0), bk (w.heap.size + 1) 30 #[.int .i64 k0, .int .i64 a0, .int .i64 n0, .int .i64 z0]]) := Lib.hid ((HS3.out).get 2)
  clear HS3
  go_wp2_with fail
  go_loopw [77] (fun v wx => ∃ (i : Nat) (ws : List Int), i ≤ rows0.length ∧ v = .int .i64 i ∧ Hid (St No w wx [ram a ws, bk w.heap.size 46 #[.slice A0 rows0.length c0, .slice A1 rows1.length c1], ram b (List.replicate m 0), bk (w.heap.size + 1) 30 #[.int .i64 k0, .int .i64 a0, .int .i64 n0, .int .i64 z0]]) ∧ Hid (ws.length = n)) (fun v _ => rows0.length - (intOf v).toNat)
  case atStart => exact ⟨0, _, Nat.zero_le _, rfl, HS4, Lib.hid (by simp)⟩
  case round =>
    clear HS4 d0
    obtain ⟨i, wsa, hi, rfl, HS, HNa⟩ := hrel
    by_cases hlt : i < rows0.length
    · obtain ⟨ad, rfl, k, a', m', u, k0', k1', k2', k3', -⟩ := row_cells HR0.out i hlt
      have HU := Lib.hid ((HS.out).up)
      have e0 := pw_cell_below HU.out k0'
      have e1 := pw_cell_below HU.out k1'
      have e2 := pw_cell_below HU.out k2'
      have e3 := pw_cell_below HU.out k3'
      clear k0' k1' k2' k3' HU
      have HS5 : Hid (St No w (wr.alloc (.cells #[.int .i64 k, .int .i64 a', .int .i64 m', .int .i64 u] 30)) [bk wr.heap.size 30 #[.int .i64 k, .int .i64 a', .int .i64 m', .int .i64 u], ram a wsa, bk w.heap.size 46 #[.slice (some ad) rows0.length c0, .slice A1 rows1.length c1], ram b (List.replicate m 0), bk (w.heap.size + 1) 30 #[.int .i64 k0, .int .i64 a0, .int .i64 n0, .int .i64 z0]]) := Lib.hid (HS.out.alloc #[.int .i64 k, .int .i64 a', .int .i64 m', .int .i64 u] 30)
      clear HS
      have HS6 : Hid (St No w (wr.alloc (.cells #[.int .i64 k, .int .i64 a', .int .i64 m', .int .i64 u] 30)) [ram a wsa, bk wr.heap.size 30 #[.int .i64 k, .int .i64 a', .int .i64 m', .int .i64 u], bk w.heap.size 46 #[.slice (some ad) rows0.length c0, .slice A1 rows1.length c1], ram b (List.replicate m 0), bk (w.heap.size + 1) 30 #[.int .i64 k0, .int .i64 a0, .int .i64 n0, .int .i64 z0]]) := Lib.hid ((HS5.out).get 1)
      clear HS5
      go_wp2_with fail
      refine (do_st HS6.out k a' m' u).mono ?_
      rintro e w7 ⟨v', rfl, hs⟩
      clear e0 e1 e2 e3
      have HS7 : Hid (St No w w7 [lat v' (doM wsa k a' m' u).2.1, ram a (doM wsa k a' m' u).1, bk wr.heap.size 30 #[.int .i64 k, .int .i64 a', .int .i64 m', .int .i64 u], bk w.heap.size 46 #[.slice (some ad) rows0.length c0, .slice A1 rows1.length c1], ram b (List.replicate m 0), bk (w.heap.size + 1) 30 #[.int .i64 k0, .int .i64 a0, .int .i64 n0, .int .i64 z0]]) := Lib.hid (hs)
      clear hs HS6
      have HS8 : Hid (St No w w7 [ram a (doM wsa k a' m' u).1, bk w.heap.size 46 #[.slice (some ad) rows0.length c0, .slice A1 rows1.length c1], ram b (List.replicate m 0), bk (w.heap.size + 1) 30 #[.int .i64 k0, .int .i64 a0, .int .i64 n0, .int .i64 z0]]) := Lib.hid (((((HS7.out).get 2).get 1).drop).drop)
      clear HS7
      go_wp2
      go_roundw
      case rel => exact ⟨i + 1, _, by omega, by go_num, HS8, Lib.hid ((doM_snd _ _ _ _ _).trans HNa.out)⟩
      case measure => simp [intOf]; omega
    · obtain rfl : i = rows0.length := by omega
      obtain ⟨Wa, hW⟩ : ∃ W, wr = W := ⟨_, rfl⟩
      rw [hW] at HS ⊢
      clear hW
      have HQa := HS
      clear HS hi hlt
      have HS9 : Hid (St No w Wa [bk w.heap.size 46 #[.slice A0 rows0.length c0, .slice A1 rows1.length c1], ram a wsa, ram b (List.replicate m 0), bk (w.heap.size + 1) 30 #[.int .i64 k0, .int .i64 a0, .int .i64 n0, .int .i64 z0]]) := Lib.hid ((HQa.out).get 1)
      clear HQa
      have d0 : Wa.cell? ⟨w.heap.size, 1, none⟩ = some (.slice A1 rows1.length c1) := cell_of_block HS9.out.bk_at 1
      have HS10 : Hid (St No w Wa [ram b (List.replicate m 0), bk w.heap.size 46 #[.slice A0 rows0.length c0, .slice A1 rows1.length c1], ram a wsa, bk (w.heap.size + 1) 30 #[.int .i64 k0, .int .i64 a0, .int .i64 n0, .int .i64 z0]]) := Lib.hid ((HS9.out).get 2)
      clear HS9
      go_wp2_with fail
      go_loopw [88] (fun v wx => ∃ (i : Nat) (ws : List Int), i ≤ rows1.length ∧ v = .int .i64 i ∧ Hid (St No w wx [ram b ws, bk w.heap.size 46 #[.slice A0 rows0.length c0, .slice A1 rows1.length c1], ram a wsa, bk (w.heap.size + 1) 30 #[.int .i64 k0, .int .i64 a0, .int .i64 n0, .int .i64 z0]]) ∧ Hid (ws.length = m)) (fun v _ => rows1.length - (intOf v).toNat)
      case atStart => exact ⟨0, _, Nat.zero_le _, rfl, HS10, Lib.hid (by simp)⟩
      case round =>
        clear HS10 d0
        obtain ⟨i, wsb, hi, rfl, HS, HNb⟩ := hrel
        by_cases hlt : i < rows1.length
        · obtain ⟨ad, rfl, k, a', m', u, k0', k1', k2', k3', -⟩ := row_cells HR1.out i hlt
          have HU := Lib.hid ((HS.out).up)
          have e0 := pw_cell_below HU.out k0'
          have e1 := pw_cell_below HU.out k1'
          have e2 := pw_cell_below HU.out k2'
          have e3 := pw_cell_below HU.out k3'
          clear k0' k1' k2' k3' HU
          have HS11 : Hid (St No w (wr.alloc (.cells #[.int .i64 k, .int .i64 a', .int .i64 m', .int .i64 u] 30)) [bk wr.heap.size 30 #[.int .i64 k, .int .i64 a', .int .i64 m', .int .i64 u], ram b wsb, bk w.heap.size 46 #[.slice A0 rows0.length c0, .slice (some ad) rows1.length c1], ram a wsa, bk (w.heap.size + 1) 30 #[.int .i64 k0, .int .i64 a0, .int .i64 n0, .int .i64 z0]]) := Lib.hid (HS.out.alloc #[.int .i64 k, .int .i64 a', .int .i64 m', .int .i64 u] 30)
          clear HS
          have HS12 : Hid (St No w (wr.alloc (.cells #[.int .i64 k, .int .i64 a', .int .i64 m', .int .i64 u] 30)) [ram b wsb, bk wr.heap.size 30 #[.int .i64 k, .int .i64 a', .int .i64 m', .int .i64 u], bk w.heap.size 46 #[.slice A0 rows0.length c0, .slice (some ad) rows1.length c1], ram a wsa, bk (w.heap.size + 1) 30 #[.int .i64 k0, .int .i64 a0, .int .i64 n0, .int .i64 z0]]) := Lib.hid ((HS11.out).get 1)
          clear HS11
          go_wp2_with fail
          refine (do_st HS12.out k a' m' u).mono ?_
          rintro e w13 ⟨v', rfl, hs⟩
          clear e0 e1 e2 e3
          have HS13 : Hid (St No w w13 [lat v' (doM wsb k a' m' u).2.1, ram b (doM wsb k a' m' u).1, bk wr.heap.size 30 #[.int .i64 k, .int .i64 a', .int .i64 m', .int .i64 u], bk w.heap.size 46 #[.slice A0 rows0.length c0, .slice (some ad) rows1.length c1], ram a wsa, bk (w.heap.size + 1) 30 #[.int .i64 k0, .int .i64 a0, .int .i64 n0, .int .i64 z0]]) := Lib.hid (hs)
          clear hs HS12
          have HS14 : Hid (St No w w13 [ram b (doM wsb k a' m' u).1, bk w.heap.size 46 #[.slice A0 rows0.length c0, .slice (some ad) rows1.length c1], ram a wsa, bk (w.heap.size + 1) 30 #[.int .i64 k0, .int .i64 a0, .int .i64 n0, .int .i64 z0]]) := Lib.hid (((((HS13.out).get 2).get 1).drop).drop)
          clear HS13
          go_wp2
          go_roundw
          case rel => exact ⟨i + 1, _, by omega, by go_num, HS14, Lib.hid ((doM_snd _ _ _ _ _).trans HNb.out)⟩
          case measure => simp [intOf]; omega
        · obtain rfl : i = rows1.length := by omega
          obtain ⟨Wb, hW⟩ : ∃ W, wr = W := ⟨_, rfl⟩
          rw [hW] at HS ⊢
          clear hW
          have HQb := HS
          clear HS hi hlt
          have HS15 : Hid (St No w Wb [ram a wsa, ram b wsb, bk w.heap.size 46 #[.slice A0 rows0.length c0, .slice A1 rows1.length c1], bk (w.heap.size + 1) 30 #[.int .i64 k0, .int .i64 a0, .int .i64 n0, .int .i64 z0]]) := Lib.hid ((HQb.out).get 2)
          clear HQb
          go_wp2_with fail
          refine (Words_st HS15.out).mono ?_
          rintro e w16 ⟨v1, rfl, hs⟩
          have HS16 : Hid (St No w w16 [lat v1 wsa, ram a wsa, ram b wsb, bk w.heap.size 46 #[.slice A0 rows0.length c0, .slice A1 rows1.length c1], bk (w.heap.size + 1) 30 #[.int .i64 k0, .int .i64 a0, .int .i64 n0, .int .i64 z0]]) := Lib.hid (hs)
          clear hs HS15
          obtain ⟨X, cx, rfl⟩ := lat_form HS16.out
          have HS17 : Hid (St No w w16 [ram b wsb, lat (.slice X wsa.length cx) wsa, ram a wsa, bk w.heap.size 46 #[.slice A0 rows0.length c0, .slice A1 rows1.length c1], bk (w.heap.size + 1) 30 #[.int .i64 k0, .int .i64 a0, .int .i64 n0, .int .i64 z0]]) := Lib.hid ((HS16.out).get 2)
          clear HS16
          go_wp2_with fail
          refine (Words_st HS17.out).mono ?_
          rintro e w18 ⟨v2, rfl, hs⟩
          have HS18 : Hid (St No w w18 [lat v2 wsb, ram b wsb, lat (.slice X wsa.length cx) wsa, ram a wsa, bk w.heap.size 46 #[.slice A0 rows0.length c0, .slice A1 rows1.length c1], bk (w.heap.size + 1) 30 #[.int .i64 k0, .int .i64 a0, .int .i64 n0, .int .i64 z0]]) := Lib.hid (hs)
          clear hs HS17
          have HNI : wsa.length ≤ 200 := by have := HNa.out; omega
          have HOK := Lib.hid (ram_ok ((HS18.out).get 3))
          have HS19 : Hid (St No w w18 [slc 48 1 (.slice none 0 0) 0 [], lat v2 wsb, ram b wsb, lat (.slice X wsa.length cx) wsa, ram a wsa, bk w.heap.size 46 #[.slice A0 rows0.length c0, .slice A1 rows1.length c1], bk (w.heap.size + 1) 30 #[.int .i64 k0, .int .i64 a0, .int .i64 n0, .int .i64 z0]]) := Lib.hid (HS18.out.fresh (M := [slc 48 1 (.slice none 0 0) 0 []]) (Up.refl _) ⟨No, No, fun _ e => e.elim, fun _ e => e.elim, fun _ e => e.elim, slc_nil _ _ _ _, trivial⟩)
          clear HS18
          go_wp2_with fail
          go_loopw [102, 19] (fun v v19 wx => ∃ i : Nat, i ≤ wsa.length ∧ v = .int .i64 i ∧ Hid (St No w wx [slc 48 1 v19 (cellsL wsa i).length (cellsL wsa i), lat v2 wsb, ram b wsb, lat (.slice X wsa.length cx) wsa, ram a wsa, bk w.heap.size 46 #[.slice A0 rows0.length c0, .slice A1 rows1.length c1], bk (w.heap.size + 1) 30 #[.int .i64 k0, .int .i64 a0, .int .i64 n0, .int .i64 z0]])) (fun v _ _ => wsa.length - (intOf v).toNat)
          case atStart => exact ⟨0, Nat.zero_le _, rfl, HS19⟩
          case round =>
            clear HS19
            obtain ⟨i, hi, rfl, HS⟩ := hrel
            by_cases hlt : i < wsa.length
            · obtain ⟨ad, rfl, cX⟩ := lat_cell ((HS.out).get 3) i hlt
              have hlen := cellsL_len wsa i
              have hz0 := HOK.out (wsa.getD i 0) (by rw [List.getD_eq_getElem?_getD, List.getElem?_eq_getElem hlt]; exact List.getElem_mem hlt)
              have EL := Lib.hid (show cellsL wsa (i + 1) = cellsL wsa i ++ if wsa.getD i 0 = 0 then [] else [.complex .f64 (floatOfInt .f64 i) (floatOfInt .f64 (wsa.getD i 0))] from rfl)
              by_cases hz : wsa.getD i 0 = 0
              · rw [hz] at cX
                have E := EL.out
                rw [if_pos hz, List.append_nil] at E
                have EL2 := Lib.hid E
                clear EL E hz hz0
                go_wp2
                go_roundw
                case rel => exact ⟨i + 1, by omega, by go_num, by rw [EL2.out]; exact HS⟩
                case measure => simp [intOf]; omega
              · have E := EL.out
                rw [if_neg hz] at E
                have EL2 := Lib.hid E
                have hzf : (wsa.getD i 0 == 0) = false := beq_eq_false_iff_ne.2 hz
                have hzt : (wsa.getD i 0 != 0) = true := by rw [bne, hzf]; rfl
                obtain ⟨t0, ht0, hz0', hz1, hz2⟩ := complex_info
                clear EL E hz hz0
                generalize wsa.getD i 0 = z at *
                generalize cellsL wsa i = cs at *
                have HS20 : Hid (St No w (wr.alloc (.cells #[.complex .f64 (floatOfInt .f64 (i : Int)) (floatOfInt .f64 z)] 48)) [bk wr.heap.size 48 #[.complex .f64 (floatOfInt .f64 (i : Int)) (floatOfInt .f64 z)], slc 48 1 u19 cs.length cs, lat v2 wsb, ram b wsb, lat (.slice (some ad) wsa.length cx) wsa, ram a wsa, bk w.heap.size 46 #[.slice A0 rows0.length c0, .slice A1 rows1.length c1], bk (w.heap.size + 1) 30 #[.int .i64 k0, .int .i64 a0, .int .i64 n0, .int .i64 z0]]) := Lib.hid (HS.out.alloc #[.complex .f64 (floatOfInt .f64 (i : Int)) (floatOfInt .f64 z)] 48)
                clear HS
                have HRd := Lib.hid (Rd.of_block (sz := 1) (m := 1) HS20.out.bk_at rfl (by simp [Value.oneCell']))
                have HS21 : Hid (St No w (wr.alloc (.cells #[.complex .f64 (floatOfInt .f64 (i : Int)) (floatOfInt .f64 z)] 48)) [slc 48 1 u19 cs.length cs, bk wr.heap.size 48 #[.complex .f64 (floatOfInt .f64 (i : Int)) (floatOfInt .f64 z)], lat v2 wsb, ram b wsb, lat (.slice (some ad) wsa.length cx) wsa, ram a wsa, bk w.heap.size 46 #[.slice A0 rows0.length c0, .slice A1 rows1.length c1], bk (w.heap.size + 1) 30 #[.int .i64 k0, .int .i64 a0, .int .i64 n0, .int .i64 z0]]) := Lib.hid ((HS20.out).get 1)
                clear HS20
                go_wp2_with (at_builtin; refine St.append 48 t0 (.complex .f64 0 0) 1 16 HS21.out rfl (.tmp 109) (.tmp 115) 47 rfl Try.underlying47 ht0 hz0' hz1 hz2 rfl (by decide) rfl (some ⟨wr.heap.size, 0, none⟩) 1 1 [.complex .f64 (floatOfInt .f64 (i : Int)) (floatOfInt .f64 z)] rfl HRd.out (by unfold maxLen; omega) (by omega) ?_; intro A1' c1' w3 hst hsz3; have HF := Lib.hid hst; clear hst hsz3)
                have HS22 : Hid (St No w w3 [slc 48 1 (.slice A1' (cs.length + 1) c1') (cs.length + 1) (cs ++ [.complex .f64 (floatOfInt .f64 (i : Int)) (floatOfInt .f64 z)]), lat v2 wsb, ram b wsb, lat (.slice (some ad) wsa.length cx) wsa, ram a wsa, bk w.heap.size 46 #[.slice A0 rows0.length c0, .slice A1 rows1.length c1], bk (w.heap.size + 1) 30 #[.int .i64 k0, .int .i64 a0, .int .i64 n0, .int .i64 z0]]) := Lib.hid (((HF.out).get 1).drop)
                clear HF
                go_roundw
                case rel => exact ⟨i + 1, by omega, by go_num, by rw [EL2.out, List.length_append]; exact HS22⟩
                case measure => simp [intOf]; omega
            · obtain rfl : i = wsa.length := by omega
              have HSf := Lib.hid (cellsL_self wsa HOK.out (by have := HNa.out; omega) wsa.length (Nat.le_refl _))
              have HLn := Lib.hid (cellsL_len wsa wsa.length)
              obtain ⟨cs, hcs⟩ : ∃ cs, cellsL wsa wsa.length = cs := ⟨_, rfl⟩
              rw [hcs] at HS HSf HLn
              have HCS := Lib.hid hcs
              clear hcs hlt hi
              have HS23 : Hid (St No w wr [ram a wsa, slc 48 1 u19 cs.length cs, lat v2 wsb, ram b wsb, lat (.slice X wsa.length cx) wsa, bk w.heap.size 46 #[.slice A0 rows0.length c0, .slice A1 rows1.length c1], bk (w.heap.size + 1) 30 #[.int .i64 k0, .int .i64 a0, .int .i64 n0, .int .i64 z0]]) := Lib.hid ((HS.out).get 4)
              clear HS
              go_wp2_with fail
              refine (Cells_st HS23.out).mono ?_
              rw [HCS.out]
              rintro e w24 ⟨v3, rfl, hs⟩
              have HS24 : Hid (St No w w24 [slc 48 1 v3 cs.length cs, ram a wsa, slc 48 1 u19 cs.length cs, lat v2 wsb, ram b wsb, lat (.slice X wsa.length cx) wsa, bk w.heap.size 46 #[.slice A0 rows0.length c0, .slice A1 rows1.length c1], bk (w.heap.size + 1) 30 #[.int .i64 k0, .int .i64 a0, .int .i64 n0, .int .i64 z0]]) := Lib.hid (hs)
              clear hs HS23
              have HS25 : Hid (St No w w24 [slc 48 1 v3 cs.length cs, slc 48 1 u19 cs.length cs, ram a wsa, lat v2 wsb, ram b wsb, lat (.slice X wsa.length cx) wsa, bk w.heap.size 46 #[.slice A0 rows0.length c0, .slice A1 rows1.length c1], bk (w.heap.size + 1) 30 #[.int .i64 k0, .int .i64 a0, .int .i64 n0, .int .i64 z0]]) := Lib.hid (((HS24.out).get 2).get 1)
              clear HS24
              go_wp2_with fail
              refine (cSame_st HS25.out HSf.out (by have := HLn.out; omega)).mono ?_
              rintro e w26 ⟨rfl, hs⟩
              have HS26 : Hid (St No w w26 [slc 48 1 v3 cs.length cs, slc 48 1 u19 cs.length cs, ram a wsa, lat v2 wsb, ram b wsb, lat (.slice X wsa.length cx) wsa, bk w.heap.size 46 #[.slice A0 rows0.length c0, .slice A1 rows1.length c1], bk (w.heap.size + 1) 30 #[.int .i64 k0, .int .i64 a0, .int .i64 n0, .int .i64 z0]]) := Lib.hid (hs)
              clear hs HS25
              have HS27 : Hid (St No w w26 [ram a wsa, lat v2 wsb, ram b wsb, lat (.slice X wsa.length cx) wsa, bk w.heap.size 46 #[.slice A0 rows0.length c0, .slice A1 rows1.length c1], bk (w.heap.size + 1) 30 #[.int .i64 k0, .int .i64 a0, .int .i64 n0, .int .i64 z0]]) := Lib.hid (((HS26.out).drop).drop)
              clear HS26
              obtain ⟨r1, hr1⟩ : ∃ r1, decide (wsa = wsb) = r1 := ⟨_, rfl⟩
              have HR1' := Lib.hid hr1
              clear hr1
              have HS28 : Hid (St No w w26 [ram a wsa, ram b wsb, lat v2 wsb, lat (.slice X wsa.length cx) wsa, bk w.heap.size 46 #[.slice A0 rows0.length c0, .slice A1 rows1.length c1], bk (w.heap.size + 1) 30 #[.int .i64 k0, .int .i64 a0, .int .i64 n0, .int .i64 z0]]) := Lib.hid (((HS27.out).get 2).get 1)
              clear HS27
              go_wp2_with fail
              refine (Same_pp HS28.out).mono ?_
              rw [HR1'.out]
              rintro e w29 ⟨rfl, hs⟩
              have HS29 : Hid (St No w w29 [ram a wsa, ram b wsb, lat v2 wsb, lat (.slice X wsa.length cx) wsa, bk w.heap.size 46 #[.slice A0 rows0.length c0, .slice A1 rows1.length c1], bk (w.heap.size + 1) 30 #[.int .i64 k0, .int .i64 a0, .int .i64 n0, .int .i64 z0]]) := Lib.hid (hs)
              clear hs HS28
              have HS30 : Hid (St No w w29 [lat (.slice X wsa.length cx) wsa, lat v2 wsb, ram a wsa, ram b wsb, bk w.heap.size 46 #[.slice A0 rows0.length c0, .slice A1 rows1.length c1], bk (w.heap.size + 1) 30 #[.int .i64 k0, .int .i64 a0, .int .i64 n0, .int .i64 z0]]) := Lib.hid (((HS29.out).get 2).get 3)
              clear HS29
              go_wp2_with fail
              refine (Same_st HS30.out (by have := HNa.out; have := HNb.out; omega) (by have := HNa.out; have := HNb.out; omega)).mono ?_
              rw [HR1'.out]
              rintro e w31 ⟨rfl, hs⟩
              have HS31 : Hid (St No w w31 [lat (.slice X wsa.length cx) wsa, lat v2 wsb, ram a wsa, ram b wsb, bk w.heap.size 46 #[.slice A0 rows0.length c0, .slice A1 rows1.length c1], bk (w.heap.size + 1) 30 #[.int .i64 k0, .int .i64 a0, .int .i64 n0, .int .i64 z0]]) := Lib.hid (hs)
              clear hs HS30
              have HS32 : Hid (St No w w31 [ram a wsa, lat (.slice X wsa.length cx) wsa, lat v2 wsb, ram b wsb, bk w.heap.size 46 #[.slice A0 rows0.length c0, .slice A1 rows1.length c1], bk (w.heap.size + 1) 30 #[.int .i64 k0, .int .i64 a0, .int .i64 n0, .int .i64 z0]]) := Lib.hid ((HS31.out).get 2)
              clear HS31
              go_wp2_with fail
              refine (Same_self HS32.out).mono ?_
              rintro e w33 ⟨rfl, hs⟩
              have HS33 : Hid (St No w w33 [ram a wsa, lat (.slice X wsa.length cx) wsa, lat v2 wsb, ram b wsb, bk w.heap.size 46 #[.slice A0 rows0.length c0, .slice A1 rows1.length c1], bk (w.heap.size + 1) 30 #[.int .i64 k0, .int .i64 a0, .int .i64 n0, .int .i64 z0]]) := Lib.hid (hs)
              clear hs HS32
              go_wp2_with fail
              refine (Clone_st HS33.out).mono ?_
              rintro e w34 ⟨cc, rfl, hs⟩
              have HS34 : Hid (St No w w34 [ram cc wsa, ram a wsa, lat (.slice X wsa.length cx) wsa, lat v2 wsb, ram b wsb, bk w.heap.size 46 #[.slice A0 rows0.length c0, .slice A1 rows1.length c1], bk (w.heap.size + 1) 30 #[.int .i64 k0, .int .i64 a0, .int .i64 n0, .int .i64 z0]]) := Lib.hid (hs)
              clear hs HS33
              have HS35 : Hid (St No w w34 [ram a wsa, ram cc wsa, lat (.slice X wsa.length cx) wsa, lat v2 wsb, ram b wsb, bk w.heap.size 46 #[.slice A0 rows0.length c0, .slice A1 rows1.length c1], bk (w.heap.size + 1) 30 #[.int .i64 k0, .int .i64 a0, .int .i64 n0, .int .i64 z0]]) := Lib.hid ((HS34.out).get 1)
              clear HS34
              go_wp2_with fail
              refine (Same_pp HS35.out).mono ?_
              rw [decide_eq_true (rfl : wsa = wsa)]
              rintro e w36 ⟨rfl, hs⟩
              have HS36 : Hid (St No w w36 [ram a wsa, ram cc wsa, lat (.slice X wsa.length cx) wsa, lat v2 wsb, ram b wsb, bk w.heap.size 46 #[.slice A0 rows0.length c0, .slice A1 rows1.length c1], bk (w.heap.size + 1) 30 #[.int .i64 k0, .int .i64 a0, .int .i64 n0, .int .i64 z0]]) := Lib.hid (hs)
              clear hs HS35
              have HS37 : Hid (St No w w36 [bk (w.heap.size + 1) 30 #[.int .i64 k0, .int .i64 a0, .int .i64 n0, .int .i64 z0], ram a wsa, ram cc wsa, lat (.slice X wsa.length cx) wsa, lat v2 wsb, ram b wsb, bk w.heap.size 46 #[.slice A0 rows0.length c0, .slice A1 rows1.length c1]]) := Lib.hid ((HS36.out).get 6)
              clear HS36
              have q0 : w36.cell? ⟨w.heap.size + 1, 0, none⟩ = some (.int .i64 k0) := cell_of_block HS37.out.bk_at 0
              have q1 : w36.cell? ⟨w.heap.size + 1, 1, none⟩ = some (.int .i64 a0) := cell_of_block HS37.out.bk_at 1
              have q2 : w36.cell? ⟨w.heap.size + 1, 2, none⟩ = some (.int .i64 n0) := cell_of_block HS37.out.bk_at 2
              have q3 : w36.cell? ⟨w.heap.size + 1, 3, none⟩ = some (.int .i64 z0) := cell_of_block HS37.out.bk_at 3
              have HD := Lib.hid (doM_snd wsa k0 a0 n0 z0)
              have HS38 : Hid (St No w w36 [ram cc wsa, bk (w.heap.size + 1) 30 #[.int .i64 k0, .int .i64 a0, .int .i64 n0, .int .i64 z0], ram a wsa, lat (.slice X wsa.length cx) wsa, lat v2 wsb, ram b wsb, bk w.heap.size 46 #[.slice A0 rows0.length c0, .slice A1 rows1.length c1]]) := Lib.hid ((HS37.out).get 2)
              clear HS37
              go_wp2_with fail
              refine (do_st HS38.out k0 a0 n0 z0).mono ?_
              rintro e w39 ⟨v4, rfl, hs⟩
              clear q0 q1 q2 q3
              have HS39 : Hid (St No w w39 [lat v4 (doM wsa k0 a0 n0 z0).2.1, ram cc (doM wsa k0 a0 n0 z0).1, bk (w.heap.size + 1) 30 #[.int .i64 k0, .int .i64 a0, .int .i64 n0, .int .i64 z0], ram a wsa, lat (.slice X wsa.length cx) wsa, lat v2 wsb, ram b wsb, bk w.heap.size 46 #[.slice A0 rows0.length c0, .slice A1 rows1.length c1]]) := Lib.hid (hs)
              clear hs HS38
              generalize (doM wsa k0 a0 n0 z0).2.1 = td at *
              generalize (doM wsa k0 a0 n0 z0).1 = wsc at *
              generalize (doM wsa k0 a0 n0 z0).2.2 = de at *
              have HS40 : Hid (St No w w39 [ram a wsa, lat v4 td, ram cc wsc, bk (w.heap.size + 1) 30 #[.int .i64 k0, .int .i64 a0, .int .i64 n0, .int .i64 z0], lat (.slice X wsa.length cx) wsa, lat v2 wsb, ram b wsb, bk w.heap.size 46 #[.slice A0 rows0.length c0, .slice A1 rows1.length c1]]) := Lib.hid ((HS39.out).get 3)
              clear HS39
              go_wp2_with fail
              refine (Words_st HS40.out).mono ?_
              rintro e w41 ⟨v5, rfl, hs⟩
              have HS41 : Hid (St No w w41 [lat v5 wsa, ram a wsa, lat v4 td, ram cc wsc, bk (w.heap.size + 1) 30 #[.int .i64 k0, .int .i64 a0, .int .i64 n0, .int .i64 z0], lat (.slice X wsa.length cx) wsa, lat v2 wsb, ram b wsb, bk w.heap.size 46 #[.slice A0 rows0.length c0, .slice A1 rows1.length c1]]) := Lib.hid (hs)
              clear hs HS40
              have HS42 : Hid (St No w w41 [lat v5 wsa, lat (.slice X wsa.length cx) wsa, ram a wsa, lat v4 td, ram cc wsc, bk (w.heap.size + 1) 30 #[.int .i64 k0, .int .i64 a0, .int .i64 n0, .int .i64 z0], lat v2 wsb, ram b wsb, bk w.heap.size 46 #[.slice A0 rows0.length c0, .slice A1 rows1.length c1]]) := Lib.hid (((HS41.out).get 5).get 1)
              clear HS41
              go_wp2_with fail
              refine (Same_st HS42.out (by have := HNa.out; have := HNb.out; omega) (by have := HNa.out; have := HNb.out; omega)).mono ?_
              rw [decide_eq_true (rfl : wsa = wsa)]
              rintro e w43 ⟨rfl, hs⟩
              have HS43 : Hid (St No w w43 [lat v5 wsa, lat (.slice X wsa.length cx) wsa, ram a wsa, lat v4 td, ram cc wsc, bk (w.heap.size + 1) 30 #[.int .i64 k0, .int .i64 a0, .int .i64 n0, .int .i64 z0], lat v2 wsb, ram b wsb, bk w.heap.size 46 #[.slice A0 rows0.length c0, .slice A1 rows1.length c1]]) := Lib.hid (hs)
              clear hs HS42
              obtain ⟨r2, hr2⟩ : ∃ r2, decide (wsa = wsc) = r2 := ⟨_, rfl⟩
              have HR2' := Lib.hid hr2
              clear hr2
              have HS44 : Hid (St No w w43 [ram a wsa, ram cc wsc, lat v5 wsa, lat (.slice X wsa.length cx) wsa, lat v4 td, bk (w.heap.size + 1) 30 #[.int .i64 k0, .int .i64 a0, .int .i64 n0, .int .i64 z0], lat v2 wsb, ram b wsb, bk w.heap.size 46 #[.slice A0 rows0.length c0, .slice A1 rows1.length c1]]) := Lib.hid (((HS43.out).get 4).get 3)
              clear HS43
              go_wp2_with fail
              refine (Same_pp HS44.out).mono ?_
              rw [HR2'.out]
              rintro e w45 ⟨rfl, hs⟩
              have HS45 : Hid (St No w w45 [ram a wsa, ram cc wsc, lat v5 wsa, lat (.slice X wsa.length cx) wsa, lat v4 td, bk (w.heap.size + 1) 30 #[.int .i64 k0, .int .i64 a0, .int .i64 n0, .int .i64 z0], lat v2 wsb, ram b wsb, bk w.heap.size 46 #[.slice A0 rows0.length c0, .slice A1 rows1.length c1]]) := Lib.hid (hs)
              clear hs HS44
              have HS46 : Hid (St No w w45 [ram cc wsc, ram a wsa, lat v5 wsa, lat (.slice X wsa.length cx) wsa, lat v4 td, bk (w.heap.size + 1) 30 #[.int .i64 k0, .int .i64 a0, .int .i64 n0, .int .i64 z0], lat v2 wsb, ram b wsb, bk w.heap.size 46 #[.slice A0 rows0.length c0, .slice A1 rows1.length c1]]) := Lib.hid ((HS45.out).get 1)
              clear HS45
              go_wp2_with fail
              refine (Words_st HS46.out).mono ?_
              rintro e w47 ⟨v6, rfl, hs⟩
              have HS47 : Hid (St No w w47 [lat v6 wsc, ram cc wsc, ram a wsa, lat v5 wsa, lat (.slice X wsa.length cx) wsa, lat v4 td, bk (w.heap.size + 1) 30 #[.int .i64 k0, .int .i64 a0, .int .i64 n0, .int .i64 z0], lat v2 wsb, ram b wsb, bk w.heap.size 46 #[.slice A0 rows0.length c0, .slice A1 rows1.length c1]]) := Lib.hid (hs)
              clear hs HS46
              have HS48 : Hid (St No w w47 [lat (.slice X wsa.length cx) wsa, lat v6 wsc, ram cc wsc, ram a wsa, lat v5 wsa, lat v4 td, bk (w.heap.size + 1) 30 #[.int .i64 k0, .int .i64 a0, .int .i64 n0, .int .i64 z0], lat v2 wsb, ram b wsb, bk w.heap.size 46 #[.slice A0 rows0.length c0, .slice A1 rows1.length c1]]) := Lib.hid ((HS47.out).get 4)
              clear HS47
              go_wp2_with fail
              refine (Same_st HS48.out (by have := HNa.out; have := HD.out; omega) (by have := HNa.out; have := HD.out; omega)).mono ?_
              rw [HR2'.out]
              rintro e w49 ⟨rfl, hs⟩
              have HS49 : Hid (St No w w49 [lat (.slice X wsa.length cx) wsa, lat v6 wsc, ram cc wsc, ram a wsa, lat v5 wsa, lat v4 td, bk (w.heap.size + 1) 30 #[.int .i64 k0, .int .i64 a0, .int .i64 n0, .int .i64 z0], lat v2 wsb, ram b wsb, bk w.heap.size 46 #[.slice A0 rows0.length c0, .slice A1 rows1.length c1]]) := Lib.hid (hs)
              clear hs HS48
              go_wp2_with fail
              refine (alive_st HS49.out).mono ?_
              rintro e w50 ⟨rfl, hs⟩
              have HS50 : Hid (St No w w50 [lat (.slice X wsa.length cx) wsa, lat v6 wsc, ram cc wsc, ram a wsa, lat v5 wsa, lat v4 td, bk (w.heap.size + 1) 30 #[.int .i64 k0, .int .i64 a0, .int .i64 n0, .int .i64 z0], lat v2 wsb, ram b wsb, bk w.heap.size 46 #[.slice A0 rows0.length c0, .slice A1 rows1.length c1]]) := Lib.hid (hs)
              clear hs HS49
              go_wp2
              go_ret
              exact ⟨rfl, HS50.out.up⟩
end Go.Proofs.Ytiofdkkjjeljmaa.Sram
