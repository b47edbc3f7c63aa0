/- SramPlays, walked. -/
import Derived.Test.YtiofdkkjjeljmaaSramSt
import Derived.Test.YtiofdkkjjeljmaaSramKeeps
namespace Go.Proofs.Ytiofdkkjjeljmaa.Sram
set_option linter.unusedVariables false
set_option linter.unusedSimpArgs false
open Go.RowKit Go.Proofs.Ytiofdkkjjeljmaa.Lat Go.Proofs.Ytiofdkkjjeljmaa.Sep Go.Proofs.Ytiofdkkjjeljmaa.Same3 Go.Proofs.Ytiofdkkjjeljmaa.Open Go.Proofs.YtiofdkkjjeljmaaW.PrintWords Go.Proofs.Ytiofdkkjjeljmaa.PSramPlays

theorem run_mkR (n : Nat) (h2 : n ≤ 65536) (w : World) : (Instr.makeSlice 40 (.int .i64 n) (.int .i64 n)).run Try.prog w = .ok (.slice (some ⟨w.heap.size, 0, none⟩) n n) (w.alloc (.cells ((List.replicate n (0 : Int)).map (Value.int .i64)).toArray 3)) := by
  obtain ⟨i, hi, hz, hs, hb⟩ : ∃ i, Try.prog.info? 3 = some i ∧ i.zero = some (.int .i64 0) ∧ i.size = 1 ∧ i.bytes = 8 := by
    have h := info_int
    cases hi : Try.prog.info? 3 with
    | none => rw [hi] at h; cases h
    | some i =>
      rw [hi] at h
      simp at h
      exact ⟨i, rfl, h.1, h.2.1, h.2.2⟩
  have h := run_makeSlice w 40 3 i (.int .i64 0) Try.underlying40 hi hz .i64 .i64 n n (by omega) (Int.le_refl _) (by rw [hs]; simp; omega) (by rw [hb]; omega) (by omega)
  rw [hs, Int.toNat_natCast, made_ints] at h
  exact h
theorem doM_len (ws : List Int) (k a n z : Int) : (doM ws k a n z).1.length = ws.length ∧ (doM ws k a n z).2.1.length ≤ ws.length + 1 := by
  have hf : ∀ a n z, (fillI ws a n z).1.length = ws.length := by
    intro a n z
    unfold fillI
    split
    · rfl
    · split
      · rfl
      · exact fillL_len _ _ _ _
  have hs := span_len ws a n
  unfold doM
  split
  · exact ⟨hf _ _ _, by simp⟩
  · split
    · exact ⟨rfl, by simp; omega⟩
    · split
      · exact ⟨hf _ _ _, by simp⟩
      · exact ⟨rfl, by simp⟩
theorem lst_of_bk {w0 w : World} {L : List Rg} {g n : Nat} (h : St No w0 w (bk g 3 ((List.replicate n (0 : Int)).map (Value.int .i64)).toArray :: L)) (hn : n ≤ 65536) : St No w0 w (lst w0.heap.size (.slice (some ⟨g, 0, none⟩) n n) (List.replicate n 0) :: L) := by
  have hg := h.bk_in.1
  refine h.imp fun P hP => Kd.R_of_own ⟨by simp [encs], .inr ⟨g, n, _, by simp, by rcases hg with e | e; exact e.elim; exact e, hP.2, by simp, by unfold maxLen; omega, by simp, by simp [encs]⟩⟩ (fun k hk => by
    have : g = k := by simpa [Value.ownBlock] using hk
    rw [← this]
    exact hP.1)
theorem Same_lst {w0 w : World} {P0 : Nat → Prop} {L : List Rg} {base : Nat} {u v : Value} {l m : List Int} (h : St P0 w0 w (lat u l :: lst base v m :: L)) (hl : l.length ≤ 1000) (hm : m.length ≤ 1000000) :
    Calls Try.prog 22 #[u, v] w fun e w' => e = .returned (.bool (decide (l = m))) ∧ St P0 w0 w' (lat u l :: lst base v m :: L) := by
  obtain ⟨P, ⟨Q, Q2, hq, _, _, h1, R, R2, _, _, _, h2, _⟩, hs⟩ := St.step (L := [lat u l, lst base v m]) h
  have h2' := lat_of_R h2
  obtain ⟨A0, c0, rfl⟩ := LAt.len h1
  obtain ⟨A1, c1, rfl⟩ := LAt.len h2'
  refine (Same_l l m _ _ _ _ _ _ _ _ w h1 h2' hl hm).mono ?_
  rintro e w' ⟨rfl, hu⟩
  exact ⟨rfl, h.more hu⟩
theorem ref_is (n : Int) (w : World) : Calls Try.prog 19 #[.int .i64 n] w fun e w' => e = .returned (.bool (decide (1 ≤ n ∧ n ≤ 65536))) ∧ Up w w' := by
  refine (switchyardref03_Is.calls n (decide (1 ≤ n ∧ n ≤ 65536)) w ?_).mono ?_
  · unfold switchyardref03_Is.f
    by_cases h : n ≥ 1
    · rw [if_pos h]
      simp [show 1 ≤ n from h]
    · rw [if_neg h, decide_eq_false (by omega)]
  · rintro e w' ⟨rfl, h⟩
    exact ⟨rfl, by obtain ⟨k, rfl⟩ := h.out; exact (Up.refl _).drewN _⟩
theorem alive_st {w0 w : World} {P0 : Nat → Prop} {L : List Rg} (h : St P0 w0 w L) : Calls Try.prog 14 #[] w fun e w' => e = .returned (.bool true) ∧ St P0 w0 w' L := by
  refine (alive_walk w).mono ?_
  rintro e w' ⟨rfl, hu⟩
  exact ⟨rfl, h.more hu⟩
set_option maxHeartbeats 8000000 in
set_option maxRecDepth 100000 in
theorem plays_walk (n : Nat) (h1 : 1 ≤ n) (h2 : n ≤ 65536) (A : Option Addr) (c : Nat) (rows : List (List Int)) (w : World) (hr : Recs 4 w A rows) (hl : rows.length ≤ 60) (h3 : n ≤ 300 ∨ rows.length = 0) :
    Calls Try.prog 4 #[.int .i64 n, .slice A rows.length c] w fun e w' => e = .returned (.bool true) ∧ Up w w' := by
  have HR := Lib.hid hr
  have H3 := Lib.hid h3
  have hg : decide ((n : Int) > 300) = false ∨ (decide ((n : Int) > 300) = true ∧ decide (0 < rows.length) = false) := by
    by_cases h : n ≤ 300
    · exact .inl (decide_eq_false (by omega))
    · exact .inr ⟨decide_eq_true (by omega), decide_eq_false (by omega)⟩
  clear hr h3
  have g3 : decide ((rows.length : Int) > 60) = false := decide_eq_false (by omega)
  have HI0 := Lib.hid (ref_is n)
  rw [decide_eq_true (show 1 ≤ (n : Int) ∧ (n : Int) ≤ 65536 by omega)] at HI0
  rcases hg with hg | ⟨hg, hg'⟩
  all_goals
    go_enter Try.func4, Try.ntmps4
    go_wp2_with fail
    refine (New_st (St.nil w) n h1 h2).mono ?_
    rintro e w1 ⟨b, rfl, hs⟩
    have HS1 := Lib.hid hs
    clear hs
    go_wp2_with fail
    refine (HI0.out _).mono ?_
    rintro e w2 ⟨rfl, hu⟩
    have HS2 := Lib.hid (HS1.out.more hu)
    clear hu HS1
    go_wp2_with fail
    refine (Size_st HS2.out).mono ?_
    rw [List.length_replicate]
    rintro e w3 ⟨rfl, hs⟩
    have HS3 := Lib.hid hs
    clear hs HS2
    have hmk := fun wx => run_mkR n h2 wx
    go_wp2_with fail
    have hs4 := lst_of_bk (HS3.out.alloc ((List.replicate n (0 : Int)).map (Value.int .i64)).toArray 3) h2
    rw [show ((List.replicate n (0 : Int)).map (Value.int .i64)).toArray = Array.replicate n (.int .i64 0) from by simp] at hs4
    have HS4 := Lib.hid hs4
    clear hs4
    go_loopw [61, 7] (fun v61 v7 wx => ∃ (i : Nat) (ws : List Int), i ≤ rows.length ∧ v61 = .int .i64 i ∧ Hid (St No w wx [lst w.heap.size v7 ws, ram b ws]) ∧ Hid (ws.length = n)) (fun v61 _ _ => rows.length - (intOf v61).toNat)
    case atStart => exact ⟨0, List.replicate n 0, Nat.zero_le _, rfl, HS4, Lib.hid (by simp)⟩
    case round =>
      clear HS3 HS4 hmk hg
      obtain ⟨i, ws, hi, rfl, HS, HN⟩ := hrel
      by_cases hlt : i < rows.length
      · obtain ⟨ad, rfl, k, a, m, u, k0, k1, k2, k3, -⟩ := row_cells HR.out i hlt
        have HU := Lib.hid ((HS.out).up)
        have c0 := pw_cell_below HU.out k0
        have c1 := pw_cell_below HU.out k1
        have c2 := pw_cell_below HU.out k2
        have c3 := pw_cell_below HU.out k3
        clear k0 k1 k2 k3 HU
        have HN300 : Hid (ws.length ≤ 300) := Lib.hid (by have := HN.out; have := H3.out; omega)
        have HD := Lib.hid (doM_len ws k a m u)
        have hs1 : St No w (wr.alloc (.cells #[.int .i64 k, .int .i64 a, .int .i64 m, .int .i64 u] 30)) [lst w.heap.size u7 ws, bk wr.heap.size 30 #[.int .i64 k, .int .i64 a, .int .i64 m, .int .i64 u], ram b ws] := (HS.out.alloc _ _).get 1
        have HS1 := Lib.hid hs1
        clear hs1
        go_wp2_with fail
        refine (rDo_st HS1.out k a m u (by have := HN300.out; omega)).mono ?_
        obtain ⟨d, hd⟩ : ∃ d, doM ws k a m u = d := ⟨_, rfl⟩
        rw [hd] at HD ⊢
        have HE := Lib.hid hd
        clear hd
        rintro e w2 ⟨x1, x2, rfl, hs⟩
        have hs2 : St No w w2 [bk wr.heap.size 30 #[.int .i64 k, .int .i64 a, .int .i64 m, .int .i64 u], lst w.heap.size x1 d.1, lat x2 d.2.1, ram b ws] := hs.get 2
        have HS2 := Lib.hid hs2
        clear hs hs2 HS HS1
        have q0 : w2.cell? ⟨wr.heap.size, 0, none⟩ = some (.int .i64 k) := cell_of_block HS2.out.bk_at 0
        have q1 : w2.cell? ⟨wr.heap.size, 1, none⟩ = some (.int .i64 a) := cell_of_block HS2.out.bk_at 1
        have q2 : w2.cell? ⟨wr.heap.size, 2, none⟩ = some (.int .i64 m) := cell_of_block HS2.out.bk_at 2
        have q3 : w2.cell? ⟨wr.heap.size, 3, none⟩ = some (.int .i64 u) := cell_of_block HS2.out.bk_at 3
        clear c0 c1 c2 c3
        have hs3 : St No w w2 [ram b ws, bk wr.heap.size 30 #[.int .i64 k, .int .i64 a, .int .i64 m, .int .i64 u], lst w.heap.size x1 d.1, lat x2 d.2.1] := HS2.out.get 3
        have HS3 := Lib.hid hs3
        clear hs3 HS2
        go_wp2_with fail
        refine (do_st HS3.out k a m u).mono ?_
        rw [HE.out]
        rintro e w4 ⟨x3, rfl, hs⟩
        have hs4 : St No w w4 [lat x2 d.2.1, lat x3 d.2.1, ram b d.1, bk wr.heap.size 30 #[.int .i64 k, .int .i64 a, .int .i64 m, .int .i64 u], lst w.heap.size x1 d.1] := hs.get 4
        have HS4 := Lib.hid hs4
        clear hs hs4 HS3 q0 q1 q2 q3
        go_wp2_with fail
        refine (Same_st HS4.out (by have := HD.out.2; have := HN300.out; omega) (by have := HD.out.2; have := HN300.out; omega)).mono ?_
        rw [decide_eq_true (rfl : d.2.1 = d.2.1)]
        rintro e w5 ⟨rfl, hs⟩
        have hs5 : St No w w5 [ram b d.1, lat x2 d.2.1, lat x3 d.2.1, bk wr.heap.size 30 #[.int .i64 k, .int .i64 a, .int .i64 m, .int .i64 u], lst w.heap.size x1 d.1] := hs.get 2
        have HS5 := Lib.hid hs5
        clear hs hs5 HS4
        go_wp2_with fail
        refine (Words_st HS5.out).mono ?_
        rintro e w6 ⟨x4, rfl, hs⟩
        have hs6 : St No w w6 [lst w.heap.size x1 d.1, lat x4 d.1, ram b d.1, lat x2 d.2.1, lat x3 d.2.1, bk wr.heap.size 30 #[.int .i64 k, .int .i64 a, .int .i64 m, .int .i64 u]] := hs.get 5
        have hs7 : St No w w6 [lat x4 d.1, lst w.heap.size x1 d.1, ram b d.1, lat x2 d.2.1, lat x3 d.2.1, bk wr.heap.size 30 #[.int .i64 k, .int .i64 a, .int .i64 m, .int .i64 u]] := hs6.get 1
        have HS7 := Lib.hid hs7
        clear hs hs6 hs7 HS5
        go_wp2_with fail
        refine (Same_lst HS7.out (by have := HD.out.1; have := HN300.out; omega) (by have := HD.out.1; have := HN300.out; omega)).mono ?_
        rw [decide_eq_true (rfl : d.1 = d.1)]
        rintro e w8 ⟨rfl, hs⟩
        have hs8 : St No w w8 [lst w.heap.size x1 d.1, ram b d.1] := (St.take (L := [lst w.heap.size x1 d.1, ram b d.1]) hs.drop)
        have HS8 := Lib.hid hs8
        have HN8 := Lib.hid (HD.out.1.trans HN.out)
        clear hs hs8 HS7 HN HD HE
        go_wp2
        go_roundw
        case rel => exact ⟨i + 1, d.1, by omega, by go_num, HS8, HN8⟩
        case measure => simp [intOf]; omega
      · obtain rfl : i = rows.length := by omega
        go_wp2_with (go_at_call 14; refine (alive_st HS.out).mono ?_; rintro e w5 ⟨rfl, hs⟩; have HF := Lib.hid hs.up; clear hs)
        go_ret
        exact ⟨rfl, HF.out⟩
end Go.Proofs.Ytiofdkkjjeljmaa.Sram
