/- SramKeeps, walked. -/
import Derived.Test.YtiofdkkjjeljmaaSramAlive
import Derived.Test.YtiofdkkjjeljmaaOpen
namespace Go.Proofs.Ytiofdkkjjeljmaa.Sram
set_option linter.unusedVariables false
set_option linter.unusedSimpArgs false
open Go.RowKit Go.Proofs.Ytiofdkkjjeljmaa.Lat Go.Proofs.Ytiofdkkjjeljmaa.CellOf Go.Proofs.Ytiofdkkjjeljmaa.Equal Go.Proofs.Ytiofdkkjjeljmaa.Same3 Go.Proofs.Ytiofdkkjjeljmaa.Open Go.Proofs.YtiofdkkjjeljmaaW.PrintWords

theorem fill1 (ws : List Int) (x y : Int) : (fillI ws x 1 y).2 = 0 → 0 ≤ x ∧ x < ws.length ∧ fillI ws x 1 y = (ws.set x.toNat y, 0) := by
  intro h
  unfold fillI at h ⊢
  split at h
  · next h1 => exact absurd h h1
  · next h1 =>
    split at h
    · simp at h
    · next h2 =>
      have hb := wrongI_zero (Decidable.of_not_not h1)
      refine ⟨hb.2.1, by omega, ?_⟩
      rw [if_neg h1, if_neg h2]
      rfl
theorem fill1_ne (ws : List Int) (x y : Int) : (fillI ws x 1 y).2 ≠ 0 → (fillI ws x 1 y).1 = ws := by
  intro h
  unfold fillI at h ⊢
  split
  · rfl
  · next h1 =>
    split
    · rfl
    · next h2 =>
      rw [if_neg h1, if_neg h2] at h
      exact absurd rfl h
theorem keeps_pure (ws : List Int) (x y z : Int) :
    ((fillI ws x 1 y).2 = 0 ∧ loadI (fillI ws x 1 y).1 x = (y, 0) ∧ (x = z ∨ (loadI (fillI ws x 1 y).1 z).1 = (loadI ws z).1)) ∨ ((fillI ws x 1 y).2 ≠ 0 ∧ (loadI (fillI ws x 1 y).1 z).1 = (loadI ws z).1) := by
  by_cases h : (fillI ws x 1 y).2 = 0
  · obtain ⟨h0, h1, e⟩ := fill1 ws x y h
    refine .inl ⟨h, ?_, ?_⟩
    · rw [e]
      unfold loadI
      rw [if_pos (by simpa using ⟨h0, h1⟩)]
      simp [List.getD_eq_getElem?_getD, List.getElem?_set, show x.toNat < ws.length by omega]
    · by_cases hxz : x = z
      · exact .inl hxz
      · refine .inr ?_
        rw [e]
        unfold loadI
        rw [List.length_set]
        split
        · next hz =>
          have : x.toNat ≠ z.toNat := by omega
          simp [List.getD_eq_getElem?_getD, List.getElem?_set, this]
        · rfl
  · exact .inr ⟨h, by rw [fill1_ne ws x y h]⟩
theorem row_cells {w : World} {A : Option Addr} {rows : List (List Int)} (h : Recs 4 w A rows) (i : Nat) (hi : i < rows.length) :
    ∃ ad, A = some ad ∧ ∃ k a n z : Int, w.cell? (ad.add (i * 4)) = some (.int .i64 k) ∧ w.cell? ⟨(ad.add (i * 4)).block, (ad.add (i * 4)).off + 1, none⟩ = some (.int .i64 a) ∧ w.cell? ⟨(ad.add (i * 4)).block, (ad.add (i * 4)).off + 2, none⟩ = some (.int .i64 n) ∧ w.cell? ⟨(ad.add (i * 4)).block, (ad.add (i * 4)).off + 3, none⟩ = some (.int .i64 z) ∧
      k = (rows.getD i []).getD 0 0 ∧ a = (rows.getD i []).getD 1 0 ∧ n = (rows.getD i []).getD 2 0 ∧ z = (rows.getD i []).getD 3 0 := by
  obtain ⟨ad, rfl, hc⟩ := h i hi
  have h0 := hc 0 (by omega)
  have h1 := hc 1 (by omega)
  have h2 := hc 2 (by omega)
  have h3 := hc 3 (by omega)
  rw [← Go.Deep.add_add] at h1 h2 h3
  exact ⟨ad, rfl, _, _, _, _, h0, h1, h2, h3, rfl, rfl, rfl, rfl⟩
theorem do_r (b R : Nat) (ws : List Int) (k a n z : Int) (w : World) (h : RamAt w b R ws) :
    Calls Try.prog 16 #[.pointer (some ⟨b, 0, none⟩), .agg #[.int .i64 k, .int .i64 a, .int .i64 n, .int .i64 z]] w fun e w' => ∃ v ws2, e = .returned (.tuple #[v, .int .i64 (doM ws k a n z).2.2]) ∧ RamAt w' b R ws2 ∧ Off1 R w w' := by
  refine (do_q b R ws k a n z w h).mono ?_
  rintro e w' ⟨v, rfl, hl, hr, ho⟩
  exact ⟨v, _, rfl, hr, ho⟩
theorem post (b R : Nat) (ws : List Int) (x y z : Int) : ∃ (fe was wae now noe ld le : Int) (ws3 : List Int),
    (∀ w0, RamAt w0 b R ws → Calls Try.prog 17 #[.pointer (some ⟨b, 0, none⟩), .int .i64 z] w0 fun e w' => e = .returned (.tuple #[.int .i64 was, .int .i64 wae]) ∧ Up w0 w') ∧
    (∀ w0, RamAt w0 b R ws → Calls Try.prog 18 #[.pointer (some ⟨b, 0, none⟩), .int .i64 x, .int .i64 y] w0 fun e w' => e = .returned (.int .i64 fe) ∧ RamAt w' b R ws3 ∧ Off1 R w0 w') ∧
    (∀ w0, RamAt w0 b R ws3 → Calls Try.prog 17 #[.pointer (some ⟨b, 0, none⟩), .int .i64 x] w0 fun e w' => e = .returned (.tuple #[.int .i64 ld, .int .i64 le]) ∧ Up w0 w') ∧
    (∀ w0, RamAt w0 b R ws3 → Calls Try.prog 17 #[.pointer (some ⟨b, 0, none⟩), .int .i64 z] w0 fun e w' => e = .returned (.tuple #[.int .i64 now, .int .i64 noe]) ∧ Up w0 w') ∧
    (((fe == 0) = true ∧ (le != 0) = false ∧ (ld != y) = false ∧ (now == was) = true) ∨ ((fe == 0) = true ∧ (le != 0) = false ∧ (ld != y) = false ∧ (now == was) = false ∧ (x == z) = true) ∨ ((fe == 0) = false ∧ (now == was) = true)) := by
  refine ⟨(fillI ws x 1 y).2, (loadI ws z).1, (loadI ws z).2, (loadI (fillI ws x 1 y).1 z).1, (loadI (fillI ws x 1 y).1 z).2, (loadI (fillI ws x 1 y).1 x).1, (loadI (fillI ws x 1 y).1 x).2, (fillI ws x 1 y).1,
    fun w0 hh => load_walk b R ws z w0 hh, fun w0 hh => Store_walk b R ws x y w0 hh, fun w0 hh => load_walk b R _ x w0 hh, fun w0 hh => load_walk b R _ z w0 hh, ?_⟩
  rcases keeps_pure ws x y z with ⟨q0, q1, q2⟩ | ⟨q0, q1⟩
  · rw [q0, q1]
    by_cases e : (loadI (fillI ws x 1 y).1 z).1 = (loadI ws z).1
    · exact .inl ⟨rfl, rfl, bne_self_eq_false _, beq_iff_eq.2 e⟩
    · exact .inr (.inl ⟨rfl, rfl, bne_self_eq_false _, beq_eq_false_iff_ne.2 e, beq_iff_eq.2 (q2.resolve_right e)⟩)
  · exact .inr (.inr ⟨beq_eq_false_iff_ne.2 q0, beq_iff_eq.2 q1⟩)
set_option maxHeartbeats 8000000 in
set_option maxRecDepth 100000 in
theorem keeps_walk (n : Nat) (h1 : 1 ≤ n) (h2 : n ≤ 200) (A : Option Addr) (c : Nat) (rows : List (List Int)) (x y z : Int) (w : World) (hr : Recs 4 w A rows) (hl : rows.length ≤ 40) :
    Calls Try.prog 3 #[.int .i64 n, .slice A rows.length c, .agg #[.int .i64 x, .int .i64 y, .int .i64 z]] w fun e w' => e = .returned (.bool true) ∧ Up w w' := by
  have HR := Lib.hid hr
  clear hr
  have HW := Lib.hid (block_new w (.cells #[.int .i64 x, .int .i64 y, .int .i64 z] 23))
  have HWU := Lib.hid ((Up.refl w).alloc (.cells #[.int .i64 x, .int .i64 y, .int .i64 z] 23))
  have g1 : decide ((n : Int) < 1) = false := decide_eq_false (by omega)
  have g2 : decide ((n : Int) > 200) = false := decide_eq_false (by omega)
  have g3 : decide ((rows.length : Int) > 40) = false := decide_eq_false (by omega)
  go_enter Try.func3, Try.ntmps3
  go_wp2_with fail
  refine (new_ok n (by omega) (by omega) _).mono ?_
  rintro e w1 ⟨b, R, rfl, hr, hu, hb, hR⟩
  have HU1 := Lib.hid (Up.trans HWU.out hu)
  have HB1 := Lib.hid (block_up hu HW.out)
  have HR1 := Lib.hid hr
  have HRn : Hid (w.heap.size < R) := Lib.hid (by have := hR; simp at this; omega)
  clear hr hu hb hR g1 g2 g3
  go_wp2_with fail
  go_loopw [43] (fun v43 wx => ∃ (i : Nat) (ws : List Int), i ≤ rows.length ∧ v43 = .int .i64 i ∧ Hid (RamAt wx b R ws) ∧ Hid (wx.heap[w.heap.size]? = some (.cells #[.int .i64 x, .int .i64 y, .int .i64 z] 23)) ∧ Hid (Up w wx) ∧ w.heap.size < wx.heap.size) (fun v43 _ => rows.length - (intOf v43).toNat)
  case atStart => exact ⟨0, _, Nat.zero_le _, rfl, HR1, HB1, HU1, by have := HWU.out.size; have := HR1.out.lt.2; have := HRn.out; omega⟩
  case round =>
    obtain ⟨i, ws, hi, rfl, HA, HB, HU, hsz⟩ := hrel
    by_cases hlt : i < rows.length
    · obtain ⟨ad, rfl, k, a, m, u, k0, k1, k2, k3, -⟩ := row_cells HR.out i hlt
      have c0 := pw_cell_below HU.out k0
      have c1 := pw_cell_below HU.out k1
      have c2 := pw_cell_below HU.out k2
      have c3 := pw_cell_below HU.out k3
      clear k0 k1 k2 k3
      have HA1 := Lib.hid (HA.out.up ((Up.refl wr).alloc (.cells #[.int .i64 k, .int .i64 a, .int .i64 m, .int .i64 u] 30)))
      have HU1' := Lib.hid (Up.alloc HU.out (.cells #[.int .i64 k, .int .i64 a, .int .i64 m, .int .i64 u] 30))
      have HB1' := Lib.hid (block_up ((Up.refl wr).alloc (.cells #[.int .i64 k, .int .i64 a, .int .i64 m, .int .i64 u] 30)) HB.out)
      have HD := Lib.hid (do_r b R ws k a m u _ HA1.out)
      go_wp2_with fail
      refine HD.out.mono ?_
      rintro e w2 ⟨v, ws2, rfl, hr, ho⟩
      have HA2 := Lib.hid hr
      have hRn := HRn.out
      have HB2 := Lib.hid ((ho.block w.heap.size (by simp; omega) (by omega)).trans HB1'.out)
      have HU2 := Lib.hid (Up.of_off1 HU1'.out ho (by omega))
      have hs2 : w.heap.size < w2.heap.size := by have := ho.size; simp at this; omega
      clear hr ho HD hRn c0 c1 c2 c3
      go_wp2
      go_roundw
      case rel => exact ⟨i + 1, ws2, by omega, by go_num, HA2, HB2, HU2, hs2⟩
      case measure => simp [intOf]; omega
    · obtain rfl : i = rows.length := by omega
      obtain ⟨fe, was, wae, now, noe, ld, le, ws3, h1, h2, h3, h4, key⟩ := post b R ws x y z
      have H1 := Lib.hid h1
      have H2 := Lib.hid h2
      have H3 := Lib.hid h3
      have H4 := Lib.hid h4
      have d0 : wr.cell? ⟨w.heap.size, 0, none⟩ = some (.int .i64 x) := cell_of_block HB.out 0
      have d1 : wr.cell? ⟨w.heap.size, 1, none⟩ = some (.int .i64 y) := cell_of_block HB.out 1
      have d2 : wr.cell? ⟨w.heap.size, 2, none⟩ = some (.int .i64 z) := cell_of_block HB.out 2
      have hRn := Lib.hid (Nat.le_of_lt HRn.out)
      have hne := Lib.hid (Nat.ne_of_lt HRn.out)
      have hszH := Lib.hid hsz
      clear hsz hlt hi h1 h2 h3 h4
      rcases key with ⟨q0, q1, q2, q3⟩ | ⟨q0, q1, q2, q3, q4⟩ | ⟨q0, q1⟩
      all_goals go_wp2_with (first
        | (go_at_call 17; (with_reducible refine (H1.out _ HA.out).mono ?_); rintro e w2 ⟨rfl, hu⟩; have HA2 := Lib.hid (HA.out.up hu); have HB2 := Lib.hid (block_up hu HB.out); have HU2 := Lib.hid (Up.trans HU.out hu); have hs2 := Lib.hid (Nat.lt_of_lt_of_le hszH.out hu.size); have f0 : w2.cell? ⟨w.heap.size, 0, none⟩ = some (.int .i64 x) := cell_of_block HB2.out 0; have f1 : w2.cell? ⟨w.heap.size, 1, none⟩ = some (.int .i64 y) := cell_of_block HB2.out 1; clear hu)
        | (go_at_call 18; (with_reducible refine (H2.out _ HA2.out).mono ?_); rintro e w3 ⟨rfl, hr, ho⟩; have HA3 := Lib.hid hr; have HB3 := Lib.hid ((ho.block w.heap.size hs2.out hne.out).trans HB2.out); have HU3 := Lib.hid (Up.of_off1 HU2.out ho hRn.out); have i0 : w3.cell? ⟨w.heap.size, 0, none⟩ = some (.int .i64 x) := cell_of_block HB3.out 0; clear hr ho)
        | (go_at_call 17; (with_reducible refine (H3.out _ HA3.out).mono ?_); rintro e w4 ⟨rfl, hu⟩; have HA4 := Lib.hid (HA3.out.up hu); have HB4 := Lib.hid (block_up hu HB3.out); have HU4 := Lib.hid (Up.trans HU3.out hu); have j2 : w4.cell? ⟨w.heap.size, 2, none⟩ = some (.int .i64 z) := cell_of_block HB4.out 2; clear hu)
        | (go_at_call 17; (with_reducible refine (H4.out _ HA4.out).mono ?_); rintro e w5 ⟨rfl, hu⟩; have HB5 := Lib.hid (block_up hu HB4.out); have HU5 := Lib.hid (Up.trans HU4.out hu); have l0 : w5.cell? ⟨w.heap.size, 0, none⟩ = some (.int .i64 x) := cell_of_block HB5.out 0; have l1 : w5.cell? ⟨w.heap.size, 1, none⟩ = some (.int .i64 y) := cell_of_block HB5.out 1; have l2 : w5.cell? ⟨w.heap.size, 2, none⟩ = some (.int .i64 z) := cell_of_block HB5.out 2; clear hu)
        | (go_at_call 14; refine (alive_walk _).mono ?_; rintro e w6 ⟨rfl, hu⟩; have HU6 := Lib.hid (Up.trans HU5.out hu); clear hu))
      all_goals go_ret
      all_goals exact ⟨rfl, HU6.out⟩
end Go.Proofs.Ytiofdkkjjeljmaa.Sram
