/- SbufPlays, walked. -/
import Derived.Test.YtiofdkkjjeljmaaSbufAlive
import Derived.Test.YtiofdkkjjeljmaaOpen
namespace Go.Proofs.Ytiofdkkjjeljmaa.Sbuf
set_option linter.unusedVariables false
set_option linter.unusedSimpArgs false
open Go.RowKit Go.Proofs.Ytiofdkkjjeljmaa.CellOf Go.Proofs.Ytiofdkkjjeljmaa.CellP Go.Proofs.Ytiofdkkjjeljmaa.Sep Go.Proofs.Ytiofdkkjjeljmaa.Find Go.Proofs.Ytiofdkkjjeljmaa.Ref05 Go.Proofs.Ytiofdkkjjeljmaa.Pairs Go.Proofs.Ytiofdkkjjeljmaa.Open

theorem ref_is (n : Int) (w : World) : Calls Try.prog 46 #[.int .i64 n] w fun e w' => e = .returned (.bool (decide (1 ≤ n ∧ n ≤ 16))) ∧ Up w w' := by
  by_cases h1 : 1 ≤ n
  · by_cases h2 : n ≤ 16
    · rw [decide_eq_true (show 1 ≤ n ∧ n ≤ 16 from ⟨h1, h2⟩)]
      have g1 : n ≥ 1 := h1
      go_enter Try.func46, Try.ntmps46
      go_wp2
      go_ret
      exact ⟨rfl, Up.refl _⟩
    · rw [decide_eq_false (show ¬ (1 ≤ n ∧ n ≤ 16) from fun e => h2 e.2)]
      have g1 : n ≥ 1 := h1
      have g2 := decide_eq_false h2
      go_enter Try.func46, Try.ntmps46
      go_wp2
      go_ret
      exact ⟨rfl, Up.refl _⟩
  · rw [decide_eq_false (show ¬ (1 ≤ n ∧ n ≤ 16) from fun e => h1 e.1)]
    have g1 : decide (n ≥ 1) = false := decide_eq_false h1
    go_enter Try.func46, Try.ntmps46
    go_wp2
    go_ret
    exact ⟨rfl, Up.refl _⟩
theorem row3_cells {w : World} {A : Option Addr} {rows : List (List Int)} (hr : Recs 3 w A rows) (i : Nat) (hi : i < rows.length) : ∃ ad k a v, A = some ad ∧ w.cell? (ad.add (i * 3)) = some (.int .i64 k) ∧ w.cell? ⟨(ad.add (i * 3)).block, (ad.add (i * 3)).off + 1, none⟩ = some (.int .i64 a) ∧ w.cell? ⟨(ad.add (i * 3)).block, (ad.add (i * 3)).off + 2, none⟩ = some (.int .i64 v) := by
  obtain ⟨ad, rfl, hc⟩ := hr i hi
  have h0 := hc 0 (by omega)
  have h1 := hc 1 (by omega)
  have h2 := hc 2 (by omega)
  rw [← Go.Deep.add_add] at h1 h2
  exact ⟨ad, _, _, _, rfl, h0, h1, h2⟩
set_option maxHeartbeats 8000000 in
set_option maxRecDepth 100000 in
theorem plays_walk (n : Nat) (h1 : 1 ≤ n) (h2 : n ≤ 16) (A : Option Addr) (c : Nat) (rows : List (List Int)) (mk ma mv : Int) (w : World) (hr : Recs 3 w A rows) (hl : rows.length ≤ 100) :
    Calls Try.prog 10 #[.int .i64 n, .slice A rows.length c, .agg #[.int .i64 mk, .int .i64 ma, .int .i64 mv]] w fun e w' => e = .returned (.bool true) ∧ Up w w' := by
  have HR := Lib.hid hr
  clear hr
  have g3 : decide ((rows.length : Int) > 100) = false := decide_eq_false (by omega)
  have HI0 := Lib.hid (ref_is n)
  rw [decide_eq_true (show 1 ≤ (n : Int) ∧ (n : Int) ≤ 16 by omega)] at HI0
  have HS0 := Lib.hid ((St.nil w).alloc #[.int .i64 mk, .int .i64 ma, .int .i64 mv] 85)
  go_enter Try.func10, Try.ntmps10
  go_wp2_with fail
  refine (New_st HS0.out n h1 h2).mono ?_
  rintro e w1 ⟨b, rfl, hs⟩
  have HS1 := Lib.hid hs
  clear hs HS0
  go_wp2_with fail
  refine (HI0.out _).mono ?_
  rintro e w2 ⟨rfl, hu⟩
  have HS2 := Lib.hid (HS1.out.more hu)
  clear hu HS1
  have hs3 : St No w (w2.alloc (.cells #[.int .i64 (n : Int), .slice none 0 0] 96)) [buf b n [], rl (.slice none 0 0) [], bk w2.heap.size 96 #[.int .i64 (n : Int), .slice none 0 0], bk w.heap.size 85 #[.int .i64 mk, .int .i64 ma, .int .i64 mv]] :=
    (St.fresh (M := [rl (.slice none 0 0) []]) (HS2.out.alloc #[.int .i64 (n : Int), .slice none 0 0] 96) (Up.refl _) ⟨No, No, fun _ e => e.elim, fun _ e => e.elim, fun _ e => e.elim, slc_nil _ _ _ _, trivial⟩).get 2
  have HS3 := Lib.hid hs3
  clear hs3 HS2
  go_wp2_with fail
  go_loopw [42] (fun v42 wx => ∃ (i : Nat) (L : List W16) (V : Value), i ≤ rows.length ∧ v42 = .int .i64 i ∧ Hid (St No w wx [buf b n L, rl V L, bk w2.heap.size 96 #[.int .i64 (n : Int), V], bk w.heap.size 85 #[.int .i64 mk, .int .i64 ma, .int .i64 mv]])) (fun v42 _ => rows.length - (intOf v42).toNat)
  case atStart => exact ⟨0, [], .slice none 0 0, Nat.zero_le _, rfl, HS3⟩
  case round =>
    clear HS3
    obtain ⟨i, L, V, hi, rfl, HS⟩ := hrel
    by_cases hlt : i < rows.length
    · obtain ⟨ad, k, a, v, rfl, k0, k1, k2⟩ := row3_cells HR.out i hlt
      have hs := HS.out
      have hle := buf_le hs
      obtain ⟨A1, c1, rfl, -⟩ := rl_form (hs.get 1)
      have m0 := cell_below hs.up k0
      have m1 := cell_below hs.up k1
      have m2 := cell_below hs.up k2
      have q0 : wr.cell? ⟨w2.heap.size, 0, none⟩ = some (.int .i64 (n : Int)) := cell_of_block (hs.get 2).bk_at 0
      have q1 : wr.cell? ⟨w2.heap.size, 1, none⟩ = some (.slice A1 L.length c1) := cell_of_block (hs.get 2).bk_at 1
      have n0 := (hs.get 2).bk_in.2
      have n2 := World.new_ne wr _ q0
      have HLE := Lib.hid hle
      have hs1 : St No w (wr.alloc (.cells #[.int .i64 k, .int .i64 a, .int .i64 v] 85)) [rl (.slice A1 L.length c1) L, bk wr.heap.size 85 #[.int .i64 k, .int .i64 a, .int .i64 v], buf b n L, bk w2.heap.size 96 #[.int .i64 (n : Int), .slice A1 L.length c1], bk w.heap.size 85 #[.int .i64 mk, .int .i64 ma, .int .i64 mv]] := (hs.alloc _ _).get 2
      have HS1 := Lib.hid hs1
      clear hs1 hs hle k0 k1 k2 HS
      go_wp2_with fail
      refine (Do_st HS1.out n k a v (by have := HLE.out; omega)).mono ?_
      obtain ⟨d, hd⟩ : ∃ d, doB n L k a v = d := ⟨_, rfl⟩
      rw [hd]
      have HE := Lib.hid hd
      clear hd HLE
      rintro e w4 ⟨V4, rfl, hs⟩
      have hs2 : St No w w4 [rl V4 d.1, bk wr.heap.size 85 #[.int .i64 k, .int .i64 a, .int .i64 v], buf b n L, bk w2.heap.size 96 #[.int .i64 (n : Int), .slice A1 L.length c1], bk w.heap.size 85 #[.int .i64 mk, .int .i64 ma, .int .i64 mv]] := hs.right
      obtain ⟨A4, c4, rfl, -⟩ := rl_form hs2
      have p0 : w4.cell? ⟨wr.heap.size, 0, none⟩ = some (.int .i64 k) := cell_of_block (hs2.get 1).bk_at 0
      have p1 : w4.cell? ⟨wr.heap.size, 1, none⟩ = some (.int .i64 a) := cell_of_block (hs2.get 1).bk_at 1
      have p2 : w4.cell? ⟨wr.heap.size, 2, none⟩ = some (.int .i64 v) := cell_of_block (hs2.get 1).bk_at 2
      have n1 := (hs2.get 1).bk_in.2
      have n3 := (hs2.get 3).bk_in.2
      have r0 : w4.cell? ⟨w2.heap.size, 0, none⟩ = some (.int .i64 (n : Int)) := cell_of_block (hs2.get 3).bk_at 0
      have r1 : w4.cell? ⟨w2.heap.size, 1, none⟩ = some (.slice A1 L.length c1) := cell_of_block (hs2.get 3).bk_at 1
      have f0 : w4.frozen? ⟨w2.heap.size, 0, none⟩ = false := free_of_block (hs2.get 3).bk_at 0
      have f1 : w4.frozen? ⟨w2.heap.size, 1, none⟩ = false := free_of_block (hs2.get 3).bk_at 1
      have HS2 := Lib.hid hs2
      clear hs hs2 HS1 m0 m1 m2 q0 q1
      go_wp2_with fail
      have hb := ((((HS2.out.get 3).set 0 (.int .i64 (n : Int))).set 1 (.slice A4 d.1.length c4)).alloc #[.int .i64 (n : Int), .slice A4 d.1.length c4] 96).alloc #[.int .i64 d.2.1.1, .int .i64 d.2.1.2] 83
      rw [World.size_alloc, World.size_setCell, World.size_setCell] at hb
      generalize hwb : (((w4.setCell ⟨w2.heap.size, 0, none⟩ (Value.int .i64 (n : Int))).setCell ⟨w2.heap.size, 1, none⟩ (.slice A4 d.1.length c4)).alloc (.cells #[.int .i64 (n : Int), .slice A4 d.1.length c4] 96)).alloc (.cells #[.int .i64 d.2.1.1, .int .i64 d.2.1.2] 83) = wb at hb ⊢
      have hs3 : St No w wb [buf b n L, bk (w4.heap.size + 1) 83 #[.int .i64 d.2.1.1, .int .i64 d.2.1.2], bk w4.heap.size 96 #[.int .i64 (n : Int), .slice A4 d.1.length c4], bk w2.heap.size 96 #[.int .i64 (n : Int), .slice A4 d.1.length c4], rl (.slice A4 d.1.length c4) d.1, bk wr.heap.size 85 #[.int .i64 k, .int .i64 a, .int .i64 v], bk w.heap.size 85 #[.int .i64 mk, .int .i64 ma, .int .i64 mv]] := hb.get 5
      have HS3 := Lib.hid hs3
      clear hb hs3 HS2 hwb p0 p1 p2 r0 r1 f0 f1 n2
      refine (do_st HS3.out k a v).mono ?_
      rw [HE.out]
      rintro e w5 ⟨rfl, hs⟩
      have z0 : w5.cell? ⟨w4.heap.size + 1, 0, none⟩ = some (.int .i64 d.2.1.1) := cell_of_block (hs.get 1).bk_at 0
      have z1 : w5.cell? ⟨w4.heap.size + 1, 1, none⟩ = some (.int .i64 d.2.1.2) := cell_of_block (hs.get 1).bk_at 1
      have y0 : w5.cell? ⟨w2.heap.size, 0, none⟩ = some (.int .i64 (n : Int)) := cell_of_block (hs.get 3).bk_at 0
      have y1 : w5.cell? ⟨w2.heap.size, 1, none⟩ = some (.slice A4 d.1.length c4) := cell_of_block (hs.get 3).bk_at 1
      have n5 := (hs.get 1).bk_in.2
      have n6 := (hs.get 3).bk_in.2
      have n7 := World.new_ne w5 _ z0
      have n8 := World.new_ne w5 _ y0
      have HS5 := Lib.hid hs
      clear hs HS3 HE
      go_wp2_with fail
      have hs6 := HS5.out.allocU (.cells #[.int .i64 d.2.1.1, .int .i64 d.2.1.2] 83)
      refine (like_u hs6 (hs6.get 4)).mono ?_
      rintro e w6 ⟨rfl, hu⟩
      have hs7 : St No w w6 [buf b n d.1, rl (.slice A4 d.1.length c4) d.1, bk w2.heap.size 96 #[.int .i64 (n : Int), .slice A4 d.1.length c4], bk w.heap.size 85 #[.int .i64 mk, .int .i64 ma, .int .i64 mv]] := ((((((hs6.more hu).cut 1).cut 1).cut 3).get 2).get 1)
      have HS7 := Lib.hid hs7
      clear hs6 hs7 hu HS5 z0 z1 y0 y1 n5 n6 n7 n8
      go_wp2
      go_roundw
      case rel => exact ⟨i + 1, d.1, _, by omega, by go_num, HS7⟩
      case measure => simp [intOf]; omega
    · obtain rfl : i = rows.length := by omega
      have hle := buf_le HS.out
      have HLE := Lib.hid hle
      clear hle
      go_wp2_with fail
      refine (Clone_st HS.out).mono ?_
      rintro e w3 ⟨b', rfl, hs⟩
      obtain ⟨A1, c1, rfl, -⟩ := rl_form (hs.get 2)
      have hs2 : St No w w3 [rl (.slice A1 L.length c1) L, buf b' n L, buf b n L, bk w2.heap.size 96 #[.int .i64 (n : Int), .slice A1 L.length c1], bk w.heap.size 85 #[.int .i64 mk, .int .i64 ma, .int .i64 mv]] := hs.get 2
      have q0 : w3.cell? ⟨w2.heap.size, 0, none⟩ = some (.int .i64 (n : Int)) := cell_of_block (hs2.get 3).bk_at 0
      have q1 : w3.cell? ⟨w2.heap.size, 1, none⟩ = some (.slice A1 L.length c1) := cell_of_block (hs2.get 3).bk_at 1
      have q2 : w3.cell? ⟨w.heap.size, 0, none⟩ = some (.int .i64 mk) := cell_of_block (hs2.get 4).bk_at 0
      have q3 : w3.cell? ⟨w.heap.size, 1, none⟩ = some (.int .i64 ma) := cell_of_block (hs2.get 4).bk_at 1
      have q4 : w3.cell? ⟨w.heap.size, 2, none⟩ = some (.int .i64 mv) := cell_of_block (hs2.get 4).bk_at 2
      have HS2 := Lib.hid hs2
      clear hs hs2 HS
      go_wp2_with fail
      refine (Do_st HS2.out n mk ma mv (by have := HLE.out; omega)).mono ?_
      obtain ⟨d, hd⟩ : ∃ d, doB n L mk ma mv = d := ⟨_, rfl⟩
      rw [hd]
      have HE := Lib.hid hd
      clear hd HLE q0 q1 q2 q3 q4
      rintro e w4 ⟨V4, rfl, hs⟩
      obtain ⟨A4, c4, rfl, -⟩ := rl_form hs.right
      have q2 : w4.cell? ⟨w.heap.size, 0, none⟩ = some (.int .i64 mk) := cell_of_block (hs.get 4).bk_at 0
      have q3 : w4.cell? ⟨w.heap.size, 1, none⟩ = some (.int .i64 ma) := cell_of_block (hs.get 4).bk_at 1
      have q4 : w4.cell? ⟨w.heap.size, 2, none⟩ = some (.int .i64 mv) := cell_of_block (hs.get 4).bk_at 2
      have n2 := (hs.get 4).bk_in.2
      have n3 := World.new_ne w4 _ q2
      have HS3 := Lib.hid hs
      clear hs HS2
      go_wp2_with fail
      have hb := (HS3.out.alloc #[.int .i64 (n : Int), .slice A4 d.1.length c4] 96).alloc #[.int .i64 d.2.1.1, .int .i64 d.2.1.2] 83
      rw [World.size_alloc] at hb
      generalize hwb : (w4.alloc (.cells #[.int .i64 (n : Int), .slice A4 d.1.length c4] 96)).alloc (.cells #[.int .i64 d.2.1.1, .int .i64 d.2.1.2] 83) = wb at hb ⊢
      have hs3 : St No w wb [buf b' n L, bk (w4.heap.size + 1) 83 #[.int .i64 d.2.1.1, .int .i64 d.2.1.2], bk w4.heap.size 96 #[.int .i64 (n : Int), .slice A4 d.1.length c4], both (rl (.slice A1 L.length c1) L) (rl (.slice A4 d.1.length c4) d.1), buf b n L, bk w2.heap.size 96 #[.int .i64 (n : Int), .slice A1 L.length c1], bk w.heap.size 85 #[.int .i64 mk, .int .i64 ma, .int .i64 mv]] := hb.get 3
      have HS4 := Lib.hid hs3
      clear hb hs3 HS3 hwb q2 q3 q4 n2 n3
      refine (do_st HS4.out mk ma mv).mono ?_
      rw [HE.out]
      rintro e w5 ⟨rfl, hs⟩
      have z0 : w5.cell? ⟨w4.heap.size + 1, 0, none⟩ = some (.int .i64 d.2.1.1) := cell_of_block (hs.get 1).bk_at 0
      have z1 : w5.cell? ⟨w4.heap.size + 1, 1, none⟩ = some (.int .i64 d.2.1.2) := cell_of_block (hs.get 1).bk_at 1
      have y0 : w5.cell? ⟨w4.heap.size, 0, none⟩ = some (.int .i64 (n : Int)) := cell_of_block (hs.get 2).bk_at 0
      have y1 : w5.cell? ⟨w4.heap.size, 1, none⟩ = some (.slice A4 d.1.length c4) := cell_of_block (hs.get 2).bk_at 1
      have n5 := (hs.get 1).bk_in.2
      have n6 := (hs.get 2).bk_in.2
      have n7 := World.new_ne w5 _ z0
      have n8 := World.new_ne w5 _ y0
      have HS5 := Lib.hid hs
      clear hs HS4 HE
      go_wp2_with fail
      have hs6 := HS5.out.allocU (.cells #[.int .i64 d.2.1.1, .int .i64 d.2.1.2] 83)
      refine (like_u hs6 ((hs6.get 3).right)).mono ?_
      rintro e w6 ⟨rfl, hu⟩
      have hs7 := hs6.more hu
      have x0 : w6.cell? ⟨w2.heap.size, 0, none⟩ = some (.int .i64 (n : Int)) := cell_of_block (hs7.get 5).bk_at 0
      have x1 : w6.cell? ⟨w2.heap.size, 1, none⟩ = some (.slice A1 L.length c1) := cell_of_block (hs7.get 5).bk_at 1
      have HS7 := Lib.hid hs7
      clear hs6 hs7 hu HS5 z0 z1 y0 y1 n5 n6 n7 n8
      go_wp2_with fail
      refine (like_u (HS7.out.get 4) ((HS7.out.get 3).left)).mono ?_
      rintro e w7 ⟨rfl, hu⟩
      have HS8 := Lib.hid (HS7.out.more hu)
      clear hu HS7 x0 x1
      go_wp2_with fail
      refine (alive_st HS8.out).mono ?_
      rintro e w8 ⟨rfl, hs⟩
      have HF := Lib.hid hs.up
      clear hs HS8
      go_wp2
      go_ret
      exact ⟨rfl, HF.out⟩
end Go.Proofs.Ytiofdkkjjeljmaa.Sbuf
