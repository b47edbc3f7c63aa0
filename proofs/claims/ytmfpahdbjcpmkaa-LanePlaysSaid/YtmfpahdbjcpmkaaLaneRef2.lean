/- The reference's lane: Take, At. -/
import Derived.Test.YtmfpahdbjcpmkaaLaneRef
namespace Go.Proofs.Ytmfpahdbjcpmkaa.Lane
set_option linter.unusedVariables false
set_option linter.unusedSimpArgs false
open Go.RowKit Go.Proofs.YtmfpahdbjcpmkaaW.PrintWords

set_option maxHeartbeats 4000000 in
theorem rTake_nil (n : Nat) (v : Value) (w : World) (P : Nat → Prop) (h : LAt w P v []) :
    Calls Try.prog 32 #[.agg #[.int .i64 n, v]] w fun e w' => e = .returned (.tuple #[.agg #[.int .i64 n, v], .int .i64 0, .int .i64 6]) ∧ Up w w' := by
  obtain ⟨A, c, rfl⟩ := h.len
  clear h
  go_enter Try.func32, Try.ntmps32
  go_wp2
  exact bodyPost_ret (v := .tuple #[.agg #[.int .i64 n, .slice A ([] : List Int).length c], .int .i64 0, .int .i64 6]) (by simp [results, Try.results32, go_sem]) rfl ⟨rfl, by repeat (first | exact Up.refl _ | apply Up.setCell | apply Up.alloc | (simp; done))⟩
set_option maxHeartbeats 4000000 in
theorem rTake_cons (n : Nat) (v : Value) (y : Int) (t : List Int) (w : World) (P : Nat → Prop) (h : LAt w P v (y :: t)) (ht : t.length ≤ 1000) :
    Calls Try.prog 32 #[.agg #[.int .i64 n, v]] w fun e w' => ∃ v', e = .returned (.tuple #[.agg #[.int .i64 n, v'], .int .i64 y, .int .i64 0]) ∧ LAt w' P v' t ∧ Up w w' := by
  rcases h with ⟨_, h⟩ | ⟨ad, c, rfl, h2, h3⟩
  · cases h
  · have h0 := h3 0 (by simp)
    have hc : w.cell? ad = some (.int .i64 y) := by
      have := h0.2
      simpa [Addr.add] using this
    have hlt := World.block_lt_of_cell? w _ hc
    have hl1 : (y :: t).length = t.length + 1 := rfl
    rw [hl1] at h2 ⊢
    have HL0 : ∀ j, j < t.length → P ad.block ∧ w.cell? ((ad.add 1).add j) = some (.int .i64 (t.getD j 0)) := by
      intro j hj
      obtain ⟨p1, p2⟩ := h3 (j + 1) (by simp; omega)
      refine ⟨p1, ?_⟩
      have e : (ad.add 1).add j = ad.add (j + 1) := by
        unfold Addr.add
        by_cases hj0 : j = 0 <;> simp [hj0, Nat.add_comm, Nat.add_left_comm]
      rw [e, p2]
      simp
    have HL := Lib.hid HL0
    clear HL0
    have HLT : Hid (ad.block < w.heap.size) := Lib.hid hlt
    have hne : (((t.length + 1 : Nat) : Int) == 0) = false := beq_eq_false_iff_ne.2 (by omega)
    have hb1 : (ad.add 1).block = ad.block := by unfold Addr.add; split <;> rfl
    clear h3 h0 hl1
    by_cases h1 : c = 1
    · subst h1
      have ht0 : t.length = 0 := by omega
      have htn : t = [] := List.eq_nil_of_length_eq_zero ht0
      subst htn
      clear ht0
      go_enter Try.func32, Try.ntmps32
      go_wp2
      exact bodyPost_ret (v := .tuple #[.agg #[.int .i64 n, .slice (some ad) 0 0], .int .i64 y, .int .i64 0]) (by simp [results, Try.results32, go_sem]) rfl ⟨_, rfl, .inr ⟨ad, 0, rfl, Nat.le_refl _, fun j hj => absurd hj (by simp)⟩, by repeat (first | exact Up.refl _ | apply Up.setCell | apply Up.alloc | (simp; done))⟩
    · have hcc : ¬ ((c : Int) = 1) := by omega
      have hc2 : t.length + 1 ≤ c := h2
      go_enter Try.func32, Try.ntmps32
      go_wp2
      have hup : Up w ((w.alloc (.cells #[.int .i64 n, .slice (some (ad.add 1)) t.length (c - 1)] 47)).alloc (.cells #[.int .i64 n, .slice (some (ad.add 1)) t.length (c - 1)] 47)) := ((Up.refl w).alloc _).alloc _
      exact bodyPost_ret (v := .tuple #[.agg #[.int .i64 n, .slice (some (ad.add 1)) t.length (c - 1)], .int .i64 y, .int .i64 0]) (by simp [results, Try.results32, go_sem, Addr.add]) rfl ⟨_, rfl, .inr ⟨ad.add 1, c - 1, rfl, by omega, fun j hj => ⟨(HL.out j hj).1, pw_cell_below hup (HL.out j hj).2⟩⟩, hup⟩
set_option maxHeartbeats 4000000 in
theorem rAt_no (n : Nat) (v : Value) (q : List Int) (x : Int) (w : World) (P : Nat → Prop) (h : LAt w P v q) (hx : x < 0 ∨ (q.length : Int) ≤ x) :
    Calls Try.prog 33 #[.agg #[.int .i64 n, v], .int .i64 x] w fun e w' => e = .returned (.tuple #[.int .i64 0, .bool false]) ∧ Up w w' := by
  obtain ⟨A, c, rfl⟩ := h.len
  clear h
  by_cases h0 : x < 0
  · go_enter Try.func33, Try.ntmps33
    go_wp2
    go_ret2
    exact ⟨rfl, (Up.refl _).alloc _⟩
  · have h0' : decide (x < 0) = false := decide_eq_false h0
    have h1 : x ≥ (q.length : Int) := by omega
    go_enter Try.func33, Try.ntmps33
    go_wp2
    go_ret2
    exact ⟨rfl, (Up.refl _).alloc _⟩
set_option maxHeartbeats 4000000 in
theorem rAt_ok (n : Nat) (v : Value) (q : List Int) (i : Nat) (w : World) (P : Nat → Prop) (h : LAt w P v q) (hi : i < q.length) (hq : q.length ≤ 1000) :
    Calls Try.prog 33 #[.agg #[.int .i64 n, v], .int .i64 i] w fun e w' => e = .returned (.tuple #[.int .i64 (q.getD i 0), .bool true]) ∧ Up w w' := by
  rcases h with ⟨_, rfl⟩ | ⟨ad, c, rfl, h2, h3⟩
  · simp at hi
  · have hc := (h3 i hi).2
    have hlt := World.block_lt_of_cell? w _ hc
    have hc1 := pw_cell_below ((Up.refl w).alloc (.cells #[.int .i64 n, .slice (some ad) q.length c] 47)) hc
    have h0' : decide ((i : Int) < 0) = false := decide_eq_false (by omega)
    have h1' : decide ((i : Int) ≥ (q.length : Int)) = false := decide_eq_false (by omega)
    have i0 : (0 : Int) ≤ (i : Int) := by omega
    have i1 : (i : Int) < (q.length : Int) := by omega
    generalize q.getD i 0 = z at *
    clear h3
    go_enter Try.func33, Try.ntmps33
    go_wp2
    go_ret2
    exact ⟨rfl, (Up.refl _).alloc _⟩
/-- Off one block nothing old has turned. -/
structure Chg (b : Nat) (w w' : World) : Prop where
  size : w.heap.size ≤ w'.heap.size
  block : ∀ k, k < w.heap.size → k ≠ b → w'.heap[k]? = w.heap[k]?
theorem Chg.refl (b : Nat) (w : World) : Chg b w w := ⟨Nat.le_refl _, fun _ _ _ => rfl⟩
theorem Chg.set {b : Nat} {w w' : World} (h : Chg b w w') (i : Nat) (v : Value) : Chg b w (w'.setCell ⟨b, i, none⟩ v) :=
  ⟨by simpa [World.setCell] using h.size, fun k hk hb => (heap_setCell_other v hb).trans (h.block k hk hb)⟩
theorem Chg.alloc {b : Nat} {w w' : World} (h : Chg b w w') (o : Obj) : Chg b w (w'.alloc o) :=
  ⟨Nat.le_trans h.size (by simp), fun k hk hb => (Below.heap_alloc w' o k (Nat.lt_of_lt_of_le hk h.size)).trans (h.block k hk hb)⟩
theorem LAt.bound {w : World} {P : Nat → Prop} {v : Value} {q : List Int} (h : LAt w P v q) : LAt w (fun k => P k ∧ k < w.heap.size) v q := by
  rcases h with h | ⟨ad, c, h1, h2, h3⟩
  · exact .inl h
  · refine .inr ⟨ad, c, h1, h2, fun j hj => ⟨⟨(h3 j hj).1, ?_⟩, (h3 j hj).2⟩⟩
    have hlt := World.block_lt_of_cell? w _ (h3 j hj).2
    have hb : (ad.add j).block = ad.block := by unfold Addr.add; split <;> rfl
    rw [hb] at hlt
    exact hlt
theorem LAt.fin {w4 W : World} {P : Nat → Prop} {n0 : Nat} {v : Value} {q : List Int} (h : LAt w4 (fun k => P k ∧ k < n0) v q) (hc : Chg (n0 + 2) w4 W) : LAt W (fun k => P k ∨ n0 ≤ k) v q :=
  (h.move fun k hk hlt => hc.block k hlt (by omega)).mono fun k hk => .inl hk.1
theorem LAt.fin2 {w4 W : World} {P : Nat → Prop} {n0 : Nat} {v : Value} {q : List Int} (h : LAt w4 (fun k => n0 + 3 ≤ k) v q) (hc : Chg (n0 + 2) w4 W) : LAt W (fun k => P k ∨ n0 ≤ k) v q :=
  (h.move fun k hk hlt => hc.block k hlt (by omega)).mono fun k hk => .inr (by omega)
theorem bl3 (w : World) (o o1 o2 : Obj) : (((w.alloc o).alloc o1).alloc o2).heap[w.heap.size + 2]? = some o2 := by
  have h := bl2 (w.alloc o) o1 o2
  have hs : (w.alloc o).heap.size = w.heap.size + 1 := by simp
  rw [hs] at h
  exact h
set_option maxHeartbeats 4000000 in
set_option maxRecDepth 100000 in
theorem rDo_c (n : Nat) (v : Value) (q : List Int) (a x : Int) (w : World) (P : Nat → Prop) (h : LAt w P v q) (hq : q.length ≤ n) (hn : n ≤ 100) :
    Calls Try.prog 19 #[.agg #[.int .i64 n, v], .agg #[.int .i64 a, .int .i64 x]] w fun e w' => ∃ v', e = .returned (.tuple #[.agg #[.int .i64 n, v'], .int .i64 (doL n q a x).2.1, .int .i64 (doL n q a x).2.2]) ∧ LAt w' (fun k => P k ∨ w.heap.size ≤ k) v' (doL n q a x).1 ∧ Up w w' := by
  obtain ⟨A, c, hv⟩ := h.len
  subst hv
  have hu3 : Up w (((w.alloc (.cells #[.int .i64 n, .slice A q.length c] 47)).alloc (.cells #[.int .i64 a, .int .i64 x] 38)).alloc (.cells #[.int .i64 0, .slice none 0 0] 47)) := (((Up.refl w).alloc _).alloc _).alloc _
  have HL := Lib.hid (h.bound.up hu3)
  have HU3 := Lib.hid hu3
  have HR3 := Lib.hid (bl3 w (.cells #[.int .i64 n, .slice A q.length c] 47) (.cells #[.int .i64 a, .int .i64 x] 38) (.cells #[.int .i64 0, .slice none 0 0] 47))
  have HB3 := Lib.hid (block_up ((Up.refl _).alloc (.cells #[.int .i64 0, .slice none 0 0] 47)) (bl1 w (.cells #[.int .i64 n, .slice A q.length c] 47) (.cells #[.int .i64 a, .int .i64 x] 38)))
  clear h hu3
  by_cases h0 : a = 0
  · subst h0
    by_cases hf : n ≤ q.length
    · have E : Hid (doL n q 0 x = (q, 0, 5)) := Lib.hid (by simp only [doL, if_true]; rw [if_pos (by omega)])
      have HP := Lib.hid (rPut_full n _ q x _ _ HL.out hf)
      go_enter Try.func19, Try.ntmps19
      go_wp2_with fail
      refine HP.out.mono ?_
      rintro e w4 ⟨rfl, hu⟩
      have HL4 := Lib.hid (HL.out.up hu)
      have HU4 := Lib.hid (Up.trans HU3.out hu)
      have HR4 := Lib.hid (block_up hu HR3.out)
      have r0 : w4.cell? ⟨w.heap.size + 2, 0, none⟩ = some (.int .i64 0) := cell_of_block HR4.out 0
      have r1 : w4.cell? ⟨w.heap.size + 2, 1, none⟩ = some (.slice none 0 0) := cell_of_block HR4.out 1
      have g0 : w4.frozen? ⟨w.heap.size + 2, 0, none⟩ = false := free_of_block HR4.out 0
      have g1 : w4.frozen? ⟨w.heap.size + 2, 1, none⟩ = false := free_of_block HR4.out 1
      have hlt4 : w.heap.size + 1 + 1 < w4.heap.size := World.block_lt_of_cell? w4 ⟨w.heap.size + 2, 0, none⟩ r0
      clear hu
      go_wp2
      refine bodyPost_ret (v := .tuple #[.agg #[.int .i64 n, .slice A q.length c], .int .i64 0, .int .i64 5]) (by simp [results, Try.results19, go_sem, r0, r1, hlt4]) rfl ⟨_, by rw [E.out], ?_, ?_⟩
      · rw [E.out]
        exact LAt.fin HL4.out (by repeat (first | exact Chg.refl _ _ | apply Chg.set | apply Chg.alloc))
      · repeat (first | exact HU4.out | apply Up.setCell | apply Up.alloc | exact (show w.heap.size ≤ w.heap.size + 1 + 1 by omega) | (simp; done) | omega)
    · have E : Hid (doL n q 0 x = (q ++ [x], 0, 0)) := Lib.hid (by simp only [doL, if_true]; rw [if_neg (by omega)])
      have HP := Lib.hid (rPut_ok n _ q x _ _ HL.out (by omega) hn)
      go_enter Try.func19, Try.ntmps19
      go_wp2_with fail
      refine HP.out.mono ?_
      rintro e w4 ⟨v', rfl, hl, hu⟩
      obtain ⟨A4, c4, rfl⟩ := hl.len
      have HL4 : Hid (LAt w4 (fun k => w.heap.size + 3 ≤ k) (.slice A4 (q ++ [x]).length c4) (q ++ [x])) := Lib.hid (hl.mono (fun k hk => by simpa using hk))
      have HU4 := Lib.hid (Up.trans HU3.out hu)
      have HR4 := Lib.hid (block_up hu HR3.out)
      have r0 : w4.cell? ⟨w.heap.size + 2, 0, none⟩ = some (.int .i64 0) := cell_of_block HR4.out 0
      have r1 : w4.cell? ⟨w.heap.size + 2, 1, none⟩ = some (.slice none 0 0) := cell_of_block HR4.out 1
      have g0 : w4.frozen? ⟨w.heap.size + 2, 0, none⟩ = false := free_of_block HR4.out 0
      have g1 : w4.frozen? ⟨w.heap.size + 2, 1, none⟩ = false := free_of_block HR4.out 1
      have hlt4 : w.heap.size + 1 + 1 < w4.heap.size := World.block_lt_of_cell? w4 ⟨w.heap.size + 2, 0, none⟩ r0
      clear hu hl
      go_wp2
      refine bodyPost_ret (v := .tuple #[.agg #[.int .i64 n, .slice A4 (q ++ [x]).length c4], .int .i64 0, .int .i64 0]) (by simp [results, Try.results19, go_sem, r0, r1, hlt4]) rfl ⟨_, by rw [E.out], ?_, ?_⟩
      · rw [E.out]
        exact LAt.fin2 HL4.out (by repeat (first | exact Chg.refl _ _ | apply Chg.set | apply Chg.alloc))
      · repeat (first | exact HU4.out | apply Up.setCell | apply Up.alloc | exact (show w.heap.size ≤ w.heap.size + 1 + 1 by omega) | (simp; done) | omega)
  · have e0 : (a == 0) = false := beq_eq_false_iff_ne.2 h0
    by_cases h1 : a = 1
    · subst h1
      cases q with
      | nil =>
        have E : Hid (doL n [] 1 x = ([], 0, 6)) := Lib.hid rfl
        have HP := Lib.hid (rTake_nil n _ _ _ HL.out)
        go_enter Try.func19, Try.ntmps19
        go_wp2_with fail
        refine HP.out.mono ?_
        rintro e w4 ⟨rfl, hu⟩
        have HL4 := Lib.hid (HL.out.up hu)
        have HU4 := Lib.hid (Up.trans HU3.out hu)
        have HR4 := Lib.hid (block_up hu HR3.out)
        have r0 : w4.cell? ⟨w.heap.size + 2, 0, none⟩ = some (.int .i64 0) := cell_of_block HR4.out 0
        have r1 : w4.cell? ⟨w.heap.size + 2, 1, none⟩ = some (.slice none 0 0) := cell_of_block HR4.out 1
        have g0 : w4.frozen? ⟨w.heap.size + 2, 0, none⟩ = false := free_of_block HR4.out 0
        have g1 : w4.frozen? ⟨w.heap.size + 2, 1, none⟩ = false := free_of_block HR4.out 1
        have hlt4 : w.heap.size + 1 + 1 < w4.heap.size := World.block_lt_of_cell? w4 ⟨w.heap.size + 2, 0, none⟩ r0
        clear hu
        go_wp2
        refine bodyPost_ret (v := .tuple #[.agg #[.int .i64 n, .slice A ([] : List Int).length c], .int .i64 0, .int .i64 6]) (by simp [results, Try.results19, go_sem, r0, r1, hlt4]) rfl ⟨_, by rw [E.out], ?_, ?_⟩
        · rw [E.out]
          exact LAt.fin HL4.out (by repeat (first | exact Chg.refl _ _ | apply Chg.set | apply Chg.alloc))
        · repeat (first | exact HU4.out | apply Up.setCell | apply Up.alloc | exact (show w.heap.size ≤ w.heap.size + 1 + 1 by omega) | (simp; done) | omega)
      | cons y t =>
        have E : Hid (doL n (y :: t) 1 x = (t, y, 0)) := Lib.hid rfl
        have HP := Lib.hid (rTake_cons n _ y t _ _ HL.out (by simp at hq; omega))
        go_enter Try.func19, Try.ntmps19
        go_wp2_with fail
        refine HP.out.mono ?_
        rintro e w4 ⟨v', rfl, hl, hu⟩
        obtain ⟨A4, c4, rfl⟩ := hl.len
        have HL4 := Lib.hid hl
        have HU4 := Lib.hid (Up.trans HU3.out hu)
        have HR4 := Lib.hid (block_up hu HR3.out)
        have r0 : w4.cell? ⟨w.heap.size + 2, 0, none⟩ = some (.int .i64 0) := cell_of_block HR4.out 0
        have r1 : w4.cell? ⟨w.heap.size + 2, 1, none⟩ = some (.slice none 0 0) := cell_of_block HR4.out 1
        have g0 : w4.frozen? ⟨w.heap.size + 2, 0, none⟩ = false := free_of_block HR4.out 0
        have g1 : w4.frozen? ⟨w.heap.size + 2, 1, none⟩ = false := free_of_block HR4.out 1
        have hlt4 : w.heap.size + 1 + 1 < w4.heap.size := World.block_lt_of_cell? w4 ⟨w.heap.size + 2, 0, none⟩ r0
        clear hu hl
        go_wp2
        refine bodyPost_ret (v := .tuple #[.agg #[.int .i64 n, .slice A4 t.length c4], .int .i64 y, .int .i64 0]) (by simp [results, Try.results19, go_sem, r0, r1, hlt4]) rfl ⟨_, by rw [E.out], ?_, ?_⟩
        · rw [E.out]
          exact LAt.fin HL4.out (by repeat (first | exact Chg.refl _ _ | apply Chg.set | apply Chg.alloc))
        · repeat (first | exact HU4.out | apply Up.setCell | apply Up.alloc | exact (show w.heap.size ≤ w.heap.size + 1 + 1 by omega) | (simp; done) | omega)
    · have e1 : (a == 1) = false := beq_eq_false_iff_ne.2 h1
      by_cases h2 : a = 2
      · subst h2
        have E : Hid (doL n q 2 x = ([], (q.length : Int), 0)) := Lib.hid (by simp [doL])
        go_enter Try.func19, Try.ntmps19
        go_wp2
        refine bodyPost_ret (v := .tuple #[.agg #[.int .i64 n, .slice none 0 0], .int .i64 q.length, .int .i64 0]) (by simp [results, Try.results19, go_sem]) rfl ⟨_, by rw [E.out], by rw [E.out]; exact .inl ⟨rfl, rfl⟩, ?_⟩
        repeat (first | exact Up.refl _ | apply Up.setCell | apply Up.alloc | exact (show w.heap.size ≤ w.heap.size + 1 + 1 by omega) | (simp; done) | omega)
      · have e2 : (a == 2) = false := beq_eq_false_iff_ne.2 h2
        by_cases hx : 0 ≤ x ∧ x < q.length
        · obtain ⟨i, rfl⟩ := Int.eq_ofNat_of_zero_le hx.1
          have E : Hid (doL n q a i = (q, q.getD i 0, 1)) := Lib.hid (by simp only [doL, if_neg h0, if_neg h1, if_neg h2, if_pos hx]; rfl)
          have HP := Lib.hid (rAt_ok n _ q i _ _ HL.out (by omega) (by omega))
          clear hx
          generalize q.getD i 0 = z at *
          go_enter Try.func19, Try.ntmps19
          go_wp2_with fail
          refine HP.out.mono ?_
          rintro e w4 ⟨rfl, hu⟩
          have HL4 := Lib.hid (HL.out.up hu)
          have HB4 := Lib.hid (block_up hu HB3.out)
          have b0 : w4.cell? ⟨w.heap.size, 0, none⟩ = some (.int .i64 n) := cell_of_block HB4.out 0
          have b1 : w4.cell? ⟨w.heap.size, 1, none⟩ = some (.slice A q.length c) := cell_of_block HB4.out 1
          have HU4 := Lib.hid (Up.trans HU3.out hu)
          have HR4 := Lib.hid (block_up hu HR3.out)
          have r0 : w4.cell? ⟨w.heap.size + 2, 0, none⟩ = some (.int .i64 0) := cell_of_block HR4.out 0
          have r1 : w4.cell? ⟨w.heap.size + 2, 1, none⟩ = some (.slice none 0 0) := cell_of_block HR4.out 1
          have g0 : w4.frozen? ⟨w.heap.size + 2, 0, none⟩ = false := free_of_block HR4.out 0
          have g1 : w4.frozen? ⟨w.heap.size + 2, 1, none⟩ = false := free_of_block HR4.out 1
          have hlt4 : w.heap.size + 1 + 1 < w4.heap.size := World.block_lt_of_cell? w4 ⟨w.heap.size + 2, 0, none⟩ r0
          clear hu
          go_wp2
          refine bodyPost_ret (v := .tuple #[.agg #[.int .i64 n, .slice A q.length c], .int .i64 z, .int .i64 1]) (by simp [results, Try.results19, go_sem, r0, r1, hlt4]) rfl ⟨_, by rw [E.out], ?_, ?_⟩
          · rw [E.out]
            exact LAt.fin HL4.out (by repeat (first | exact Chg.refl _ _ | apply Chg.set | apply Chg.alloc))
          · repeat (first | exact HU4.out | apply Up.setCell | apply Up.alloc | exact (show w.heap.size ≤ w.heap.size + 1 + 1 by omega) | (simp; done) | omega)
        · have E : Hid (doL n q a x = (q, 0, 0)) := Lib.hid (by simp only [doL, if_neg h0, if_neg h1, if_neg h2, if_neg hx])
          have HP := Lib.hid (rAt_no n _ q x _ _ HL.out (by omega))
          clear hx
          go_enter Try.func19, Try.ntmps19
          go_wp2_with fail
          refine HP.out.mono ?_
          rintro e w4 ⟨rfl, hu⟩
          have HL4 := Lib.hid (HL.out.up hu)
          have HB4 := Lib.hid (block_up hu HB3.out)
          have b0 : w4.cell? ⟨w.heap.size, 0, none⟩ = some (.int .i64 n) := cell_of_block HB4.out 0
          have b1 : w4.cell? ⟨w.heap.size, 1, none⟩ = some (.slice A q.length c) := cell_of_block HB4.out 1
          have HU4 := Lib.hid (Up.trans HU3.out hu)
          have HR4 := Lib.hid (block_up hu HR3.out)
          have r0 : w4.cell? ⟨w.heap.size + 2, 0, none⟩ = some (.int .i64 0) := cell_of_block HR4.out 0
          have r1 : w4.cell? ⟨w.heap.size + 2, 1, none⟩ = some (.slice none 0 0) := cell_of_block HR4.out 1
          have g0 : w4.frozen? ⟨w.heap.size + 2, 0, none⟩ = false := free_of_block HR4.out 0
          have g1 : w4.frozen? ⟨w.heap.size + 2, 1, none⟩ = false := free_of_block HR4.out 1
          have hlt4 : w.heap.size + 1 + 1 < w4.heap.size := World.block_lt_of_cell? w4 ⟨w.heap.size + 2, 0, none⟩ r0
          clear hu
          go_wp2
          refine bodyPost_ret (v := .tuple #[.agg #[.int .i64 n, .slice A q.length c], .int .i64 0, .int .i64 0]) (by simp [results, Try.results19, go_sem, r0, r1, hlt4]) rfl ⟨_, by rw [E.out], ?_, ?_⟩
          · rw [E.out]
            exact LAt.fin HL4.out (by repeat (first | exact Chg.refl _ _ | apply Chg.set | apply Chg.alloc))
          · repeat (first | exact HU4.out | apply Up.setCell | apply Up.alloc | exact (show w.heap.size ≤ w.heap.size + 1 + 1 by omega) | (simp; done) | omega)
end Go.Proofs.Ytmfpahdbjcpmkaa.Lane
