/- The reference's lane: a list of numbers in memory that is only read. -/
import Derived.Test.YtmfpahdbjcpmkaaLaneRows
import Derived.Laws.AppendOwnNone
import Derived.Deep.Cut
namespace Go.Proofs.Ytmfpahdbjcpmkaa.Lane
set_option linter.unusedVariables false
set_option linter.unusedSimpArgs false
open Go.RowKit Go.Proofs.YtmfpahdbjcpmkaaW.PrintWords

/-- A slice that reads as a list, in blocks of P. -/
def LAt (w : World) (P : Nat → Prop) (v : Value) (q : List Int) : Prop :=
  (v = .slice none 0 0 ∧ q = []) ∨ ∃ ad c, v = .slice (some ad) q.length c ∧ q.length ≤ c ∧ ∀ j, j < q.length → P ad.block ∧ w.cell? (ad.add j) = some (.int .i64 (q.getD j 0))
theorem LAt.move {w w' : World} {P : Nat → Prop} {v : Value} {q : List Int} (h : LAt w P v q) (hm : ∀ k, P k → k < w.heap.size → w'.heap[k]? = w.heap[k]?) : LAt w' P v q := by
  rcases h with h | ⟨ad, c, h1, h2, h3⟩
  · exact .inl h
  · refine .inr ⟨ad, c, h1, h2, fun j hj => ⟨(h3 j hj).1, ?_⟩⟩
    obtain ⟨hp, hc⟩ := h3 j hj
    have hb : (ad.add j).block = ad.block := by unfold Addr.add; split <;> rfl
    have hlt := World.block_lt_of_cell? w _ hc
    rw [hb] at hlt
    rw [← hc]
    exact World.cell?_of_block (by rw [hb]; exact hm _ hp hlt)
theorem LAt.up {w w' : World} {P : Nat → Prop} {v : Value} {q : List Int} (h : LAt w P v q) (hu : Up w w') : LAt w' P v q := h.move fun k _ hk => hu.block k hk
theorem LAt.off {w w' : World} {P : Nat → Prop} {b R : Nat} {v : Value} {q : List Int} (h : LAt w P v q) (hu : Off b R w w') (hP : ∀ k, P k → k ≠ b ∧ k ≠ R) : LAt w' P v q := h.move fun k hp hk => hu.block k hk (hP k hp).1 (hP k hp).2
theorem LAt.mono {w : World} {P P' : Nat → Prop} {v : Value} {q : List Int} (h : LAt w P v q) (hP : ∀ k, P k → P' k) : LAt w P' v q := by
  rcases h with h | ⟨ad, c, h1, h2, h3⟩
  · exact .inl h
  · exact .inr ⟨ad, c, h1, h2, fun j hj => ⟨hP _ (h3 j hj).1, (h3 j hj).2⟩⟩
theorem LAt.of_own {w : World} {base : Nat} {v : Value} {q : List Int} (h : w.ownsRow base 3 1 v q.length (q.map (Value.int .i64))) : LAt w (fun k => base ≤ k) v q := by
  have hh := h.2
  rcases hh with ⟨rfl, h0⟩ | ⟨g, cap, cs, rfl, hg, hc, hl, hx⟩
  · exact .inl ⟨rfl, List.eq_nil_of_length_eq_zero h0⟩
  · refine .inr ⟨_, _, rfl, by omega, fun j hj => ⟨hg, ?_⟩⟩
    refine h.cells rfl j _ ?_
    simp [List.getElem?_map, hj]
theorem LAt.c {w : World} {P : Nat → Prop} {v : Value} {q : List Int} (h : LAt w P v q) (hq : q.length ≤ 1000000) : ∃ A c, v = .slice A q.length c ∧ q.length ≤ c ∧ Kd.C (Kd.int .i64) w A q.length q := by
  rcases h with ⟨rfl, rfl⟩ | ⟨ad, c, rfl, h2, h3⟩
  · exact ⟨none, 0, rfl, Nat.le_refl _, Kd.C_of_reads (d := (0 : Int)) (h1 := fun _ => rfl) ⟨rfl, by decide, fun h => absurd h (by decide)⟩⟩
  · exact ⟨some ad, c, rfl, h2, Kd.C_of_reads (d := (0 : Int)) (h1 := fun _ => rfl) ⟨rfl, by omega, fun _ => ⟨ad, rfl, fun j hj => (h3 j hj).2⟩⟩⟩
theorem LAt.len {w : World} {P : Nat → Prop} {v : Value} {q : List Int} (h : LAt w P v q) : ∃ A c, v = .slice A q.length c := by
  rcases h with ⟨rfl, rfl⟩ | ⟨ad, c, rfl, _⟩
  · exact ⟨none, 0, rfl⟩
  · exact ⟨_, _, rfl⟩
theorem bl2 (w : World) (o o' : Obj) : ((w.alloc o).alloc o').heap[w.heap.size + 1]? = some o' := by
  have h := block_new (w.alloc o) o'
  have hs : (w.alloc o).heap.size = w.heap.size + 1 := by simp
  rw [hs] at h
  exact h
theorem bl1 (w : World) (o o' : Obj) : ((w.alloc o).alloc o').heap[w.heap.size]? = some o := block_up ((Up.refl (w.alloc o)).alloc o') (block_new w o)
theorem oInt (q : List Int) : ∀ u ∈ q.map (Value.int .i64), u.oneCell' = true := by
  intro u hu
  obtain ⟨z, _, rfl⟩ := List.mem_map.1 hu
  rfl
theorem LAt.set3 {w w2 : World} {v : Value} {q : List Int} (h : LAt w2 (fun k => w.heap.size + 2 ≤ k) v q) (x y z : Value) : LAt (((w2.setCell ⟨w.heap.size, 1, none⟩ x).setCell ⟨w.heap.size + 1, 0, none⟩ y).setCell ⟨w.heap.size + 1, 1, none⟩ z) (fun k => w.heap.size ≤ k) v q :=
  (h.move fun k hk _ => by rw [heap_setCell_other _ (by omega), heap_setCell_other _ (by omega), heap_setCell_other _ (by omega)]).mono fun k hk => by omega
theorem t_info : ∃ t0, Try.prog.info? 3 = some t0 ∧ t0.zero = some (.int .i64 0) ∧ t0.size = 1 ∧ t0.bytes = 8 := by
  have h := info_int
  cases hi : Try.prog.info? 3 with
  | none => rw [hi] at h; cases h
  | some i =>
    rw [hi] at h
    simp at h
    exact ⟨i, rfl, h.1, h.2.1, h.2.2⟩
set_option maxHeartbeats 4000000 in
theorem rPut_full (n : Nat) (v : Value) (q : List Int) (x : Int) (w : World) (P : Nat → Prop) (h : LAt w P v q) (hq : n ≤ q.length) :
    Calls Try.prog 31 #[.agg #[.int .i64 n, v], .int .i64 x] w fun e w' => e = .returned (.tuple #[.agg #[.int .i64 n, v], .int .i64 5]) ∧ Up w w' := by
  obtain ⟨A, c, rfl⟩ := h.len
  clear h
  have hge : ((q.length : Int) ≥ (n : Int)) := by omega
  go_enter Try.func31, Try.ntmps31
  go_wp2
  exact bodyPost_ret (v := .tuple #[.agg #[.int .i64 n, .slice A q.length c], .int .i64 5]) (by simp [results, Try.results31, go_sem]) rfl ⟨rfl, by repeat (first | exact Up.refl _ | apply Up.setCell | apply Up.alloc | (simp; done))⟩
set_option maxHeartbeats 8000000 in
set_option maxRecDepth 100000 in
theorem rPut_ok (n : Nat) (v : Value) (q : List Int) (x : Int) (w : World) (P : Nat → Prop) (h : LAt w P v q) (hq : q.length < n) (hn : n ≤ 100) :
    Calls Try.prog 31 #[.agg #[.int .i64 n, v], .int .i64 x] w fun e w' => ∃ v', e = .returned (.tuple #[.agg #[.int .i64 n, v'], .int .i64 0]) ∧ LAt w' (fun k => w.heap.size ≤ k) v' (q ++ [x]) ∧ Up w w' := by
  obtain ⟨t0, ht0, hz0, hz1, hz2⟩ := t_info
  have hge : decide ((q.length : Int) ≥ (n : Int)) = false := decide_eq_false (by omega)
  have HL := Lib.hid h
  have hO := World.ownsRow_nil ((w.alloc (.cells #[.int .i64 n, v] 47)).alloc (.cells #[.int .i64 0, .slice none 0 0] 47)) (w.heap.size + 2) 3 1
  have HO := Lib.hid hO
  have HB0 := Lib.hid (bl1 w (.cells #[.int .i64 n, v] 47) (.cells #[.int .i64 0, .slice none 0 0] 47))
  have HR0 := Lib.hid (bl2 w (.cells #[.int .i64 n, v] 47) (.cells #[.int .i64 0, .slice none 0 0] 47))
  clear hO
  rcases h with ⟨rfl, rfl⟩ | ⟨ad, c, rfl, h2, h3⟩
  · go_enter Try.func31, Try.ntmps31
    go_upto_region 5 with (at_builtin; refine wpList_append_own_none rfl (.tmp 14) (.tmp 16) 36 rfl (w.heap.size + 2) 3 t0 1 Try.underlying36 ht0 _ 0 _ rfl HO.out rfl ?_)
    have HOW := HO
    have HBW := HB0
    have HRW := HR0
    have HUW : Hid (Up w ((w.alloc (.cells #[.int .i64 n, .slice none 0 0] 47)).alloc (.cells #[.int .i64 0, .slice none 0 0] 47))) := Lib.hid (((Up.refl w).alloc _).alloc _)
    clear HO HB0 HR0 hge
    generalize ((w.alloc (.cells #[.int .i64 n, .slice none 0 0] 47)).alloc (.cells #[.int .i64 0, .slice none 0 0] 47)) = W at *
    have HBs := Lib.hid (World.block_lt_of_cell? W ⟨w.heap.size, 0, none⟩ (cell_of_block HBW.out 0))
    have HRs := Lib.hid (World.block_lt_of_cell? W ⟨w.heap.size + 1, 0, none⟩ (cell_of_block HRW.out 0))
    have hbs : w.heap.size < W.heap.size := HBs.out
    have hrs : w.heap.size + 1 < W.heap.size := HRs.out
    go_wp2_with (at_builtin; refine wpList_append_out _ rfl (.tmp 18) (.tmp 20) 36 rfl (w.heap.size + 2) 3 t0 (.int .i64 0) 1 8 Try.underlying36 ht0 hz0 hz1 hz2 rfl (by decide) _ 0 _ rfl (HOW.out.alloc _) ⟨W.heap.size, 0, none⟩ 1 1 [.int .i64 x] rfl (by simp) (World.news_of_block (cs := #[.int .i64 x]) (t := 3) (fr := (0, 0)) (heap_alloc_new W _)) (by simp [Value.oneCell']) (by unfold maxLen; omega) (by omega) (by simp; omega) ?_)
    intro A2 c2 w2 hown hgrow
    have hr2 : ∀ k, (Value.slice none 0 0).ownBlock = some k → w.heap.size + 2 ≤ k := fun k hk => (HOW.out.lt k hk).1
    have HU2 := Lib.hid (Up.trans_grown (HUW.out.alloc _) hgrow (fun k hk => by have := hr2 k hk; omega))
    have hB2 := (hgrow.block w.heap.size (by simp; omega) (fun e => by have := hr2 _ e.symm; omega)).trans (block_up ((Up.refl W).alloc _) HBW.out)
    have hR2 := (hgrow.block (w.heap.size + 1) (by simp; omega) (fun e => by have := hr2 _ e.symm; omega)).trans (block_up ((Up.refl W).alloc _) HRW.out)
    have HL2 : Hid (LAt w2 (fun k => w.heap.size + 2 ≤ k) (.slice A2 1 c2) (([] : List Int) ++ [x])) := Lib.hid (by
      have h5 : w2.ownsRow (w.heap.size + 2) 3 1 (.slice A2 1 c2) (([] : List Int) ++ [x]).length ((([] : List Int) ++ [x]).map (Value.int .i64)) := by
        first | (rw [List.length_append, List.map_append]; exact hown) | (simpa using hown)
      exact LAt.of_own h5)
    have HW2 := Lib.hid (show w2.heap.size > w.heap.size + 1 from by have := hgrow.size; simp at this; omega)
    have HB2 := Lib.hid hB2
    have HR2 := Lib.hid hR2
    clear hown hgrow hr2 hB2 hR2 hbs hrs HOW HUW HBW HRW
    have b0 : w2.cell? ⟨w.heap.size, 0, none⟩ = some (.int .i64 n) := cell_of_block HB2.out 0
    have b1 : w2.cell? ⟨w.heap.size, 1, none⟩ = some (.slice none 0 0) := cell_of_block HB2.out 1
    have g1 : w2.frozen? ⟨w.heap.size, 1, none⟩ = false := free_of_block HB2.out 1
    have r0 : w2.cell? ⟨w.heap.size + 1, 0, none⟩ = some (.int .i64 0) := cell_of_block HR2.out 0
    have r1 : w2.cell? ⟨w.heap.size + 1, 1, none⟩ = some (.slice none 0 0) := cell_of_block HR2.out 1
    have q0 : w2.frozen? ⟨w.heap.size + 1, 0, none⟩ = false := free_of_block HR2.out 0
    have q1 : w2.frozen? ⟨w.heap.size + 1, 1, none⟩ = false := free_of_block HR2.out 1
    go_wp2
    refine bodyPost_ret (v := .tuple #[.agg #[.int .i64 n, .slice A2 1 c2], .int .i64 0]) (by simp [results, Try.results31, go_sem, r0, r1]) rfl ⟨_, rfl, ?_, ?_⟩
    · exact LAt.set3 HL2.out _ _ _
    · exact Up.setCell (Up.setCell (Up.setCell HU2.out (Nat.le_refl _) _) (Nat.le_succ _) _) (Nat.le_succ _) _
  · have HN := Lib.hid (show ∀ j u, (q.map (Value.int .i64))[j]? = some u → ((w.alloc (.cells #[.int .i64 n, .slice (some ad) q.length c] 47)).alloc (.cells #[.int .i64 0, .slice none 0 0] 47)).cell? (ad.add j) = some u from fun j u hj => by
      obtain ⟨z, hz, rfl⟩ := by simpa using hj
      obtain ⟨hl, rfl⟩ := List.getElem?_eq_some_iff.1 hz
      have hc := (h3 j hl).2
      simp [List.getD_eq_getElem?_getD, hl] at hc
      exact pw_cell_below (((Up.refl w).alloc _).alloc _) hc)
    clear h3
    go_enter Try.func31, Try.ntmps31
    go_upto_region 5 with (at_builtin; refine wpList_append_out _ rfl (.tmp 14) (.tmp 16) 36 rfl (w.heap.size + 2) 3 t0 (.int .i64 0) 1 8 Try.underlying36 ht0 hz0 hz1 hz2 rfl (by decide) _ 0 _ rfl HO.out ad q.length c (q.map (Value.int .i64)) rfl (by simp) HN.out (oInt q) (by unfold maxLen; omega) (by omega) (by simp) ?_; intro A1 c1 W hown hgrow; have HOW : Hid (W.ownsRow (w.heap.size + 2) 3 1 (.slice A1 q.length c1) q.length (q.map (Value.int .i64))) := Lib.hid (by simpa using hown); have HBW := Lib.hid ((hgrow.block w.heap.size (by simp; omega) (fun e => by cases e)).trans HB0.out); have HRW := Lib.hid ((hgrow.block (w.heap.size + 1) (by simp) (fun e => by cases e)).trans HR0.out); have HUW : Hid (Up w W) := Lib.hid (Up.trans_grown (((Up.refl w).alloc _).alloc _) hgrow (fun k hk => by cases hk)); clear hown hgrow HO HB0 HR0 HN hge)
    have HBs := Lib.hid (World.block_lt_of_cell? W ⟨w.heap.size, 0, none⟩ (cell_of_block HBW.out 0))
    have HRs := Lib.hid (World.block_lt_of_cell? W ⟨w.heap.size + 1, 0, none⟩ (cell_of_block HRW.out 0))
    have hbs : w.heap.size < W.heap.size := HBs.out
    have hrs : w.heap.size + 1 < W.heap.size := HRs.out
    go_wp2_with (at_builtin; refine wpList_append_out _ rfl (.tmp 18) (.tmp 20) 36 rfl (w.heap.size + 2) 3 t0 (.int .i64 0) 1 8 Try.underlying36 ht0 hz0 hz1 hz2 rfl (by decide) _ q.length _ rfl (HOW.out.alloc _) ⟨W.heap.size, 0, none⟩ 1 1 [.int .i64 x] rfl (by simp) (World.news_of_block (cs := #[.int .i64 x]) (t := 3) (fr := (0, 0)) (heap_alloc_new W _)) (by simp [Value.oneCell']) (by unfold maxLen; omega) (by omega) (by simp; omega) ?_)
    intro A2 c2 w2 hown hgrow
    have hr2 : ∀ k, (Value.slice A1 q.length c1).ownBlock = some k → w.heap.size + 2 ≤ k := fun k hk => (HOW.out.lt k hk).1
    have HU2 := Lib.hid (Up.trans_grown (HUW.out.alloc _) hgrow (fun k hk => by have := hr2 k hk; omega))
    have hB2 := (hgrow.block w.heap.size (by simp; omega) (fun e => by have := hr2 _ e.symm; omega)).trans (block_up ((Up.refl W).alloc _) HBW.out)
    have hR2 := (hgrow.block (w.heap.size + 1) (by simp; omega) (fun e => by have := hr2 _ e.symm; omega)).trans (block_up ((Up.refl W).alloc _) HRW.out)
    have HL2 : Hid (LAt w2 (fun k => w.heap.size + 2 ≤ k) (.slice A2 (q.length + 1) c2) (q ++ [x])) := Lib.hid (by
      have h5 : w2.ownsRow (w.heap.size + 2) 3 1 (.slice A2 (q.length + 1) c2) (q ++ [x]).length ((q ++ [x]).map (Value.int .i64)) := by
        first | (rw [List.length_append, List.map_append]; exact hown) | (simpa using hown)
      exact LAt.of_own h5)
    have HW2 := Lib.hid (show w2.heap.size > w.heap.size + 1 from by have := hgrow.size; simp at this; omega)
    have HB2 := Lib.hid hB2
    have HR2 := Lib.hid hR2
    clear hown hgrow hr2 hB2 hR2 hbs hrs HOW HUW HBW HRW
    have b0 : w2.cell? ⟨w.heap.size, 0, none⟩ = some (.int .i64 n) := cell_of_block HB2.out 0
    have b1 : w2.cell? ⟨w.heap.size, 1, none⟩ = some (.slice (some ad) q.length c) := cell_of_block HB2.out 1
    have g1 : w2.frozen? ⟨w.heap.size, 1, none⟩ = false := free_of_block HB2.out 1
    have r0 : w2.cell? ⟨w.heap.size + 1, 0, none⟩ = some (.int .i64 0) := cell_of_block HR2.out 0
    have r1 : w2.cell? ⟨w.heap.size + 1, 1, none⟩ = some (.slice none 0 0) := cell_of_block HR2.out 1
    have q0 : w2.frozen? ⟨w.heap.size + 1, 0, none⟩ = false := free_of_block HR2.out 0
    have q1 : w2.frozen? ⟨w.heap.size + 1, 1, none⟩ = false := free_of_block HR2.out 1
    go_wp2
    refine bodyPost_ret (v := .tuple #[.agg #[.int .i64 n, .slice A2 (q.length + 1) c2], .int .i64 0]) (by simp [results, Try.results31, go_sem, r0, r1]) rfl ⟨_, rfl, ?_, ?_⟩
    · exact LAt.set3 HL2.out _ _ _
    · exact Up.setCell (Up.setCell (Up.setCell HU2.out (Nat.le_refl _) _) (Nat.le_succ _) _) (Nat.le_succ _) _
end Go.Proofs.Ytmfpahdbjcpmkaa.Lane
