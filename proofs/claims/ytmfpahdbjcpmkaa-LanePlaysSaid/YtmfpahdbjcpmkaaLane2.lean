/- More contracts of the package lane: Take, New, what a nil lane tells, and the chapter's example. -/
import Derived.Test.YtmfpahdbjcpmkaaLane
import Derived.Laws.MakeOwn
namespace Go.Proofs.Ytmfpahdbjcpmkaa.Lane
set_option linter.unusedVariables false
set_option linter.unusedSimpArgs false
open Go.RowKit

theorem Take_nil (w : World) : Calls Try.prog 27 #[.pointer none] w fun e w' => e = .returned (.tuple #[.int .i64 0, .int .i64 1]) ∧ w' = w := by
  go_enter Try.func27, Try.ntmps27
  go_wp2
  go_ret2
  exact ⟨rfl, rfl⟩
theorem Take_none (b R f : Nat) (room : List Int) (w : World) (h : LaneAt w b R room f 0) :
    Calls Try.prog 27 #[.pointer (some ⟨b, 0, none⟩)] w fun e w' => e = .returned (.tuple #[.int .i64 0, .int .i64 6]) ∧ w' = w := by
  have c2 : w.cell? ⟨b, 2, none⟩ = some (.int .i64 0) := cell_of_block h.hb 2
  go_enter Try.func27, Try.ntmps27
  go_wp2
  go_ret2
  exact ⟨rfl, rfl⟩
theorem take_done {w w1 : World} {b R f k j : Nat} {room : List Int} (h : LaneAt w b R room f (k + 1)) (hd : Drawn w w1) (hj : (f + 1) % room.length = j) :
    LaneAt ((w1.setCell ⟨b, 1, none⟩ (.int .i64 j)).setCell ⟨b, 2, none⟩ (.int .i64 k)) b R room ((f + 1) % room.length) k ∧
    Off b R w ((w1.setCell ⟨b, 1, none⟩ (.int .i64 j)).setCell ⟨b, 2, none⟩ (.int .i64 k)) := by
  have h1 := h.drew hd
  have s1 := heap_setCell_same h1.hb (i := 1) (.int .i64 j)
  have s3 := heap_setCell_same s1 (i := 2) (.int .i64 k)
  have hk := h.kle
  have hp := h.pos
  refine ⟨⟨?_, ?_, h.pos, h.le, Nat.mod_lt _ (by omega), by omega, h.ne⟩, ((((Off.refl b R w).drawn hd).set b 1 _ (.inl rfl)).set b 2 _ (.inl rfl))⟩
  · rw [s3, hj]
    rfl
  · rw [heap_setCell_other _ (Ne.symm h.ne), heap_setCell_other _ (Ne.symm h.ne)]
    exact h1.hR
set_option maxHeartbeats 4000000 in
theorem Take_ok (b R f k : Nat) (room : List Int) (w : World) (h : LaneAt w b R room f (k + 1)) :
    Calls Try.prog 27 #[.pointer (some ⟨b, 0, none⟩)] w fun e w' => e = .returned (.tuple #[.int .i64 (room.getD f 0), .int .i64 0]) ∧ LaneAt w' b R room ((f + 1) % room.length) k ∧ Off b R w w' := by
  have hl := h.le
  have hf := h.flt
  have c0 : w.cell? ⟨b, 0, none⟩ = some (.slice (some ⟨R, 0, none⟩) room.length room.length) := cell_of_block h.hb 0
  have c1 : w.cell? ⟨b, 1, none⟩ = some (.int .i64 f) := cell_of_block h.hb 1
  have c2 : w.cell? ⟨b, 2, none⟩ = some (.int .i64 ((k + 1 : Nat) : Int)) := cell_of_block h.hb 2
  have cR : w.cell? ⟨R, f, none⟩ = some (.int .i64 (room.getD f 0)) := by
    rw [cell_of_block h.hR]
    simp [List.getD_eq_getElem?_getD, List.getElem?_eq_getElem hf]
  have gb1 : w.frozen? ⟨b, 1, none⟩ = false := free_of_block h.hb _
  have gb2 : w.frozen? ⟨b, 2, none⟩ = false := free_of_block h.hb _
  have e1 : (((k + 1 : Nat) : Int) == 0) = false := beq_eq_false_iff_ne.2 (by omega)
  have i0 : (0 : Int) ≤ (f : Int) := by omega
  have i1 : (f : Int) < (room.length : Int) := by omega
  generalize room.getD f 0 = x at *
  have hkl := h.kle
  have ek : wrap64 (((k + 1 : Nat) : Int) - 1) = (k : Int) := by unfold wrap64; omega
  generalize hk1 : ((k + 1 : Nat) : Int) = k1 at *
  go_enter Try.func27, Try.ntmps27
  go_wp2
  go_quiet (fail)
  go_wp2_with fail
  obtain ⟨j, hj⟩ : ∃ j, (f + 1) % room.length = j := ⟨_, rfl⟩
  have HJ := Lib.hid hj
  have hA := at_j b R f (k + 1) 1 j room (w.drewN nq) (h.drew ⟨nq, rfl⟩) (by omega) hj
  clear hj
  refine hA.mono ?_
  clear hA
  rintro e w' ⟨rfl, n, rfl⟩
  go_wp2
  go_ret2
  have ek2 : k1 - 1 = (k : Int) := by omega
  rw [ek2]
  exact ⟨rfl, take_done h ⟨_, rfl⟩ HJ.out⟩
theorem Clear_nil (w : World) : Calls Try.prog 28 #[.pointer none] w fun e w' => e = .returned (.int .i64 0) ∧ w' = w := by
  go_enter Try.func28, Try.ntmps28
  go_wp2_with (go_at_call 14; refine (Len_nil _).mono ?_; rintro e w' ⟨rfl, rfl⟩)
  go_ret
  exact ⟨rfl, rfl⟩
theorem At_nil (i : Int) (w : World) : Calls Try.prog 29 #[.pointer none, .int .i64 i] w fun e w' => e = .returned (.tuple #[.int .i64 0, .bool false]) ∧ w' = w := by
  by_cases hi : i < 0
  · go_enter Try.func29, Try.ntmps29
    go_wp2
    go_ret2
    exact ⟨rfl, rfl⟩
  · have h0 : decide (i < 0) = false := decide_eq_false hi
    go_enter Try.func29, Try.ntmps29
    go_wp2_with (go_at_call 14; refine (Len_nil _).mono ?_; rintro e w' ⟨rfl, rfl⟩)
    go_ret2
    exact ⟨rfl, rfl⟩
theorem All_nil (w : World) : Calls Try.prog 17 #[.pointer none] w fun e w' => e = .returned (.slice none 0 0) ∧ w' = w := by
  go_enter Try.func17, Try.ntmps17
  go_wp2_with (go_at_call 14; refine (Len_nil _).mono ?_; rintro e w' ⟨rfl, rfl⟩)
  refine wp_loop_rounds 1 ?_
  rw [rounds_succ]
  go_wp2
  go_ret
  exact ⟨rfl, rfl⟩
theorem Clone_nil (w : World) : Calls Try.prog 20 #[.pointer none] w fun e w' => e = .returned (.pointer none) ∧ w' = w := by
  go_enter Try.func20, Try.ntmps20
  go_wp2
  go_ret
  exact ⟨rfl, rfl⟩
theorem New_no (n : Int) (hn : n < 1 ∨ 64 < n) (w : World) : Calls Try.prog 11 #[.int .i64 n] w fun e w' => e = .returned (.pointer none) ∧ w' = w := by
  by_cases h1 : n < 1
  · go_enter Try.func11, Try.ntmps11
    go_wp2
    go_ret
    exact ⟨rfl, rfl⟩
  · have h0 : decide (n < 1) = false := decide_eq_false h1
    have h2 : n > 64 := by omega
    go_enter Try.func11, Try.ntmps11
    go_wp2
    go_ret
    exact ⟨rfl, rfl⟩
theorem info_int : (Try.prog.info? 3).map (fun i => (i.zero, i.size, i.bytes)) = some (some (.int .i64 0), 1, 8) := by kernel_rfl
theorem made_ints (n : Nat) : madeCells (Value.cells (.int .i64 0)) (n * 1) = ((List.replicate n (0 : Int)).map (Value.int .i64)).toArray := by
  apply Array.ext
  · simp [madeCells]
  · intro i h1 h2
    simp [madeCells, Value.cells, Nat.mod_one]
theorem run_mk (n : Nat) (h2 : n ≤ 65536) (w : World) : (Instr.makeSlice 36 (.int .i64 n) (.int .i64 n)).run Try.prog w = .ok (.slice (some ⟨w.heap.size, 0, none⟩) n n) (w.alloc (.cells ((List.replicate n (0 : Int)).map (Value.int .i64)).toArray 3)) := by
  obtain ⟨i, hi, hz, hs, hb⟩ : ∃ i, Try.prog.info? 3 = some i ∧ i.zero = some (.int .i64 0) ∧ i.size = 1 ∧ i.bytes = 8 := by
    have h := info_int
    cases hi : Try.prog.info? 3 with
    | none => rw [hi] at h; cases h
    | some i =>
      rw [hi] at h
      simp at h
      exact ⟨i, rfl, h.1, h.2.1, h.2.2⟩
  have h := run_makeSlice w 36 3 i (.int .i64 0) Try.underlying36 hi hz .i64 .i64 n n (by omega) (Int.le_refl _) (by rw [hs]; simp; omega) (by rw [hb]; omega) (by omega)
  rw [hs, Int.toNat_natCast, made_ints] at h
  exact h
theorem new_done (n : Nat) (h1 : 1 ≤ n) (h2 : n ≤ 64) (w : World) :
    LaneAt ((w.alloc (Obj.cells (Array.replicate n (Value.int IntKind.i64 0)) 3)).alloc (Obj.cells #[Value.slice (some ⟨w.heap.size, 0, none⟩) n n, Value.int IntKind.i64 0, Value.int IntKind.i64 0] 57)) (w.heap.size + 1) w.heap.size (List.replicate n 0) 0 0 := by
  have hs : (w.alloc (Obj.cells (Array.replicate n (Value.int IntKind.i64 0)) 3)).heap.size = w.heap.size + 1 := by simp
  refine ⟨?_, ?_, by simpa using h1, by simpa using h2, by simpa using (show 0 < n by omega), by simp, by omega⟩
  · rw [List.length_replicate]
    have := block_new (w.alloc (Obj.cells (Array.replicate n (Value.int IntKind.i64 0)) 3)) (Obj.cells #[Value.slice (some ⟨w.heap.size, 0, none⟩) n n, Value.int IntKind.i64 0, Value.int IntKind.i64 0] 57)
    rw [hs] at this
    exact this
  · have h0 := block_new w (Obj.cells (Array.replicate n (Value.int IntKind.i64 0)) 3)
    have h3 := block_up ((Up.refl (w.alloc (Obj.cells (Array.replicate n (Value.int IntKind.i64 0)) 3))).alloc (Obj.cells #[Value.slice (some ⟨w.heap.size, 0, none⟩) n n, Value.int IntKind.i64 0, Value.int IntKind.i64 0] 57)) h0
    rw [h3]
    simp
set_option maxHeartbeats 1000000 in
theorem New_ok (n : Nat) (h1 : 1 ≤ n) (h2 : n ≤ 64) (w : World) : Calls Try.prog 11 #[.int .i64 n] w fun e w' => ∃ b R, e = .returned (.pointer (some ⟨b, 0, none⟩)) ∧ LaneAt w' b R (List.replicate n 0) 0 0 ∧ Up w w' ∧ w.heap.size ≤ b ∧ w.heap.size ≤ R := by
  have d1 : decide ((n : Int) < 1) = false := decide_eq_false (by omega)
  have d2 : decide ((n : Int) > 64) = false := decide_eq_false (by omega)
  go_enter Try.func11, Try.ntmps11
  have hm := fun wx => run_mk n (by omega) wx
  go_wp2
  go_ret
  exact ⟨w.heap.size + 1, w.heap.size, rfl, new_done n h1 h2 w, ((Up.refl w).alloc _).alloc _, by omega, by omega⟩
theorem Up.of_off {b R : Nat} {a w w' : World} (h : Up a w) (ho : Off b R w w') (hb : a.heap.size ≤ b) (hR : a.heap.size ≤ R) : Up a w' :=
  ⟨ho.os.trans h.os, ho.tape.trans h.tape, ho.output.trans h.output, Nat.le_trans h.size ho.size, fun k hk => (ho.block k (Nat.lt_of_lt_of_le hk h.size) (by omega) (by omega)).trans (h.block k hk)⟩
set_option maxHeartbeats 2000000 in
theorem alive_walk (w : World) : Calls Try.prog 12 #[] w fun e w' => e = .returned (.bool true) ∧ Up w w' := by
  go_enter Try.func12, Try.ntmps12
  go_wp2_with fail
  refine (New_ok 2 (by omega) (by omega) w).mono ?_
  rintro e w1 ⟨b, R, rfl, hL, hU, hb, hR⟩
  have HL := Lib.hid hL
  have HU := Lib.hid hU
  clear hL hU
  go_wp2_with fail
  refine (Put_ok b R 0 0 (List.replicate 2 0) 5 w1 HL.out (by simp)).mono ?_
  rintro e w2 ⟨rfl, hL, hO⟩
  have HL2 := Lib.hid hL
  have HU2 := Lib.hid (Up.of_off HU.out hO hb hR)
  clear hL hO
  go_wp2_with fail
  refine (Put_ok b R 0 1 _ 7 w2 HL2.out (by simp)).mono ?_
  rintro e w3 ⟨rfl, hL, hO⟩
  have HL3 := Lib.hid hL
  have HU3 := Lib.hid (Up.of_off HU2.out hO hb hR)
  clear hL hO
  go_wp2_with fail
  refine (Put_full b R 0 2 _ 9 w3 HL3.out (by simp)).mono ?_
  rintro e w4 ⟨rfl, hD⟩
  have HL4 := Lib.hid (HL3.out.drew hD)
  have HU4 := Lib.hid (Up.trans HU3.out hD.up)
  clear hD
  go_wp2_with fail
  refine (Take_ok b R 0 1 _ w4 HL4.out).mono ?_
  rintro e w5 ⟨rfl, hL, hO⟩
  have HL5 := Lib.hid hL
  have HU5 := Lib.hid (Up.of_off HU4.out hO hb hR)
  clear hL hO
  have hx : (List.set (List.set (List.replicate 2 (0 : Int)) ((0 + 0) % (List.replicate 2 (0 : Int)).length) 5) ((0 + 1) % (List.set (List.replicate 2 (0 : Int)) ((0 + 0) % (List.replicate 2 (0 : Int)).length) 5).length) 7).getD 0 0 = 5 := by decide
  rw [hx]
  go_wp2_with fail
  refine (Len_walk b R _ 1 _ w5 HL5.out).mono ?_
  rintro e w6 ⟨rfl, rfl⟩
  go_wp2
  go_ret
  exact ⟨rfl, HU5.out⟩
end Go.Proofs.Ytmfpahdbjcpmkaa.Lane
