/- The lane's contracts, in one text (mkln.py). -/
import Derived.Test.YtiofdkkjjeljmaaProg
import Derived.Test.YtiofdkkjjeljmaaBase
import Derived.Deep.QuietTactic
import Derived.BigQuiet
import Derived.StillTailTactics
import Derived.Deep.RegionHeld3
import Derived.Deep.RegionWith
import Derived.Laws.MakeOwn
import Derived.Deep.AppendLies
import Derived.OwnWalk
import Derived.WalkSpells
import Derived.StillTactics
/- Contracts of the package lane, over a predicate on its two blocks. -/
namespace Go.Proofs.Ytiofdkkjjeljmaa.Lane
set_option linter.unusedVariables false
set_option linter.unusedSimpArgs false
open Go.RowKit

/-- A lane in memory: block b holds its three fields, block R its room. -/
structure LaneAt (w : World) (b R : Nat) (room : List Int) (f k : Nat) : Prop where
  hb : w.heap[b]? = some (.cells #[.slice (some ⟨R, 0, none⟩) room.length room.length, .int .i64 f, .int .i64 k] 165 (0, 0))
  hR : w.heap[R]? = some (.cells (room.map (Value.int .i64)).toArray 3 (0, 0))
  pos : 1 ≤ room.length
  le : room.length ≤ 64
  flt : f < room.length
  kle : k ≤ room.length
  ne : b ≠ R
/-- Off two blocks nothing old has turned. -/
structure Off (b R : Nat) (w w' : World) : Prop where
  os : w'.os = w.os
  tape : w'.tape = w.tape
  output : w'.output = w.output
  size : w.heap.size ≤ w'.heap.size
  block : ∀ k, k < w.heap.size → k ≠ b → k ≠ R → w'.heap[k]? = w.heap[k]?
theorem LaneAt.drew {w w' : World} {b R f k : Nat} {room : List Int} (h : LaneAt w b R room f k) (hd : Drawn w w') : LaneAt w' b R room f k := by
  obtain ⟨n, rfl⟩ := hd
  exact ⟨by rw [World.heap_drewN]; exact h.hb, by rw [World.heap_drewN]; exact h.hR, h.pos, h.le, h.flt, h.kle, h.ne⟩
theorem LaneAt.up {w w' : World} {b R f k : Nat} {room : List Int} (h : LaneAt w b R room f k) (hu : Up w w') : LaneAt w' b R room f k :=
  ⟨block_up hu h.hb, block_up hu h.hR, h.pos, h.le, h.flt, h.kle, h.ne⟩

theorem heap_setCell_other {w : World} {b i k : Nat} (v : Value) (h : k ≠ b) : (w.setCell ⟨b, i, none⟩ v).heap[k]? = w.heap[k]? := by
  simp only [World.setCell]
  rw [Array.getElem?_modify]
  simp [Ne.symm h]
theorem set_cells (room : List Int) (j : Nat) (x : Int) : ((room.map (Value.int .i64)).toArray.set! j (.int .i64 x)) = ((room.set j x).map (Value.int .i64)).toArray := by
  simp [List.map_set]
theorem Off.refl (b R : Nat) (w : World) : Off b R w w := ⟨rfl, rfl, rfl, Nat.le_refl _, fun _ _ _ _ => rfl⟩
theorem Off.drawn {b R : Nat} {a w w' : World} (h : Off b R a w) (hd : Drawn w w') : Off b R a w' := by
  obtain ⟨n, rfl⟩ := hd
  exact ⟨h.os, h.tape, h.output, by rw [World.heap_drewN]; exact h.size, fun k hk hb hR => by rw [World.heap_drewN]; exact h.block k hk hb hR⟩
theorem Off.set {b R : Nat} {a w : World} (h : Off b R a w) (c i : Nat) (v : Value) (hc : c = b ∨ c = R) : Off b R a (w.setCell ⟨c, i, none⟩ v) :=
  ⟨h.os, h.tape, h.output, by simpa [World.setCell] using h.size, fun k hk hb hR => by
    rw [heap_setCell_other v (by rcases hc with rfl | rfl <;> assumption)]
    exact h.block k hk hb hR⟩
theorem put_done {w w1 : World} {b R f k j : Nat} {room : List Int} {x : Int} (h : LaneAt w b R room f k) (hd : Drawn w w1) (hk : k < room.length) (hj : (f + k) % room.length = j) :
    LaneAt ((w1.setCell ⟨R, j, none⟩ (.int .i64 x)).setCell ⟨b, 2, none⟩ (.int .i64 ((k : Int) + 1))) b R (room.set ((f + k) % room.length) x) f (k + 1) ∧
    Off b R w ((w1.setCell ⟨R, j, none⟩ (.int .i64 x)).setCell ⟨b, 2, none⟩ (.int .i64 ((k : Int) + 1))) := by
  have h1 := h.drew hd
  have s1 := heap_setCell_same h1.hR (i := j) (.int .i64 x)
  have s2 : (w1.setCell ⟨R, j, none⟩ (.int .i64 x)).heap[b]? = _ := (heap_setCell_other _ h.ne).trans h1.hb
  have s3 := heap_setCell_same s2 (i := 2) (.int .i64 ((k : Int) + 1))
  refine ⟨⟨?_, ?_, ?_, ?_, ?_, ?_, h.ne⟩, ((((Off.refl b R w).drawn hd).set R j _ (.inr rfl)).set b 2 _ (.inl rfl))⟩
  · rw [s3, List.length_set]
    rfl
  · rw [heap_setCell_other _ (Ne.symm h.ne), s1, hj, ← set_cells]
    rfl
  · rw [List.length_set]; exact h.pos
  · rw [List.length_set]; exact h.le
  · rw [List.length_set]; exact h.flt
  · rw [List.length_set]; exact hk
@[simp] theorem Drawn.stepS {w w' : World} {n : Nat} (h : Drawn w w') : Drawn w (w'.drewN n) := h.step n
@[simp] theorem Drawn.drewS {w w' : World} (h : Drawn w w') : Drawn w w'.drew := h.step 1
theorem at_walk (b R f k i : Nat) (room : List Int) (w : World) (h : LaneAt w b R room f k) (hi : i ≤ 1000) :
    Calls Try.prog 106 #[.pointer (some ⟨b, 0, none⟩), .int .i64 i] w fun e w' => e = .returned (.int .i64 (((f + i) % room.length : Nat) : Int)) ∧ Drawn w w' := by
  have c0 := cell_of_block h.hb 0
  have c1 := cell_of_block h.hb 1
  have hl := h.le
  have hp := h.pos
  have hf := h.flt
  have e1 : IntKind.i64.wrap ((f : Int) + (i : Int)) = ((f + i : Nat) : Int) := by rw [IntKind.wrap_i64]; omega
  have e2 : ((f + i : Nat) : Int).tmod (room.length : Int) = (((f + i) % room.length : Nat) : Int) := by
    rw [Int.tmod_eq_emod_of_nonneg (by omega), Int.natCast_emod]
  have e3 : ((room.length : Int) == 0) = false := beq_eq_false_iff_ne.2 (by omega)
  have e4 : ¬ ((room.length : Int) = 0) := by omega
  go_enter Try.func106, Try.ntmps106
  go_wp2
  go_quiet (fail)
  go_wp2
  go_ret
  exact ⟨rfl, _, rfl⟩
theorem at_j (b R f k i j : Nat) (room : List Int) (w : World) (h : LaneAt w b R room f k) (hi : i ≤ 1000) (hj : (f + i) % room.length = j) :
    Calls Try.prog 106 #[.pointer (some ⟨b, 0, none⟩), .int .i64 i] w fun e w' => e = .returned (.int .i64 (j : Int)) ∧ Drawn w w' := by
  rw [← hj]
  exact at_walk b R f k i room w h hi
theorem Len_walk (b R f k : Nat) (room : List Int) (w : World) (h : LaneAt w b R room f k) :
    Calls Try.prog 76 #[.pointer (some ⟨b, 0, none⟩)] w fun e w' => e = .returned (.int .i64 k) ∧ w' = w := by
  have c2 := cell_of_block h.hb 2
  go_enter Try.func76, Try.ntmps76
  go_wp2
  go_ret
  exact ⟨rfl, rfl⟩
theorem Len_nil (w : World) : Calls Try.prog 76 #[.pointer none] w fun e w' => e = .returned (.int .i64 0) ∧ w' = w := by
  go_enter Try.func76, Try.ntmps76
  go_wp2
  go_ret
  exact ⟨rfl, rfl⟩
theorem Put_nil (x : Int) (w : World) : Calls Try.prog 97 #[.pointer none, .int .i64 x] w fun e w' => e = .returned (.int .i64 1) ∧ w' = w := by
  go_enter Try.func97, Try.ntmps97
  go_wp2
  go_ret
  exact ⟨rfl, rfl⟩
theorem Put_full (b R f k : Nat) (room : List Int) (x : Int) (w : World) (h : LaneAt w b R room f k) (hk : k = room.length) :
    Calls Try.prog 97 #[.pointer (some ⟨b, 0, none⟩), .int .i64 x] w fun e w' => e = .returned (.int .i64 5) ∧ Drawn w w' := by
  have c0 := cell_of_block h.hb 0
  have c2 := cell_of_block h.hb 2
  have e1 : ((k : Int) == (room.length : Int)) = true := beq_iff_eq.2 (by omega)
  go_enter Try.func97, Try.ntmps97
  go_wp2
  go_quiet (fail)
  go_wp2
  go_ret
  exact ⟨rfl, _, rfl⟩
set_option maxHeartbeats 4000000 in
theorem Put_ok (b R f k : Nat) (room : List Int) (x : Int) (w : World) (h : LaneAt w b R room f k) (hk : k < room.length) :
    Calls Try.prog 97 #[.pointer (some ⟨b, 0, none⟩), .int .i64 x] w fun e w' => e = .returned (.int .i64 0) ∧ LaneAt w' b R (room.set ((f + k) % room.length) x) f (k + 1) ∧ Off b R w w' := by
  have c0 := cell_of_block h.hb 0
  have c2 := cell_of_block h.hb 2
  have hl := h.le
  have e1 : ((k : Int) == (room.length : Int)) = false := beq_eq_false_iff_ne.2 (by omega)
  go_enter Try.func97, Try.ntmps97
  go_wp2
  go_quiet (fail)
  go_wp2
  have hd : Drawn w (w.drewN nq) := ⟨nq, rfl⟩
  generalize w.drewN nq = w1 at *
  have d0 : w1.cell? ⟨b, 0, none⟩ = some (.slice (some ⟨R, 0, none⟩) room.length room.length) := cell_of_block (h.drew hd).hb 0
  have d2 : w1.cell? ⟨b, 2, none⟩ = some (.int .i64 k) := cell_of_block (h.drew hd).hb 2
  have e0 : w1.cell? ⟨R, (f + k) % room.length, none⟩ = some (.int .i64 (room.getD ((f + k) % room.length) 0)) := by
    have hlt : (f + k) % room.length < room.length := Nat.mod_lt _ (by omega)
    rw [cell_of_block (h.drew hd).hR]
    simp [List.getD_eq_getElem?_getD, List.getElem?_eq_getElem hlt]
  have g0 : w1.frozen? ⟨R, (f + k) % room.length, none⟩ = false := free_of_block (h.drew hd).hR _
  obtain ⟨j, hj⟩ : ∃ j, (f + k) % room.length = j := ⟨_, rfl⟩
  have hjl : j < room.length := hj ▸ Nat.mod_lt _ (by omega)
  have HJ := Lib.hid hj
  rw [hj] at e0 g0
  clear hj
  have gb : w1.frozen? ⟨b, 2, none⟩ = false := free_of_block (h.drew hd).hb _
  have hne := h.ne
  have hne' := Ne.symm h.ne
  have ek : wrap64 ((k : Int) + 1) = ((k + 1 : Nat) : Int) := by unfold wrap64; omega
  have i0 : (0 : Int) ≤ (j : Int) := by omega
  have i1 : (j : Int) < (room.length : Int) := by omega
  go_region_with (go_at_call 106; refine (at_j b R f k k j room _ ?_ ?_ HJ.out).mono ?_; (exact h.drew (by repeat (first | assumption | refine Drawn.stepS ?_ | refine Drawn.drewS ?_))); omega; rintro e w' ⟨rfl, n, rfl⟩)
  all_goals go_wp2
  all_goals go_ret
  all_goals exact ⟨rfl, put_done h (by repeat (first | assumption | refine Drawn.stepS ?_ | refine Drawn.drewS ?_)) hk HJ.out⟩
end Go.Proofs.Ytiofdkkjjeljmaa.Lane

/- More contracts of the package lane: Take, New, what a nil lane tells, and the chapter's example. -/
namespace Go.Proofs.Ytiofdkkjjeljmaa.Lane
set_option linter.unusedVariables false
set_option linter.unusedSimpArgs false
open Go.RowKit

theorem Take_nil (w : World) : Calls Try.prog 99 #[.pointer none] w fun e w' => e = .returned (.tuple #[.int .i64 0, .int .i64 1]) ∧ w' = w := by
  go_enter Try.func99, Try.ntmps99
  go_wp2
  go_ret2
  exact ⟨rfl, rfl⟩
theorem Take_none (b R f : Nat) (room : List Int) (w : World) (h : LaneAt w b R room f 0) :
    Calls Try.prog 99 #[.pointer (some ⟨b, 0, none⟩)] w fun e w' => e = .returned (.tuple #[.int .i64 0, .int .i64 6]) ∧ w' = w := by
  have c2 : w.cell? ⟨b, 2, none⟩ = some (.int .i64 0) := cell_of_block h.hb 2
  go_enter Try.func99, Try.ntmps99
  go_wp2
  go_ret2
  exact ⟨rfl, rfl⟩
theorem take_done {w w1 : World} {b R f k j : Nat} {room : List Int} (h : LaneAt w b R room f (k + 1)) (hd : Drawn w w1) (hj : (f + 1) % room.length = j) :
    LaneAt ((w1.setCell ⟨b, 1, none⟩ (.int .i64 j)).setCell ⟨b, 2, none⟩ (.int .i64 k)) b R room ((f + 1) % room.length) k ∧
    Off b R w ((w1.setCell ⟨b, 1, none⟩ (.int .i64 j)).setCell ⟨b, 2, none⟩ (.int .i64 k)) := by
  have h1 := h.drew hd
  have s1 := heap_setCell_same h1.hb (i := 1) (.int .i64 j)
  have s3 := heap_setCell_same s1 (i := 2) (.int .i64 k)
  have hk := h.kle
  have hp := h.pos
  refine ⟨⟨?_, ?_, h.pos, h.le, Nat.mod_lt _ (by omega), by omega, h.ne⟩, ((((Off.refl b R w).drawn hd).set b 1 _ (.inl rfl)).set b 2 _ (.inl rfl))⟩
  · rw [s3, hj]
    rfl
  · rw [heap_setCell_other _ (Ne.symm h.ne), heap_setCell_other _ (Ne.symm h.ne)]
    exact h1.hR
set_option maxHeartbeats 4000000 in
theorem Take_ok (b R f k : Nat) (room : List Int) (w : World) (h : LaneAt w b R room f (k + 1)) :
    Calls Try.prog 99 #[.pointer (some ⟨b, 0, none⟩)] w fun e w' => e = .returned (.tuple #[.int .i64 (room.getD f 0), .int .i64 0]) ∧ LaneAt w' b R room ((f + 1) % room.length) k ∧ Off b R w w' := by
  have hl := h.le
  have hf := h.flt
  have c0 : w.cell? ⟨b, 0, none⟩ = some (.slice (some ⟨R, 0, none⟩) room.length room.length) := cell_of_block h.hb 0
  have c1 : w.cell? ⟨b, 1, none⟩ = some (.int .i64 f) := cell_of_block h.hb 1
  have c2 : w.cell? ⟨b, 2, none⟩ = some (.int .i64 ((k + 1 : Nat) : Int)) := cell_of_block h.hb 2
  have cR : w.cell? ⟨R, f, none⟩ = some (.int .i64 (room.getD f 0)) := by
    rw [cell_of_block h.hR]
    simp [List.getD_eq_getElem?_getD, List.getElem?_eq_getElem hf]
  have gb1 : w.frozen? ⟨b, 1, none⟩ = false := free_of_block h.hb _
  have gb2 : w.frozen? ⟨b, 2, none⟩ = false := free_of_block h.hb _
  have e1 : (((k + 1 : Nat) : Int) == 0) = false := beq_eq_false_iff_ne.2 (by omega)
  have i0 : (0 : Int) ≤ (f : Int) := by omega
  have i1 : (f : Int) < (room.length : Int) := by omega
  generalize room.getD f 0 = x at *
  have hkl := h.kle
  have ek : wrap64 (((k + 1 : Nat) : Int) - 1) = (k : Int) := by unfold wrap64; omega
  generalize hk1 : ((k + 1 : Nat) : Int) = k1 at *
  go_enter Try.func99, Try.ntmps99
  go_wp2
  go_quiet (fail)
  go_wp2_with fail
  obtain ⟨j, hj⟩ : ∃ j, (f + 1) % room.length = j := ⟨_, rfl⟩
  have HJ := Lib.hid hj
  have hA := at_j b R f (k + 1) 1 j room (w.drewN nq) (h.drew ⟨nq, rfl⟩) (by omega) hj
  clear hj
  refine hA.mono ?_
  clear hA
  rintro e w' ⟨rfl, n, rfl⟩
  go_wp2
  go_ret2
  have ek2 : k1 - 1 = (k : Int) := by omega
  rw [ek2]
  exact ⟨rfl, take_done h ⟨_, rfl⟩ HJ.out⟩
theorem Clear_nil (w : World) : Calls Try.prog 102 #[.pointer none] w fun e w' => e = .returned (.int .i64 0) ∧ w' = w := by
  go_enter Try.func102, Try.ntmps102
  go_wp2_with (go_at_call 76; refine (Len_nil _).mono ?_; rintro e w' ⟨rfl, rfl⟩)
  go_ret
  exact ⟨rfl, rfl⟩
theorem All_nil (w : World) : Calls Try.prog 89 #[.pointer none] w fun e w' => e = .returned (.slice none 0 0) ∧ w' = w := by
  go_enter Try.func89, Try.ntmps89
  go_wp2_with (go_at_call 76; refine (Len_nil _).mono ?_; rintro e w' ⟨rfl, rfl⟩)
  refine wp_loop_rounds 1 ?_
  rw [rounds_succ]
  go_wp2
  go_ret
  exact ⟨rfl, rfl⟩
theorem Clone_nil (w : World) : Calls Try.prog 90 #[.pointer none] w fun e w' => e = .returned (.pointer none) ∧ w' = w := by
  go_enter Try.func90, Try.ntmps90
  go_wp2
  go_ret
  exact ⟨rfl, rfl⟩
theorem New_no (n : Int) (hn : n < 1 ∨ 64 < n) (w : World) : Calls Try.prog 67 #[.int .i64 n] w fun e w' => e = .returned (.pointer none) ∧ w' = w := by
  by_cases h1 : n < 1
  · go_enter Try.func67, Try.ntmps67
    go_wp2
    go_ret
    exact ⟨rfl, rfl⟩
  · have h0 : decide (n < 1) = false := decide_eq_false h1
    have h2 : n > 64 := by omega
    go_enter Try.func67, Try.ntmps67
    go_wp2
    go_ret
    exact ⟨rfl, rfl⟩
theorem info_int : (Try.prog.info? 3).map (fun i => (i.zero, i.size, i.bytes)) = some (some (.int .i64 0), 1, 8) := by kernel_rfl
theorem made_ints (n : Nat) : madeCells (Value.cells (.int .i64 0)) (n * 1) = ((List.replicate n (0 : Int)).map (Value.int .i64)).toArray := by
  apply Array.ext
  · simp [madeCells]
  · intro i h1 h2
    simp [madeCells, Value.cells, Nat.mod_one]
theorem run_mk (n : Nat) (h2 : n ≤ 65536) (w : World) : (Instr.makeSlice 31 (.int .i64 n) (.int .i64 n)).run Try.prog w = .ok (.slice (some ⟨w.heap.size, 0, none⟩) n n) (w.alloc (.cells ((List.replicate n (0 : Int)).map (Value.int .i64)).toArray 3)) := by
  obtain ⟨i, hi, hz, hs, hb⟩ : ∃ i, Try.prog.info? 3 = some i ∧ i.zero = some (.int .i64 0) ∧ i.size = 1 ∧ i.bytes = 8 := by
    have h := info_int
    cases hi : Try.prog.info? 3 with
    | none => rw [hi] at h; cases h
    | some i =>
      rw [hi] at h
      simp at h
      exact ⟨i, rfl, h.1, h.2.1, h.2.2⟩
  have h := run_makeSlice w 31 3 i (.int .i64 0) Try.underlying31 hi hz .i64 .i64 n n (by omega) (Int.le_refl _) (by rw [hs]; simp; omega) (by rw [hb]; omega) (by omega)
  rw [hs, Int.toNat_natCast, made_ints] at h
  exact h
theorem new_done (n : Nat) (h1 : 1 ≤ n) (h2 : n ≤ 64) (w : World) :
    LaneAt ((w.alloc (Obj.cells (Array.replicate n (Value.int IntKind.i64 0)) 3)).alloc (Obj.cells #[Value.slice (some ⟨w.heap.size, 0, none⟩) n n, Value.int IntKind.i64 0, Value.int IntKind.i64 0] 165)) (w.heap.size + 1) w.heap.size (List.replicate n 0) 0 0 := by
  have hs : (w.alloc (Obj.cells (Array.replicate n (Value.int IntKind.i64 0)) 3)).heap.size = w.heap.size + 1 := by simp
  refine ⟨?_, ?_, by simpa using h1, by simpa using h2, by simpa using (show 0 < n by omega), by simp, by omega⟩
  · rw [List.length_replicate]
    have := block_new (w.alloc (Obj.cells (Array.replicate n (Value.int IntKind.i64 0)) 3)) (Obj.cells #[Value.slice (some ⟨w.heap.size, 0, none⟩) n n, Value.int IntKind.i64 0, Value.int IntKind.i64 0] 165)
    rw [hs] at this
    exact this
  · have h0 := block_new w (Obj.cells (Array.replicate n (Value.int IntKind.i64 0)) 3)
    have h3 := block_up ((Up.refl (w.alloc (Obj.cells (Array.replicate n (Value.int IntKind.i64 0)) 3))).alloc (Obj.cells #[Value.slice (some ⟨w.heap.size, 0, none⟩) n n, Value.int IntKind.i64 0, Value.int IntKind.i64 0] 165)) h0
    rw [h3]
    simp
set_option maxHeartbeats 1000000 in
theorem New_ok (n : Nat) (h1 : 1 ≤ n) (h2 : n ≤ 64) (w : World) : Calls Try.prog 67 #[.int .i64 n] w fun e w' => ∃ b R, e = .returned (.pointer (some ⟨b, 0, none⟩)) ∧ LaneAt w' b R (List.replicate n 0) 0 0 ∧ Up w w' ∧ w.heap.size ≤ b ∧ w.heap.size ≤ R := by
  have d1 : decide ((n : Int) < 1) = false := decide_eq_false (by omega)
  have d2 : decide ((n : Int) > 64) = false := decide_eq_false (by omega)
  go_enter Try.func67, Try.ntmps67
  have hm := fun wx => run_mk n (by omega) wx
  go_wp2
  go_ret
  exact ⟨w.heap.size + 1, w.heap.size, rfl, new_done n h1 h2 w, ((Up.refl w).alloc _).alloc _, by omega, by omega⟩
theorem Up.of_off {b R : Nat} {a w w' : World} (h : Up a w) (ho : Off b R w w') (hb : a.heap.size ≤ b) (hR : a.heap.size ≤ R) : Up a w' :=
  ⟨ho.os.trans h.os, ho.tape.trans h.tape, ho.output.trans h.output, Nat.le_trans h.size ho.size, fun k hk => (ho.block k (Nat.lt_of_lt_of_le hk h.size) (by omega) (by omega)).trans (h.block k hk)⟩
end Go.Proofs.Ytiofdkkjjeljmaa.Lane

/- Contracts of Clear and At of a lane that is one. -/
namespace Go.Proofs.Ytiofdkkjjeljmaa.Lane
set_option linter.unusedVariables false
set_option linter.unusedSimpArgs false
open Go.RowKit

theorem Clear_ok (b R f k : Nat) (room : List Int) (w : World) (h : LaneAt w b R room f k) :
    Calls Try.prog 102 #[.pointer (some ⟨b, 0, none⟩)] w fun e w' => e = .returned (.int .i64 k) ∧ LaneAt w' b R room f 0 ∧ Off b R w w' := by
  have HL := Lib.hid h
  have gb2 : w.frozen? ⟨b, 2, none⟩ = false := free_of_block h.hb _
  have c2 : w.cell? ⟨b, 2, none⟩ = some (.int .i64 k) := cell_of_block h.hb 2
  by_cases hk : k = 0
  · subst hk
    go_enter Try.func102, Try.ntmps102
    go_wp2_with (go_at_call 76; refine (Len_walk b R f 0 room _ HL.out).mono ?_; rintro e w' ⟨rfl, rfl⟩)
    go_ret
    exact ⟨rfl, HL.out, Off.refl _ _ _⟩
  · have hgt : ((k : Int) > 0) := by omega
    go_enter Try.func102, Try.ntmps102
    go_wp2_with (go_at_call 76; refine (Len_walk b R f k room _ HL.out).mono ?_; rintro e w' ⟨rfl, rfl⟩)
    go_ret
    refine ⟨rfl, ⟨?_, ?_, h.pos, h.le, h.flt, Nat.zero_le _, h.ne⟩, (Off.refl b R _).set b 2 _ (.inl rfl)⟩
    · rw [heap_setCell_same h.hb]
      rfl
    · rw [heap_setCell_other _ (Ne.symm h.ne)]
      exact h.hR
end Go.Proofs.Ytiofdkkjjeljmaa.Lane

/- The contract of All: a lane's numbers, in a row of the call's own. -/
namespace Go.Proofs.Ytiofdkkjjeljmaa.Lane
set_option linter.unusedVariables false
set_option linter.unusedSimpArgs false
open Go.RowKit

/-- The first i numbers of a lane. -/
def row (room : List Int) (f : Nat) (i : Nat) : List Int := (List.range i).map fun j => room.getD ((f + j) % room.length) 0
theorem row_succ (room : List Int) (f i : Nat) : row room f (i + 1) = row room f i ++ [room.getD ((f + i) % room.length) 0] := by
  simp [row, List.range_succ]
theorem row_len (room : List Int) (f i : Nat) : (row room f i).length = i := by simp [row]
theorem own_drewN {w : World} {base : Nat} {e : TypeId} {size : Nat} {v : Value} {n : Nat} {xs : List Value} (h : w.ownsRow base e size v n xs) (m : Nat) : (w.drewN m).ownsRow base e size v n xs := h
theorem own_far {w : World} {base : Nat} {e : TypeId} {size : Nat} {v : Value} {n : Nat} {xs : List Value} (h : w.ownsRow base e size v n xs) {b : Nat} (hb : b < base) : v.ownBlock ≠ some b := by
  intro hv
  obtain ⟨_, h⟩ := h
  rcases h with ⟨rfl, _⟩ | ⟨g, cap, cs, rfl, hg, _⟩
  · cases hv
  · have : g = b := by simpa [Value.ownBlock] using hv
    omega
theorem lane_lt {w : World} {b R f k : Nat} {room : List Int} (h : LaneAt w b R room f k) : R < w.heap.size := by
  have h1 := h.hR
  rcases Nat.lt_or_ge R w.heap.size with h' | h'
  · exact h'
  · simp [Array.getElem?_eq_none h'] at h1
set_option maxHeartbeats 8000000 in
set_option maxRecDepth 100000 in
theorem All_ok (b R f k : Nat) (room : List Int) (w : World) (h : LaneAt w b R room f k) :
    Calls Try.prog 89 #[.pointer (some ⟨b, 0, none⟩)] w fun e w' => ∃ v : Value, e = .returned v ∧ w'.ownsRow w.heap.size 3 1 v k ((row room f k).map (Value.int .i64)) ∧ Up w w' := by
  have HL := Lib.hid h
  have hkl := h.kle
  have hle := h.le
  have hp := h.pos
  clear h
  go_enter Try.func89, Try.ntmps89
  go_wp2_with (go_at_call 76; refine (Len_walk b R f k room _ HL.out).mono ?_; rintro e w' ⟨rfl, rfl⟩)
  go_loopw [7, 3] (fun v7 v3 wx => ∃ i : Nat, i ≤ k ∧ v7 = .int .i64 i ∧ Hid (wx.ownsRow w'.heap.size 3 1 v3 i ((row room f i).map (Value.int .i64))) ∧ Hid (Up w' wx)) (fun v7 _ _ => k - (intOf v7).toNat)
  case atStart => exact ⟨0, Nat.zero_le _, rfl, Lib.hid (World.ownsRow_nil _ _ _ _), Lib.hid (Up.refl _)⟩
  case round =>
    obtain ⟨i, hi, rfl, HO, HU⟩ := hrel
    by_cases hlt : i < k
    · obtain ⟨j, hj⟩ : ∃ j, (f + i) % room.length = j := ⟨_, rfl⟩
      have hjl : j < room.length := hj ▸ Nat.mod_lt _ (by omega)
      have HJ := Lib.hid hj
      have HS := Lib.hid (row_succ room f i)
      rw [hj] at HS
      clear hj
      have hL := HL.out.up HU.out
      have c0 : wr.cell? ⟨b, 0, none⟩ = some (.slice (some ⟨R, 0, none⟩) room.length room.length) := cell_of_block hL.hb 0
      have cR : wr.cell? ⟨R, j, none⟩ = some (.int .i64 (room.getD j 0)) := by
        rw [cell_of_block hL.hR]
        simp [List.getD_eq_getElem?_getD, List.getElem?_eq_getElem hjl]
      have HL2 := Lib.hid hL
      have nb : u3.ownBlock ≠ some b := own_far HO.out (by have := World.block_lt_of_cell? w' _ (cell_of_block HL.out.hb 0); exact this)
      have nR : u3.ownBlock ≠ some R := own_far HO.out (lane_lt HL.out)
      clear hL
      generalize room.getD j 0 = x at *
      have i0 : (0 : Int) ≤ (j : Int) := by omega
      have i1 : (j : Int) < (room.length : Int) := by omega
      obtain ⟨t0, ht0, hz0, hz1, hz2⟩ : ∃ i, Try.prog.info? 3 = some i ∧ i.zero = some (.int .i64 0) ∧ i.size = 1 ∧ i.bytes = 8 := by
        have h := info_int
        cases hi : Try.prog.info? 3 with
        | none => rw [hi] at h; cases h
        | some i =>
          rw [hi] at h
          simp at h
          exact ⟨i, rfl, h.1, h.2.1, h.2.2⟩
      have hxs : ((row room f i).map (Value.int .i64)).length = i := by rw [List.length_map, row_len]
      have hsz := HU.out.size
      have lb : b < wr.heap.size := World.block_lt_of_cell? wr _ c0
      have lR : R < wr.heap.size := World.block_lt_of_cell? wr _ cR
      go_wp2
      go_region_held3 (fun wx => wx.cell? ⟨b, 0, none⟩ = some (.slice (some ⟨R, 0, none⟩) room.length room.length) ∧ wx.cell? ⟨R, j, none⟩ = some (.int .i64 x))
        (first
          | go_keep
          | (go_split_ands
             refine ⟨?_, ?_⟩
             · (rw [hgrow.cell_far _ (by simp; omega) (Ne.symm nb)]; assumption)
             · (rw [hgrow.cell_far _ (by simp; omega) (Ne.symm nR)]; assumption)))
        (first
          | (go_at_call 106; refine (at_j b R f k i j room _ ?_ ?_ HJ.out).mono ?_; (exact HL2.out.drew (by repeat (first | exact Drawn.refl _ | refine Drawn.stepS ?_ | refine Drawn.drewS ?_))); omega; rintro e w2 ⟨rfl, n, rfl⟩)
          | (refine step_append_lies _ (by rfl) _ _ _ (by rfl) w'.heap.size 3 t0 _ 1 8 Try.underlying31 ht0 hz0 hz1 hz2 rfl (by omega) u3 i _ (by rfl) (own_drewN (HO.out.alloc _) _)
              ⟨wr.heap.size, 0, none⟩ 1 1 [.int .i64 x] (by rfl) (by rfl) (World.news_of_block (cs := #[.int .i64 x]) (t := 3) (fr := (0, 0)) (heap_alloc_new wr _)) (by simp [Value.oneCell'])
              (by omega) (by unfold maxLen; omega) (by omega) (by simp; omega) (wr.heap.size + 1) (by simp) ?_; intro gg cap w1 hown1 hgrow hat hlt2))
      have HO2 := Lib.hid hown1
      have HU2 : Hid (Up w' w1) := Lib.hid (Up.trans_grown ((HU.out.alloc _).drewN _) hgrow (fun q hq => by
        rcases Nat.lt_or_ge q w'.heap.size with h1 | h1
        · exact absurd hq (own_far HO.out h1)
        · exact h1))
      clear hown1 hgrow
      go_wp2
      go_roundw
      case rel =>
        refine ⟨i + 1, by omega, by go_num, ?_, HU2⟩
        rw [HS.out, List.map_append]
        exact HO2
      case measure => simp [intOf]; omega
    · obtain rfl : i = k := by omega
      go_wp2
      go_ret
      exact ⟨_, rfl, HO.out, HU.out⟩
end Go.Proofs.Ytiofdkkjjeljmaa.Lane

/- A lane as a list of numbers, and what a call of the law's 'do' turns it into. -/
namespace Go.Proofs.Ytiofdkkjjeljmaa.Lane
set_option linter.unusedVariables false
set_option linter.unusedSimpArgs false
open Go.RowKit

/-- A lane with room for n that has the numbers q. -/
def QAt (w : World) (b R n : Nat) (q : List Int) : Prop := ∃ room f, LaneAt w b R room f q.length ∧ room.length = n ∧ row room f q.length = q
theorem QAt.up {w w' : World} {b R n : Nat} {q : List Int} (h : QAt w b R n q) (hu : Up w w') : QAt w' b R n q := by
  obtain ⟨room, f, h1, h2, h3⟩ := h
  exact ⟨room, f, h1.up hu, h2, h3⟩
theorem QAt.drew {w w' : World} {b R n : Nat} {q : List Int} (h : QAt w b R n q) (hu : Drawn w w') : QAt w' b R n q := h.up hu.up
theorem QAt.le {w : World} {b R n : Nat} {q : List Int} (h : QAt w b R n q) : q.length ≤ n ∧ n ≤ 64 := by
  obtain ⟨room, f, h1, h2, h3⟩ := h
  exact ⟨h2 ▸ h1.kle, h2 ▸ h1.le⟩
theorem Off.trans {b R : Nat} {a w w' : World} (h : Off b R a w) (k : Off b R w w') : Off b R a w' :=
  ⟨k.os.trans h.os, k.tape.trans h.tape, k.output.trans h.output, Nat.le_trans h.size k.size, fun q hq hb hR => (k.block q (Nat.lt_of_lt_of_le hq h.size) hb hR).trans (h.block q hq hb hR)⟩
theorem Off.of_up {b R : Nat} {w w' : World} (h : Up w w') : Off b R w w' := ⟨h.os, h.tape, h.output, h.size, fun k hk _ _ => h.block k hk⟩
theorem getD_set_same (l : List Int) (j : Nat) (x : Int) (h : j < l.length) : (l.set j x).getD j 0 = x := by
  simp [List.getD_eq_getElem?_getD, h]
theorem getD_set_other (l : List Int) (i j : Nat) (x : Int) (h : i ≠ j) : (l.set j x).getD i 0 = l.getD i 0 := by
  simp [List.getD_eq_getElem?_getD, List.getElem?_set, Ne.symm h]
theorem mod_ne {f i k n : Nat} (hi : i < k) (hk : k < n) : (f + i) % n ≠ (f + k) % n := by
  intro h
  have h1 := Nat.div_add_mod (f + i) n
  have h2 := Nat.div_add_mod (f + k) n
  rw [h] at h1
  have h3 : n * ((f + k) / n) - n * ((f + i) / n) = k - i := by omega
  rw [← Nat.mul_sub] at h3
  rcases Nat.eq_zero_or_pos ((f + k) / n - (f + i) / n) with h4 | h4
  · rw [h4] at h3; omega
  · have : n * 1 ≤ n * ((f + k) / n - (f + i) / n) := Nat.mul_le_mul_left _ h4
    omega
theorem row_set (room : List Int) (f k : Nat) (x : Int) (hk : k < room.length) : ∀ i, i ≤ k → row (room.set ((f + k) % room.length) x) f i = row room f i
  | 0, _ => rfl
  | i + 1, h => by
    rw [row_succ, row_succ, row_set room f k x hk i (by omega), List.length_set, getD_set_other _ _ _ _ (mod_ne (by omega) hk)]
theorem row_put (room : List Int) (f k : Nat) (x : Int) (hk : k < room.length) : row (room.set ((f + k) % room.length) x) f (k + 1) = row room f k ++ [x] := by
  rw [row_succ, row_set room f k x hk k (Nat.le_refl _), List.length_set, getD_set_same _ _ _ (Nat.mod_lt _ (by omega))]
theorem row_take (room : List Int) (f : Nat) (hp : 0 < room.length) (hf : f < room.length) : ∀ k, row room f (k + 1) = room.getD f 0 :: row room ((f + 1) % room.length) k
  | 0 => by
    rw [row_succ]
    simp [row, Nat.mod_eq_of_lt hf]
  | k + 1 => by
    rw [row_succ, row_take room f hp hf k, row_succ room _ k, List.cons_append]
    congr 3
    congr 1
    rw [show f + (k + 1) = f + 1 + k by omega, Nat.mod_add_mod]
theorem row_getD (room : List Int) (f k i : Nat) (h : i < k) : (row room f k).getD i 0 = room.getD ((f + i) % room.length) 0 := by
  simp [row, List.getD_eq_getElem?_getD, h]

/-- What a call turns the numbers into, what it tells, and the error. -/
def doL (n : Nat) (q : List Int) (a x : Int) : List Int × Int × Int :=
  if a = 0 then (if q.length = n then (q, 0, 5) else (q ++ [x], 0, 0))
  else if a = 1 then (match q with | [] => ([], 0, 6) | y :: t => (t, y, 0))
  else if a = 2 then ([], q.length, 0)
  else if 0 ≤ x ∧ x < q.length then (q, q.getD x.toNat 0, 1) else (q, 0, 0)
theorem Put_q (b R n : Nat) (q : List Int) (x : Int) (w : World) (h : QAt w b R n q) :
    Calls Try.prog 97 #[.pointer (some ⟨b, 0, none⟩), .int .i64 x] w fun e w' => e = .returned (.int .i64 (doL n q 0 x).2.2) ∧ QAt w' b R n (doL n q 0 x).1 ∧ Off b R w w' := by
  obtain ⟨room, f, h1, h2, h3⟩ := h
  have hk := h1.kle
  by_cases hn : q.length = n
  · have e : doL n q 0 x = (q, 0, 5) := by simp [doL, hn]
    rw [e]
    refine (Put_full b R f _ room x w h1 (by omega)).mono ?_
    rintro e w' ⟨rfl, hd⟩
    exact ⟨rfl, ⟨room, f, h1.drew hd, h2, h3⟩, Off.of_up hd.up⟩
  · have e : doL n q 0 x = (q ++ [x], 0, 0) := by simp [doL, hn]
    rw [e]
    refine (Put_ok b R f _ room x w h1 (by omega)).mono ?_
    rintro e w' ⟨rfl, hl, ho⟩
    refine ⟨rfl, ⟨room.set ((f + q.length) % room.length) x, f, ?_, ?_, ?_⟩, ho⟩
    · show LaneAt w' b R (room.set ((f + q.length) % room.length) x) f (q ++ [x]).length
      rw [List.length_append]
      exact hl
    · rw [List.length_set]; exact h2
    · show row (room.set ((f + q.length) % room.length) x) f (q ++ [x]).length = q ++ [x]
      rw [List.length_append]
      show row (room.set ((f + q.length) % room.length) x) f (q.length + 1) = _
      rw [row_put _ _ _ _ (by omega), h3]
theorem Take_q (b R n : Nat) (q : List Int) (x : Int) (w : World) (h : QAt w b R n q) :
    Calls Try.prog 99 #[.pointer (some ⟨b, 0, none⟩)] w fun e w' => e = .returned (.tuple #[.int .i64 (doL n q 1 x).2.1, .int .i64 (doL n q 1 x).2.2]) ∧ QAt w' b R n (doL n q 1 x).1 ∧ Off b R w w' := by
  obtain ⟨room, f, h1, h2, h3⟩ := h
  have hk := h1.kle
  have hp := h1.pos
  cases q with
  | nil =>
    refine (Take_none b R f room w h1).mono ?_
    rintro e w' ⟨rfl, rfl⟩
    exact ⟨rfl, ⟨room, f, h1, h2, h3⟩, Off.refl _ _ _⟩
  | cons y t =>
    have h4 := row_take room f (by omega) h1.flt t.length
    have h5 : row room f (t.length + 1) = y :: t := h3
    rw [h4] at h5
    injection h5 with h6 h7
    have e : doL n (y :: t) 1 x = (t, y, 0) := by simp [doL]
    rw [e]
    refine (Take_ok b R f t.length room w h1).mono ?_
    rintro e w' ⟨rfl, hl, ho⟩
    exact ⟨by rw [h6], ⟨room, _, hl, h2, h7⟩, ho⟩
theorem Clear_q (b R n : Nat) (q : List Int) (x : Int) (w : World) (h : QAt w b R n q) :
    Calls Try.prog 102 #[.pointer (some ⟨b, 0, none⟩)] w fun e w' => e = .returned (.int .i64 (doL n q 2 x).2.1) ∧ QAt w' b R n (doL n q 2 x).1 ∧ Off b R w w' := by
  obtain ⟨room, f, h1, h2, h3⟩ := h
  have e : doL n q 2 x = ([], (q.length : Int), 0) := by simp [doL]
  rw [e]
  refine (Clear_ok b R f _ room w h1).mono ?_
  rintro e w' ⟨rfl, hl, ho⟩
  exact ⟨rfl, ⟨room, f, hl, h2, rfl⟩, ho⟩
end Go.Proofs.Ytiofdkkjjeljmaa.Lane

