/- Contracts of the package lane, over a predicate on its two blocks. -/
import Derived.Test.YtmfpahdbjcpmkaaProg
import Derived.Test.YtmfpahdbjcpmkaaBase
import Derived.Deep.QuietTactic
import Derived.BigQuiet
import Derived.StillTailTactics
import Derived.Deep.RegionHeld3
import Derived.Deep.RegionWith
namespace Go.Proofs.Ytmfpahdbjcpmkaa.Lane
set_option linter.unusedVariables false
set_option linter.unusedSimpArgs false
open Go.RowKit

/-- A lane in memory: block b holds its three fields, block R its room. -/
structure LaneAt (w : World) (b R : Nat) (room : List Int) (f k : Nat) : Prop where
  hb : w.heap[b]? = some (.cells #[.slice (some ⟨R, 0, none⟩) room.length room.length, .int .i64 f, .int .i64 k] 57 (0, 0))
  hR : w.heap[R]? = some (.cells (room.map (Value.int .i64)).toArray 3 (0, 0))
  pos : 1 ≤ room.length
  le : room.length ≤ 64
  flt : f < room.length
  kle : k ≤ room.length
  ne : b ≠ R
/-- Off two blocks nothing old has turned. -/
structure Off (b R : Nat) (w w' : World) : Prop where
  os : w'.os = w.os
  tape : w'.tape = w.tape
  output : w'.output = w.output
  size : w.heap.size ≤ w'.heap.size
  block : ∀ k, k < w.heap.size → k ≠ b → k ≠ R → w'.heap[k]? = w.heap[k]?
theorem LaneAt.drew {w w' : World} {b R f k : Nat} {room : List Int} (h : LaneAt w b R room f k) (hd : Drawn w w') : LaneAt w' b R room f k := by
  obtain ⟨n, rfl⟩ := hd
  exact ⟨by rw [World.heap_drewN]; exact h.hb, by rw [World.heap_drewN]; exact h.hR, h.pos, h.le, h.flt, h.kle, h.ne⟩
theorem LaneAt.up {w w' : World} {b R f k : Nat} {room : List Int} (h : LaneAt w b R room f k) (hu : Up w w') : LaneAt w' b R room f k :=
  ⟨block_up hu h.hb, block_up hu h.hR, h.pos, h.le, h.flt, h.kle, h.ne⟩

theorem heap_setCell_other {w : World} {b i k : Nat} (v : Value) (h : k ≠ b) : (w.setCell ⟨b, i, none⟩ v).heap[k]? = w.heap[k]? := by
  simp only [World.setCell]
  rw [Array.getElem?_modify]
  simp [Ne.symm h]
theorem set_cells (room : List Int) (j : Nat) (x : Int) : ((room.map (Value.int .i64)).toArray.set! j (.int .i64 x)) = ((room.set j x).map (Value.int .i64)).toArray := by
  simp [List.map_set]
theorem Off.refl (b R : Nat) (w : World) : Off b R w w := ⟨rfl, rfl, rfl, Nat.le_refl _, fun _ _ _ _ => rfl⟩
theorem Off.drawn {b R : Nat} {a w w' : World} (h : Off b R a w) (hd : Drawn w w') : Off b R a w' := by
  obtain ⟨n, rfl⟩ := hd
  exact ⟨h.os, h.tape, h.output, by rw [World.heap_drewN]; exact h.size, fun k hk hb hR => by rw [World.heap_drewN]; exact h.block k hk hb hR⟩
theorem Off.set {b R : Nat} {a w : World} (h : Off b R a w) (c i : Nat) (v : Value) (hc : c = b ∨ c = R) : Off b R a (w.setCell ⟨c, i, none⟩ v) :=
  ⟨h.os, h.tape, h.output, by simpa [World.setCell] using h.size, fun k hk hb hR => by
    rw [heap_setCell_other v (by rcases hc with rfl | rfl <;> assumption)]
    exact h.block k hk hb hR⟩
theorem put_done {w w1 : World} {b R f k j : Nat} {room : List Int} {x : Int} (h : LaneAt w b R room f k) (hd : Drawn w w1) (hk : k < room.length) (hj : (f + k) % room.length = j) :
    LaneAt ((w1.setCell ⟨R, j, none⟩ (.int .i64 x)).setCell ⟨b, 2, none⟩ (.int .i64 ((k : Int) + 1))) b R (room.set ((f + k) % room.length) x) f (k + 1) ∧
    Off b R w ((w1.setCell ⟨R, j, none⟩ (.int .i64 x)).setCell ⟨b, 2, none⟩ (.int .i64 ((k : Int) + 1))) := by
  have h1 := h.drew hd
  have s1 := heap_setCell_same h1.hR (i := j) (.int .i64 x)
  have s2 : (w1.setCell ⟨R, j, none⟩ (.int .i64 x)).heap[b]? = _ := (heap_setCell_other _ h.ne).trans h1.hb
  have s3 := heap_setCell_same s2 (i := 2) (.int .i64 ((k : Int) + 1))
  refine ⟨⟨?_, ?_, ?_, ?_, ?_, ?_, h.ne⟩, ((((Off.refl b R w).drawn hd).set R j _ (.inr rfl)).set b 2 _ (.inl rfl))⟩
  · rw [s3, List.length_set]
    rfl
  · rw [heap_setCell_other _ (Ne.symm h.ne), s1, hj, ← set_cells]
    rfl
  · rw [List.length_set]; exact h.pos
  · rw [List.length_set]; exact h.le
  · rw [List.length_set]; exact h.flt
  · rw [List.length_set]; exact hk
@[simp] theorem Drawn.stepS {w w' : World} {n : Nat} (h : Drawn w w') : Drawn w (w'.drewN n) := h.step n
@[simp] theorem Drawn.drewS {w w' : World} (h : Drawn w w') : Drawn w w'.drew := h.step 1
theorem at_walk (b R f k i : Nat) (room : List Int) (w : World) (h : LaneAt w b R room f k) (hi : i ≤ 1000) :
    Calls Try.prog 30 #[.pointer (some ⟨b, 0, none⟩), .int .i64 i] w fun e w' => e = .returned (.int .i64 (((f + i) % room.length : Nat) : Int)) ∧ Drawn w w' := by
  have c0 := cell_of_block h.hb 0
  have c1 := cell_of_block h.hb 1
  have hl := h.le
  have hp := h.pos
  have hf := h.flt
  have e1 : IntKind.i64.wrap ((f : Int) + (i : Int)) = ((f + i : Nat) : Int) := by rw [IntKind.wrap_i64]; omega
  have e2 : ((f + i : Nat) : Int).tmod (room.length : Int) = (((f + i) % room.length : Nat) : Int) := by
    rw [Int.tmod_eq_emod_of_nonneg (by omega), Int.natCast_emod]
  have e3 : ((room.length : Int) == 0) = false := beq_eq_false_iff_ne.2 (by omega)
  have e4 : ¬ ((room.length : Int) = 0) := by omega
  go_enter Try.func30, Try.ntmps30
  go_wp2
  go_quiet (fail)
  go_wp2
  go_ret
  exact ⟨rfl, _, rfl⟩
theorem at_j (b R f k i j : Nat) (room : List Int) (w : World) (h : LaneAt w b R room f k) (hi : i ≤ 1000) (hj : (f + i) % room.length = j) :
    Calls Try.prog 30 #[.pointer (some ⟨b, 0, none⟩), .int .i64 i] w fun e w' => e = .returned (.int .i64 (j : Int)) ∧ Drawn w w' := by
  rw [← hj]
  exact at_walk b R f k i room w h hi
theorem Len_walk (b R f k : Nat) (room : List Int) (w : World) (h : LaneAt w b R room f k) :
    Calls Try.prog 14 #[.pointer (some ⟨b, 0, none⟩)] w fun e w' => e = .returned (.int .i64 k) ∧ w' = w := by
  have c2 := cell_of_block h.hb 2
  go_enter Try.func14, Try.ntmps14
  go_wp2
  go_ret
  exact ⟨rfl, rfl⟩
theorem Len_nil (w : World) : Calls Try.prog 14 #[.pointer none] w fun e w' => e = .returned (.int .i64 0) ∧ w' = w := by
  go_enter Try.func14, Try.ntmps14
  go_wp2
  go_ret
  exact ⟨rfl, rfl⟩
theorem Cap_walk (b R f k : Nat) (room : List Int) (w : World) (h : LaneAt w b R room f k) :
    Calls Try.prog 15 #[.pointer (some ⟨b, 0, none⟩)] w fun e w' => e = .returned (.int .i64 room.length) ∧ w' = w := by
  have c2 := cell_of_block h.hb 0
  go_enter Try.func15, Try.ntmps15
  go_wp2
  go_ret
  exact ⟨rfl, rfl⟩
theorem Cap_nil (w : World) : Calls Try.prog 15 #[.pointer none] w fun e w' => e = .returned (.int .i64 0) ∧ w' = w := by
  go_enter Try.func15, Try.ntmps15
  go_wp2
  go_ret
  exact ⟨rfl, rfl⟩
theorem Put_nil (x : Int) (w : World) : Calls Try.prog 26 #[.pointer none, .int .i64 x] w fun e w' => e = .returned (.int .i64 1) ∧ w' = w := by
  go_enter Try.func26, Try.ntmps26
  go_wp2
  go_ret
  exact ⟨rfl, rfl⟩
theorem Put_full (b R f k : Nat) (room : List Int) (x : Int) (w : World) (h : LaneAt w b R room f k) (hk : k = room.length) :
    Calls Try.prog 26 #[.pointer (some ⟨b, 0, none⟩), .int .i64 x] w fun e w' => e = .returned (.int .i64 5) ∧ Drawn w w' := by
  have c0 := cell_of_block h.hb 0
  have c2 := cell_of_block h.hb 2
  have e1 : ((k : Int) == (room.length : Int)) = true := beq_iff_eq.2 (by omega)
  go_enter Try.func26, Try.ntmps26
  go_wp2
  go_quiet (fail)
  go_wp2
  go_ret
  exact ⟨rfl, _, rfl⟩
set_option maxHeartbeats 4000000 in
theorem Put_ok (b R f k : Nat) (room : List Int) (x : Int) (w : World) (h : LaneAt w b R room f k) (hk : k < room.length) :
    Calls Try.prog 26 #[.pointer (some ⟨b, 0, none⟩), .int .i64 x] w fun e w' => e = .returned (.int .i64 0) ∧ LaneAt w' b R (room.set ((f + k) % room.length) x) f (k + 1) ∧ Off b R w w' := by
  have c0 := cell_of_block h.hb 0
  have c2 := cell_of_block h.hb 2
  have hl := h.le
  have e1 : ((k : Int) == (room.length : Int)) = false := beq_eq_false_iff_ne.2 (by omega)
  go_enter Try.func26, Try.ntmps26
  go_wp2
  go_quiet (fail)
  go_wp2
  have hd : Drawn w (w.drewN nq) := ⟨nq, rfl⟩
  generalize w.drewN nq = w1 at *
  have d0 : w1.cell? ⟨b, 0, none⟩ = some (.slice (some ⟨R, 0, none⟩) room.length room.length) := cell_of_block (h.drew hd).hb 0
  have d2 : w1.cell? ⟨b, 2, none⟩ = some (.int .i64 k) := cell_of_block (h.drew hd).hb 2
  have e0 : w1.cell? ⟨R, (f + k) % room.length, none⟩ = some (.int .i64 (room.getD ((f + k) % room.length) 0)) := by
    have hlt : (f + k) % room.length < room.length := Nat.mod_lt _ (by omega)
    rw [cell_of_block (h.drew hd).hR]
    simp [List.getD_eq_getElem?_getD, List.getElem?_eq_getElem hlt]
  have g0 : w1.frozen? ⟨R, (f + k) % room.length, none⟩ = false := free_of_block (h.drew hd).hR _
  obtain ⟨j, hj⟩ : ∃ j, (f + k) % room.length = j := ⟨_, rfl⟩
  have hjl : j < room.length := hj ▸ Nat.mod_lt _ (by omega)
  have HJ := Lib.hid hj
  rw [hj] at e0 g0
  clear hj
  have gb : w1.frozen? ⟨b, 2, none⟩ = false := free_of_block (h.drew hd).hb _
  have hne := h.ne
  have hne' := Ne.symm h.ne
  have ek : wrap64 ((k : Int) + 1) = ((k + 1 : Nat) : Int) := by unfold wrap64; omega
  have i0 : (0 : Int) ≤ (j : Int) := by omega
  have i1 : (j : Int) < (room.length : Int) := by omega
  go_region_with (go_at_call 30; refine (at_j b R f k k j room _ ?_ ?_ HJ.out).mono ?_; (exact h.drew (by repeat (first | assumption | refine Drawn.stepS ?_ | refine Drawn.drewS ?_))); omega; rintro e w' ⟨rfl, n, rfl⟩)
  all_goals go_wp2
  all_goals go_ret
  all_goals exact ⟨rfl, put_done h (by repeat (first | assumption | refine Drawn.stepS ?_ | refine Drawn.drewS ?_)) hk HJ.out⟩
end Go.Proofs.Ytmfpahdbjcpmkaa.Lane
