/- Contracts of Clear and At of a lane that is one. -/
import Derived.Test.YtmfpahdbjcpmkaaLane2
namespace Go.Proofs.Ytmfpahdbjcpmkaa.Lane
set_option linter.unusedVariables false
set_option linter.unusedSimpArgs false
open Go.RowKit

theorem Clear_ok (b R f k : Nat) (room : List Int) (w : World) (h : LaneAt w b R room f k) :
    Calls Try.prog 28 #[.pointer (some ⟨b, 0, none⟩)] w fun e w' => e = .returned (.int .i64 k) ∧ LaneAt w' b R room f 0 ∧ Off b R w w' := by
  have HL := Lib.hid h
  have gb2 : w.frozen? ⟨b, 2, none⟩ = false := free_of_block h.hb _
  have c2 : w.cell? ⟨b, 2, none⟩ = some (.int .i64 k) := cell_of_block h.hb 2
  by_cases hk : k = 0
  · subst hk
    go_enter Try.func28, Try.ntmps28
    go_wp2_with (go_at_call 14; refine (Len_walk b R f 0 room _ HL.out).mono ?_; rintro e w' ⟨rfl, rfl⟩)
    go_ret
    exact ⟨rfl, HL.out, Off.refl _ _ _⟩
  · have hgt : ((k : Int) > 0) := by omega
    go_enter Try.func28, Try.ntmps28
    go_wp2_with (go_at_call 14; refine (Len_walk b R f k room _ HL.out).mono ?_; rintro e w' ⟨rfl, rfl⟩)
    go_ret
    refine ⟨rfl, ⟨?_, ?_, h.pos, h.le, h.flt, Nat.zero_le _, h.ne⟩, (Off.refl b R _).set b 2 _ (.inl rfl)⟩
    · rw [heap_setCell_same h.hb]
      rfl
    · rw [heap_setCell_other _ (Ne.symm h.ne)]
      exact h.hR
theorem At_no (b R f k : Nat) (room : List Int) (i : Int) (w : World) (h : LaneAt w b R room f k) (hi : i < 0 ∨ (k : Int) ≤ i) :
    Calls Try.prog 29 #[.pointer (some ⟨b, 0, none⟩), .int .i64 i] w fun e w' => e = .returned (.tuple #[.int .i64 0, .bool false]) ∧ w' = w := by
  have HL := Lib.hid h
  by_cases h0 : i < 0
  · go_enter Try.func29, Try.ntmps29
    go_wp2
    go_ret2
    exact ⟨rfl, rfl⟩
  · have d0 : decide (i < 0) = false := decide_eq_false h0
    have hge : i ≥ (k : Int) := by omega
    go_enter Try.func29, Try.ntmps29
    go_wp2_with (go_at_call 14; refine (Len_walk b R f k room _ HL.out).mono ?_; rintro e w' ⟨rfl, rfl⟩)
    go_ret2
    exact ⟨rfl, rfl⟩
theorem At_ok (b R f k i : Nat) (room : List Int) (w : World) (h : LaneAt w b R room f k) (hi : i < k) :
    Calls Try.prog 29 #[.pointer (some ⟨b, 0, none⟩), .int .i64 i] w fun e w' => e = .returned (.tuple #[.int .i64 (room.getD ((f + i) % room.length) 0), .bool true]) ∧ Drawn w w' := by
  have HL := Lib.hid h
  have hkl := h.kle
  have hle := h.le
  have hp := h.pos
  obtain ⟨j, hj⟩ : ∃ j, (f + i) % room.length = j := ⟨_, rfl⟩
  have hjl : j < room.length := hj ▸ Nat.mod_lt _ (by omega)
  have HJ := Lib.hid hj
  rw [hj]
  clear hj
  have c0 : w.cell? ⟨b, 0, none⟩ = some (.slice (some ⟨R, 0, none⟩) room.length room.length) := cell_of_block h.hb 0
  have cR : w.cell? ⟨R, j, none⟩ = some (.int .i64 (room.getD j 0)) := by
    rw [cell_of_block h.hR]
    simp [List.getD_eq_getElem?_getD, List.getElem?_eq_getElem hjl]
  generalize room.getD j 0 = x at *
  have i0 : (0 : Int) ≤ (j : Int) := by omega
  have i1 : (j : Int) < (room.length : Int) := by omega
  have d0 : decide ((i : Int) < 0) = false := decide_eq_false (by omega)
  have d1 : decide ((i : Int) ≥ (k : Int)) = false := decide_eq_false (by omega)
  have d2 : ¬ ((k : Int) ≤ (i : Int)) := by omega
  go_enter Try.func29, Try.ntmps29
  go_wp2_with (go_at_call 14; refine (Len_walk b R f k room _ HL.out).mono ?_; rintro e w' ⟨rfl, rfl⟩)
  go_quiet ((go_at_call 30; refine Calls.quiet_of (at_j b R f k i j room _ (HL.out.drew (by repeat (first | exact Drawn.refl _ | refine Drawn.stepS ?_ | refine Drawn.drewS ?_))) (by omega) HJ.out)))
  go_wp2
  go_ret2
  exact ⟨rfl, _, rfl⟩
end Go.Proofs.Ytmfpahdbjcpmkaa.Lane
