/- The contract of All: a lane's numbers, in a row of the call's own. -/
import Derived.Test.YtmfpahdbjcpmkaaLane3
import Derived.Deep.AppendLies
import Derived.OwnWalk
import Derived.WalkSpells
import Derived.StillTactics
namespace Go.Proofs.Ytmfpahdbjcpmkaa.Lane
set_option linter.unusedVariables false
set_option linter.unusedSimpArgs false
open Go.RowKit

/-- The first i numbers of a lane. -/
def row (room : List Int) (f : Nat) (i : Nat) : List Int := (List.range i).map fun j => room.getD ((f + j) % room.length) 0
theorem row_succ (room : List Int) (f i : Nat) : row room f (i + 1) = row room f i ++ [room.getD ((f + i) % room.length) 0] := by
  simp [row, List.range_succ]
theorem row_len (room : List Int) (f i : Nat) : (row room f i).length = i := by simp [row]
theorem own_drewN {w : World} {base : Nat} {e : TypeId} {size : Nat} {v : Value} {n : Nat} {xs : List Value} (h : w.ownsRow base e size v n xs) (m : Nat) : (w.drewN m).ownsRow base e size v n xs := h
theorem own_far {w : World} {base : Nat} {e : TypeId} {size : Nat} {v : Value} {n : Nat} {xs : List Value} (h : w.ownsRow base e size v n xs) {b : Nat} (hb : b < base) : v.ownBlock ≠ some b := by
  intro hv
  obtain ⟨_, h⟩ := h
  rcases h with ⟨rfl, _⟩ | ⟨g, cap, cs, rfl, hg, _⟩
  · cases hv
  · have : g = b := by simpa [Value.ownBlock] using hv
    omega
theorem lane_lt {w : World} {b R f k : Nat} {room : List Int} (h : LaneAt w b R room f k) : R < w.heap.size := by
  have h1 := h.hR
  rcases Nat.lt_or_ge R w.heap.size with h' | h'
  · exact h'
  · simp [Array.getElem?_eq_none h'] at h1
set_option maxHeartbeats 8000000 in
set_option maxRecDepth 100000 in
theorem All_ok (b R f k : Nat) (room : List Int) (w : World) (h : LaneAt w b R room f k) :
    Calls Try.prog 17 #[.pointer (some ⟨b, 0, none⟩)] w fun e w' => ∃ v : Value, e = .returned v ∧ w'.ownsRow w.heap.size 3 1 v k ((row room f k).map (Value.int .i64)) ∧ Up w w' := by
  have HL := Lib.hid h
  have hkl := h.kle
  have hle := h.le
  have hp := h.pos
  clear h
  go_enter Try.func17, Try.ntmps17
  go_wp2_with (go_at_call 14; refine (Len_walk b R f k room _ HL.out).mono ?_; rintro e w' ⟨rfl, rfl⟩)
  go_loopw [7, 3] (fun v7 v3 wx => ∃ i : Nat, i ≤ k ∧ v7 = .int .i64 i ∧ Hid (wx.ownsRow w'.heap.size 3 1 v3 i ((row room f i).map (Value.int .i64))) ∧ Hid (Up w' wx)) (fun v7 _ _ => k - (intOf v7).toNat)
  case atStart => exact ⟨0, Nat.zero_le _, rfl, Lib.hid (World.ownsRow_nil _ _ _ _), Lib.hid (Up.refl _)⟩
  case round =>
    obtain ⟨i, hi, rfl, HO, HU⟩ := hrel
    by_cases hlt : i < k
    · obtain ⟨j, hj⟩ : ∃ j, (f + i) % room.length = j := ⟨_, rfl⟩
      have hjl : j < room.length := hj ▸ Nat.mod_lt _ (by omega)
      have HJ := Lib.hid hj
      have HS := Lib.hid (row_succ room f i)
      rw [hj] at HS
      clear hj
      have hL := HL.out.up HU.out
      have c0 : wr.cell? ⟨b, 0, none⟩ = some (.slice (some ⟨R, 0, none⟩) room.length room.length) := cell_of_block hL.hb 0
      have cR : wr.cell? ⟨R, j, none⟩ = some (.int .i64 (room.getD j 0)) := by
        rw [cell_of_block hL.hR]
        simp [List.getD_eq_getElem?_getD, List.getElem?_eq_getElem hjl]
      have HL2 := Lib.hid hL
      have nb : u3.ownBlock ≠ some b := own_far HO.out (by have := World.block_lt_of_cell? w' _ (cell_of_block HL.out.hb 0); exact this)
      have nR : u3.ownBlock ≠ some R := own_far HO.out (lane_lt HL.out)
      clear hL
      generalize room.getD j 0 = x at *
      have i0 : (0 : Int) ≤ (j : Int) := by omega
      have i1 : (j : Int) < (room.length : Int) := by omega
      obtain ⟨t0, ht0, hz0, hz1, hz2⟩ : ∃ i, Try.prog.info? 3 = some i ∧ i.zero = some (.int .i64 0) ∧ i.size = 1 ∧ i.bytes = 8 := by
        have h := info_int
        cases hi : Try.prog.info? 3 with
        | none => rw [hi] at h; cases h
        | some i =>
          rw [hi] at h
          simp at h
          exact ⟨i, rfl, h.1, h.2.1, h.2.2⟩
      have hxs : ((row room f i).map (Value.int .i64)).length = i := by rw [List.length_map, row_len]
      have hsz := HU.out.size
      have lb : b < wr.heap.size := World.block_lt_of_cell? wr _ c0
      have lR : R < wr.heap.size := World.block_lt_of_cell? wr _ cR
      go_wp2
      go_region_held3 (fun wx => wx.cell? ⟨b, 0, none⟩ = some (.slice (some ⟨R, 0, none⟩) room.length room.length) ∧ wx.cell? ⟨R, j, none⟩ = some (.int .i64 x))
        (first
          | go_keep
          | (go_split_ands
             refine ⟨?_, ?_⟩
             · (rw [hgrow.cell_far _ (by simp; omega) (Ne.symm nb)]; assumption)
             · (rw [hgrow.cell_far _ (by simp; omega) (Ne.symm nR)]; assumption)))
        (first
          | (go_at_call 30; refine (at_j b R f k i j room _ ?_ ?_ HJ.out).mono ?_; (exact HL2.out.drew (by repeat (first | exact Drawn.refl _ | refine Drawn.stepS ?_ | refine Drawn.drewS ?_))); omega; rintro e w2 ⟨rfl, n, rfl⟩)
          | (refine step_append_lies _ (by rfl) _ _ _ (by rfl) w'.heap.size 3 t0 _ 1 8 Try.underlying36 ht0 hz0 hz1 hz2 rfl (by omega) u3 i _ (by rfl) (own_drewN (HO.out.alloc _) _)
              ⟨wr.heap.size, 0, none⟩ 1 1 [.int .i64 x] (by rfl) (by rfl) (World.news_of_block (cs := #[.int .i64 x]) (t := 3) (fr := (0, 0)) (heap_alloc_new wr _)) (by simp [Value.oneCell'])
              (by omega) (by unfold maxLen; omega) (by omega) (by simp; omega) (wr.heap.size + 1) (by simp) ?_; intro gg cap w1 hown1 hgrow hat hlt2))
      have HO2 := Lib.hid hown1
      have HU2 : Hid (Up w' w1) := Lib.hid (Up.trans_grown ((HU.out.alloc _).drewN _) hgrow (fun q hq => by
        rcases Nat.lt_or_ge q w'.heap.size with h1 | h1
        · exact absurd hq (own_far HO.out h1)
        · exact h1))
      clear hown1 hgrow
      go_wp2
      go_roundw
      case rel =>
        refine ⟨i + 1, by omega, by go_num, ?_, HU2⟩
        rw [HS.out, List.map_append]
        exact HO2
      case measure => simp [intOf]; omega
    · obtain rfl : i = k := by omega
      go_wp2
      go_ret
      exact ⟨_, rfl, HO.out, HU.out⟩
end Go.Proofs.Ytmfpahdbjcpmkaa.Lane
