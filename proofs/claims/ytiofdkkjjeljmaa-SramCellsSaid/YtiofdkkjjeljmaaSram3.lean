/- Contracts of the package sram: Span. -/
import Derived.Test.YtiofdkkjjeljmaaSram2
import Derived.Test.YtiofdkkjjeljmaaCopy
import Derived.Deep.Cut
namespace Go.Proofs.Ytiofdkkjjeljmaa.Sram
set_option linter.unusedVariables false
set_option linter.unusedSimpArgs false
open Go.RowKit Go.Proofs.Ytiofdkkjjeljmaa.Lat Go.Proofs.Ytiofdkkjjeljmaa.Copy

theorem add_off (R a j : Nat) : (⟨R, a, none⟩ : Addr).add j = ⟨R, a + j, none⟩ := by
  by_cases hj0 : j = 0
  · subst hj0; rfl
  · simp [Addr.add, hj0]
theorem of_splice {w : World} {P : Nat → Prop} {g n : Nat} {q : List Int} {t : TypeId} (h : w.heap[g]? = some (.cells (splice (List.replicate n (Value.int .i64 0)) 0 (q.map (Value.int .i64))).toArray t (0, 0))) (hq : q.length = n) (hP : P g) : LAt w P (.slice (some ⟨g, 0, none⟩) n n) q := by
  subst hq
  have e : splice (List.replicate q.length (Value.int .i64 0)) 0 (q.map (Value.int .i64)) = (q ++ []).map (Value.int .i64) := by simp [splice]
  rw [e] at h
  exact LAt.of_block h (Nat.le_refl _) hP
/-- The slice of a memory's words from a on. -/
theorem drop_cells {w : World} {b R : Nat} {ws : List Int} (h : RamAt w b R ws) (a n : Nat) (hp : 0 < (((ws.drop a).take n).map (Value.int .i64)).length) :
    a < ws.length ∧ ∀ (j : Nat) (v : Value), (((ws.drop a).take n).map (Value.int .i64))[j]? = some v → w.cell? ((⟨R, a, none⟩ : Addr).add j) = some v := by
  have ha : a < ws.length := by
    simp only [List.length_map, List.length_take, List.length_drop] at hp
    omega
  refine ⟨ha, fun j v hj => ?_⟩
  obtain ⟨z, hz, rfl⟩ := by simpa only [List.getElem?_map, Option.map_eq_some_iff] using hj
  have e : (⟨R, a, none⟩ : Addr).add j = ⟨R, a + j, none⟩ := by
    by_cases hj0 : j = 0
    · subst hj0; rfl
    · simp [Addr.add, hj0]
  rw [List.getElem?_take] at hz
  split at hz
  · rw [List.getElem?_drop] at hz
    obtain ⟨hl, hz2⟩ := List.getElem?_eq_some_iff.1 hz
    rw [e, h.cell _ hl, List.getD_eq_getElem?_getD, hz]
    rfl
  · cases hz
theorem Span_nil (a n : Int) (w : World) : Calls Try.prog 53 #[.pointer none, .int .i64 a, .int .i64 n] w fun e w' => e = .returned (.tuple #[.slice none 0 0, .int .i64 1]) ∧ Up w w' := by
  go_enter Try.func53, Try.ntmps53
  go_wp2_with (go_at_call 55; refine (wrong_nil _ _ _).mono ?_; rintro e w' ⟨rfl, rfl⟩)
  go_ret2
  exact ⟨rfl, Up.refl _⟩
theorem Span_wrong (b R : Nat) (ws : List Int) (a n : Int) (w : World) (h : RamAt w b R ws) (hw : wrongI ws.length a n ≠ 0) : Calls Try.prog 53 #[.pointer (some ⟨b, 0, none⟩), .int .i64 a, .int .i64 n] w fun e w' => e = .returned (.tuple #[.slice none 0 0, .int .i64 (wrongI ws.length a n)]) ∧ Up w w' := by
  have HW := Lib.hid (wrong_walk b R ws a n w h)
  have hne : (wrongI ws.length a n == 0) = false := beq_eq_false_iff_ne.2 hw
  have hne' : (wrongI ws.length a n != 0) = true := by simp [bne, hne]
  clear h hw
  generalize wrongI ws.length a n = k at *
  go_enter Try.func53, Try.ntmps53
  go_wp2_with (go_at_call 55; refine HW.out.mono ?_; rintro e w' ⟨rfl, rfl⟩)
  go_ret2
  exact ⟨rfl, Up.refl _⟩
set_option maxHeartbeats 4000000 in
set_option maxRecDepth 100000 in
theorem Span_ok (b R : Nat) (ws : List Int) (a n : Nat) (w : World) (h : RamAt w b R ws) (hn : a + n ≤ ws.length) : Calls Try.prog 53 #[.pointer (some ⟨b, 0, none⟩), .int .i64 a, .int .i64 n] w fun e w' => e = .returned (.tuple #[.slice (some ⟨w.heap.size, 0, none⟩) n n, .int .i64 0]) ∧ LAt w' (fun k => w.heap.size ≤ k) (.slice (some ⟨w.heap.size, 0, none⟩) n n) ((ws.drop a).take n) ∧ Up w w' := by
  have hw : wrongI ws.length a n = 0 := by unfold wrongI; rw [if_neg (by omega), if_neg (by omega)]
  have HW := wrong_walk b R ws a n w h
  rw [hw] at HW
  have HW := Lib.hid HW
  have HR := Lib.hid h
  have hle := h.le
  obtain ⟨cc, hcc, c0⟩ := h.b0
  have hne0 := World.new_ne w _ c0
  have hm := fun wx => run_mk n (by omega) wx
  have i1 : (a : Int) ≤ (ws.length : Int) := by omega
  clear h hw
  go_enter Try.func53, Try.ntmps53
  go_upto_region 5 with (go_at_call 55; refine HW.out.mono ?_; rintro e w' ⟨rfl, rfl⟩)
  obtain ⟨cd, hcd, c1⟩ := (HR.out.up ((Up.refl w').alloc (.cells (Array.replicate n (Value.int .i64 0)) 3))).b0
  have hcd1 := hcd.1
  have hcd2 := hcd.2
  have i2 : (a : Int) ≤ (cd : Int) := by omega
  clear hcd
  have HA := Lib.hid (HR.out.up ((Up.refl w').alloc (.cells (Array.replicate n (Value.int .i64 0)) 3)))
  have HU := Lib.hid ((Up.refl w').alloc (.cells (Array.replicate n (Value.int .i64 0)) 3))
  have HG := Lib.hid (block_new w' (.cells (Array.replicate n (Value.int .i64 0)) 3))
  clear hm hne0 c0
  generalize w'.alloc (.cells (Array.replicate n (Value.int .i64 0)) 3) = w1 at *
  have HREP := Lib.hid (show (List.replicate n (Value.int .i64 0)).toArray = Array.replicate n (Value.int .i64 0) from by simp)
  have HL := Lib.hid (show (((ws.drop a).take n).map (Value.int .i64)).length = n from by simp; omega)
  have HD := Lib.hid (drop_cells HA.out a n)
  generalize hcs : ((ws.drop a).take n).map (Value.int .i64) = cs at *
  have HCS := Lib.hid hcs
  clear hcs
  have HO := Lib.hid (show ∀ u ∈ cs, u.oneCell' = true from by rw [← HCS.out]; exact oInt _)
  go_wp2_with (refine wpList_copy_splice rfl (.tmp 19) (.tmp 25) 31 31 rfl 3 Try.underlying31 int_size _ _ _ _ _ _ rfl rfl w'.heap.size 0 (List.replicate n (.int .i64 0)) 3 ?hg cs ?hn ?hpos ?hfit HO.out w'.heap.size w' HU.out (Nat.le_refl _) ?go; rotate_left 4; intro w4 hg4 hb4)
  case hg => rw [HREP.out]; exact HG.out
  case hn => rw [HL.out]; exact (Nat.min_eq_right (by omega)).symm
  case hpos.inl => exact fun hp => absurd (HD.out hp).1 (by omega)
  case hpos.inr => exact fun hp j v hj => by have := (HD.out hp).2 j v hj; rwa [add_off] at this
  case hfit => rw [HL.out]; simp
  all_goals
    go_ret2
    have hg5 := hg4.out
    rw [← HCS.out] at hg5
    exact ⟨rfl, of_splice hg5 (by simp; omega) (Nat.le_refl _), hb4⟩
/-- What Span tells. -/
def spanI (ws : List Int) (a n : Int) : List Int × Int :=
  if wrongI ws.length a n ≠ 0 then ([], wrongI ws.length a n) else ((ws.drop a.toNat).take n.toNat, 0)
theorem wrongI_zero {len : Nat} {a n : Int} (h : wrongI len a n = 0) : 0 ≤ n ∧ 0 ≤ a ∧ a + n ≤ len := by
  unfold wrongI at h
  split at h
  · omega
  · split at h <;> omega
theorem Span_walk (b R : Nat) (ws : List Int) (a n : Int) (w : World) (h : RamAt w b R ws) : Calls Try.prog 53 #[.pointer (some ⟨b, 0, none⟩), .int .i64 a, .int .i64 n] w fun e w' => ∃ v, e = .returned (.tuple #[v, .int .i64 (spanI ws a n).2]) ∧ LAt w' (fun k => w.heap.size ≤ k) v (spanI ws a n).1 ∧ Up w w' := by
  by_cases h1 : wrongI ws.length a n ≠ 0
  · have E : spanI ws a n = ([], wrongI ws.length a n) := if_pos h1
    rw [E]
    exact (Span_wrong b R ws a n w h h1).mono fun _ _ hh => ⟨_, hh.1, .inl ⟨rfl, rfl⟩, hh.2⟩
  · have E : spanI ws a n = ((ws.drop a.toNat).take n.toNat, 0) := if_neg h1
    rw [E]
    have hb := wrongI_zero (Decidable.of_not_not h1)
    obtain ⟨i, rfl⟩ := Int.eq_ofNat_of_zero_le hb.1
    obtain ⟨j, rfl⟩ := Int.eq_ofNat_of_zero_le hb.2.1
    exact (Span_ok b R ws j i w h (by omega)).mono fun _ _ hh => ⟨_, hh.1, hh.2⟩
theorem span_len (ws : List Int) (a n : Int) : (spanI ws a n).1.length ≤ ws.length := by
  unfold spanI
  split
  · exact Nat.zero_le _
  · simp; omega
end Go.Proofs.Ytiofdkkjjeljmaa.Sram
