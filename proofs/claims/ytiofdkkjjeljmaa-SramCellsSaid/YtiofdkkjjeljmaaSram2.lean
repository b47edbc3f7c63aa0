/- Contracts of the package sram: Fill, Store, Span. -/
import Derived.Test.YtiofdkkjjeljmaaSram
import Derived.Test.YtiofdkkjjeljmaaLat
import Derived.Laws.CopyOwn
namespace Go.Proofs.Ytiofdkkjjeljmaa.Sram
set_option linter.unusedVariables false
set_option linter.unusedSimpArgs false
open Go.RowKit Go.Proofs.Ytiofdkkjjeljmaa.Lat

/-- The first i words of a run, filled. -/
def fillL (ws : List Int) (a : Nat) (z : Int) : Nat → List Int
  | 0 => ws
  | i + 1 => (fillL ws a z i).set (a + i) z
theorem fillL_len (ws : List Int) (a : Nat) (z : Int) : ∀ i, (fillL ws a z i).length = ws.length
  | 0 => rfl
  | i + 1 => by simp [fillL, fillL_len ws a z i]
theorem Fill_nil (a n z : Int) (w : World) : Calls Try.prog 54 #[.pointer none, .int .i64 a, .int .i64 n, .int .i64 z] w fun e w' => e = .returned (.int .i64 1) ∧ Up w w' := by
  go_enter Try.func54, Try.ntmps54
  go_wp2_with (go_at_call 55; refine (wrong_nil _ _ _).mono ?_; rintro e w' ⟨rfl, rfl⟩)
  go_ret
  exact ⟨rfl, Up.refl _⟩
theorem Fill_wrong (b R : Nat) (ws : List Int) (a n z : Int) (w : World) (h : RamAt w b R ws) (hw : wrongI ws.length a n ≠ 0) : Calls Try.prog 54 #[.pointer (some ⟨b, 0, none⟩), .int .i64 a, .int .i64 n, .int .i64 z] w fun e w' => e = .returned (.int .i64 (wrongI ws.length a n)) ∧ Up w w' := by
  have HW := Lib.hid (wrong_walk b R ws a n w h)
  have hne : (wrongI ws.length a n == 0) = false := beq_eq_false_iff_ne.2 hw
  have hne' : (wrongI ws.length a n != 0) = true := by simp [bne, hne]
  clear h hw
  generalize wrongI ws.length a n = k at *
  go_enter Try.func54, Try.ntmps54
  go_wp2_with (go_at_call 55; refine HW.out.mono ?_; rintro e w' ⟨rfl, rfl⟩)
  go_ret
  exact ⟨rfl, Up.refl _⟩
theorem Fill_arg (b R : Nat) (ws : List Int) (a n z : Int) (w : World) (h : RamAt w b R ws) (hw : wrongI ws.length a n = 0) (hz : z < 0 ∨ 65535 < z) : Calls Try.prog 54 #[.pointer (some ⟨b, 0, none⟩), .int .i64 a, .int .i64 n, .int .i64 z] w fun e w' => e = .returned (.int .i64 2) ∧ Up w w' := by
  have HW := wrong_walk b R ws a n w h
  rw [hw] at HW
  have HW := Lib.hid HW
  clear h hw
  by_cases h0 : z < 0
  · go_enter Try.func54, Try.ntmps54
    go_wp2_with (go_at_call 55; refine HW.out.mono ?_; rintro e w' ⟨rfl, rfl⟩)
    go_ret
    exact ⟨rfl, Up.refl _⟩
  · have h0' : decide (z < 0) = false := decide_eq_false h0
    have h1 : z > 65535 := by omega
    go_enter Try.func54, Try.ntmps54
    go_wp2_with (go_at_call 55; refine HW.out.mono ?_; rintro e w' ⟨rfl, rfl⟩)
    go_ret
    exact ⟨rfl, Up.refl _⟩
set_option maxHeartbeats 4000000 in
theorem Fill_ok (b R : Nat) (ws : List Int) (a n : Nat) (z : Int) (w : World) (h : RamAt w b R ws) (hn : a + n ≤ ws.length) (hz : 0 ≤ z ∧ z ≤ 65535) : Calls Try.prog 54 #[.pointer (some ⟨b, 0, none⟩), .int .i64 a, .int .i64 n, .int .i64 z] w fun e w' => e = .returned (.int .i64 0) ∧ RamAt w' b R (fillL ws a z n) ∧ Off1 R w w' := by
  have hw : wrongI ws.length a n = 0 := by unfold wrongI; rw [if_neg (by omega), if_neg (by omega)]
  have HW := wrong_walk b R ws a n w h
  rw [hw] at HW
  have HW := Lib.hid HW
  have HR := Lib.hid h
  have hle := h.le
  have z0 : decide (z < 0) = false := decide_eq_false (by omega)
  have z1 : decide (z > 65535) = false := decide_eq_false (by omega)
  have HZ := Lib.hid hz
  clear h hw hz
  go_enter Try.func54, Try.ntmps54
  go_wp2_with (go_at_call 55; refine HW.out.mono ?_; rintro e w' ⟨rfl, rfl⟩)
  go_loopw [25] (fun v25 wx => ∃ i : Nat, i ≤ n ∧ v25 = .int .i64 i ∧ Hid (RamAt wx b R (fillL ws a z i)) ∧ Hid (Off1 R w' wx)) (fun v25 _ => n - (intOf v25).toNat)
  case atStart => exact ⟨0, Nat.zero_le _, rfl, HR, Lib.hid (Off1.refl _ _)⟩
  case round =>
    obtain ⟨i, hi, rfl, HA, HO⟩ := hrel
    by_cases hlt : i < n
    · have hl := fillL_len ws a z i
      obtain ⟨cc, -, c0⟩ := HA.out.b0
      rw [hl] at c0
      have cR := HA.out.cell (a + i) (by rw [hl]; omega)
      have gR : wr.frozen? ⟨R, a + i, none⟩ = false := HA.out.free _
      have i0 : (0 : Int) ≤ (a : Int) + (i : Int) := by omega
      have i1 : (a : Int) + (i : Int) < (ws.length : Int) := by omega
      have HA2 : Hid (RamAt (wr.setCell ⟨R, a + i, none⟩ (.int .i64 z)) b R (fillL ws a z (i + 1))) := Lib.hid (HA.out.set HZ.out)
      have HO2 := Lib.hid (HO.out.set (a + i) (.int .i64 z))
      generalize (fillL ws a z i).getD (a + i) 0 = y at *
      clear hl
      go_wp2
      go_roundw
      case rel => exact ⟨i + 1, by omega, by go_num, HA2, HO2⟩
      case measure => simp [intOf]; omega
    · obtain rfl : i = n := by omega
      go_wp2
      go_ret
      exact ⟨rfl, HA.out, HO.out⟩
theorem Store_of {p : Value} {a z : Int} {w : World} {R : Ending → World → Prop} (h : Calls Try.prog 54 #[p, .int .i64 a, .int .i64 1, .int .i64 z] w fun e w' => ∃ k, e = .returned (.int .i64 k) ∧ R e w') : Calls Try.prog 18 #[p, .int .i64 a, .int .i64 z] w R := by
  have H := Lib.hid h
  clear h
  go_enter Try.func18, Try.ntmps18
  go_wp2_with (go_at_call 54; refine H.out.mono ?_; rintro e w' ⟨k, rfl, hr⟩; have HRR := Lib.hid hr; clear hr)
  exact HRR.out
/-- The words then, and the error. -/
def fillI (ws : List Int) (a n z : Int) : List Int × Int :=
  if wrongI ws.length a n ≠ 0 then (ws, wrongI ws.length a n) else if z < 0 ∨ 65535 < z then (ws, 2) else (fillL ws a.toNat z n.toNat, 0)
theorem Fill_walk (b R : Nat) (ws : List Int) (a n z : Int) (w : World) (h : RamAt w b R ws) : Calls Try.prog 54 #[.pointer (some ⟨b, 0, none⟩), .int .i64 a, .int .i64 n, .int .i64 z] w fun e w' => e = .returned (.int .i64 (fillI ws a n z).2) ∧ RamAt w' b R (fillI ws a n z).1 ∧ Off1 R w w' := by
  by_cases h1 : wrongI ws.length a n ≠ 0
  · have E : fillI ws a n z = (ws, wrongI ws.length a n) := if_pos h1
    rw [E]
    exact (Fill_wrong b R ws a n z w h h1).mono fun _ _ hh => ⟨hh.1, h.up hh.2, Off1.of_up hh.2⟩
  · have h1' : wrongI ws.length a n = 0 := by omega
    by_cases h2 : z < 0 ∨ 65535 < z
    · have E : fillI ws a n z = (ws, 2) := by unfold fillI; rw [if_neg h1, if_pos h2]
      rw [E]
      exact (Fill_arg b R ws a n z w h h1' h2).mono fun _ _ hh => ⟨hh.1, h.up hh.2, Off1.of_up hh.2⟩
    · have E : fillI ws a n z = (fillL ws a.toNat z n.toNat, 0) := by unfold fillI; rw [if_neg h1, if_neg h2]
      rw [E]
      have hb : 0 ≤ n ∧ 0 ≤ a ∧ a + n ≤ ws.length := by
        unfold wrongI at h1'
        split at h1'
        · omega
        · split at h1' <;> omega
      obtain ⟨i, rfl⟩ := Int.eq_ofNat_of_zero_le hb.1
      obtain ⟨j, rfl⟩ := Int.eq_ofNat_of_zero_le hb.2.1
      exact Fill_ok b R ws j i z w h (by omega) (by omega)
theorem Store_walk (b R : Nat) (ws : List Int) (a z : Int) (w : World) (h : RamAt w b R ws) : Calls Try.prog 18 #[.pointer (some ⟨b, 0, none⟩), .int .i64 a, .int .i64 z] w fun e w' => e = .returned (.int .i64 (fillI ws a 1 z).2) ∧ RamAt w' b R (fillI ws a 1 z).1 ∧ Off1 R w w' :=
  Store_of ((Fill_walk b R ws a 1 z w h).mono fun _ _ hh => ⟨_, hh.1, hh⟩)
theorem Store_nil (a z : Int) (w : World) : Calls Try.prog 18 #[.pointer none, .int .i64 a, .int .i64 z] w fun e w' => e = .returned (.int .i64 1) ∧ Up w w' :=
  Store_of ((Fill_nil a 1 z w).mono fun _ _ hh => ⟨_, hh.1, hh⟩)
end Go.Proofs.Ytiofdkkjjeljmaa.Sram
