/- The contract of the law's 'do' on a memory. -/
import Derived.Test.YtiofdkkjjeljmaaSram3
namespace Go.Proofs.Ytiofdkkjjeljmaa.Sram
set_option linter.unusedVariables false
set_option linter.unusedSimpArgs false
open Go.RowKit Go.Proofs.Ytiofdkkjjeljmaa.Lat

/-- What a call does: the words then, the list told, the error. -/
def doM (ws : List Int) (k a n z : Int) : List Int × List Int × Int :=
  if k = 0 then ((fillI ws a 1 z).1, [], (fillI ws a 1 z).2) else if k = 2 then (ws, (spanI ws a n).1, (spanI ws a n).2) else if k = 3 then ((fillI ws a n z).1, [], (fillI ws a n z).2) else (ws, [(loadI ws a).1], (loadI ws a).2)
theorem lat_one {w : World} {B : Nat} (h : B ≤ w.heap.size) (z : Int) : LAt (w.alloc (.cells #[.int .i64 z] 3)) (fun k => B ≤ k) (.slice (some ⟨w.heap.size, 0, none⟩) 1 1) [z] :=
  LAt.of_block (q := [z]) (rest := []) (block_new w (.cells #[.int .i64 z] 3)) (by simp) h
set_option maxHeartbeats 2000000 in
theorem do_q (b R : Nat) (ws : List Int) (k a n z : Int) (w : World) (h : RamAt w b R ws) :
    Calls Try.prog 16 #[.pointer (some ⟨b, 0, none⟩), .agg #[.int .i64 k, .int .i64 a, .int .i64 n, .int .i64 z]] w fun e w' => ∃ v, e = .returned (.tuple #[v, .int .i64 (doM ws k a n z).2.2]) ∧ LAt w' (fun k => w.heap.size ≤ k) v (doM ws k a n z).2.1 ∧ RamAt w' b R (doM ws k a n z).1 ∧ Off1 R w w' := by
  have HQ := Lib.hid (h.up ((Up.refl w).alloc (.cells #[.int .i64 k, .int .i64 a, .int .i64 n, .int .i64 z] 30)))
  have HU := Lib.hid ((Up.refl w).alloc (.cells #[.int .i64 k, .int .i64 a, .int .i64 n, .int .i64 z] 30))
  clear h
  by_cases h0 : k = 0
  · subst h0
    have HP := Lib.hid (Store_walk b R ws a z _ HQ.out)
    have E : doM ws 0 a n z = ((fillI ws a 1 z).1, [], (fillI ws a 1 z).2) := if_pos rfl
    rw [E]
    clear E
    generalize fillI ws a 1 z = d at *
    go_enter Try.func16, Try.ntmps16
    go_wp2_with (go_at_call 18; refine HP.out.mono ?_; rintro e w' ⟨rfl, hq, ho⟩; have HQ2 := Lib.hid hq; have HO2 := Lib.hid ho; clear hq ho)
    go_ret2
    exact ⟨_, rfl, .inl ⟨rfl, rfl⟩, HQ2.out, (Off1.of_up HU.out).trans HO2.out⟩
  · have e0 : (k == 0) = false := beq_eq_false_iff_ne.2 h0
    by_cases h2 : k = 2
    · subst h2
      have HP := Lib.hid (Span_walk b R ws a n _ HQ.out)
      have E : doM ws 2 a n z = (ws, (spanI ws a n).1, (spanI ws a n).2) := by unfold doM; rw [if_neg h0, if_pos rfl]
      rw [E]
      clear E
      generalize spanI ws a n = d at *
      go_enter Try.func16, Try.ntmps16
      go_wp2_with (go_at_call 53; refine HP.out.mono ?_; rintro e w' ⟨v, rfl, hl, hu⟩; have HL2 := Lib.hid hl; have HU2 := Lib.hid hu; clear hl hu)
      go_ret2
      exact ⟨_, rfl, HL2.out.mono (fun k hk => Nat.le_trans HU.out.size hk), HQ.out.up HU2.out, Off1.of_up (Up.trans HU.out HU2.out)⟩
    · have e2 : (k == 2) = false := beq_eq_false_iff_ne.2 h2
      by_cases h3 : k = 3
      · subst h3
        have HP := Lib.hid (Fill_walk b R ws a n z _ HQ.out)
        have E : doM ws 3 a n z = ((fillI ws a n z).1, [], (fillI ws a n z).2) := by unfold doM; rw [if_neg h0, if_neg h2, if_pos rfl]
        rw [E]
        clear E
        generalize fillI ws a n z = d at *
        go_enter Try.func16, Try.ntmps16
        go_wp2_with (go_at_call 54; refine HP.out.mono ?_; rintro e w' ⟨rfl, hq, ho⟩; have HQ2 := Lib.hid hq; have HO2 := Lib.hid ho; clear hq ho)
        go_ret2
        exact ⟨_, rfl, .inl ⟨rfl, rfl⟩, HQ2.out, (Off1.of_up HU.out).trans HO2.out⟩
      · have e3 : (k == 3) = false := beq_eq_false_iff_ne.2 h3
        have HP := Lib.hid (load_walk b R ws a _ HQ.out)
        have E : doM ws k a n z = (ws, [(loadI ws a).1], (loadI ws a).2) := by unfold doM; rw [if_neg h0, if_neg h2, if_neg h3]
        rw [E]
        clear E
        generalize loadI ws a = d at *
        go_enter Try.func16, Try.ntmps16
        go_wp2_with (go_at_call 17; refine HP.out.mono ?_; rintro e w' ⟨rfl, hu⟩; have HU2 := Lib.hid hu; clear hu)
        go_ret2
        exact ⟨_, rfl, lat_one (Nat.le_trans HU.out.size HU2.out.size) d.1, (HQ.out.up HU2.out).up ((Up.refl _).alloc _), Off1.of_up (Up.alloc (Up.trans HU.out HU2.out) _)⟩
set_option maxHeartbeats 2000000 in
/-- What a call tells of no memory: 0 or nothing, and error 1. -/
theorem do_nil (k a n z : Int) (w : World) : Calls Try.prog 16 #[.pointer none, .agg #[.int .i64 k, .int .i64 a, .int .i64 n, .int .i64 z]] w fun e w' => ∃ v, e = .returned (.tuple #[v, .int .i64 1]) ∧ (v = .slice none 0 0 ∨ LAt w' (fun k => w.heap.size ≤ k) v [0]) ∧ Up w w' := by
  have HU := Lib.hid ((Up.refl w).alloc (.cells #[.int .i64 k, .int .i64 a, .int .i64 n, .int .i64 z] 30))
  by_cases h0 : k = 0
  · subst h0
    have HP := Lib.hid (Store_nil a z)
    go_enter Try.func16, Try.ntmps16
    go_wp2_with (go_at_call 18; refine (HP.out _).mono ?_; rintro e w' ⟨rfl, hu⟩; have HU2 := Lib.hid hu; clear hu)
    go_ret2
    exact ⟨_, rfl, .inl rfl, Up.trans HU.out HU2.out⟩
  · have e0 : (k == 0) = false := beq_eq_false_iff_ne.2 h0
    by_cases h2 : k = 2
    · subst h2
      have HP := Lib.hid (Span_nil a n)
      go_enter Try.func16, Try.ntmps16
      go_wp2_with (go_at_call 53; refine (HP.out _).mono ?_; rintro e w' ⟨rfl, hu⟩; have HU2 := Lib.hid hu; clear hu)
      go_ret2
      exact ⟨_, rfl, .inl rfl, Up.trans HU.out HU2.out⟩
    · have e2 : (k == 2) = false := beq_eq_false_iff_ne.2 h2
      by_cases h3 : k = 3
      · subst h3
        have HP := Lib.hid (Fill_nil a n z)
        go_enter Try.func16, Try.ntmps16
        go_wp2_with (go_at_call 54; refine (HP.out _).mono ?_; rintro e w' ⟨rfl, hu⟩; have HU2 := Lib.hid hu; clear hu)
        go_ret2
        exact ⟨_, rfl, .inl rfl, Up.trans HU.out HU2.out⟩
      · have e3 : (k == 3) = false := beq_eq_false_iff_ne.2 h3
        have HP := Lib.hid (load_nil a)
        go_enter Try.func16, Try.ntmps16
        go_wp2_with (go_at_call 17; refine (HP.out _).mono ?_; rintro e w' ⟨rfl, hu⟩; have HU2 := Lib.hid hu; clear hu)
        go_ret2
        exact ⟨_, rfl, .inr (lat_one (Nat.le_trans HU.out.size HU2.out.size) 0), Up.alloc (Up.trans HU.out HU2.out) _⟩
end Go.Proofs.Ytiofdkkjjeljmaa.Sram
