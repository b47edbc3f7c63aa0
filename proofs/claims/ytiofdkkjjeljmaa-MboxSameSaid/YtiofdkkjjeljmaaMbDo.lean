/- The law's do of chapter 09. -/
import Derived.Test.YtiofdkkjjeljmaaMbAlive
namespace Go.Proofs.Ytiofdkkjjeljmaa.Mb
set_option linter.unusedVariables false
set_option linter.unusedSimpArgs false
open Go.RowKit Go.Proofs.Ytiofdkkjjeljmaa.Sep Go.Proofs.Ytiofdkkjjeljmaa.Lane

/-- What a call does: the mailboxes then, what is told, and the error. -/
def doM (S : List MC) (k core to W : Int) : List MC × (Int × Int) × Int :=
  if k = 0 then ((ringM S core to W).1, (0, 0), (ringM S core to W).2)
  else if k = 2 then ((ackM S core W).1, (0, 0), (ackM S core W).2)
  else if k = 3 then ((takeM S core).1, ((takeM S core).2.1, (takeM S core).2.2.1), (takeM S core).2.2.2)
  else if k = 4 then ((resetM S core).1, (0, (resetM S core).2.1), (resetM S core).2.2)
  else (S, (0, (pendM S core).1), (pendM S core).2)
section
variable {P0 : Nat → Prop} {w0 w w' : World} {F : List Rg} {b : Nat} {S : List MC}
set_option maxHeartbeats 8000000 in
set_option maxRecDepth 100000 in
theorem do_st (h : St P0 w0 w (mb b S :: F)) (k core to W : Int) :
    Calls Try.prog 32 #[.pointer (some ⟨b, 0, none⟩), .agg #[.int .i64 k, .int .i64 core, .int .i64 to, .int .i64 W]] w fun e w' => e = .returned (.tuple #[.agg #[.int .i64 (doM S k core to W).2.1.1, .int .i64 (doM S k core to W).2.1.2], .int .i64 (doM S k core to W).2.2]) ∧ St P0 w0 w' (mb b (doM S k core to W).1 :: F) := by
  have hb := (h.alloc #[.int .i64 k, .int .i64 core, .int .i64 to, .int .i64 W] 62).alloc #[.int .i64 0, .int .i64 0] 64
  rw [World.size_alloc] at hb
  have hs : St P0 w0 _ (mb b S :: bk (w.heap.size + 1) 64 #[.int .i64 0, .int .i64 0] :: bk w.heap.size 62 #[.int .i64 k, .int .i64 core, .int .i64 to, .int .i64 W] :: F) := hb.get 2
  have HS := Lib.hid hs
  clear h hb hs
  by_cases h0 : k = 0
  · subst h0
    have HP := Lib.hid (Ring_st HS.out core to W)
    have E : doM S 0 core to W = ((ringM S core to W).1, (0, 0), (ringM S core to W).2) := by unfold doM; rw [if_pos rfl]
    rw [E]
    clear E
    generalize ringM S core to W = d at *
    go_enter Try.func32, Try.ntmps32
    go_wp2_with fail
    refine HP.out.mono ?_
    rintro e w1 ⟨rfl, hs⟩
    have H1 := Lib.hid hs
    have y1 : St P0 w0 w1 (bk (w.heap.size + 1) 64 #[.int .i64 0, .int .i64 0] :: _) := H1.out.get 1
    have g0 : w1.cell? ⟨w.heap.size + 1, 0, none⟩ = some (.int .i64 0) := cell_of_block y1.bk_at 0
    have f0 : w1.frozen? ⟨w.heap.size + 1, 0, none⟩ = false := free_of_block y1.bk_at 0
    have g1 : w1.cell? ⟨w.heap.size + 1, 1, none⟩ = some (.int .i64 0) := cell_of_block y1.bk_at 1
    have f1 : w1.frozen? ⟨w.heap.size + 1, 1, none⟩ = false := free_of_block y1.bk_at 1
    clear y1 hs HS HP
    go_wp2
    refine bodyPost_ret (v := .tuple #[.agg #[.int .i64 0, .int .i64 0], .int .i64 d.2]) ?_ rfl ⟨rfl, ?_⟩
    · simp [results, Try.results32, go_sem, *]
    · exact ((((((H1.out.get 1).set 0 (.int .i64 0)).set 1 (.int .i64 0)).get 1).cut 1).cut 1)
  · have e0 : (k == 0) = false := beq_eq_false_iff_ne.2 h0
    by_cases h2 : k = 2
    · subst h2
      have HP := Lib.hid (Ack_st HS.out core W)
      have E : doM S 2 core to W = ((ackM S core W).1, (0, 0), (ackM S core W).2) := by unfold doM; rw [if_neg h0, if_pos rfl]
      rw [E]
      clear E
      generalize ackM S core W = d at *
      go_enter Try.func32, Try.ntmps32
      go_wp2_with fail
      refine HP.out.mono ?_
      rintro e w1 ⟨rfl, hs⟩
      have H1 := Lib.hid hs
      have y1 : St P0 w0 w1 (bk (w.heap.size + 1) 64 #[.int .i64 0, .int .i64 0] :: _) := H1.out.get 1
      have g0 : w1.cell? ⟨w.heap.size + 1, 0, none⟩ = some (.int .i64 0) := cell_of_block y1.bk_at 0
      have f0 : w1.frozen? ⟨w.heap.size + 1, 0, none⟩ = false := free_of_block y1.bk_at 0
      have g1 : w1.cell? ⟨w.heap.size + 1, 1, none⟩ = some (.int .i64 0) := cell_of_block y1.bk_at 1
      have f1 : w1.frozen? ⟨w.heap.size + 1, 1, none⟩ = false := free_of_block y1.bk_at 1
      clear y1 hs HS HP
      go_wp2
      refine bodyPost_ret (v := .tuple #[.agg #[.int .i64 0, .int .i64 0], .int .i64 d.2]) ?_ rfl ⟨rfl, ?_⟩
      · simp [results, Try.results32, go_sem, *]
      · exact ((((((H1.out.get 1).set 0 (.int .i64 0)).set 1 (.int .i64 0)).get 1).cut 1).cut 1)
    · have e2 : (k == 2) = false := beq_eq_false_iff_ne.2 h2
      by_cases h3 : k = 3
      · subst h3
        have HP := Lib.hid (Take_st HS.out core)
        have E : doM S 3 core to W = ((takeM S core).1, ((takeM S core).2.1, (takeM S core).2.2.1), (takeM S core).2.2.2) := by unfold doM; rw [if_neg h0, if_neg h2, if_pos rfl]
        rw [E]
        clear E
        generalize takeM S core = d at *
        go_enter Try.func32, Try.ntmps32
        go_wp2_with fail
        refine HP.out.mono ?_
        rintro e w1 ⟨rfl, hs⟩
        have H1 := Lib.hid hs
        have y1 : St P0 w0 w1 (bk (w.heap.size + 1) 64 #[.int .i64 0, .int .i64 0] :: _) := H1.out.get 1
        have g0 : w1.cell? ⟨w.heap.size + 1, 0, none⟩ = some (.int .i64 0) := cell_of_block y1.bk_at 0
        have f0 : w1.frozen? ⟨w.heap.size + 1, 0, none⟩ = false := free_of_block y1.bk_at 0
        have g1 : w1.cell? ⟨w.heap.size + 1, 1, none⟩ = some (.int .i64 0) := cell_of_block y1.bk_at 1
        have f1 : w1.frozen? ⟨w.heap.size + 1, 1, none⟩ = false := free_of_block y1.bk_at 1
        clear y1 hs HS HP
        go_wp2
        refine bodyPost_ret (v := .tuple #[.agg #[.int .i64 d.2.1, .int .i64 d.2.2.1], .int .i64 d.2.2.2]) ?_ rfl ⟨rfl, ?_⟩
        · simp [results, Try.results32, go_sem, *]
        · exact ((((((H1.out.get 1).set 0 (.int .i64 d.2.1)).set 1 (.int .i64 d.2.2.1)).get 1).cut 1).cut 1)
      · have e3 : (k == 3) = false := beq_eq_false_iff_ne.2 h3
        by_cases h4 : k = 4
        · subst h4
          have HP := Lib.hid (Reset_st HS.out core)
          have E : doM S 4 core to W = ((resetM S core).1, (0, (resetM S core).2.1), (resetM S core).2.2) := by unfold doM; rw [if_neg h0, if_neg h2, if_neg h3, if_pos rfl]
          rw [E]
          clear E
          generalize resetM S core = d at *
          go_enter Try.func32, Try.ntmps32
          go_wp2_with fail
          refine HP.out.mono ?_
          rintro e w1 ⟨rfl, hs⟩
          have H1 := Lib.hid hs
          have y1 : St P0 w0 w1 (bk (w.heap.size + 1) 64 #[.int .i64 0, .int .i64 0] :: _) := H1.out.get 1
          have g0 : w1.cell? ⟨w.heap.size + 1, 0, none⟩ = some (.int .i64 0) := cell_of_block y1.bk_at 0
          have f0 : w1.frozen? ⟨w.heap.size + 1, 0, none⟩ = false := free_of_block y1.bk_at 0
          have g1 : w1.cell? ⟨w.heap.size + 1, 1, none⟩ = some (.int .i64 0) := cell_of_block y1.bk_at 1
          have f1 : w1.frozen? ⟨w.heap.size + 1, 1, none⟩ = false := free_of_block y1.bk_at 1
          clear y1 hs HS HP
          go_wp2
          refine bodyPost_ret (v := .tuple #[.agg #[.int .i64 0, .int .i64 d.2.1], .int .i64 d.2.2]) ?_ rfl ⟨rfl, ?_⟩
          · simp [results, Try.results32, go_sem, *]
          · exact ((((((H1.out.get 1).set 0 (.int .i64 0)).set 1 (.int .i64 d.2.1)).get 1).cut 1).cut 1)
        · have e4 : (k == 4) = false := beq_eq_false_iff_ne.2 h4
          have HP := Lib.hid (Pending_st HS.out core)
          have E : doM S k core to W = (S, (0, (pendM S core).1), (pendM S core).2) := by unfold doM; rw [if_neg h0, if_neg h2, if_neg h3, if_neg h4]
          rw [E]
          clear E
          generalize pendM S core = d at *
          go_enter Try.func32, Try.ntmps32
          go_wp2_with fail
          refine HP.out.mono ?_
          rintro e w1 ⟨rfl, hs⟩
          have H1 := Lib.hid hs
          have y1 : St P0 w0 w1 (bk (w.heap.size + 1) 64 #[.int .i64 0, .int .i64 0] :: _) := H1.out.get 1
          have g0 : w1.cell? ⟨w.heap.size + 1, 0, none⟩ = some (.int .i64 0) := cell_of_block y1.bk_at 0
          have f0 : w1.frozen? ⟨w.heap.size + 1, 0, none⟩ = false := free_of_block y1.bk_at 0
          have g1 : w1.cell? ⟨w.heap.size + 1, 1, none⟩ = some (.int .i64 0) := cell_of_block y1.bk_at 1
          have f1 : w1.frozen? ⟨w.heap.size + 1, 1, none⟩ = false := free_of_block y1.bk_at 1
          clear y1 hs HS HP
          go_wp2
          refine bodyPost_ret (v := .tuple #[.agg #[.int .i64 0, .int .i64 d.1], .int .i64 d.2]) ?_ rfl ⟨rfl, ?_⟩
          · simp [results, Try.results32, go_sem, *]
          · exact ((((((H1.out.get 1).set 0 (.int .i64 0)).set 1 (.int .i64 d.1)).get 1).cut 1).cut 1)
end
set_option maxHeartbeats 1000000 in
theorem Ack_nil (core k : Int) (w : World) : Calls Try.prog 66 #[.pointer none, .int .i64 core, .int .i64 k] w fun e w' => e = .returned (.int .i64 1) ∧ Up w w' := by
  go_enter Try.func66, Try.ntmps66
  go_wp2_with (go_at_call 73; refine (ask_nil _ _ _ _).mono ?_; rintro e w2 ⟨rfl, rfl⟩)
  go_ret
  exact ⟨rfl, (Up.refl w).alloc _⟩
set_option maxHeartbeats 1000000 in
theorem Take_nil (core k : Int) (w : World) : Calls Try.prog 65 #[.pointer none, .int .i64 core] w fun e w' => e = .returned (.tuple #[.int .i64 0, .int .i64 0, .int .i64 1]) ∧ Up w w' := by
  go_enter Try.func65, Try.ntmps65
  go_wp2_with (go_at_call 73; refine (ask_nil _ _ _ _).mono ?_; rintro e w2 ⟨rfl, rfl⟩)
  go_region
  all_goals (try go_wp2)
  all_goals
    refine bodyPost_ret (v := .tuple #[.int .i64 0, .int .i64 0, .int .i64 1]) ?_ rfl ⟨rfl, (((Up.refl w).alloc _).alloc _).drew⟩
    simp [results, Try.results65, go_sem, *]
set_option maxHeartbeats 1000000 in
theorem Reset_nil (core k : Int) (w : World) : Calls Try.prog 72 #[.pointer none, .int .i64 core] w fun e w' => e = .returned (.tuple #[.int .i64 0, .int .i64 1]) ∧ Up w w' := by
  go_enter Try.func72, Try.ntmps72
  go_wp2_with (go_at_call 73; refine (ask_nil _ _ _ _).mono ?_; rintro e w2 ⟨rfl, rfl⟩)
  refine bodyPost_ret (v := .tuple #[.int .i64 0, .int .i64 1]) ?_ rfl ⟨rfl, (Up.refl w).alloc _⟩
  simp [results, Try.results72, go_sem, *]
set_option maxHeartbeats 1000000 in
theorem Pending_nil (core k : Int) (w : World) : Calls Try.prog 33 #[.pointer none, .int .i64 core] w fun e w' => e = .returned (.tuple #[.int .i64 0, .int .i64 1]) ∧ Up w w' := by
  go_enter Try.func33, Try.ntmps33
  go_wp2_with (go_at_call 73; refine (ask_nil _ _ _ _).mono ?_; rintro e w2 ⟨rfl, rfl⟩)
  refine bodyPost_ret (v := .tuple #[.int .i64 0, .int .i64 1]) ?_ rfl ⟨rfl, (Up.refl w).alloc _⟩
  simp [results, Try.results33, go_sem, *]
set_option maxHeartbeats 1000000 in
theorem Waits_nil (core k : Int) (w : World) : Calls Try.prog 35 #[.pointer none, .int .i64 core] w fun e w' => e = .returned (.int .i64 0) ∧ Up w w' := by
  go_enter Try.func35, Try.ntmps35
  go_wp2_with (go_at_call 73; refine (ask_nil _ _ _ _).mono ?_; rintro e w2 ⟨rfl, rfl⟩)
  refine bodyPost_ret (v := .int .i64 0) ?_ rfl ⟨rfl, (Up.refl w).alloc _⟩
  simp [results, Try.results35, go_sem, *]
set_option maxHeartbeats 4000000 in
set_option maxRecDepth 100000 in
theorem do_nil (k core to W : Int) (w : World) : Calls Try.prog 32 #[.pointer none, .agg #[.int .i64 k, .int .i64 core, .int .i64 to, .int .i64 W]] w fun e w' => e = .returned (.tuple #[.agg #[.int .i64 0, .int .i64 0], .int .i64 1]) ∧ Up w w' := by
  have hs := ((St.nil w).alloc #[.int .i64 k, .int .i64 core, .int .i64 to, .int .i64 W] 62).alloc #[.int .i64 0, .int .i64 0] 64
  rw [World.size_alloc] at hs
  have HS := Lib.hid hs
  clear hs
  by_cases h0 : k = 0
  · subst h0
    go_enter Try.func32, Try.ntmps32
    go_wp2_with fail
    refine (Ring_nil core to W _).mono ?_
    rintro e w1 ⟨rfl, hu⟩
    have H1 := Lib.hid (HS.out.more hu)
    have g0 : w1.cell? ⟨w.heap.size + 1, 0, none⟩ = some (.int .i64 0) := cell_of_block H1.out.bk_at 0
    have f0 : w1.frozen? ⟨w.heap.size + 1, 0, none⟩ = false := free_of_block H1.out.bk_at 0
    have g1 : w1.cell? ⟨w.heap.size + 1, 1, none⟩ = some (.int .i64 0) := cell_of_block H1.out.bk_at 1
    have f1 : w1.frozen? ⟨w.heap.size + 1, 1, none⟩ = false := free_of_block H1.out.bk_at 1
    clear hu HS
    go_wp2
    refine bodyPost_ret (v := .tuple #[.agg #[.int .i64 0, .int .i64 0], .int .i64 1]) ?_ rfl ⟨rfl, ?_⟩
    · simp [results, Try.results32, go_sem, *]
    · first | exact H1.out.up | exact ((H1.out.set 0 (.int .i64 0)).set 1 (.int .i64 0)).up
  · have e0 : (k == 0) = false := beq_eq_false_iff_ne.2 h0
    by_cases h2 : k = 2
    · subst h2
      go_enter Try.func32, Try.ntmps32
      go_wp2_with fail
      refine (Ack_nil core W _).mono ?_
      rintro e w1 ⟨rfl, hu⟩
      have H1 := Lib.hid (HS.out.more hu)
      have g0 : w1.cell? ⟨w.heap.size + 1, 0, none⟩ = some (.int .i64 0) := cell_of_block H1.out.bk_at 0
      have f0 : w1.frozen? ⟨w.heap.size + 1, 0, none⟩ = false := free_of_block H1.out.bk_at 0
      have g1 : w1.cell? ⟨w.heap.size + 1, 1, none⟩ = some (.int .i64 0) := cell_of_block H1.out.bk_at 1
      have f1 : w1.frozen? ⟨w.heap.size + 1, 1, none⟩ = false := free_of_block H1.out.bk_at 1
      clear hu HS
      go_wp2
      refine bodyPost_ret (v := .tuple #[.agg #[.int .i64 0, .int .i64 0], .int .i64 1]) ?_ rfl ⟨rfl, ?_⟩
      · simp [results, Try.results32, go_sem, *]
      · first | exact H1.out.up | exact ((H1.out.set 0 (.int .i64 0)).set 1 (.int .i64 0)).up
    · have e2 : (k == 2) = false := beq_eq_false_iff_ne.2 h2
      by_cases h3 : k = 3
      · subst h3
        go_enter Try.func32, Try.ntmps32
        go_wp2_with fail
        refine (Take_nil core W _).mono ?_
        rintro e w1 ⟨rfl, hu⟩
        have H1 := Lib.hid (HS.out.more hu)
        have g0 : w1.cell? ⟨w.heap.size + 1, 0, none⟩ = some (.int .i64 0) := cell_of_block H1.out.bk_at 0
        have f0 : w1.frozen? ⟨w.heap.size + 1, 0, none⟩ = false := free_of_block H1.out.bk_at 0
        have g1 : w1.cell? ⟨w.heap.size + 1, 1, none⟩ = some (.int .i64 0) := cell_of_block H1.out.bk_at 1
        have f1 : w1.frozen? ⟨w.heap.size + 1, 1, none⟩ = false := free_of_block H1.out.bk_at 1
        clear hu HS
        go_wp2
        refine bodyPost_ret (v := .tuple #[.agg #[.int .i64 0, .int .i64 0], .int .i64 1]) ?_ rfl ⟨rfl, ?_⟩
        · simp [results, Try.results32, go_sem, *]
        · first | exact H1.out.up | exact ((H1.out.set 0 (.int .i64 0)).set 1 (.int .i64 0)).up
      · have e3 : (k == 3) = false := beq_eq_false_iff_ne.2 h3
        by_cases h4 : k = 4
        · subst h4
          go_enter Try.func32, Try.ntmps32
          go_wp2_with fail
          refine (Reset_nil core W _).mono ?_
          rintro e w1 ⟨rfl, hu⟩
          have H1 := Lib.hid (HS.out.more hu)
          have g0 : w1.cell? ⟨w.heap.size + 1, 0, none⟩ = some (.int .i64 0) := cell_of_block H1.out.bk_at 0
          have f0 : w1.frozen? ⟨w.heap.size + 1, 0, none⟩ = false := free_of_block H1.out.bk_at 0
          have g1 : w1.cell? ⟨w.heap.size + 1, 1, none⟩ = some (.int .i64 0) := cell_of_block H1.out.bk_at 1
          have f1 : w1.frozen? ⟨w.heap.size + 1, 1, none⟩ = false := free_of_block H1.out.bk_at 1
          clear hu HS
          go_wp2
          refine bodyPost_ret (v := .tuple #[.agg #[.int .i64 0, .int .i64 0], .int .i64 1]) ?_ rfl ⟨rfl, ?_⟩
          · simp [results, Try.results32, go_sem, *]
          · first | exact H1.out.up | exact ((H1.out.set 0 (.int .i64 0)).set 1 (.int .i64 0)).up
        · have e4 : (k == 4) = false := beq_eq_false_iff_ne.2 h4
          go_enter Try.func32, Try.ntmps32
          go_wp2_with fail
          refine (Pending_nil core W _).mono ?_
          rintro e w1 ⟨rfl, hu⟩
          have H1 := Lib.hid (HS.out.more hu)
          have g0 : w1.cell? ⟨w.heap.size + 1, 0, none⟩ = some (.int .i64 0) := cell_of_block H1.out.bk_at 0
          have f0 : w1.frozen? ⟨w.heap.size + 1, 0, none⟩ = false := free_of_block H1.out.bk_at 0
          have g1 : w1.cell? ⟨w.heap.size + 1, 1, none⟩ = some (.int .i64 0) := cell_of_block H1.out.bk_at 1
          have f1 : w1.frozen? ⟨w.heap.size + 1, 1, none⟩ = false := free_of_block H1.out.bk_at 1
          clear hu HS
          go_wp2
          refine bodyPost_ret (v := .tuple #[.agg #[.int .i64 0, .int .i64 0], .int .i64 1]) ?_ rfl ⟨rfl, ?_⟩
          · simp [results, Try.results32, go_sem, *]
          · first | exact H1.out.up | exact ((H1.out.set 0 (.int .i64 0)).set 1 (.int .i64 0)).up
end Go.Proofs.Ytiofdkkjjeljmaa.Mb
