/- The law's do of chapter 05. -/
import Derived.Test.YtiofdkkjjeljmaaRef05Do
namespace Go.Proofs.Ytiofdkkjjeljmaa.Sbuf
set_option linter.unusedVariables false
set_option linter.unusedSimpArgs false
open Go.RowKit Go.Proofs.Ytiofdkkjjeljmaa.CellOf Go.Proofs.Ytiofdkkjjeljmaa.CellP Go.Proofs.Ytiofdkkjjeljmaa.Sep Go.Proofs.Ytiofdkkjjeljmaa.Find Go.Proofs.Ytiofdkkjjeljmaa.Ref05

section
variable {P0 : Nat → Prop} {w0 w w' : World} {F : List Rg} {b most : Nat} {L : List W16}
set_option maxHeartbeats 8000000 in
set_option maxRecDepth 100000 in
theorem do_st (h : St P0 w0 w (buf b most L :: F)) (k a v : Int) :
    Calls Try.prog 38 #[.pointer (some ⟨b, 0, none⟩), .agg #[.int .i64 k, .int .i64 a, .int .i64 v]] w fun e w' => e = .returned (.tuple #[.agg #[.int .i64 (doB most L k a v).2.1.1, .int .i64 (doB most L k a v).2.1.2], .int .i64 (doB most L k a v).2.2]) ∧ St P0 w0 w' (buf b most (doB most L k a v).1 :: F) := by
  have hb := (h.alloc #[.int .i64 k, .int .i64 a, .int .i64 v] 85).alloc #[.int .i64 0, .int .i64 0] 83
  rw [World.size_alloc] at hb
  have hs : St P0 w0 _ (buf b most L :: bk (w.heap.size + 1) 83 #[.int .i64 0, .int .i64 0] :: bk w.heap.size 85 #[.int .i64 k, .int .i64 a, .int .i64 v] :: F) := hb.get 2
  have HS := Lib.hid hs
  clear h hb hs
  by_cases h0 : k = 0
  · subst h0
    have HP := Lib.hid (Put_st HS.out a v)
    have E : doB most L 0 a v = ((putB most L a v).1, (0, 0), (putB most L a v).2) := if_pos rfl
    rw [E]
    clear E
    generalize putB most L a v = d at *
    go_enter Try.func38, Try.ntmps38
    go_wp2_with fail
    refine HP.out.mono ?_
    rintro e w1 ⟨rfl, hs⟩
    have H1 := Lib.hid hs
    have y1 : St P0 w0 w1 (bk (w.heap.size + 1) 83 #[.int .i64 0, .int .i64 0] :: _) := H1.out.get 1
    have g0 : w1.cell? ⟨w.heap.size + 1, 0, none⟩ = some (.int .i64 0) := cell_of_block y1.bk_at 0
    have f0 : w1.frozen? ⟨w.heap.size + 1, 0, none⟩ = false := free_of_block y1.bk_at 0
    have g1 : w1.cell? ⟨w.heap.size + 1, 1, none⟩ = some (.int .i64 0) := cell_of_block y1.bk_at 1
    have f1 : w1.frozen? ⟨w.heap.size + 1, 1, none⟩ = false := free_of_block y1.bk_at 1
    clear y1
    clear hs HS HP
    go_wp2
    refine bodyPost_ret (v := .tuple #[.agg #[.int .i64 0, .int .i64 0], .int .i64 d.2]) ?_ rfl ⟨rfl, ?_⟩
    · simp [results, Try.results38, go_sem, *]
    · exact ((((((H1.out.get 1).set 0 (.int .i64 0)).set 1 (.int .i64 0)).get 1).cut 1).cut 1)
  · have e0 : (k == 0) = false := beq_eq_false_iff_ne.2 h0
    by_cases h1 : k = 1
    · subst h1
      have HP := Lib.hid (Drain_st HS.out)
      have E : doB most L 1 a v = (L.tail, drainP L, (if decide (0 < L.length) = true then 1 else 0)) := by unfold doB; rw [if_neg h0, if_pos rfl]
      rw [E]
      rw [drainV_eq] at HP
      clear E
      generalize drainP L = d at *
      generalize decide (0 < L.length) = ok at *
      generalize L.tail = L2 at *
      go_enter Try.func38, Try.ntmps38
      go_wp2_with fail
      refine HP.out.mono ?_
      rintro e w1 ⟨rfl, hs⟩
      have H1 := Lib.hid hs
      have y1 : St P0 w0 w1 (bk (w.heap.size + 1) 83 #[.int .i64 0, .int .i64 0] :: _) := H1.out.get 1
      have g0 : w1.cell? ⟨w.heap.size + 1, 0, none⟩ = some (.int .i64 0) := cell_of_block y1.bk_at 0
      have f0 : w1.frozen? ⟨w.heap.size + 1, 0, none⟩ = false := free_of_block y1.bk_at 0
      have g1 : w1.cell? ⟨w.heap.size + 1, 1, none⟩ = some (.int .i64 0) := cell_of_block y1.bk_at 1
      have f1 : w1.frozen? ⟨w.heap.size + 1, 1, none⟩ = false := free_of_block y1.bk_at 1
      clear y1
      clear hs HS HP
      cases ok with
      | true =>
        go_wp2
        refine bodyPost_ret (v := .tuple #[.agg #[.int .i64 d.1, .int .i64 d.2], .int .i64 1]) ?_ rfl ⟨rfl, ?_⟩
        · simp [results, Try.results38, go_sem, *]
        · exact ((((((H1.out.get 1).set 0 (.int .i64 d.1)).set 1 (.int .i64 d.2)).get 1).cut 1).cut 1)
      | false =>
        go_wp2
        refine bodyPost_ret (v := .tuple #[.agg #[.int .i64 d.1, .int .i64 d.2], .int .i64 0]) ?_ rfl ⟨rfl, ?_⟩
        · simp [results, Try.results38, go_sem, *]
        · exact ((((((H1.out.get 1).set 0 (.int .i64 d.1)).set 1 (.int .i64 d.2)).get 1).cut 1).cut 1)
    · have e1 : (k == 1) = false := beq_eq_false_iff_ne.2 h1
      by_cases h2 : k = 2
      · subst h2
        have HP := Lib.hid (Clear_st HS.out)
        have E : doB most L 2 a v = ([], (0, 0), (L.length : Int)) := by unfold doB; rw [if_neg h0, if_neg h1, if_pos rfl]
        rw [E]
        clear E
        generalize (L.length : Int) = n at *
        go_enter Try.func38, Try.ntmps38
        go_wp2_with fail
        refine HP.out.mono ?_
        rintro e w1 ⟨rfl, hs⟩
        have H1 := Lib.hid hs
        have y1 : St P0 w0 w1 (bk (w.heap.size + 1) 83 #[.int .i64 0, .int .i64 0] :: _) := H1.out.get 1
        have g0 : w1.cell? ⟨w.heap.size + 1, 0, none⟩ = some (.int .i64 0) := cell_of_block y1.bk_at 0
        have f0 : w1.frozen? ⟨w.heap.size + 1, 0, none⟩ = false := free_of_block y1.bk_at 0
        have g1 : w1.cell? ⟨w.heap.size + 1, 1, none⟩ = some (.int .i64 0) := cell_of_block y1.bk_at 1
        have f1 : w1.frozen? ⟨w.heap.size + 1, 1, none⟩ = false := free_of_block y1.bk_at 1
        clear y1
        clear hs HS HP
        go_wp2
        refine bodyPost_ret (v := .tuple #[.agg #[.int .i64 0, .int .i64 0], .int .i64 n]) ?_ rfl ⟨rfl, ?_⟩
        · simp [results, Try.results38, go_sem, *]
        · exact ((((((H1.out.get 1).set 0 (.int .i64 0)).set 1 (.int .i64 0)).get 1).cut 1).cut 1)
      · have e2 : (k == 2) = false := beq_eq_false_iff_ne.2 h2
        have HP := Lib.hid (Find_st HS.out a)
        rw [findV_eq] at HP
        have E : doB most L k a v = (L, (0, findW L a), (if findB L a = true then 1 else 0)) := by unfold doB; rw [if_neg h0, if_neg h1, if_neg h2]
        rw [E]
        clear E
        generalize findW L a = d at *
        generalize findB L a = ok at *
        go_enter Try.func38, Try.ntmps38
        go_wp2_with fail
        refine HP.out.mono ?_
        rintro e w1 ⟨rfl, hs⟩
        have H1 := Lib.hid hs
        have y1 : St P0 w0 w1 (bk (w.heap.size + 1) 83 #[.int .i64 0, .int .i64 0] :: _) := H1.out.get 1
        have g0 : w1.cell? ⟨w.heap.size + 1, 0, none⟩ = some (.int .i64 0) := cell_of_block y1.bk_at 0
        have f0 : w1.frozen? ⟨w.heap.size + 1, 0, none⟩ = false := free_of_block y1.bk_at 0
        have g1 : w1.cell? ⟨w.heap.size + 1, 1, none⟩ = some (.int .i64 0) := cell_of_block y1.bk_at 1
        have f1 : w1.frozen? ⟨w.heap.size + 1, 1, none⟩ = false := free_of_block y1.bk_at 1
        clear y1
        clear hs HS HP
        cases ok with
        | true =>
          go_wp2
          refine bodyPost_ret (v := .tuple #[.agg #[.int .i64 0, .int .i64 d], .int .i64 1]) ?_ rfl ⟨rfl, ?_⟩
          · simp [results, Try.results38, go_sem, *]
          · exact ((((((H1.out.get 1).set 0 (.int .i64 0)).set 1 (.int .i64 d)).get 1).cut 1).cut 1)
        | false =>
          go_wp2
          refine bodyPost_ret (v := .tuple #[.agg #[.int .i64 0, .int .i64 d], .int .i64 0]) ?_ rfl ⟨rfl, ?_⟩
          · simp [results, Try.results38, go_sem, *]
          · exact ((((((H1.out.get 1).set 0 (.int .i64 0)).set 1 (.int .i64 d)).get 1).cut 1).cut 1)
end
/-- What a call tells of no buffer: nothing, and error 1 of Put. -/
def nilE (k : Int) : Int := if k = 0 then 1 else 0
set_option maxHeartbeats 4000000 in
set_option maxRecDepth 100000 in
theorem do_nil (k a v : Int) (w : World) : Calls Try.prog 38 #[.pointer none, .agg #[.int .i64 k, .int .i64 a, .int .i64 v]] w fun e w' => e = .returned (.tuple #[.agg #[.int .i64 0, .int .i64 0], .int .i64 (nilE k)]) ∧ Up w w' := by
  have hu : ∀ x : Obj, Up w ((w.alloc x).alloc (.cells #[.int .i64 0, .int .i64 0] 83)) := fun x => ((Up.refl w).alloc _).alloc _
  have HU := Lib.hid hu
  clear hu
  by_cases h0 : k = 0
  · subst h0
    rw [show nilE 0 = 1 from rfl]
    go_enter Try.func38, Try.ntmps38
    go_wp2_with (go_at_call 77; refine (Put_nil _ _ _).mono ?_; rintro e w' ⟨rfl, rfl⟩)
    refine bodyPost_ret (v := .tuple #[.agg #[.int .i64 0, .int .i64 0], .int .i64 1]) ?_ rfl ⟨rfl, HU.out _⟩
    simp [results, Try.results38, go_sem, *]
  · have e0 : (k == 0) = false := beq_eq_false_iff_ne.2 h0
    rw [show nilE k = 0 from if_neg h0]
    by_cases h1 : k = 1
    · subst h1
      go_enter Try.func38, Try.ntmps38
      go_wp2_with (go_at_call 78; refine (Drain_nil _).mono ?_; rintro e w' ⟨rfl, rfl⟩)
      refine bodyPost_ret (v := .tuple #[.agg #[.int .i64 0, .int .i64 0], .int .i64 0]) ?_ rfl ⟨rfl, HU.out _⟩
      simp [results, Try.results38, go_sem, *]
    · have e1 : (k == 1) = false := beq_eq_false_iff_ne.2 h1
      by_cases h2 : k = 2
      · subst h2
        go_enter Try.func38, Try.ntmps38
        go_wp2_with (go_at_call 79; refine (Clear_nil _).mono ?_; rintro e w' ⟨rfl, rfl⟩)
        refine bodyPost_ret (v := .tuple #[.agg #[.int .i64 0, .int .i64 0], .int .i64 0]) ?_ rfl ⟨rfl, HU.out _⟩
        simp [results, Try.results38, go_sem, *]
      · have e2 : (k == 2) = false := beq_eq_false_iff_ne.2 h2
        go_enter Try.func38, Try.ntmps38
        go_wp2_with (go_at_call 41; refine (Find_nil _ _).mono ?_; rintro e w' ⟨rfl, rfl⟩)
        refine bodyPost_ret (v := .tuple #[.agg #[.int .i64 0, .int .i64 0], .int .i64 0]) ?_ rfl ⟨rfl, HU.out _⟩
        simp [results, Try.results38, go_sem, *]
end Go.Proofs.Ytiofdkkjjeljmaa.Sbuf
