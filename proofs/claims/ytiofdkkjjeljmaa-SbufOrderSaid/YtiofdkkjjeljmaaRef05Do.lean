/- The reference's Do of chapter 05. -/
import Derived.Test.YtiofdkkjjeljmaaRef05
namespace Go.Proofs.Ytiofdkkjjeljmaa.Ref05
set_option linter.unusedVariables false
set_option linter.unusedSimpArgs false
open Go.RowKit Go.Proofs.Ytiofdkkjjeljmaa.CellOf Go.Proofs.Ytiofdkkjjeljmaa.CellP Go.Proofs.Ytiofdkkjjeljmaa.Sep Go.Proofs.Ytiofdkkjjeljmaa.Find Go.Proofs.Ytiofdkkjjeljmaa.Sbuf

def drainP : List W16 → Int × Int
  | [] => (0, 0)
  | x :: _ => ((x.a : Int), (x.v : Int))
def findW (L : List W16) (a : Int) : Int := match findL L a with
  | some u => (u : Int)
  | none => 0
def findB (L : List W16) (a : Int) : Bool := (findL L a).isSome
theorem findV_eq (L : List W16) (a : Int) : findV L a = .tuple #[.int .i64 (findW L a), .bool (findB L a)] := by
  unfold findV findW findB
  cases findL L a <;> rfl
theorem drainV_eq (L : List W16) : drainV L = .tuple #[.int .i64 (drainP L).1, .int .i64 (drainP L).2, .bool (decide (0 < L.length))] := by
  cases L with
  | nil => rfl
  | cons x L => simp [drainV, drainP]
theorem drainT_eq (L : List W16) : drainT L = .agg #[.int .i64 (drainP L).1, .int .i64 (drainP L).2] := by
  cases L <;> rfl
/-- What a call does: the stores then, the store told, and the error (or 1). -/
def doB (cap : Nat) (L : List W16) (k a v : Int) : List W16 × (Int × Int) × Int :=
  if k = 0 then ((putB cap L a v).1, (0, 0), (putB cap L a v).2)
  else if k = 1 then (L.tail, drainP L, (if decide (0 < L.length) = true then 1 else 0))
  else if k = 2 then ([], (0, 0), (L.length : Int))
  else (L, (0, findW L a), (if findB L a = true then 1 else 0))
section
variable {P0 : Nat → Prop} {w0 w w' : World} {F : List Rg} {V : Value} {L : List W16}
set_option maxHeartbeats 8000000 in
set_option maxRecDepth 100000 in
theorem Do_st (h : St P0 w0 w (rl V L :: F)) (cap : Nat) (k a v : Int) (hl : L.length ≤ 1000) :
    Calls Try.prog 47 #[rv cap V, .agg #[.int .i64 k, .int .i64 a, .int .i64 v]] w fun e w' => ∃ V', e = .returned (.tuple #[rv cap V', .agg #[.int .i64 (doB cap L k a v).2.1.1, .int .i64 (doB cap L k a v).2.1.2], .int .i64 (doB cap L k a v).2.2]) ∧ St P0 w0 w' (both (rl V L) (rl V' (doB cap L k a v).1) :: F) := by
  have hb := (((h.alloc #[.int .i64 (cap : Int), V] 96).alloc #[.int .i64 k, .int .i64 a, .int .i64 v] 85).alloc #[.int .i64 0, .slice none 0 0] 96).alloc #[.int .i64 0, .int .i64 0] 83
  rw [World.size_alloc, World.size_alloc, World.size_alloc] at hb
  have hs : St P0 w0 _ (rl V L :: bk (w.heap.size + 1 + 1 + 1) 83 #[.int .i64 0, .int .i64 0] :: bk (w.heap.size + 1 + 1) 96 #[.int .i64 0, .slice none 0 0] :: bk (w.heap.size + 1) 85 #[.int .i64 k, .int .i64 a, .int .i64 v] :: bk w.heap.size 96 #[.int .i64 (cap : Int), V] :: F) := hb.get 4
  have HS := Lib.hid hs
  obtain ⟨A, c, rfl, -⟩ := rl_form h
  have H0 := Lib.hid h
  clear h hb hs
  by_cases h0 : k = 0
  · subst h0
    have HP := Lib.hid (Put_st HS.out cap a v (by omega))
    have E : doB cap L 0 a v = ((putB cap L a v).1, (0, 0), (putB cap L a v).2) := if_pos rfl
    rw [E]
    clear E
    generalize putB cap L a v = d at *
    go_enter Try.func47, Try.ntmps47
    go_wp2_with fail
    refine HP.out.mono ?_
    rintro e w1 ⟨V', rfl, hs⟩
    obtain ⟨A', c', rfl, -⟩ := rl_form hs.right
    have H1 := Lib.hid hs
    have y4 : St P0 w0 w1 (bk (w.heap.size + 1 + 1) 96 #[.int .i64 0, .slice none 0 0] :: _) := (H1.out).get 2
    have y5 : St P0 w0 w1 (bk (w.heap.size + 1 + 1 + 1) 83 #[.int .i64 0, .int .i64 0] :: _) := (H1.out).get 1
    have g40 : w1.cell? ⟨w.heap.size + 1 + 1, 0, none⟩ = some (.int .i64 0) := cell_of_block y4.bk_at 0
    have f40 : w1.frozen? ⟨w.heap.size + 1 + 1, 0, none⟩ = false := free_of_block y4.bk_at 0
    have g41 : w1.cell? ⟨w.heap.size + 1 + 1, 1, none⟩ = some (.slice none 0 0) := cell_of_block y4.bk_at 1
    have f41 : w1.frozen? ⟨w.heap.size + 1 + 1, 1, none⟩ = false := free_of_block y4.bk_at 1
    have g50 : w1.cell? ⟨w.heap.size + 1 + 1 + 1, 0, none⟩ = some (.int .i64 0) := cell_of_block y5.bk_at 0
    have f50 : w1.frozen? ⟨w.heap.size + 1 + 1 + 1, 0, none⟩ = false := free_of_block y5.bk_at 0
    have g51 : w1.cell? ⟨w.heap.size + 1 + 1 + 1, 1, none⟩ = some (.int .i64 0) := cell_of_block y5.bk_at 1
    have f51 : w1.frozen? ⟨w.heap.size + 1 + 1 + 1, 1, none⟩ = false := free_of_block y5.bk_at 1
    have l4 := y4.bk_in.2
    have l5 := y5.bk_in.2
    clear y4 y5
    clear hs HS HP
    go_wp2
    refine bodyPost_ret (v := .tuple #[rv cap (.slice A' d.1.length c'), .agg #[.int .i64 0, .int .i64 0], .int .i64 d.2]) ?_ rfl ⟨_, rfl, ?_⟩
    · simp [results, Try.results47, go_sem, *]
    · have h9 := ((((((((((H1.out.get 2).set 0 (.int .i64 (cap : Int))).set 1 (.slice A' d.1.length c')).get 2).set 0 (.int .i64 0)).set 1 (.int .i64 0)).get 2).cut 1).cut 1).cut 1).cut 1
      exact h9.allocU _
  · have e0 : (k == 0) = false := beq_eq_false_iff_ne.2 h0
    by_cases h1 : k = 1
    · subst h1
      have HP := Lib.hid (Drain_st HS.out cap (by omega))
      have E : doB cap L 1 a v = (L.tail, drainP L, (if decide (0 < L.length) = true then 1 else 0)) := by unfold doB; rw [if_neg h0, if_pos rfl]
      rw [E]
      rw [drainT_eq] at HP
      clear E
      generalize drainP L = d at *
      generalize decide (0 < L.length) = ok at *
      generalize L.tail = L2 at *
      go_enter Try.func47, Try.ntmps47
      go_wp2_with fail
      refine HP.out.mono ?_
      rintro e w1 ⟨V', rfl, hs⟩
      obtain ⟨A', c', rfl, -⟩ := rl_form hs.right
      have H1 := Lib.hid hs
      clear hs HS HP
      cases ok with
      | true =>
        go_wp2_with fail
        have hlp : w.heap.size + 1 + 1 + 1 < w1.heap.size := (St.bk_in (H1.out.get 1 : St P0 w0 w1 (bk (w.heap.size + 1 + 1 + 1) 83 #[.int .i64 0, .int .i64 0] :: _))).2
        have h2 := (H1.out.alloc #[.int .i64 (cap : Int), .slice A' L2.length c'] 96).alloc #[.int .i64 d.1, .int .i64 d.2] 83
        rw [World.size_alloc] at h2
        have H2 := Lib.hid h2
        clear h2 H1
        generalize hw2 : (w1.alloc (.cells #[.int .i64 (cap : Int), .slice A' L2.length c'] 96)).alloc (.cells #[.int .i64 d.1, .int .i64 d.2] 83) = w2 at *
        clear hw2
        obtain ⟨p, hp⟩ : ∃ p, w1.heap.size = p := ⟨_, rfl⟩
        simp only [hp] at H2 hlp ⊢
        clear hp
        have i0 : ¬ (p = w.heap.size) := by omega
        have i1 : ¬ (p = w.heap.size + 1) := by omega
        have i2 : ¬ (p = w.heap.size + 1 + 1) := by omega
        have i3 : ¬ (p = w.heap.size + 1 + 1 + 1) := by omega
        have j0 : ¬ (w.heap.size = p) := by omega
        have j1 : ¬ (w.heap.size + 1 = p) := by omega
        have j2 : ¬ (w.heap.size + 1 + 1 = p) := by omega
        have j3 : ¬ (w.heap.size + 1 + 1 + 1 = p) := by omega
        have y4 : St P0 w0 w2 (bk (w.heap.size + 1 + 1) 96 #[.int .i64 0, .slice none 0 0] :: _) := (H2.out).get 4
        have y5 : St P0 w0 w2 (bk (w.heap.size + 1 + 1 + 1) 83 #[.int .i64 0, .int .i64 0] :: _) := (H2.out).get 3
        have g40 : w2.cell? ⟨w.heap.size + 1 + 1, 0, none⟩ = some (.int .i64 0) := cell_of_block y4.bk_at 0
        have f40 : w2.frozen? ⟨w.heap.size + 1 + 1, 0, none⟩ = false := free_of_block y4.bk_at 0
        have g41 : w2.cell? ⟨w.heap.size + 1 + 1, 1, none⟩ = some (.slice none 0 0) := cell_of_block y4.bk_at 1
        have f41 : w2.frozen? ⟨w.heap.size + 1 + 1, 1, none⟩ = false := free_of_block y4.bk_at 1
        have g50 : w2.cell? ⟨w.heap.size + 1 + 1 + 1, 0, none⟩ = some (.int .i64 0) := cell_of_block y5.bk_at 0
        have f50 : w2.frozen? ⟨w.heap.size + 1 + 1 + 1, 0, none⟩ = false := free_of_block y5.bk_at 0
        have g51 : w2.cell? ⟨w.heap.size + 1 + 1 + 1, 1, none⟩ = some (.int .i64 0) := cell_of_block y5.bk_at 1
        have f51 : w2.frozen? ⟨w.heap.size + 1 + 1 + 1, 1, none⟩ = false := free_of_block y5.bk_at 1
        have l4 := y4.bk_in.2
        have l5 := y5.bk_in.2
        clear y4 y5
        have g60 : w2.cell? ⟨p, 0, none⟩ = some (.int .i64 (cap : Int)) := cell_of_block (St.bk_at (H2.out.get 1 : St P0 w0 w2 (bk p 96 #[.int .i64 (cap : Int), .slice A' L2.length c'] :: _))) 0
        have g61 : w2.cell? ⟨p, 1, none⟩ = some (.slice A' L2.length c') := cell_of_block (St.bk_at (H2.out.get 1 : St P0 w0 w2 (bk p 96 #[.int .i64 (cap : Int), .slice A' L2.length c'] :: _))) 1
        have g70 : w2.cell? ⟨p + 1, 0, none⟩ = some (.int .i64 d.1) := cell_of_block H2.out.bk_at 0
        have g71 : w2.cell? ⟨p + 1, 1, none⟩ = some (.int .i64 d.2) := cell_of_block H2.out.bk_at 1
        go_region
        go_wp2
        refine bodyPost_ret (v := .tuple #[rv cap (.slice A' L2.length c'), .agg #[.int .i64 d.1, .int .i64 d.2], .int .i64 1]) ?_ rfl ⟨_, rfl, ?_⟩
        · simp [results, Try.results47, go_sem, *]
        · have h9 := ((((((((((((H2.out.get 4).set 0 (.int .i64 (cap : Int))).set 1 (.slice A' L2.length c')).get 4).set 0 (.int .i64 d.1)).set 1 (.int .i64 d.2)).get 4).cut 1).cut 1).cut 1).cut 1).cut 1).cut 1
          exact h9.drew
      | false =>
        go_wp2_with fail
        have hlp : w.heap.size + 1 + 1 + 1 < w1.heap.size := (St.bk_in (H1.out.get 1 : St P0 w0 w1 (bk (w.heap.size + 1 + 1 + 1) 83 #[.int .i64 0, .int .i64 0] :: _))).2
        have h2 := (H1.out.alloc #[.int .i64 (cap : Int), .slice A' L2.length c'] 96).alloc #[.int .i64 d.1, .int .i64 d.2] 83
        rw [World.size_alloc] at h2
        have H2 := Lib.hid h2
        clear h2 H1
        generalize hw2 : (w1.alloc (.cells #[.int .i64 (cap : Int), .slice A' L2.length c'] 96)).alloc (.cells #[.int .i64 d.1, .int .i64 d.2] 83) = w2 at *
        clear hw2
        obtain ⟨p, hp⟩ : ∃ p, w1.heap.size = p := ⟨_, rfl⟩
        simp only [hp] at H2 hlp ⊢
        clear hp
        have i0 : ¬ (p = w.heap.size) := by omega
        have i1 : ¬ (p = w.heap.size + 1) := by omega
        have i2 : ¬ (p = w.heap.size + 1 + 1) := by omega
        have i3 : ¬ (p = w.heap.size + 1 + 1 + 1) := by omega
        have j0 : ¬ (w.heap.size = p) := by omega
        have j1 : ¬ (w.heap.size + 1 = p) := by omega
        have j2 : ¬ (w.heap.size + 1 + 1 = p) := by omega
        have j3 : ¬ (w.heap.size + 1 + 1 + 1 = p) := by omega
        have y4 : St P0 w0 w2 (bk (w.heap.size + 1 + 1) 96 #[.int .i64 0, .slice none 0 0] :: _) := (H2.out).get 4
        have y5 : St P0 w0 w2 (bk (w.heap.size + 1 + 1 + 1) 83 #[.int .i64 0, .int .i64 0] :: _) := (H2.out).get 3
        have g40 : w2.cell? ⟨w.heap.size + 1 + 1, 0, none⟩ = some (.int .i64 0) := cell_of_block y4.bk_at 0
        have f40 : w2.frozen? ⟨w.heap.size + 1 + 1, 0, none⟩ = false := free_of_block y4.bk_at 0
        have g41 : w2.cell? ⟨w.heap.size + 1 + 1, 1, none⟩ = some (.slice none 0 0) := cell_of_block y4.bk_at 1
        have f41 : w2.frozen? ⟨w.heap.size + 1 + 1, 1, none⟩ = false := free_of_block y4.bk_at 1
        have g50 : w2.cell? ⟨w.heap.size + 1 + 1 + 1, 0, none⟩ = some (.int .i64 0) := cell_of_block y5.bk_at 0
        have f50 : w2.frozen? ⟨w.heap.size + 1 + 1 + 1, 0, none⟩ = false := free_of_block y5.bk_at 0
        have g51 : w2.cell? ⟨w.heap.size + 1 + 1 + 1, 1, none⟩ = some (.int .i64 0) := cell_of_block y5.bk_at 1
        have f51 : w2.frozen? ⟨w.heap.size + 1 + 1 + 1, 1, none⟩ = false := free_of_block y5.bk_at 1
        have l4 := y4.bk_in.2
        have l5 := y5.bk_in.2
        clear y4 y5
        have g60 : w2.cell? ⟨p, 0, none⟩ = some (.int .i64 (cap : Int)) := cell_of_block (St.bk_at (H2.out.get 1 : St P0 w0 w2 (bk p 96 #[.int .i64 (cap : Int), .slice A' L2.length c'] :: _))) 0
        have g61 : w2.cell? ⟨p, 1, none⟩ = some (.slice A' L2.length c') := cell_of_block (St.bk_at (H2.out.get 1 : St P0 w0 w2 (bk p 96 #[.int .i64 (cap : Int), .slice A' L2.length c'] :: _))) 1
        have g70 : w2.cell? ⟨p + 1, 0, none⟩ = some (.int .i64 d.1) := cell_of_block H2.out.bk_at 0
        have g71 : w2.cell? ⟨p + 1, 1, none⟩ = some (.int .i64 d.2) := cell_of_block H2.out.bk_at 1
        go_region
        go_wp2
        refine bodyPost_ret (v := .tuple #[rv cap (.slice A' L2.length c'), .agg #[.int .i64 d.1, .int .i64 d.2], .int .i64 0]) ?_ rfl ⟨_, rfl, ?_⟩
        · simp [results, Try.results47, go_sem, *]
        · have h9 := ((((((((((((H2.out.get 4).set 0 (.int .i64 (cap : Int))).set 1 (.slice A' L2.length c')).get 4).set 0 (.int .i64 d.1)).set 1 (.int .i64 d.2)).get 4).cut 1).cut 1).cut 1).cut 1).cut 1).cut 1
          exact h9.drew
    · have e1 : (k == 1) = false := beq_eq_false_iff_ne.2 h1
      by_cases h2 : k = 2
      · subst h2
        have E : doB cap L 2 a v = ([], (0, 0), (L.length : Int)) := by unfold doB; rw [if_neg h0, if_neg h1, if_pos rfl]
        rw [E]
        clear E HS
        go_enter Try.func47, Try.ntmps47
        go_wp2
        refine bodyPost_ret (v := .tuple #[rv cap (.slice none 0 0), .agg #[.int .i64 0, .int .i64 0], .int .i64 (L.length : Int)]) ?_ rfl ⟨_, rfl, ?_⟩
        · simp [results, Try.results47, go_sem, *]
        · have h9 := (((H0.out.allocU (.cells #[.int .i64 (cap : Int), .slice none 0 0] 96)).allocU (.cells #[.int .i64 2, .int .i64 a, .int .i64 v] 85)).allocU (.cells #[.int .i64 (cap : Int), .slice none 0 0] 96)).allocU (.cells #[.int .i64 0, .int .i64 0] 83)
          exact ((St.fresh (M := [rl (.slice none 0 0) []]) h9 (Up.refl _) ⟨No, No, fun _ e => e.elim, fun _ e => e.elim, fun _ e => e.elim, slc_nil _ _ _ _, trivial⟩).get 1).join
      · have e2 : (k == 2) = false := beq_eq_false_iff_ne.2 h2
        have HP := Lib.hid (Find_st HS.out cap a (by omega))
        rw [findV_eq] at HP
        have E : doB cap L k a v = (L, (0, findW L a), (if findB L a = true then 1 else 0)) := by unfold doB; rw [if_neg h0, if_neg h1, if_neg h2]
        rw [E]
        clear E
        generalize findW L a = d at *
        generalize findB L a = ok at *
        go_enter Try.func47, Try.ntmps47
        go_wp2_with fail
        refine HP.out.mono ?_
        rintro e w1 ⟨rfl, hs⟩
        have H1 := Lib.hid hs
        have y4 : St P0 w0 w1 (bk (w.heap.size + 1 + 1) 96 #[.int .i64 0, .slice none 0 0] :: _) := (H1.out).get 2
        have y5 : St P0 w0 w1 (bk (w.heap.size + 1 + 1 + 1) 83 #[.int .i64 0, .int .i64 0] :: _) := (H1.out).get 1
        have g40 : w1.cell? ⟨w.heap.size + 1 + 1, 0, none⟩ = some (.int .i64 0) := cell_of_block y4.bk_at 0
        have f40 : w1.frozen? ⟨w.heap.size + 1 + 1, 0, none⟩ = false := free_of_block y4.bk_at 0
        have g41 : w1.cell? ⟨w.heap.size + 1 + 1, 1, none⟩ = some (.slice none 0 0) := cell_of_block y4.bk_at 1
        have f41 : w1.frozen? ⟨w.heap.size + 1 + 1, 1, none⟩ = false := free_of_block y4.bk_at 1
        have g50 : w1.cell? ⟨w.heap.size + 1 + 1 + 1, 0, none⟩ = some (.int .i64 0) := cell_of_block y5.bk_at 0
        have f50 : w1.frozen? ⟨w.heap.size + 1 + 1 + 1, 0, none⟩ = false := free_of_block y5.bk_at 0
        have g51 : w1.cell? ⟨w.heap.size + 1 + 1 + 1, 1, none⟩ = some (.int .i64 0) := cell_of_block y5.bk_at 1
        have f51 : w1.frozen? ⟨w.heap.size + 1 + 1 + 1, 1, none⟩ = false := free_of_block y5.bk_at 1
        have l4 := y4.bk_in.2
        have l5 := y5.bk_in.2
        clear y4 y5
        have y2 : St P0 w0 w1 (bk w.heap.size 96 #[.int .i64 (cap : Int), .slice A L.length c] :: _) := H1.out.get 4
        have g20 : w1.cell? ⟨w.heap.size, 0, none⟩ = some (.int .i64 (cap : Int)) := cell_of_block y2.bk_at 0
        have g21 : w1.cell? ⟨w.heap.size, 1, none⟩ = some (.slice A L.length c) := cell_of_block y2.bk_at 1
        clear hs HS HP y2
        cases ok with
        | true =>
          go_wp2
          refine bodyPost_ret (v := .tuple #[rv cap (.slice A L.length c), .agg #[.int .i64 0, .int .i64 d], .int .i64 1]) ?_ rfl ⟨_, rfl, ?_⟩
          · simp [results, Try.results47, go_sem, *]
          · have h9 := ((((((((((H1.out.get 2).set 0 (.int .i64 (cap : Int))).set 1 (.slice A L.length c)).get 2).set 0 (.int .i64 0)).set 1 (.int .i64 d)).get 2).cut 1).cut 1).cut 1).cut 1
            exact h9.twice
        | false =>
          go_wp2
          refine bodyPost_ret (v := .tuple #[rv cap (.slice A L.length c), .agg #[.int .i64 0, .int .i64 d], .int .i64 0]) ?_ rfl ⟨_, rfl, ?_⟩
          · simp [results, Try.results47, go_sem, *]
          · have h9 := ((((((((((H1.out.get 2).set 0 (.int .i64 (cap : Int))).set 1 (.slice A L.length c)).get 2).set 0 (.int .i64 0)).set 1 (.int .i64 d)).get 2).cut 1).cut 1).cut 1).cut 1
            exact h9.twice
end
end Go.Proofs.Ytiofdkkjjeljmaa.Ref05
