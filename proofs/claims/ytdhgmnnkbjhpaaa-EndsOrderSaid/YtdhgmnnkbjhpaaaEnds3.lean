/- Endpoints that are nil. -/
import Derived.Test.YtdhgmnnkbjhpaaaEnds2
import Derived.LoopTactic
namespace Go.Proofs.Ytdhgmnnkbjhpaaa.Eps
set_option linter.unusedVariables false
set_option linter.unusedSimpArgs false
open Go.RowKit Go.Proofs.Ytdhgmnnkbjhpaaa.Sep Go.Proofs.Ytdhgmnnkbjhpaaa.Mp
abbrev zMsg : Value := .agg #[.int .i64 0, .int .i64 0, .int .i64 0, .slice none 0 0]
set_option maxRecDepth 100000 in
theorem Has_nil (a : Int) (w : World) : Calls Try.prog 18 #[.pointer none, .int .i64 a] w fun x w' => x = .returned (.bool false) ∧ w' = w := by
  go_enter Try.func18, Try.ntmps18
  go_wp2
  go_ret
  exact ⟨rfl, rfl⟩
set_option maxRecDepth 100000 in
theorem Waits_nil (a : Int) (w : World) : Calls Try.prog 16 #[.pointer none, .int .i64 a] w fun x w' => x = .returned (.int .i64 0) ∧ w' = w := by
  go_enter Try.func16, Try.ntmps16
  go_wp2
  go_ret
  exact ⟨rfl, rfl⟩
set_option maxRecDepth 100000 in
theorem List_nil (w : World) : Calls Try.prog 20 #[.pointer none] w fun x w' => x = .returned (.slice none 0 0) ∧ w' = w := by
  go_enter Try.func20, Try.ntmps20
  go_wp2
  go_ret
  exact ⟨rfl, rfl⟩
set_option maxRecDepth 100000 in
theorem Full_nil (a : Int) (w : World) : Calls Try.prog 35 #[.pointer none, .int .i64 a] w fun x w' => x = .returned (.bool false) ∧ w' = w := by
  go_enter Try.func35, Try.ntmps35
  go_wp2_with (go_at_call 16; refine (Waits_nil _ _).mono ?_; rintro x w1 ⟨rfl, rfl⟩)
  go_ret
  exact ⟨rfl, rfl⟩
set_option maxRecDepth 100000 in
theorem wrong_nil (a : Int) (w : World) : Calls Try.prog 55 #[.pointer none, .int .i64 a] w fun x w' => x = .returned (.int .i64 1) ∧ w' = w := by
  go_enter Try.func55, Try.ntmps55
  go_wp2
  go_ret
  exact ⟨rfl, rfl⟩
set_option maxRecDepth 100000 in
theorem Open_nil (a : Int) (w : World) : Calls Try.prog 19 #[.pointer none, .int .i64 a] w fun x w' => x = .returned (.tuple #[.int .i64 0, .int .i64 1]) ∧ w' = w := by
  go_enter Try.func19, Try.ntmps19
  go_wp2
  go_ret2
  exact ⟨rfl, rfl⟩
set_option maxRecDepth 100000 in
theorem Close_nil (a : Int) (w : World) : Calls Try.prog 38 #[.pointer none, .int .i64 a] w fun x w' => x = .returned (.int .i64 1) ∧ w' = w := by
  go_enter Try.func38, Try.ntmps38
  go_wp2_with (go_at_call 55; refine (wrong_nil _ _).mono ?_; rintro x w1 ⟨rfl, rfl⟩)
  go_ret
  exact ⟨rfl, rfl⟩
set_option maxRecDepth 100000 in
theorem Deliver_nil (b0 b1 b2 : Int) (A : Option Addr) (n c : Nat) (w : World) : Calls Try.prog 39 #[.pointer none, .agg #[.int .i64 b0, .int .i64 b1, .int .i64 b2, .slice A n c]] w fun x w' => x = .returned (.int .i64 1) ∧ Up w w' := by
  go_enter Try.func39, Try.ntmps39
  go_wp2
  go_ret
  exact ⟨rfl, (Up.refl w).alloc _⟩
set_option maxRecDepth 100000 in
theorem Take_nil (a : Int) (w : World) : Calls Try.prog 40 #[.pointer none, .int .i64 a] w fun x w' => x = .returned (.tuple #[zMsg, .int .i64 1]) ∧ Up w w' := by
  go_enter Try.func40, Try.ntmps40
  go_wp2_with (go_at_call 55; refine (wrong_nil _ _).mono ?_; rintro x w1 ⟨rfl, rfl⟩)
  (try simp only [Exit.inBlock, Exit.then])
  refine bodyPost_ret (v := .tuple #[zMsg, .int .i64 1]) ?_ rfl ⟨rfl, (Up.refl w).alloc _⟩
  rw [results_cell_tmp (fn := Try.f40) rfl]
  go_simp
set_option maxHeartbeats 2000000 in
set_option maxRecDepth 100000 in
theorem Same_zero (w : World) : Calls Try.prog 17 #[zMsg, zMsg] w fun x w' => x = .returned (.bool true) ∧ Up w w' := by
  go_enter Try.func17, Try.ntmps17
  go_wp2
  refine wp_loop_rounds 1 ?_
  rw [rounds_succ]
  go_wp2
  go_ret
  exact ⟨rfl, ((Up.refl w).alloc _).alloc _⟩
theorem results_tct {fn : Func} {u p v : Tmp} {ty : TypeId} (h : fn.results = #[.tmp u, .cell p ty, .tmp v]) (tmps : Array Value) (P : Program) (w : World) :
    (results fn tmps).run P w = ((asAddr (tmps.getD p undef)).run P w).andThen fun a w₁ => ((loadVar ty a).run P w₁).andThen fun x w₂ => .ok (.tuple #[tmps.getD u undef, x, tmps.getD v undef]) w₂ := by
  simp only [results, h]
  simp [Sem.run_bind, Result.andThen]
set_option maxHeartbeats 4000000 in
set_option maxRecDepth 100000 in
theorem do_nil (k a b0 b1 b2 : Int) (A : Option Addr) (n c : Nat) (w : World) : Calls Try.prog 15 #[.pointer none, .agg #[.int .i64 k, .int .i64 a, .int .i64 b0, .int .i64 b1, .int .i64 b2, .slice A n c]] w fun x w' => x = .returned (.tuple #[.int .i64 0, zMsg, .int .i64 1]) ∧ Up w w' := by
  have h0 := ((St.nil w).allocU (.cells #[.int .i64 k, .int .i64 a, .int .i64 b0, .int .i64 b1, .int .i64 b2, .slice A n c] 32)).alloc #[.int .i64 0, .int .i64 0, .int .i64 0, .slice none 0 0] 30
  rw [World.size_alloc] at h0
  have HS0 := Lib.hid h0
  clear h0
  rcases (by omega : k = 0 ∨ k = 1 ∨ k = 2 ∨ (k ≠ 0 ∧ k ≠ 1 ∧ k ≠ 2)) with rfl | rfl | rfl | ⟨h0, h1, h2⟩
  · go_enter Try.func15, Try.ntmps15
    go_wp2_with (go_at_call 19; refine (Open_nil _ _).mono ?_; rintro x w1 ⟨rfl, rfl⟩)
    (try simp only [Exit.inBlock, Exit.then])
    refine bodyPost_ret (v := .tuple #[.int .i64 0, zMsg, .int .i64 1]) ?_ rfl ⟨rfl, HS0.out.up⟩
    rw [results_tct (fn := Try.f15) rfl]
    go_simp
  · go_enter Try.func15, Try.ntmps15
    go_wp2_with (go_at_call 38; refine (Close_nil _ _).mono ?_; rintro x w1 ⟨rfl, rfl⟩)
    (try simp only [Exit.inBlock, Exit.then])
    refine bodyPost_ret (v := .tuple #[.int .i64 0, zMsg, .int .i64 1]) ?_ rfl ⟨rfl, HS0.out.up⟩
    rw [results_tct (fn := Try.f15) rfl]
    go_simp
  · go_enter Try.func15, Try.ntmps15
    go_wp2_with (go_at_call 39; refine (Deliver_nil _ _ _ _ _ _ _).mono ?_; rintro x w1 ⟨rfl, hu⟩; have h1 := HS0.out.more hu; have p0 : w1.cell? ⟨w.heap.size + 1, 0, none⟩ = some (.int .i64 0) := cell_of_block h1.bk_at 0; have p1 : w1.cell? ⟨w.heap.size + 1, 1, none⟩ = some (.int .i64 0) := cell_of_block h1.bk_at 1; have p2 : w1.cell? ⟨w.heap.size + 1, 2, none⟩ = some (.int .i64 0) := cell_of_block h1.bk_at 2; have p3 : w1.cell? ⟨w.heap.size + 1, 3, none⟩ = some (.slice none 0 0) := cell_of_block h1.bk_at 3; have f0 : w1.frozen? ⟨w.heap.size + 1, 0, none⟩ = false := free_of_block h1.bk_at 0; have f1 : w1.frozen? ⟨w.heap.size + 1, 1, none⟩ = false := free_of_block h1.bk_at 1; have f2 : w1.frozen? ⟨w.heap.size + 1, 2, none⟩ = false := free_of_block h1.bk_at 2; have f3 : w1.frozen? ⟨w.heap.size + 1, 3, none⟩ = false := free_of_block h1.bk_at 3; have HS1 := Lib.hid h1; clear h1 hu)
    (try simp only [Exit.inBlock, Exit.then])
    refine bodyPost_ret (v := .tuple #[.int .i64 0, zMsg, .int .i64 1]) ?_ rfl ⟨rfl, ((((HS1.out.set 0 (.int .i64 0)).set 1 (.int .i64 0)).set 2 (.int .i64 0)).set 3 (.slice none 0 0)).up⟩
    rw [results_tct (fn := Try.f15) rfl]
    go_simp
  · have e0 : (k == 0) = false := beq_eq_false_iff_ne.2 h0
    have e1 : (k == 1) = false := beq_eq_false_iff_ne.2 h1
    have e2 : (k == 2) = false := beq_eq_false_iff_ne.2 h2
    go_enter Try.func15, Try.ntmps15
    go_upto_region 10 with (go_at_call 40; refine (Take_nil _ _).mono ?_; rintro x w1 ⟨rfl, hu⟩; have h1 := HS0.out.more hu; have p0 : w1.cell? ⟨w.heap.size + 1, 0, none⟩ = some (.int .i64 0) := cell_of_block h1.bk_at 0; have p1 : w1.cell? ⟨w.heap.size + 1, 1, none⟩ = some (.int .i64 0) := cell_of_block h1.bk_at 1; have p2 : w1.cell? ⟨w.heap.size + 1, 2, none⟩ = some (.int .i64 0) := cell_of_block h1.bk_at 2; have p3 : w1.cell? ⟨w.heap.size + 1, 3, none⟩ = some (.slice none 0 0) := cell_of_block h1.bk_at 3; have f0 : w1.frozen? ⟨w.heap.size + 1, 0, none⟩ = false := free_of_block h1.bk_at 0; have f1 : w1.frozen? ⟨w.heap.size + 1, 1, none⟩ = false := free_of_block h1.bk_at 1; have f2 : w1.frozen? ⟨w.heap.size + 1, 2, none⟩ = false := free_of_block h1.bk_at 2; have f3 : w1.frozen? ⟨w.heap.size + 1, 3, none⟩ = false := free_of_block h1.bk_at 3; have HS1 := Lib.hid h1; clear h1 hu)
    have lp := World.block_lt_of_cell? w1 _ p0
    go_region
    all_goals
      go_wp2
      (try simp only [Exit.inBlock, Exit.then])
      refine bodyPost_ret (v := .tuple #[.int .i64 0, zMsg, .int .i64 1]) ?_ rfl ⟨rfl, ?_⟩
      · rw [results_tct (fn := Try.f15) rfl]
        go_simp
      · exact (((((HS1.out.set 0 (.int .i64 0)).set 1 (.int .i64 0)).set 2 (.int .i64 0)).set 3 (.slice none 0 0)).up.alloc _).drew
set_option maxHeartbeats 4000000 in
set_option maxRecDepth 100000 in
theorem nobody_walk (k a b0 b1 b2 : Int) (A : Option Addr) (n c : Nat) (w : World) : Calls Try.prog 11 #[.agg #[.int .i64 k, .int .i64 a, .int .i64 b0, .int .i64 b1, .int .i64 b2, .slice A n c]] w fun x w' => x = .returned (.bool true) ∧ Up w w' := by
  have HU0 := Lib.hid ((Up.refl w).alloc (.cells #[.int .i64 k, .int .i64 a, .int .i64 b0, .int .i64 b1, .int .i64 b2, .slice A n c] 32))
  by_cases hn : n ≤ 50
  · have g1 : decide ((50 : Int) < (n : Int)) = false := decide_eq_false (by omega)
    have HD := Lib.hid (do_nil k a b0 b1 b2 A n c)
    have c1 : (w.alloc (.cells #[.int .i64 k, .int .i64 a, .int .i64 b0, .int .i64 b1, .int .i64 b2, .slice A n c] 32)).cell? ⟨w.heap.size, 1, none⟩ = some (.int .i64 a) := cell_of_block (block_new w _) 1
    have HC := Lib.hid c1
    clear c1
    go_enter Try.func11, Try.ntmps11
    go_wp2_with (first
      | (go_at_call 15; refine (HD.out _).mono ?_; rintro x w1 ⟨rfl, hu⟩; have q1 : w1.cell? ⟨w.heap.size, 1, none⟩ = some (.int .i64 a) := cell_up hu HC.out; have lq := World.block_lt_of_cell? w1 _ q1; have HU1 := Lib.hid ((HU0.out.trans hu).alloc (.cells #[.int .i64 0, .int .i64 0, .int .i64 0, .slice none 0 0] 30)); have HQ := Lib.hid (cell_up ((Up.refl w1).alloc (.cells #[.int .i64 0, .int .i64 0, .int .i64 0, .slice none 0 0] 30)) q1); clear hu)
      | (go_at_call 17; refine (Same_zero _).mono ?_; rintro x w2 ⟨rfl, hu⟩; have q2 : w2.cell? ⟨w.heap.size, 1, none⟩ = some (.int .i64 a) := cell_up hu HQ.out; have HU2 := Lib.hid (HU1.out.trans hu); clear hu)
      | (go_at_call 18; refine (Has_nil _ _).mono ?_; rintro x w3 ⟨rfl, rfl⟩)
      | (go_at_call 20; refine (List_nil _).mono ?_; rintro x w3 ⟨rfl, rfl⟩)
      | (go_at_call 16; refine (Waits_nil _ _).mono ?_; rintro x w3 ⟨rfl, rfl⟩)
      | (go_at_call 35; refine (Full_nil _ _).mono ?_; rintro x w3 ⟨rfl, rfl⟩)
      | (go_at_call 14; refine (alive_walk _).mono ?_; rintro x w6 ⟨rfl, hu⟩; have HU6 := Lib.hid (HU2.out.trans hu); clear hu))
    go_ret
    exact ⟨rfl, HU6.out⟩
  · have g1 : decide ((50 : Int) < (n : Int)) = true := decide_eq_true (by omega)
    go_enter Try.func11, Try.ntmps11
    go_wp2_with (go_at_call 14; refine (alive_walk _).mono ?_; rintro x w6 ⟨rfl, hu⟩; have HU6 := Lib.hid (HU0.out.trans hu); clear hu)
    go_ret
    exact ⟨rfl, HU6.out⟩
end Go.Proofs.Ytdhgmnnkbjhpaaa.Eps
