/- MboxNobody, walked. -/
import Derived.Test.YtiofdkkjjeljmaaMbDo
namespace Go.Proofs.Ytiofdkkjjeljmaa.Mb
set_option linter.unusedVariables false
set_option linter.unusedSimpArgs false
open Go.RowKit Go.Proofs.Ytiofdkkjjeljmaa.Sep Go.Proofs.Ytiofdkkjjeljmaa.Lane

theorem Clone_nil (w : World) : Calls Try.prog 52 #[.pointer none] w fun e w' => e = .returned (.pointer none) ∧ w' = w := by
  go_enter Try.func52, Try.ntmps52
  go_wp2
  go_ret
  exact ⟨rfl, rfl⟩
theorem run_eql_none_ptr {P : Program} (w : World) {tp te : TypeId} (a : Addr) (hp : P.underlying tp = some (.pointer te)) :
    (binOp .eql tp (.pointer none) (.pointer (some a))).run P w = .ok (.bool false) w := by
  have h : ∀ d : Nat, (Op.equalIn (d + 1) tp (.pointer none) (.pointer (some a))).run P w = .ok false w := fun d => by
    simp [Op.equalIn, run_underlying hp]
  simp only [binOp]
  simp [Op.equal, Op.maxDepth, h 9999]
theorem Same_nn (w : World) : Calls Try.prog 50 #[.pointer none, .pointer none] w fun e w' => e = .returned (.bool true) ∧ w' = w := by
  go_enter Try.func50, Try.ntmps50
  go_wp2
  go_ret
  exact ⟨rfl, rfl⟩
theorem Same_nx (b : Nat) (w : World) : Calls Try.prog 50 #[.pointer none, .pointer (some ⟨b, 0, none⟩)] w fun e w' => e = .returned (.bool false) ∧ w' = w := by
  have hn := fun wx => run_eql_none_ptr (P := Try.prog) wx (⟨b, 0, none⟩ : Addr) Try.underlying57
  go_enter Try.func50, Try.ntmps50
  go_wp2
  go_ret
  exact ⟨rfl, rfl⟩
set_option maxRecDepth 100000 in
theorem Same_xn (b : Nat) (w : World) : Calls Try.prog 50 #[.pointer (some ⟨b, 0, none⟩), .pointer none] w fun e w' => e = .returned (.bool false) ∧ w' = w := by
  go_enter Try.func50, Try.ntmps50
  go_wp2
  go_ret
  exact ⟨rfl, rfl⟩
set_option maxHeartbeats 4000000 in
set_option maxRecDepth 100000 in
theorem nobody_walk (k core to W : Int) (w : World) : Calls Try.prog 13 #[.agg #[.int .i64 k, .int .i64 core, .int .i64 to, .int .i64 W]] w fun e w' => e = .returned (.bool true) ∧ Up w w' := by
  have hs0 := (St.nil w).alloc #[.int .i64 k, .int .i64 core, .int .i64 to, .int .i64 W] 62
  have HS0 := Lib.hid hs0
  clear hs0
  go_enter Try.func13, Try.ntmps13
  go_wp2_with fail
  refine (New_st HS0.out 1 (by omega) (by omega)).mono ?_
  rintro e w1 ⟨b, rfl, hs⟩
  have c0 : w1.cell? ⟨w.heap.size, 0, none⟩ = some (.int .i64 k) := cell_of_block (hs.get 1).bk_at 0
  have c1 : w1.cell? ⟨w.heap.size, 1, none⟩ = some (.int .i64 core) := cell_of_block (hs.get 1).bk_at 1
  have c2 : w1.cell? ⟨w.heap.size, 2, none⟩ = some (.int .i64 to) := cell_of_block (hs.get 1).bk_at 2
  have c3 : w1.cell? ⟨w.heap.size, 3, none⟩ = some (.int .i64 W) := cell_of_block (hs.get 1).bk_at 3
  have HS1 := Lib.hid hs
  clear hs HS0
  go_wp2_with fail
  refine (do_nil k core to W _).mono ?_
  rintro e w2 ⟨rfl, hu⟩
  have HS2 := Lib.hid (HS1.out.more hu)
  have d1 : w2.cell? ⟨w.heap.size, 1, none⟩ = some (.int .i64 core) := cell_of_block (HS2.out.get 1).bk_at 1
  have n1 := World.new_ne w2 _ d1
  have n2 := World.block_lt_of_cell? w2 _ d1
  clear hu HS1 c0 c1 c2 c3
  go_wp2_with fail
  refine (Waits_nil core 0 _).mono ?_
  rintro e w3 ⟨rfl, hu⟩
  have HS3 := Lib.hid ((HS2.out.allocU _).more hu)
  clear hu HS2 d1 n1 n2
  go_wp2_with (first
    | (go_at_call 52; refine (Clone_nil _).mono ?_; rintro e w' ⟨rfl, rfl⟩)
    | (go_at_call 50; (with_reducible refine (Same_nn _).mono ?_); rintro e w' ⟨rfl, rfl⟩)
    | (go_at_call 50; (with_reducible refine (Same_nx _ _).mono ?_); rintro e w' ⟨rfl, rfl⟩)
    | (go_at_call 50; (with_reducible refine (Same_xn _ _).mono ?_); rintro e w' ⟨rfl, rfl⟩)
    | (go_at_call 28; refine (alive_st HS3.out).mono ?_; rintro e w9 ⟨rfl, hs⟩; have HF := Lib.hid hs.up; clear hs))
  go_ret
  exact ⟨rfl, HF.out⟩
theorem nobody_row (k core to W : Int) (w : World) (_wk : (Lit.int .i64 k).wf = true) (_wc : (Lit.int .i64 core).wf = true) (_wt : (Lit.int .i64 to).wf = true) (_wW : (Lit.int .i64 W).wf = true) : Calls Try.prog 13 #[.agg #[.int .i64 k, .int .i64 core, .int .i64 to, .int .i64 W]] w fun e w' => e = .returned (.bool true) ∧ Up w w' := nobody_walk k core to W w
end Go.Proofs.Ytiofdkkjjeljmaa.Mb
