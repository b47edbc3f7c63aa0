/- BusNobody, walked. -/
import Derived.Test.YtlefefcakffepaaMD
namespace Go.Proofs.Ytlefefcakffepaa.Bus
set_option linter.unusedVariables false
set_option linter.unusedSimpArgs false
open Go.RowKit Go.Proofs.Ytlefefcakffepaa.Sep Go.Proofs.Ytlefefcakffepaa.Sram Go.Proofs.Ytlefefcakffepaa.Find Go.Proofs.Ytlefefcakffepaa.Sbuf

theorem run_eql_none_ptr' {P : Program} (w : World) {tp te : TypeId} (a : Addr) (hp : P.underlying tp = some (.pointer te)) :
    (binOp .eql tp (.pointer none) (.pointer (some a))).run P w = .ok (.bool false) w := by
  have h : ∀ d : Nat, (Op.equalIn (d + 1) tp (.pointer none) (.pointer (some a))).run P w = .ok false w := fun d => by
    simp [Op.equalIn, run_underlying hp]
  simp only [binOp]
  simp [Op.equal, Op.maxDepth, h 9999]
theorem Same_nn (w : World) : Calls Try.prog 27 #[.pointer none, .pointer none] w fun e w' => e = .returned (.bool true) ∧ w' = w := by
  go_enter Try.func27, Try.ntmps27
  go_wp2
  go_ret
  exact ⟨rfl, rfl⟩
theorem Same_nx (b : Nat) (w : World) : Calls Try.prog 27 #[.pointer none, .pointer (some ⟨b, 0, none⟩)] w fun e w' => e = .returned (.bool false) ∧ w' = w := by
  have hn := fun wx => run_eql_none_ptr' (P := Try.prog) wx (⟨b, 0, none⟩ : Addr) Try.underlying23
  go_enter Try.func27, Try.ntmps27
  go_wp2
  go_ret
  exact ⟨rfl, rfl⟩
set_option maxRecDepth 100000 in
theorem Same_xn (b : Nat) (w : World) : Calls Try.prog 27 #[.pointer (some ⟨b, 0, none⟩), .pointer none] w fun e w' => e = .returned (.bool false) ∧ w' = w := by
  go_enter Try.func27, Try.ntmps27
  go_wp2
  go_ret
  exact ⟨rfl, rfl⟩
set_option maxHeartbeats 4000000 in
set_option maxRecDepth 100000 in
theorem nobody_walk (k core a z : Int) (w : World) : Calls Try.prog 6 #[.agg #[.int .i64 k, .int .i64 core, .int .i64 a, .int .i64 z]] w fun e w' => e = .returned (.bool true) ∧ Up w w' := by
  have hs0 := (St.nil w).alloc #[.int .i64 k, .int .i64 core, .int .i64 a, .int .i64 z] 31
  have HS0 := Lib.hid hs0
  clear hs0
  go_enter Try.func6, Try.ntmps6
  go_wp2_with fail
  refine (New_st HS0.out 1 1 1 (by omega)).mono ?_
  rintro e w1 ⟨b, rfl, hs⟩
  have c0 : w1.cell? ⟨w.heap.size, 0, none⟩ = some (.int .i64 k) := cell_of_block (hs.get 1).bk_at 0
  have c1 : w1.cell? ⟨w.heap.size, 1, none⟩ = some (.int .i64 core) := cell_of_block (hs.get 1).bk_at 1
  have c2 : w1.cell? ⟨w.heap.size, 2, none⟩ = some (.int .i64 a) := cell_of_block (hs.get 1).bk_at 2
  have c3 : w1.cell? ⟨w.heap.size, 3, none⟩ = some (.int .i64 z) := cell_of_block (hs.get 1).bk_at 3
  have HS1 := Lib.hid hs
  clear hs HS0
  go_wp2_with fail
  refine (do_nil k core a z _).mono ?_
  rintro e w2 ⟨rfl, hu⟩
  have HS2 := Lib.hid (HS1.out.more hu)
  clear hu HS1 c0 c1 c2 c3
  go_wp2_with (first
    | (go_at_call 21; refine (Cores_nil _).mono ?_; rintro e w' ⟨rfl, rfl⟩)
    | (go_at_call 22; refine (Waits_nil 0 0 0 _).mono ?_; rintro e w3 ⟨rfl, hu⟩; have HS3 := Lib.hid (HS2.out.more hu); clear hu)
    | (go_at_call 16; refine (Ram_nil _).mono ?_; rintro e w' ⟨rfl, rfl⟩)
    | (go_at_call 26; refine (Clone_nil _).mono ?_; rintro e w' ⟨rfl, rfl⟩)
    | (go_at_call 27; (with_reducible refine (Same_nn _).mono ?_); rintro e w' ⟨rfl, rfl⟩)
    | (go_at_call 27; (with_reducible refine (Same_nx _ _).mono ?_); rintro e w' ⟨rfl, rfl⟩)
    | (go_at_call 27; (with_reducible refine (Same_xn _ _).mono ?_); rintro e w' ⟨rfl, rfl⟩)
    | (go_at_call 11; refine (alive_st HS3.out).mono ?_; rintro e w9 ⟨rfl, hs⟩; have HF := Lib.hid hs.up; clear hs))
  go_ret
  exact ⟨rfl, HF.out⟩
theorem nobody_row (k core a z : Int) (w : World) (_wk : (Lit.int .i64 k).wf = true) (_wc : (Lit.int .i64 core).wf = true) (_wt : (Lit.int .i64 a).wf = true) (_wW : (Lit.int .i64 z).wf = true) : Calls Try.prog 6 #[.agg #[.int .i64 k, .int .i64 core, .int .i64 a, .int .i64 z]] w fun e w' => e = .returned (.bool true) ∧ Up w w' := nobody_walk k core a z w
end Go.Proofs.Ytlefefcakffepaa.Bus
