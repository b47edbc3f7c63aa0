/- LaneNobody, walked: a lane that is nil has nothing, and takes nothing. -/
import Derived.Test.YtmfpahdbjcpmkaaLane2
namespace Go.Proofs.Ytmfpahdbjcpmkaa.Lane
set_option linter.unusedVariables false
set_option linter.unusedSimpArgs false
open Go.RowKit

def nobE (a : Int) : Int := if a = 0 ∨ a = 1 then 1 else 0
set_option maxHeartbeats 1000000 in
theorem do_nil (a x : Int) (w : World) : Calls Try.prog 13 #[.pointer none, .agg #[.int .i64 a, .int .i64 x]] w fun e w' => e = .returned (.tuple #[.int .i64 0, .int .i64 (nobE a)]) ∧ Up w w' := by
  by_cases h0 : a = 0
  · subst h0
    go_enter Try.func13, Try.ntmps13
    go_wp2_with (go_at_call 26; refine (Put_nil _ _).mono ?_; rintro e w' ⟨rfl, rfl⟩)
    go_ret2
    exact ⟨rfl, by repeat (first | exact Up.refl _ | refine Up.alloc ?_ _ | refine Up.drewN ?_ _ | refine Up.drew ?_)⟩
  · have e0 : (a == 0) = false := beq_eq_false_iff_ne.2 h0
    by_cases h1 : a = 1
    · subst h1
      go_enter Try.func13, Try.ntmps13
      go_wp2_with (go_at_call 27; refine (Take_nil _).mono ?_; rintro e w' ⟨rfl, rfl⟩)
      go_ret2
      exact ⟨rfl, by repeat (first | exact Up.refl _ | refine Up.alloc ?_ _ | refine Up.drewN ?_ _ | refine Up.drew ?_)⟩
    · have e1 : (a == 1) = false := beq_eq_false_iff_ne.2 h1
      have E := Lib.hid (show nobE a = 0 from if_neg (by omega))
      by_cases h2 : a = 2
      · subst h2
        go_enter Try.func13, Try.ntmps13
        go_wp2_with (go_at_call 28; refine (Clear_nil _).mono ?_; rintro e w' ⟨rfl, rfl⟩)
        go_ret2
        exact ⟨rfl, by repeat (first | exact Up.refl _ | refine Up.alloc ?_ _ | refine Up.drewN ?_ _ | refine Up.drew ?_)⟩
      · have e2 : (a == 2) = false := beq_eq_false_iff_ne.2 h2
        go_enter Try.func13, Try.ntmps13
        go_wp2_with (go_at_call 29; refine (At_nil _ _).mono ?_; rintro e w' ⟨rfl, rfl⟩)
        go_ret2
        exact ⟨by rw [E.out]; rfl, by repeat (first | exact Up.refl _ | refine Up.alloc ?_ _ | refine Up.drewN ?_ _ | refine Up.drew ?_)⟩
set_option maxHeartbeats 2000000 in
theorem nobody_walk (a x : Int) (w : World) : Calls Try.prog 6 #[.agg #[.int .i64 a, .int .i64 x]] w fun e w' => e = .returned (.bool true) ∧ Up w w' := by
  have HD := Lib.hid (fun w => do_nil a x w)
  have fin : ∀ (v : Int), nobE a = v → (v = 1 ∧ ((a == 0) = true ∨ (a == 0) = false ∧ (a == 1) = true) ∨ v = 0 ∧ (a == 0) = false ∧ (a == 1) = false) := by
    intro v hv
    subst hv
    unfold nobE
    by_cases h : a = 0 ∨ a = 1
    · rw [if_pos h]
      rcases h with rfl | rfl
      · exact .inl ⟨rfl, .inl rfl⟩
      · exact .inl ⟨rfl, .inr ⟨by decide, rfl⟩⟩
    · rw [if_neg h]
      exact .inr ⟨rfl, beq_eq_false_iff_ne.2 (fun e => h (.inl e)), beq_eq_false_iff_ne.2 (fun e => h (.inr e))⟩
  obtain ⟨v, hv⟩ : ∃ v, nobE a = v := ⟨_, rfl⟩
  rw [hv] at HD
  rcases fin v hv with ⟨rfl, h | ⟨h, h'⟩⟩ | ⟨rfl, h, h'⟩
  all_goals clear fin hv
  all_goals go_enter Try.func6, Try.ntmps6
  all_goals go_wp2_with (first | (go_at_call 13; refine (HD.out _).mono ?_; rintro e w1 ⟨rfl, hu⟩; have hc0 : w1.cell? ⟨w.heap.size, 0, none⟩ = some (.int .i64 a) := cell_of_block (block_up hu (block_new w _)) 0; have HU := Lib.hid hu; clear hu) | (go_at_call 15; refine (Cap_nil _).mono ?_; rintro e w' ⟨rfl, rfl⟩) | (go_at_call 14; refine (Len_nil _).mono ?_; rintro e w' ⟨rfl, rfl⟩) | (go_at_call 17; refine (All_nil _).mono ?_; rintro e w' ⟨rfl, rfl⟩) | (go_at_call 20; refine (Clone_nil _).mono ?_; rintro e w' ⟨rfl, rfl⟩) | (go_at_call 12; refine (alive_walk _).mono ?_; rintro e w3 ⟨rfl, hu⟩; have HA := Lib.hid hu; clear hu))
  all_goals go_ret
  all_goals exact ⟨rfl, Up.trans (Up.trans ((Up.refl w).alloc _) HU.out) HA.out⟩
theorem LaneNobody.calls (a x : Int) (r : Bool) (w : World) (h : r = true) : Calls Try.prog 6 #[.agg #[.int .i64 a, .int .i64 x]] w fun e w' => e = .returned (.bool r) ∧ Below w.heap.size w w' := by
  rw [h]
  exact nobody_walk a x w
end Go.Proofs.Ytmfpahdbjcpmkaa.Lane
