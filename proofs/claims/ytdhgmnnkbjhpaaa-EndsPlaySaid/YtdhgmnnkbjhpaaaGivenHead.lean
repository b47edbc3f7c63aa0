/- Contracts that the print does not write: head.wrong (a function literal handed to slices.ContainsFunc) and head.Read (a slice expression with three indexes), in the print's own form. Condition: the slice's elements lie where it says. -/
import Derived.Test.YtdhgmnnkbjhpaaaProg
import Derived.Test.YtdhgmnnkbjhpaaaBase
import Derived.Test.YtdhgmnnkbjhpaaaWWords
namespace Go.Proofs.Ytdhgmnnkbjhpaaa.Given
set_option linter.unusedVariables false
set_option linter.unusedSimpArgs false
open Go.RowKit Go.Proofs.YtdhgmnnkbjhpaaaW.PrintWords

theorem Word_walk' (a : Int) (w : World) : Calls Try.prog 81 #[.int .i64 a] w fun e w' => e = .returned (.int .i64 (wd a)) ∧ w' = w := by
  have H := Lib.hid (wd_and a)
  go_enter Try.func81, Try.ntmps81
  go_wp2
  go_ret
  exact ⟨congrArg (fun x => Ending.returned (.int .i64 x)) H.out, rfl⟩

/-- It is no word. -/
def oddI (x : Int) : Bool := x != wd x
theorem odd_walk (x : Int) (w : World) : Calls Try.prog 80 #[.int .i64 x] w fun e w' => e = .returned (.bool (oddI x)) ∧ w' = w := by
  go_enter Try.func80, Try.ntmps80
  go_wp2_with (go_at_call 81; refine (Word_walk' _ _).mono ?_; rintro e w' ⟨rfl, rfl⟩)
  go_ret
  exact ⟨rfl, rfl⟩

/-- The place of the first one that is no word; -1. -/
def fidx (l : List Int) : Int := match l.findIdx? oddI with | some i => i | none => -1
theorem fidx_hit {l : List Int} {k : Nat} (hk : k < l.length) (h0 : ∀ j, j < k → oddI (rd l j) = false) (h1 : oddI (rd l k) = true) : fidx l = k := by
  have e : l.findIdx? oddI = some k := by
    rw [List.findIdx?_eq_some_iff_getElem]
    refine ⟨hk, ?_, fun j hj => ?_⟩
    · simpa [rd, List.getD_eq_getElem?_getD, List.getElem?_eq_getElem hk] using h1
    · have := h0 j hj
      simpa [rd, List.getD_eq_getElem?_getD, List.getElem?_eq_getElem (show j < l.length by omega)] using this
  simp [fidx, e]
theorem fidx_miss {l : List Int} (h0 : ∀ j, j < l.length → oddI (rd l j) = false) : fidx l = -1 := by
  have e : l.findIdx? oddI = none := by
    rw [List.findIdx?_eq_none_iff]
    intro x hx
    obtain ⟨j, hj, rfl⟩ := List.getElem_of_mem hx
    have := h0 j hj
    simpa [rd, List.getD_eq_getElem?_getD, List.getElem?_eq_getElem hj] using this
  simp [fidx, e]
theorem fidx_any (l : List Int) : decide (0 ≤ fidx l) = l.any oddI := by
  unfold fidx
  cases h : l.findIdx? oddI with
  | none =>
    have := List.findIdx?_eq_none_iff.1 h
    have e : l.any oddI = false := by rw [List.any_eq_false]; intro x hx; simp [this x hx]
    rw [e]; rfl
  | some i =>
    obtain ⟨hi, h1, _⟩ := List.findIdx?_eq_some_iff_getElem.1 h
    have e : l.any oddI = true := by rw [List.any_eq_true]; exact ⟨_, List.getElem_mem hi, h1⟩
    rw [e]; simp

theorem IndexFunc_walk (A : Option Addr) (c : Nat) (l : List Int) (w : World) (hr : Kd.C (Kd.int .i64) w A l.length l) (hl : l.length ≤ 9223372036854775807) :
    Calls Try.prog 103 #[.slice A l.length c, .func (.func 80) #[] #[]] w fun e w' => e = .returned (.int .i64 (fidx l)) ∧ w' = w := by
  have HR := Lib.hid hr
  clear hr
  go_enter Try.func103, Try.ntmps103
  go_wp2
  go_loop [8, 5] (fun v _ => ∃ k : Nat, k ≤ l.length ∧ v = .int .i64 k ∧ Hid (∀ j, j < k → oddI (rd l j) = false)) (fun v _ => l.length - (intOf v).toNat)
  case atStart => exact ⟨0, Nat.zero_le _, rfl, fun j hj => absurd hj (by omega)⟩
  case round =>
    obtain ⟨k, hk, rfl, H0⟩ := hrel
    by_cases hlt : k < l.length
    · obtain ⟨ad, e, hc⟩ := Kd.at_int HR.out k (by omega) (by omega)
      subst e
      rw [Int.toNat_natCast] at hc
      cases ho : oddI (rd l k) with
      | true =>
        have Ho := Lib.hid ho
        have E := Lib.hid (fidx_hit hlt H0.out ho)
        clear ho
        go_wp2_with (go_at_call 80; refine (odd_walk _ _).mono ?_; rintro e w' ⟨rfl, rfl⟩; have ho := Ho.out)
        go_ret
        exact ⟨by rw [E.out]; rfl, rfl⟩
      | false =>
        have Ho := Lib.hid ho
        clear ho
        go_wp2_with (go_at_call 80; refine (odd_walk _ _).mono ?_; rintro e w' ⟨rfl, rfl⟩; have ho := Ho.out)
        go_round
        case rel =>
          refine ⟨k + 1, by omega, by go_num, fun j hj => ?_⟩
          rcases Nat.lt_or_ge j k with h | h
          · exact H0.out j h
          · obtain rfl : j = k := by omega
            exact Ho.out
        case measure => simp [intOf]; omega
    · have E := Lib.hid (fidx_miss (l := l) fun j hj => H0.out j (by omega))
      go_wp2
      go_ret
      exact ⟨by rw [E.out]; rfl, rfl⟩
theorem ContainsFunc_walk (A : Option Addr) (c : Nat) (l : List Int) (w : World) (hr : Kd.C (Kd.int .i64) w A l.length l) (hl : l.length ≤ 9223372036854775807) :
    Calls Try.prog 82 #[.slice A l.length c, .func (.func 80) #[] #[]] w fun e w' => e = .returned (.bool (l.any oddI)) ∧ w' = w := by
  have HC := Lib.hid (IndexFunc_walk A c l w hr hl)
  have E := Lib.hid (fidx_any l)
  clear hr
  go_enter Try.func82, Try.ntmps82
  go_wp2_with (go_at_call 103; refine HC.out.mono ?_; rintro e w' ⟨rfl, rfl⟩)
  go_ret
  exact ⟨by rw [← E.out]; rfl, rfl⟩

/-- Why there may be no such message: 18, 2; 0: there may. -/
def hwrong (a0 a1 a2 : Int) (l : List Int) : Int := if 5 < l.length then 18 else if a0 < 0 ∨ 2 < a0 ∨ oddI a1 = true ∨ oddI a2 = true ∨ l.any oddI = true then 2 else 0
def head_wrong.f (a0_0 : Int) (a0_1 : Int) (a0_2 : Int) (l0_3 : List Int) : Option Int := some (hwrong a0_0 a0_1 a0_2 l0_3)
set_option maxHeartbeats 4000000 in
theorem wrong_walk (a0 a1 a2 : Int) (A : Option Addr) (c : Nat) (l : List Int) (w : World) (hr : Kd.C (Kd.int .i64) w A l.length l) :
    Calls Try.prog 70 #[.agg #[.int .i64 a0, .int .i64 a1, .int .i64 a2, .slice A l.length c]] w fun e w' => e = .returned (.int .i64 (hwrong a0 a1 a2 l)) ∧ Up w w' := by
  by_cases h5 : 5 < l.length
  · have E : Hid (hwrong a0 a1 a2 l = 18) := if_pos h5
    have h5' : (5 : Int) < (l.length : Int) := by omega
    go_enter Try.func70, Try.ntmps70
    go_wp2
    go_ret
    exact ⟨by rw [E.out]; rfl, (Up.refl _).alloc _⟩
  · have h5' : ¬ (5 : Int) < (l.length : Int) := by omega
    have h6 : l.length ≤ 5 := by omega
    have HC := Lib.hid fun w1 (hu : Up w w1) => ContainsFunc_walk A c l w1 (Kd.C_below hr hu) (by omega)
    have h5f : decide ((5 : Int) < (l.length : Int)) = false := decide_eq_false h5'
    by_cases c1 : a0 < 0
    · have E : Hid (hwrong a0 a1 a2 l = 2) := by unfold hwrong; rw [if_neg h5, if_pos (by simp [c1])]; exact rfl
      · go_enter Try.func70, Try.ntmps70
        go_wp2_with (first | (go_at_call 80; refine (odd_walk _ _).mono ?_; rintro e w' ⟨rfl, rfl⟩) | (go_at_call 82; refine (HC.out _ ((Up.refl _).alloc _)).mono ?_; rintro e w' ⟨rfl, rfl⟩))
        go_ret
        exact ⟨by rw [E.out]; rfl, (Up.refl _).alloc _⟩
    · by_cases c2 : 2 < a0
      · have E : Hid (hwrong a0 a1 a2 l = 2) := by unfold hwrong; rw [if_neg h5, if_pos (by simp [c2])]; exact rfl
        · go_enter Try.func70, Try.ntmps70
          go_wp2_with (first | (go_at_call 80; refine (odd_walk _ _).mono ?_; rintro e w' ⟨rfl, rfl⟩) | (go_at_call 82; refine (HC.out _ ((Up.refl _).alloc _)).mono ?_; rintro e w' ⟨rfl, rfl⟩))
          go_ret
          exact ⟨by rw [E.out]; rfl, (Up.refl _).alloc _⟩
      · cases c3 : oddI a1 with
        | true =>
          have E : Hid (hwrong a0 a1 a2 l = 2) := by unfold hwrong; rw [if_neg h5, if_pos (by simp [c3])]; exact rfl
          · go_enter Try.func70, Try.ntmps70
            go_wp2_with (first | (go_at_call 80; refine (odd_walk _ _).mono ?_; rintro e w' ⟨rfl, rfl⟩) | (go_at_call 82; refine (HC.out _ ((Up.refl _).alloc _)).mono ?_; rintro e w' ⟨rfl, rfl⟩))
            go_ret
            exact ⟨by rw [E.out]; rfl, (Up.refl _).alloc _⟩
        | false =>
          cases c4 : oddI a2 with
          | true =>
            have E : Hid (hwrong a0 a1 a2 l = 2) := by unfold hwrong; rw [if_neg h5, if_pos (by simp [c4])]; exact rfl
            · go_enter Try.func70, Try.ntmps70
              go_wp2_with (first | (go_at_call 80; refine (odd_walk _ _).mono ?_; rintro e w' ⟨rfl, rfl⟩) | (go_at_call 82; refine (HC.out _ ((Up.refl _).alloc _)).mono ?_; rintro e w' ⟨rfl, rfl⟩))
              go_ret
              exact ⟨by rw [E.out]; rfl, (Up.refl _).alloc _⟩
          | false =>
            cases c5 : l.any oddI with
            | true =>
              have E : Hid (hwrong a0 a1 a2 l = 2) := by unfold hwrong; rw [if_neg h5, if_pos (by rw [c5]; simp)]; exact rfl
              rw [c5] at HC
              · go_enter Try.func70, Try.ntmps70
                go_wp2_with (first | (go_at_call 80; refine (odd_walk _ _).mono ?_; rintro e w' ⟨rfl, rfl⟩) | (go_at_call 82; refine (HC.out _ ((Up.refl _).alloc _)).mono ?_; rintro e w' ⟨rfl, rfl⟩))
                go_ret
                exact ⟨by rw [E.out]; rfl, (Up.refl _).alloc _⟩
            | false =>
              have E : Hid (hwrong a0 a1 a2 l = 0) := by unfold hwrong; rw [if_neg h5, if_neg (by rw [c5]; simp [c3, c4]; omega)]; exact rfl
              rw [c5] at HC
              · go_enter Try.func70, Try.ntmps70
                go_wp2_with (first | (go_at_call 80; refine (odd_walk _ _).mono ?_; rintro e w' ⟨rfl, rfl⟩) | (go_at_call 82; refine (HC.out _ ((Up.refl _).alloc _)).mono ?_; rintro e w' ⟨rfl, rfl⟩))
                go_ret
                exact ⟨by rw [E.out]; rfl, (Up.refl _).alloc _⟩
theorem head_wrong.calls (a0_0 : Int) (a0_1 : Int) (a0_2 : Int) (A0_3 : Option Addr) (c0_3 : Nat) (l0_3 : List Int) (r : Int) (w : World) (hr0_3 : Kd.C (Kd.int .i64) w A0_3 l0_3.length l0_3) (hc0_3 : l0_3.length ≤ c0_3) (h : head_wrong.f a0_0 a0_1 a0_2 l0_3 = some r) :
    Calls Try.prog 70 #[.agg #[.int .i64 a0_0, .int .i64 a0_1, .int .i64 a0_2, .slice A0_3 l0_3.length c0_3]] w fun e w' => e = .returned (.int .i64 r) ∧ Below w.heap.size w w' := by
  obtain rfl := Option.some.inj h
  exact wrong_walk _ _ _ _ _ _ w hr0_3

end Go.Proofs.Ytdhgmnnkbjhpaaa.Given
