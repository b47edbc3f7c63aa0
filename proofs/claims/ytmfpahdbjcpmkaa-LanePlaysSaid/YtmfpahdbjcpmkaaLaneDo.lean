/- The contract of the law's 'do' on a lane that is one. -/
import Derived.Test.YtmfpahdbjcpmkaaLaneQ
namespace Go.Proofs.Ytmfpahdbjcpmkaa.Lane
set_option linter.unusedVariables false
set_option linter.unusedSimpArgs false
open Go.RowKit

set_option maxHeartbeats 2000000 in
theorem do_q (b R n : Nat) (q : List Int) (a x : Int) (w : World) (h : QAt w b R n q) :
    Calls Try.prog 13 #[.pointer (some ⟨b, 0, none⟩), .agg #[.int .i64 a, .int .i64 x]] w fun e w' => e = .returned (.tuple #[.int .i64 (doL n q a x).2.1, .int .i64 (doL n q a x).2.2]) ∧ QAt w' b R n (doL n q a x).1 ∧ Off b R w w' := by
  have HQ := Lib.hid (h.up ((Up.refl w).alloc (.cells #[.int .i64 a, .int .i64 x] 38)))
  have HO := Lib.hid (Off.of_up (b := b) (R := R) ((Up.refl w).alloc (.cells #[.int .i64 a, .int .i64 x] 38)))
  clear h
  by_cases h0 : a = 0
  · subst h0
    have HP := Lib.hid (Put_q b R n q x _ HQ.out)
    have E : Hid ((doL n q 0 x).2.1 = 0) := Lib.hid (by unfold doL; rw [if_pos rfl]; split <;> rfl)
    rw [E.out]
    generalize doL n q 0 x = d at *
    go_enter Try.func13, Try.ntmps13
    go_wp2_with (go_at_call 26; refine HP.out.mono ?_; rintro e w' ⟨rfl, hq, ho⟩; have HQ2 := Lib.hid hq; have HO2 := Lib.hid ho; clear hq ho)
    go_ret2
    exact ⟨rfl, HQ2.out, HO.out.trans HO2.out⟩
  · have e0 : (a == 0) = false := beq_eq_false_iff_ne.2 h0
    by_cases h1 : a = 1
    · subst h1
      have HP := Lib.hid (Take_q b R n q x _ HQ.out)
      generalize doL n q 1 x = d at *
      go_enter Try.func13, Try.ntmps13
      go_wp2_with (go_at_call 27; refine HP.out.mono ?_; rintro e w' ⟨rfl, hq, ho⟩; have HQ2 := Lib.hid hq; have HO2 := Lib.hid ho; clear hq ho)
      go_ret2
      exact ⟨rfl, HQ2.out, HO.out.trans HO2.out⟩
    · have e1 : (a == 1) = false := beq_eq_false_iff_ne.2 h1
      by_cases h2 : a = 2
      · subst h2
        have HP := Lib.hid (Clear_q b R n q x _ HQ.out)
        have E : Hid ((doL n q 2 x).2.2 = 0) := Lib.hid (by simp [doL])
        rw [E.out]
        generalize doL n q 2 x = d at *
        go_enter Try.func13, Try.ntmps13
        go_wp2_with (go_at_call 28; refine HP.out.mono ?_; rintro e w' ⟨rfl, hq, ho⟩; have HQ2 := Lib.hid hq; have HO2 := Lib.hid ho; clear hq ho)
        go_ret2
        exact ⟨rfl, HQ2.out, HO.out.trans HO2.out⟩
      · have e2 : (a == 2) = false := beq_eq_false_iff_ne.2 h2
        have HP := Lib.hid (At_q b R n q x _ HQ.out)
        by_cases hx : 0 ≤ x ∧ x < q.length
        · have E : doL n q a x = (q, q.getD x.toNat 0, 1) := by simp only [doL, if_neg h0, if_neg h1, if_neg h2, if_pos hx]
          rw [E]
          rw [if_pos hx, decide_eq_true hx] at HP
          generalize q.getD x.toNat 0 = y at *
          clear hx E
          go_enter Try.func13, Try.ntmps13
          go_wp2_with (go_at_call 29; refine HP.out.mono ?_; rintro e w' ⟨rfl, hq, ho⟩; have HQ2 := Lib.hid hq; have HO2 := Lib.hid ho; clear hq ho)
          go_ret2
          exact ⟨rfl, HQ2.out, HO.out.trans HO2.out⟩
        · have E : doL n q a x = (q, 0, 0) := by simp only [doL, if_neg h0, if_neg h1, if_neg h2, if_neg hx]
          rw [E]
          rw [if_neg hx, decide_eq_false hx] at HP
          clear hx E
          go_enter Try.func13, Try.ntmps13
          go_wp2_with (go_at_call 29; refine HP.out.mono ?_; rintro e w' ⟨rfl, hq, ho⟩; have HQ2 := Lib.hid hq; have HO2 := Lib.hid ho; clear hq ho)
          go_ret2
          exact ⟨rfl, HQ2.out, HO.out.trans HO2.out⟩
end Go.Proofs.Ytmfpahdbjcpmkaa.Lane
