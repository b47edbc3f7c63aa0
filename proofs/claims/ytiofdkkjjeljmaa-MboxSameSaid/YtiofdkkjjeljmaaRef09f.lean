/- The reference's mailboxes: one core is put anew. -/
import Derived.Test.YtiofdkkjjeljmaaRef09e
namespace Go.Proofs.Ytiofdkkjjeljmaa.Ref09
set_option linter.unusedVariables false
set_option linter.unusedSimpArgs false
open Go.RowKit Go.Proofs.Ytiofdkkjjeljmaa.Sep Go.Proofs.Ytiofdkkjjeljmaa.Mb

/-- Values put from a place on. -/
def putAt (xs : List Value) (k : Nat) : List Value → List Value
  | [] => xs
  | v :: vs => putAt (xs.set k v) (k + 1) vs
theorem putAt_skip : ∀ (vs p xs : List Value) (k : Nat), putAt (p ++ xs) (p.length + k) vs = p ++ putAt xs k vs
  | [], p, xs, k => rfl
  | v :: vs, p, xs, k => by
    rw [putAt, putAt, List.set_append_right _ _ (by omega), Nat.add_sub_cancel_left, Nat.add_assoc, putAt_skip vs p _ (k + 1)]
theorem putAt_head : ∀ (vs us xs : List Value), us.length = vs.length → putAt (us ++ xs) 0 vs = vs ++ xs
  | [], [], xs, _ => rfl
  | v :: vs, u :: us, xs, h => by
    rw [putAt]
    have e : (u :: us ++ xs).set 0 v = [v] ++ (us ++ xs) := rfl
    rw [e]
    have h2 := putAt_skip vs [v] (us ++ xs) 0
    have e2 : [v].length + 0 = 0 + 1 := rfl
    rw [e2] at h2
    rw [h2, putAt_head vs us xs (by simpa using h)]
    rfl
theorem rcells_put : ∀ (S : List MC) (Vs : List Value) (i : Nat) (C : MC) (V : Value), Vs.length = S.length → i < S.length → putAt (rcells S Vs) (i * 9) (bw C.m ++ [V]) = rcells (S.set i C) (Vs.set i V)
  | D :: S, U :: Vs, 0, C, V, _, _ => by
    have e : rcells (D :: S) (U :: Vs) = (bw D.m ++ [U]) ++ rcells S Vs := by simp [rcells]
    rw [e, Nat.zero_mul, putAt_head _ _ _ (by simp [bw_len])]
    simp [rcells]
  | D :: S, U :: Vs, i + 1, C, V, h, hi => by
    have e : rcells (D :: S) (U :: Vs) = (bw D.m ++ [U]) ++ rcells S Vs := by simp [rcells]
    have e2 : (i + 1) * 9 = (bw D.m ++ [U]).length + i * 9 := by simp [bw_len]; omega
    rw [e, e2, putAt_skip, rcells_put S Vs i C V (by simpa using h) (by simpa using hi)]
    simp [rcells]
end Go.Proofs.Ytiofdkkjjeljmaa.Ref09
