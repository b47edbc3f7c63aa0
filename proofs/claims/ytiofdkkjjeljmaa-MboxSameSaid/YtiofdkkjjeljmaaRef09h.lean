/- The reference of chapter 09: with, on the part. -/
import Derived.Test.YtiofdkkjjeljmaaRef09g
namespace Go.Proofs.Ytiofdkkjjeljmaa.Ref09
set_option linter.unusedVariables false
set_option linter.unusedSimpArgs false
open Go.RowKit Go.Proofs.Ytiofdkkjjeljmaa.Sep Go.Proofs.Ytiofdkkjjeljmaa.Mb

theorem rlists_set : ∀ (S : List MC) (Vs : List Value) (i : Nat) (C : MC) (V : Value) (B : Rg), Vs.length = S.length → i < S.length → B ∈ rlists (S.set i C) (Vs.set i V) → B = il V C.q ∨ B ∈ rlists S Vs
  | D :: S, U :: Vs, 0, C, V, B, _, _, h => by
    rcases List.mem_cons.1 h with h | h
    · exact .inl h
    · exact .inr (.tail _ h)
  | D :: S, U :: Vs, i + 1, C, V, B, hl, hi, h => by
    rcases List.mem_cons.1 h with h | h
    · exact .inr (by rw [h]; exact .head _)
    · rcases rlists_set S Vs i C V B (by simpa using hl) (by simpa using hi) h with h | h
      · exact .inl h
      · exact .inr (.tail _ h)
theorem rlists_form {w : World} {P : Nat → Prop} : ∀ (S : List MC) (Vs : List Value), Vs.length = S.length → (alls (rlists S Vs)).X w P → ∀ V ∈ Vs, V.oneCell' = true
  | [], [], _, _, V, hV => by simp at hV
  | C :: S, U :: Vs, hl, h, V, hV => by
    rcases List.mem_cons.1 hV with rfl | hV
    · obtain ⟨A, c, e, _⟩ := slc_form (h _ (.head _))
      rw [e]
      rfl
    · exact rlists_form S Vs (by simpa using hl) (fun B hB => h B (.tail _ hB)) V hV
section
variable {P0 : Nat → Prop} {w0 w w' : World} {F : List Rg} {V Vx : Value} {S : List MC} {q : List It}
theorem with_st (h : St P0 w0 w (both (rb V S) (il Vx q) :: F)) (i : Nat) (hi : i < S.length) (h8 : S.length ≤ 8) (m : Nat) (hm : m < 256) :
    Calls Try.prog 70 #[V, .int .i64 (i : Int), coreV m Vx] w fun e w' => ∃ V', e = .returned V' ∧ St P0 w0 w' (both (rb V S) (rb V' (S.set i ⟨m, q, hm⟩)) :: F) := by
  obtain ⟨hf, Q, R, hq, hr, hd, ⟨⟨Vs, h2⟩, hx⟩, hL⟩ := h
  have hs := h2 _ (.head _)
  have hl := h2 _ (.tail _ (.head _))
  have hp : Vs.length = S.length := h2 _ (.tail _ (.tail _ (.head _)))
  obtain ⟨A, c, rfl, hc⟩ := slc_form hs
  obtain ⟨Ax, cx, rfl, hcx⟩ := slc_form hx
  have hrd := slc_rd hs (rcells_one S Vs (rlists_form S Vs hp hl))
  have h3 : St P0 w0 w (both (alls [slc 72 9 (.slice A S.length c) S.length (rcells S Vs), alls (rlists S Vs), pu (Vs.length = S.length)]) (il (.slice Ax q.length cx) q) :: F) := ⟨hf, Q, R, hq, hr, hd, ⟨h2, hx⟩, hL⟩
  refine (with_raw hi h8 hrd h3 _ _ _ _ _ _ _ _).mono ?_
  rintro e w' ⟨A', c', rfl, h4⟩
  refine ⟨_, rfl, (h4.join).imp fun P hP => ?_⟩
  obtain ⟨hn, hb, hx'⟩ := hP
  have e1 := rcells_put S Vs i ⟨m, q, hm⟩ (.slice Ax q.length cx) hp hi
  refine ⟨⟨Vs, hb⟩, ⟨Vs.set i (.slice Ax q.length cx), ?_⟩⟩
  intro B hB
  rcases List.mem_cons.1 hB with rfl | hB
  · rw [List.length_set, ← e1]
    exact hn
  · rcases List.mem_cons.1 hB with rfl | hB
    · intro B2 hB2
      rcases rlists_set S Vs i _ _ B2 hp hi hB2 with rfl | h9
      · exact hx'
      · exact hb _ (.tail _ (.head _)) B2 h9
    · obtain rfl := List.mem_singleton.1 hB
      show (Vs.set i _).length = (S.set i _).length
      simpa using hp
end
end Go.Proofs.Ytiofdkkjjeljmaa.Ref09
