/- The reference of chapter 09: with, which turns nothing old; Ring, whole. -/
import Derived.Test.YtiofdkkjjeljmaaRef09j
import Derived.Test.YtiofdkkjjeljmaaSepMore
import Derived.Test.YtiofdkkjjeljmaaMbDo
namespace Go.Proofs.Ytiofdkkjjeljmaa.Ref09
set_option linter.unusedVariables false
set_option linter.unusedSimpArgs false
open Go.RowKit Go.Proofs.Ytiofdkkjjeljmaa.Sep Go.Proofs.Ytiofdkkjjeljmaa.Mb

section
variable {P0 : Nat → Prop} {w0 w w' : World} {F : List Rg} {V Vx : Value} {S : List MC} {q : List It}
theorem with_u (h : St P0 w0 w (both (rb V S) (il Vx q) :: F)) (i : Nat) (hi : i < S.length) (h8 : S.length ≤ 8) (m : Nat) (hm : m < 256) :
    Calls Try.prog 70 #[V, .int .i64 (i : Int), coreV m Vx] w fun e w' => ∃ V', e = .returned V' ∧ St P0 w0 w' (both (rb V S) (rb V' (S.set i ⟨m, q, hm⟩)) :: F) ∧ Up w w' := by
  obtain ⟨hf, Q, R, hq, hr, hd, ⟨⟨Vs, h2⟩, hx⟩, hL⟩ := h
  have hs := h2 _ (.head _)
  have hl := h2 _ (.tail _ (.head _))
  have hp : Vs.length = S.length := h2 _ (.tail _ (.tail _ (.head _)))
  obtain ⟨A, c, rfl, hc⟩ := slc_form hs
  obtain ⟨Ax, cx, rfl, hcx⟩ := slc_form hx
  have hrd := slc_rd hs (rcells_one S Vs (rlists_form S Vs hp hl))
  have h3 : St P0 w0 w (both (alls [slc 72 9 (.slice A S.length c) S.length (rcells S Vs), alls (rlists S Vs), pu (Vs.length = S.length)]) (il (.slice Ax q.length cx) q) :: F) := ⟨hf, Q, R, hq, hr, hd, ⟨h2, hx⟩, hL⟩
  refine (with_raw hi h8 hrd (St.nil w) _ _ _ _ _ _ _ _).mono ?_
  rintro e w' ⟨A', c', rfl, h4n⟩
  obtain ⟨h4, hu⟩ := h3.of_new h4n
  refine ⟨_, rfl, (St.join h4).imp fun P hP => ?_, hu⟩
  obtain ⟨hn, hb, hx'⟩ := hP
  have e1 := rcells_put S Vs i ⟨m, q, hm⟩ (.slice Ax q.length cx) hp hi
  refine ⟨⟨Vs, hb⟩, ⟨Vs.set i (.slice Ax q.length cx), ?_⟩⟩
  intro B hB
  rcases List.mem_cons.1 hB with rfl | hB
  · rw [List.length_set, ← e1]
    exact hn
  · rcases List.mem_cons.1 hB with rfl | hB
    · intro B2 hB2
      rcases rlists_set S Vs i _ _ B2 hp hi hB2 with rfl | h9
      · exact hx'
      · exact hb _ (.tail _ (.head _)) B2 h9
    · obtain rfl := List.mem_singleton.1 hB
      show (Vs.set i _).length = (S.set i _).length
      simpa using hp
theorem ringC_eq (C : MC) (f v : Nat) (hf : f < 8) : ringC C f v = ⟨orN C.m f, if C.q.length = 16 then C.q else C.q ++ [mkIt f v], orN_lt _ _ C.hm hf⟩ := dif_pos hf
theorem mkIt_eq (f v : Nat) (hf : f < 8) (hv : v ≤ 65535) : mkIt f v = ⟨f, v, hf, hv⟩ := dif_pos ⟨hf, hv⟩
theorem Ring_rb (h : St P0 w0 w (rb V S :: F)) (h8 : S.length ≤ 8) (h16 : ∀ C ∈ S, C.q.length ≤ 16) (from_ to W : Int) :
    Calls Try.prog 68 #[V, .int .i64 from_, .int .i64 to, .int .i64 W] w fun x w' => ∃ V', x = .returned (.tuple #[V', .int .i64 (ringM S from_ to W).2]) ∧ St P0 w0 w' (both (rb V S) (rb V' (ringM S from_ to W).1) :: F) := by
  unfold ringM
  by_cases h1 : 0 ≤ from_ ∧ from_ < S.length
  · rw [if_pos h1]
    by_cases h2 : 0 ≤ to ∧ to < S.length
    · rw [if_pos h2]
      by_cases h3 : 0 ≤ W ∧ W ≤ 65535
      · rw [if_pos h3]
        obtain ⟨f, rfl⟩ := Int.eq_ofNat_of_zero_le h1.1
        obtain ⟨i, rfl⟩ := Int.eq_ofNat_of_zero_le h2.1
        obtain ⟨v, rfl⟩ := Int.eq_ofNat_of_zero_le h3.1
        have hf : f < S.length := by omega
        have hi : i < S.length := by omega
        rw [Int.toNat_natCast, Int.toNat_natCast, Int.toNat_natCast, ringC_eq _ _ _ (by omega)]
        by_cases h4 : (S.getD i default).q.length = 16
        · simp only [if_pos h4]
          exact Ring_full h h8 f i v hf hi (by omega) h4
        · simp only [if_neg h4]
          have h5 : (S.getD i default).q.length ≤ 16 := by
            rw [List.getD_eq_getElem?_getD, List.getElem?_eq_getElem hi]
            exact h16 _ (List.getElem_mem hi)
          rw [mkIt_eq _ _ (by omega) (by omega)]
          exact Ring_put h h8 f i v hf hi (by omega) _ rfl (by omega)
      · rw [if_neg h3]
        exact (Ring_no h from_ to W 2 (.inr ⟨rfl, h1, h2, h3⟩)).mono fun e w' hh => ⟨_, hh⟩
    · rw [if_neg h2]
      exact (Ring_no h from_ to W 3 (.inl ⟨rfl, .inr ⟨h1, h2⟩⟩)).mono fun e w' hh => ⟨_, hh⟩
  · rw [if_neg h1]
    exact (Ring_no h from_ to W 3 (.inl ⟨rfl, .inl h1⟩)).mono fun e w' hh => ⟨_, hh⟩
end
end Go.Proofs.Ytiofdkkjjeljmaa.Ref09
