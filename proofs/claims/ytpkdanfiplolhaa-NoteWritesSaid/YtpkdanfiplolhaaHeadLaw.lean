/- What a message's words are, and that it comes back: plain Lean, no program's function in sight but the given contract's number 'hwrong'. -/
import Derived.Test.YtpkdanfiplolhaaGivenHead
namespace Go.Proofs.Ytpkdanfiplolhaa.HeadLaw
set_option linter.unusedVariables false
set_option linter.unusedSimpArgs false
open Go.RowKit Go.Proofs.Ytpkdanfiplolhaa.Given Go.Proofs.YtpkdanfiplolhaaW.PrintWords

theorem w64' {n : Int} (h0 : -4294967296 ≤ n) (h1 : n ≤ 4294967296) : wrap64 n = n := by unfold wrap64; omega
theorem step64 {i : Nat} (h : i ≤ 1000000) : wrap64 ((i : Int) + 1) = ((i + 1 : Nat) : Int) := by rw [w64' (by omega) (by omega)]; omega
theorem drop_step {l m : List Int} {i : Nat} (h : i < l.length) (h' : i < m.length) : decide (l.drop i = m.drop i) = (decide (rd l i = rd m i) && decide (l.drop (i + 1) = m.drop (i + 1))) := by
  have e1 : rd l i = l[i] := by simp [rd, List.getD_eq_getElem?_getD, List.getElem?_eq_getElem h]
  have e2 : rd m i = m[i] := by simp [rd, List.getD_eq_getElem?_getD, List.getElem?_eq_getElem h']
  rw [e1, e2, Bool.eq_iff_iff]
  rw [List.drop_eq_getElem_cons h, List.drop_eq_getElem_cons h']
  simp only [Bool.and_eq_true, decide_eq_true_eq, List.cons.injEq]
theorem any_step {l : List Int} {i : Nat} (h : i < l.length) : (l.drop i).any oddI = (oddI (rd l i) || (l.drop (i + 1)).any oddI) := by
  have e1 : rd l i = l[i] := by simp [rd, List.getD_eq_getElem?_getD, List.getElem?_eq_getElem h]
  rw [List.drop_eq_getElem_cons h, e1, List.any_cons]
theorem odd_iff (x : Int) : oddI x = true ↔ x < 0 ∨ 65535 < x := by
  unfold oddI wd
  simp only [bne_iff_ne, ne_eq]
  omega
theorem odd_not (x : Int) : oddI x = false ↔ 0 ≤ x ∧ x ≤ 65535 := by
  cases h : oddI x with
  | true => have := (odd_iff x).1 h; simp; omega
  | false => simp; by_cases k : oddI x = true; · rw [h] at k; cases k
             · have := (not_congr (odd_iff x)).1 k; omega
/-- The words are ones, all of them. -/
def good (a1 a2 : Int) (l : List Int) : Bool := !(oddI a1) && !(oddI a2) && !(l.any oddI)
theorem hwrong_eq (a0 a1 a2 : Int) (l : List Int) : hwrong a0 a1 a2 l = if 5 < l.length then 18 else if 0 ≤ a0 ∧ a0 ≤ 2 ∧ good a1 a2 l = true then 0 else 2 := by
  unfold hwrong good
  split
  · rfl
  · by_cases h0 : a0 < 0
    · rw [if_pos (.inl h0), if_neg (by omega)]
    · by_cases h2 : 2 < a0
      · rw [if_pos (.inr (.inl h2)), if_neg (by omega)]
      · cases oddI a1 <;> cases oddI a2 <;> cases l.any oddI <;> simp <;> omega
theorem hwrong_0 {a0 a1 a2 : Int} {l : List Int} : hwrong a0 a1 a2 l = 0 ↔ l.length ≤ 5 ∧ 0 ≤ a0 ∧ a0 ≤ 2 ∧ good a1 a2 l = true := by
  rw [hwrong_eq]
  split
  · constructor
    · intro h; cases h
    · intro h; omega
  · split
    · rename_i h1 h2
      exact ⟨fun _ => ⟨by omega, h2⟩, fun _ => rfl⟩
    · rename_i h2
      constructor
      · intro h; cases h
      · intro h; exact absurd h.2 h2
/-- What is written of a message. -/
def wrM (a0 a1 a2 : Int) (l : List Int) : List Int × Int := if hwrong a0 a1 a2 l = 0 then ((a0 * 256 + (l.length : Int)) :: a1 :: a2 :: l, 0) else ([], hwrong a0 a1 a2 l)
theorem wrM_yes {a0 a1 a2 : Int} {l : List Int} (h : hwrong a0 a1 a2 l = 0) : wrM a0 a1 a2 l = ((a0 * 256 + (l.length : Int)) :: a1 :: a2 :: l, 0) := if_pos h
theorem wrM_no {a0 a1 a2 : Int} {l : List Int} (h : ¬ hwrong a0 a1 a2 l = 0) : wrM a0 a1 a2 l = ([], hwrong a0 a1 a2 l) := if_neg h
theorem wrM_snd (a0 a1 a2 : Int) (l : List Int) : (wrM a0 a1 a2 l).2 = hwrong a0 a1 a2 l := by
  by_cases h : hwrong a0 a1 a2 l = 0
  · rw [wrM_yes h, h]
  · rw [wrM_no h]
theorem wrM_len (a0 a1 a2 : Int) (l : List Int) : (wrM a0 a1 a2 l).1.length ≤ 8 := by
  by_cases h : hwrong a0 a1 a2 l = 0
  · rw [wrM_yes h]
    have := (hwrong_0.1 h).1
    simp only [List.length_cons]
    omega
  · rw [wrM_no h]
    simp
/-- The message of words. -/
def rdM (l : List Int) : Int × Int × Int × List Int × Int := if 3 ≤ l.length ∧ hwrong (rd l 0 / 256) (rd l 1) (rd l 2) (l.drop 3) = 0 ∧ rd l 0 = rd l 0 / 256 * 256 + (l.drop 3).length then (rd l 0 / 256, rd l 1, rd l 2, l.drop 3, 0) else (0, 0, 0, [], 14)
theorem rdM_len (l : List Int) : (rdM l).2.2.2.1.length ≤ 5 := by
  unfold rdM
  split
  · exact (hwrong_0.1 (by rename_i h; exact h.2.1)).1
  · simp
theorem or_code (a0 : Int) (n : Nat) (h0 : 0 ≤ a0) (h1 : a0 ≤ 2) (h2 : n ≤ 5) : Go.bits .or .i64 (wrap64 (a0 * 256)) (n : Int) = a0 * 256 + n := by
  have ha : a0 = 0 ∨ a0 = 1 ∨ a0 = 2 := by omega
  have hn : n = 0 ∨ n = 1 ∨ n = 2 ∨ n = 3 ∨ n = 4 ∨ n = 5 := by omega
  rcases ha with rfl | rfl | rfl <;> rcases hn with rfl | rfl | rfl | rfl | rfl | rfl <;> decide +kernel
theorem rd_back {l : List Int} (h : (rdM l).2.2.2.2 = 0) : hwrong (rdM l).1 (rdM l).2.1 (rdM l).2.2.1 (rdM l).2.2.2.1 = 0 ∧ wrM (rdM l).1 (rdM l).2.1 (rdM l).2.2.1 (rdM l).2.2.2.1 = (l, 0) := by
  unfold rdM at h ⊢
  split at h
  · rename_i hc
    rw [if_pos hc]
    obtain ⟨h3, hw, he⟩ := hc
    refine ⟨hw, ?_⟩
    rw [wrM_yes hw]
    obtain ⟨x0, x1, x2, m, rfl⟩ : ∃ x0 x1 x2 m, l = x0 :: x1 :: x2 :: m := by
      match l, h3 with
      | x0 :: x1 :: x2 :: m, _ => exact ⟨x0, x1, x2, m, rfl⟩
    have e0 : rd (x0 :: x1 :: x2 :: m) 0 = x0 := rfl
    have e1 : rd (x0 :: x1 :: x2 :: m) 1 = x1 := rfl
    have e2 : rd (x0 :: x1 :: x2 :: m) 2 = x2 := rfl
    have e3 : (x0 :: x1 :: x2 :: m).drop 3 = m := rfl
    simp only [e0, e1, e2, e3] at he ⊢
    rw [← he]
  · cases h
theorem wr_back {a0 a1 a2 : Int} {l : List Int} (h : hwrong a0 a1 a2 l = 0) : rdM (wrM a0 a1 a2 l).1 = (a0, a1, a2, l, 0) := by
  rw [wrM_yes h]
  obtain ⟨hl, h0, h2, hg⟩ := hwrong_0.1 h
  have e0 : rd ((a0 * 256 + (l.length : Int)) :: a1 :: a2 :: l) 0 = a0 * 256 + l.length := rfl
  have e1 : rd ((a0 * 256 + (l.length : Int)) :: a1 :: a2 :: l) 1 = a1 := rfl
  have e2 : rd ((a0 * 256 + (l.length : Int)) :: a1 :: a2 :: l) 2 = a2 := rfl
  have e3 : ((a0 * 256 + (l.length : Int)) :: a1 :: a2 :: l).drop 3 = l := rfl
  have ed : (a0 * 256 + (l.length : Int)) / 256 = a0 := by omega
  unfold rdM
  simp only [e0, e1, e2, e3, ed]
  rw [if_pos ⟨by simp, h, trivial⟩]
theorem wr_inj {a0 a1 a2 b0 b1 b2 : Int} {l m : List Int} (h : hwrong a0 a1 a2 l = 0) (k : hwrong b0 b1 b2 m = 0) (e : (wrM a0 a1 a2 l).1 = (wrM b0 b1 b2 m).1) : a0 = b0 ∧ a1 = b1 ∧ a2 = b2 ∧ l = m := by
  have := wr_back h
  rw [e, wr_back k] at this
  simp only [Prod.mk.injEq] at this
  exact ⟨this.1.symm, this.2.1.symm, this.2.2.1.symm, this.2.2.2.1.symm⟩
theorem rdM_no {l : List Int} (h : l.length < 3 ∨ 8 < l.length) : rdM l = (0, 0, 0, [], 14) := by
  unfold rdM
  rw [if_neg]
  rintro ⟨h1, h2, h3⟩
  have := (hwrong_0.1 h2).1
  rw [List.length_drop] at this
  omega
end Go.Proofs.Ytpkdanfiplolhaa.HeadLaw
