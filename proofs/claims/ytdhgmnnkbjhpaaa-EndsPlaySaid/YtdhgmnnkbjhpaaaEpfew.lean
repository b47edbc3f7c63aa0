/- few of the laws of endpoints. -/
import Derived.Test.YtdhgmnnkbjhpaaaEMC
import Derived.Test.YtdhgmnnkbjhpaaaPEndsPlayx1
namespace Go.Proofs.Ytdhgmnnkbjhpaaa.Epp
set_option linter.unusedVariables false
set_option linter.unusedSimpArgs false
open Go.RowKit Go.Proofs.Ytdhgmnnkbjhpaaa.Sep Go.Proofs.Ytdhgmnnkbjhpaaa.PEndsPlay Go.Proofs.YtdhgmnnkbjhpaaaW.PrintWords
theorem stepE {i : Nat} (h : i ≤ 1000000) : wrap64 ((i : Int) + 1) = ((i + 1 : Nat) : Int) := by unfold wrap64; omega
def fewE (l : List S32) : Bool := decide (l.length ≤ 150) && l.all fun x => decide (x.f2.f3.length ≤ 50)
theorem few_l (l : List S32) (hb : l.length ≤ 1000) : ∀ (d i k : Nat), i + d = l.length → d < k → switchyardlaw28_few.l0 k l (l.length : Int) i = some ((l.drop i).all fun x => decide (x.f2.f3.length ≤ 50))
  | 0, i, k, hi, hk => by
    obtain ⟨k, rfl⟩ : ∃ q, k = q + 1 := ⟨k - 1, by omega⟩
    simp only [switchyardlaw28_few.l0]
    rw [if_neg (by omega), List.drop_eq_nil_of_le (by omega)]
    rfl
  | d + 1, i, k, hi, hk => by
    obtain ⟨k, rfl⟩ : ∃ q, k = q + 1 := ⟨k - 1, by omega⟩
    have h : i < l.length := by omega
    have e1 : rd_T32 l i = l[i] := by simp [rd_T32, List.getD_eq_getElem?_getD, List.getElem?_eq_getElem h]
    simp only [switchyardlaw28_few.l0]
    rw [if_pos (by omega), if_pos (by omega), if_pos (by omega), stepE (by omega), few_l l hb d (i + 1) k (by omega) (by omega), e1, List.drop_eq_getElem_cons h, List.all_cons]
    by_cases hs : (l[i]).f2.f3.length ≤ 50
    · rw [if_neg (by omega), decide_eq_true hs, Bool.true_and]
    · rw [if_pos (by omega), decide_eq_false hs, Bool.false_and]
theorem few_q (l : List S32) (A : Option Addr) (c : Nat) (w : World) (hr : Kd.C k32 w A l.length l) (hc : l.length ≤ c) (hm : c ≤ maxLen) : Calls Try.prog 13 #[.slice A l.length c] w fun e w' => e = .returned (.bool (fewE l)) ∧ Up w w' :=
  switchyardlaw28_few.calls 1001 A c l _ w hr hc (by
    unfold switchyardlaw28_few.f fewE
    by_cases h : l.length ≤ 150
    · have h1 := few_l l (by omega) l.length 0 1001 (by omega) (by omega)
      rw [List.drop_zero] at h1
      rw [if_neg (by omega), decide_eq_true h, Bool.true_and]
      exact h1
    · rw [if_pos (by omega), decide_eq_false h, Bool.false_and])
end Go.Proofs.Ytdhgmnnkbjhpaaa.Epp
