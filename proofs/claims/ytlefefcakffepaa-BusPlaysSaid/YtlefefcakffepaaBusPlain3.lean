/- Lengths that calls keep, and what a core loads when nothing waits. -/
import Derived.Test.YtlefefcakffepaaBusPlain2
namespace Go.Proofs.Ytlefefcakffepaa.Bus
set_option linter.unusedVariables false
set_option linter.unusedSimpArgs false
open Go.RowKit Go.Proofs.Ytlefefcakffepaa.Sep Go.Proofs.Ytlefefcakffepaa.Sram Go.Proofs.Ytlefefcakffepaa.Find Go.Proofs.Ytlefefcakffepaa.Sbuf Go.Proofs.Ytlefefcakffepaa.Ref05

theorem soM_len (cap : Nat) (ws : List Int) (L : List W16) (a z : Int) : (soM cap ws L a z).1.length = ws.length := by
  unfold soM
  split
  · rfl
  · split
    · exact drM_len L ws
    · rfl
theorem do_len (cap : Nat) (ws : List Int) (Ls : List (List W16)) (k co a z : Int) : (doB cap ws Ls k co a z).1.length = ws.length ∧ (doB cap ws Ls k co a z).2.1.length = Ls.length := by
  unfold doB
  split
  · unfold storeB
    split
    · exact ⟨soM_len _ _ _ _ _, List.length_set⟩
    · exact ⟨rfl, rfl⟩
  split
  · unfold drainB
    split
    · exact ⟨drM_len _ _, List.length_set⟩
    · exact ⟨rfl, rfl⟩
  split
  · unfold fenceB
    split
    · exact ⟨feM_len _ _, List.length_set⟩
    · exact ⟨rfl, rfl⟩
  split
  · unfold swapB
    split
    · refine ⟨?_, List.length_set⟩
      unfold swM
      split
      · rfl
      · exact (stW_len _ _ _).trans (feM_len _ _)
    · exact ⟨rfl, rfl⟩
  split
  · unfold loseB
    split
    · exact ⟨rfl, List.length_set⟩
    · exact ⟨rfl, rfl⟩
  · exact ⟨rfl, rfl⟩
/-- A fence of core i, the cores ahead of it being fenced. -/
theorem fence_next {ws : List Int} {Ls : List (List W16)} (i : Nat) (hi : i < Ls.length) (hE : ∀ j, j < i → Ls.getD j default = []) :
    (fenceB ws Ls i).1.length = ws.length ∧ (fenceB ws Ls i).2.1.length = Ls.length ∧ ∀ j, j < i + 1 → (fenceB ws Ls i).2.1.getD j default = [] := by
  have hin : inC Ls (i : Int) := ⟨by omega, by omega⟩
  unfold fenceB
  rw [if_pos hin]
  refine ⟨feM_len _ _, List.length_set, fun j hj => ?_⟩
  show (Ls.set (i : Int).toNat []).getD j default = []
  rw [Int.toNat_natCast]
  by_cases e : i = j
  · subst e
    exact set_getD Ls i [] hi
  · have h1 : (Ls.set i []).getD j default = Ls.getD j default := by simp [List.getD_eq_getElem?_getD, List.getElem?_set, e]
    rw [h1]
    exact hE j (by omega)
/-- What a core loads when nothing of it waits. -/
theorem load_none {ws : List Int} {Ls : List (List W16)} (i : Nat) (hi : i < Ls.length) (hE : Ls.getD i default = []) (a : Int) : loadB ws Ls i a = if 0 ≤ a ∧ a < ws.length then (ws.getD a.toNat 0, 0) else (0, 4) := by
  have hin : inC Ls (i : Int) := ⟨by omega, by omega⟩
  have hat : at_ Ls (i : Int) = [] := by
    show Ls.getD (i : Int).toNat default = []
    rw [Int.toNat_natCast]
    exact hE
  unfold loadB
  rw [if_pos hin, hat]
  unfold ldM
  split
  · rfl
  · rfl
end Go.Proofs.Ytlefefcakffepaa.Bus
