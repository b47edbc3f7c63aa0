/- What an accepted call of a core drains: the plain law of BusOrder. -/
import Derived.Test.YtlefefcakffepaaBusPlain3
namespace Go.Proofs.Ytlefefcakffepaa.Bus
set_option linter.unusedVariables false
set_option linter.unusedSimpArgs false
open Go.RowKit Go.Proofs.Ytlefefcakffepaa.Sep Go.Proofs.Ytlefefcakffepaa.Sram Go.Proofs.Ytlefefcakffepaa.Find Go.Proofs.Ytlefefcakffepaa.Sbuf Go.Proofs.Ytlefefcakffepaa.Ref05

theorem drM_one (ws : List Int) (x : W16) (L : List W16) : (drM ws (x :: L)).1 = feM ws [x] := rfl
/-- An accepted call: what it drains (T), what waits then, and what it added. -/
theorem order_step {cap : Nat} {ws : List Int} {Ls : List (List W16)} (hk : Ok cap ws Ls) (k co a z : Int) (h4 : k ≠ 4) (h5 : k ≠ 5) (h : (doB cap ws Ls k co a z).2.2.2 = 0) :
    inC Ls co ∧ ∃ T L' new m, doB cap ws Ls k co a z = (feM ws T, Ls.set co.toNat L', m, 0) ∧ at_ Ls co ++ new = T ++ L' ∧ ((k = 0 ∧ ∃ x : W16, new = [x] ∧ (x.a : Int) = a ∧ (x.v : Int) = z ∧ x.a < ws.length) ∨ (k ≠ 0 ∧ new = [])) := by
  by_cases hi : inC Ls co
  case neg =>
    exfalso
    unfold doB storeB drainB fenceB swapB loseB loadB at h
    simp only [if_neg hi] at h
    by_cases k0 : k = 0
    · simp [k0] at h
    · by_cases k2 : k = 2
      · simp [k2] at h
      · by_cases k3 : k = 3
        · simp [k3] at h
        · simp [k0, k2, k3, h4, h5] at h
  refine ⟨hi, ?_⟩
  have hin := in_getD hi
  have hlen := hk.len _ hin
  unfold doB at h ⊢
  by_cases k0 : k = 0
  · simp only [if_pos k0] at h ⊢
    unfold storeB at h ⊢
    simp only [if_pos hi] at h ⊢
    by_cases hc : canS ws.length a z
    · obtain ⟨x, e1, e2, e3⟩ := soM_yes (cap := cap) (L := at_ Ls co) hc hk.ram hlen hk.pos
      have hx : x.a < ws.length := by have := hc.1.2; omega
      by_cases e : (at_ Ls co).length = cap
      · rw [e3, if_pos e]
        have hp := hk.pos
        cases hL : at_ Ls co with
        | nil => rw [hL] at e; simp at e; omega
        | cons y L =>
          refine ⟨[y], L ++ [x], [x], 0, rfl, rfl, .inl ⟨k0, x, rfl, e1, e2, hx⟩⟩
      · rw [e3, if_neg e]
        exact ⟨[], at_ Ls co ++ [x], [x], 0, rfl, rfl, .inl ⟨k0, x, rfl, e1, e2, hx⟩⟩
    · rw [soM_no hc] at h
      exact absurd h (wrong_not hc)
  simp only [if_neg k0] at h ⊢
  by_cases k2 : k = 2
  · simp only [if_pos k2]
    unfold drainB
    simp only [if_pos hi]
    cases hL : at_ Ls co with
    | nil => exact ⟨[], [], [], _, rfl, rfl, .inr ⟨k0, rfl⟩⟩
    | cons y L => exact ⟨[y], L, [], _, rfl, by simp, .inr ⟨k0, rfl⟩⟩
  simp only [if_neg k2] at h ⊢
  by_cases k3 : k = 3
  · simp only [if_pos k3]
    unfold fenceB
    simp only [if_pos hi]
    exact ⟨at_ Ls co, [], [], _, rfl, rfl, .inr ⟨k0, rfl⟩⟩
  simp only [if_neg k3, if_neg h4, if_neg h5] at h ⊢
  refine ⟨[], at_ Ls co, [], (loadB ws Ls co a).1, ?_, by simp, .inr ⟨k0, rfl⟩⟩
  rw [h, set_self Ls _ hin]
  rfl
end Go.Proofs.Ytlefefcakffepaa.Bus
