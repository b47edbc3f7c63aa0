/- What a core's calls do to the memory behind its stores; plain Lean, no walk. -/
import Derived.Test.YtlefefcakffepaaMD
namespace Go.Proofs.Ytlefefcakffepaa.Bus
set_option linter.unusedVariables false
set_option linter.unusedSimpArgs false
open Go.RowKit Go.Proofs.Ytlefefcakffepaa.Sep Go.Proofs.Ytlefefcakffepaa.Sram Go.Proofs.Ytlefefcakffepaa.Find Go.Proofs.Ytlefefcakffepaa.Sbuf Go.Proofs.Ytlefefcakffepaa.Ref05

/-- A store among words. -/
theorem stW_set (ws : List Int) (a z : Int) (ha : 0 ≤ a ∧ a < ws.length) (hz : 0 ≤ z ∧ z ≤ 65535) : stW ws a z = ws.set a.toNat z := by
  obtain ⟨n, rfl⟩ := Int.eq_ofNat_of_zero_le ha.1
  unfold stW
  rw [stW_ok ws n z (by omega) hz, Int.toNat_natCast]
theorem stW_no (ws : List Int) (a z : Int) (ha : ¬ (0 ≤ a ∧ a < ws.length)) : stW ws a z = ws := by
  unfold stW fillI
  rw [if_pos (by rw [wrongI_neg ha]; decide)]
theorem stW_get (ws : List Int) (x : W16) (a : Nat) (ha : a < ws.length) : (stW ws x.a x.v).getD a 0 = if x.a = a then (x.v : Int) else ws.getD a 0 := by
  by_cases h : (x.a : Int) < ws.length
  · rw [stW_set ws x.a x.v ⟨by omega, h⟩ ⟨by omega, by have := x.hv; omega⟩, Int.toNat_natCast]
    by_cases e : x.a = a
    · rw [if_pos e, e]
      simp [List.getD_eq_getElem?_getD, ha]
    · rw [if_neg e]
      simp [List.getD_eq_getElem?_getD, List.getElem?_set, e]
  · rw [stW_no ws _ _ (by omega), if_neg (by omega)]
theorem feM_app : ∀ (L M : List W16) (ws : List Int), feM ws (L ++ M) = feM (feM ws L) M
  | [], M, ws => rfl
  | x :: L, M, ws => feM_app L M _
theorem feM_drain (L : List W16) (ws : List Int) : feM (drM ws L).1 (drM ws L).2 = feM ws L := by cases L <;> rfl
theorem drM_len (L : List W16) (ws : List Int) : (drM ws L).1.length = ws.length := by
  cases L with
  | nil => rfl
  | cons x L => exact stW_len _ _ _
theorem drM_tail (L : List W16) (ws : List Int) : (drM ws L).2 = L.tail := by cases L <;> rfl
theorem feM_get (L : List W16) (ws : List Int) (a : Nat) (ha : a < ws.length) : (feM ws L).getD a 0 = if findB L a = true then findW L a else ws.getD a 0 := by
  have key : ∀ (R : List W16), (feM ws R.reverse).getD a 0 = match (R.find? fun x => (x.a : Int) == (a : Int)).map (·.v) with
      | some u => (u : Int)
      | none => ws.getD a 0 := by
    intro R
    induction R with
    | nil => rfl
    | cons x R ih =>
      rw [List.reverse_cons, feM_app]
      show (stW (feM ws R.reverse) x.a x.v).getD a 0 = _
      rw [stW_get _ x a (by rw [feM_len]; exact ha)]
      by_cases e : x.a = a
      · rw [if_pos e, List.find?_cons_of_pos (by simp [e])]
        rfl
      · rw [if_neg e, List.find?_cons_of_neg (by simp; omega)]
        exact ih
  have k := key L.reverse
  rw [List.reverse_reverse] at k
  rw [k]
  unfold findB findW findL
  cases (L.reverse.find? fun x => (x.a : Int) == (a : Int)) <;> rfl
/-- A word may be stored. -/
def canS (n : Nat) (a z : Int) : Prop := (0 ≤ a ∧ a < n) ∧ 0 ≤ z ∧ z ≤ 65535
theorem wrong_can {n : Nat} {a z : Int} (h : canS n a z) : wrongE n a z = 0 := by unfold wrongE; rw [if_pos h.1, if_pos h.2]
theorem wrong_not {n : Nat} {a z : Int} (h : ¬ canS n a z) : wrongE n a z ≠ 0 := by
  unfold wrongE
  split
  · rw [if_neg (fun e => h ⟨by assumption, e⟩)]
    decide
  · decide
theorem soM_no {cap : Nat} {ws : List Int} {L : List W16} {a z : Int} (h : ¬ canS ws.length a z) : soM cap ws L a z = (ws, L, wrongE ws.length a z) := if_pos (wrong_not h)
theorem soM_yes {cap : Nat} {ws : List Int} {L : List W16} {a z : Int} (h : canS ws.length a z) (h2 : ws.length ≤ 65536) (hL : L.length ≤ cap) (hc : 1 ≤ cap) :
    ∃ x : W16, (x.a : Int) = a ∧ (x.v : Int) = z ∧ soM cap ws L a z = if L.length = cap then ((drM ws L).1, L.tail ++ [x], 0) else (ws, L ++ [x], 0) := by
  obtain ⟨h3, h4⟩ := h
  have hx : mkW a z = some ⟨a.toNat, z.toNat, by omega, by omega⟩ := dif_pos (by omega)
  refine ⟨⟨a.toNat, z.toNat, by omega, by omega⟩, ?_, ?_, ?_⟩
  rotate_left 2
  · unfold soM
    rw [if_neg (fun e => e (wrong_can ⟨h3, h4⟩))]
    by_cases e : L.length = cap
    · rw [if_pos e, if_pos e]
      unfold putB
      rw [hx]
      simp only
      rw [drM_tail, if_neg (by rw [List.length_tail]; omega)]
    · rw [if_neg e, if_neg e]
      unfold putB
      rw [hx]
      simp only
      rw [if_neg (by omega)]
  · show ((a.toNat : Nat) : Int) = a
    omega
  · show ((z.toNat : Nat) : Int) = z
    omega
/-- The memory behind all of a core's stores, when it stores. -/
theorem soM_fe {cap : Nat} {ws : List Int} {L : List W16} {a z : Int} (h : canS ws.length a z) (h2 : ws.length ≤ 65536) (hL : L.length ≤ cap) (hc : 1 ≤ cap) :
    ∃ ws' L', soM cap ws L a z = (ws', L', 0) ∧ ws'.length = ws.length ∧ L'.length ≤ cap ∧ feM ws' L' = (feM ws L).set a.toNat z := by
  obtain ⟨x, e1, e2, e3⟩ := soM_yes (cap := cap) (L := L) h h2 hL hc
  have hs : ∀ us : List Int, us.length = ws.length → stW us x.a x.v = us.set a.toNat z := fun us hu => by
    rw [e1, e2]
    exact stW_set us a z (by rw [hu]; exact h.1) h.2
  by_cases e : L.length = cap
  · refine ⟨_, _, e3.trans (if_pos e), drM_len _ _, by simp; omega, ?_⟩
    rw [feM_app, ← drM_tail L ws, feM_drain]
    exact hs _ (feM_len _ _)
  · refine ⟨_, _, e3.trans (if_neg e), rfl, by simp; omega, ?_⟩
    rw [feM_app]
    exact hs _ (feM_len _ _)
/-- A core that is alone. -/
theorem alone_step {cap : Nat} {ws : List Int} {L : List W16} (k a z : Int) (h1 : ws.length ≤ 65536) (hL : L.length ≤ cap) (hc : 1 ≤ cap) (hk5 : k ≠ 5) :
    ∃ ws' L' n e, doB cap ws [L] k 0 a z = (ws', [L'], n, e) ∧ ws'.length = ws.length ∧ L'.length ≤ cap ∧
      ((e ≠ 0 ∧ feM ws' L' = feM ws L)
      ∨ (e = 0 ∧ k = 0 ∧ (0 ≤ a ∧ a < ws.length) ∧ feM ws' L' = (feM ws L).set a.toNat z)
      ∨ (e = 0 ∧ k = 4 ∧ (0 ≤ a ∧ a < ws.length) ∧ n = (feM ws L).getD a.toNat 0 ∧ feM ws' L' = (feM ws L).set a.toNat z)
      ∨ (e = 0 ∧ (k = 2 ∨ k = 3) ∧ feM ws' L' = feM ws L)
      ∨ (e = 0 ∧ (k ≠ 0 ∧ k ≠ 2 ∧ k ≠ 3 ∧ k ≠ 4) ∧ (0 ≤ a ∧ a < ws.length) ∧ n = (feM ws L).getD a.toNat 0 ∧ feM ws' L' = feM ws L)) := by
  have hin : inC [L] 0 := ⟨by decide, by simp⟩
  have hat : at_ [L] 0 = L := rfl
  unfold doB
  by_cases k0 : k = 0
  · rw [if_pos k0]
    unfold storeB
    rw [if_pos hin, hat]
    by_cases h : canS ws.length a z
    · obtain ⟨ws', L', e1, e2, e3, e4⟩ := soM_fe (cap := cap) (L := L) h h1 hL hc
      rw [e1]
      exact ⟨ws', L', _, _, rfl, e2, e3, .inr (.inl ⟨rfl, k0, h.1, e4⟩)⟩
    · rw [soM_no h]
      exact ⟨ws, L, _, _, rfl, rfl, hL, .inl ⟨wrong_not h, rfl⟩⟩
  rw [if_neg k0]
  by_cases k2 : k = 2
  · rw [if_pos k2]
    unfold drainB
    rw [if_pos hin, hat]
    exact ⟨_, _, _, _, rfl, drM_len _ _, by rw [drM_tail, List.length_tail]; omega, .inr (.inr (.inr (.inl ⟨rfl, .inl k2, feM_drain _ _⟩)))⟩
  rw [if_neg k2]
  by_cases k3 : k = 3
  · rw [if_pos k3]
    unfold fenceB
    rw [if_pos hin, hat]
    exact ⟨_, [], _, _, rfl, feM_len _ _, Nat.zero_le _, .inr (.inr (.inr (.inl ⟨rfl, .inr k3, rfl⟩)))⟩
  rw [if_neg k3]
  by_cases k4 : k = 4
  · rw [if_pos k4]
    unfold swapB
    rw [if_pos hin, hat]
    unfold swM
    by_cases h : canS ws.length a z
    · rw [if_neg (fun e => e (wrong_can h))]
      obtain ⟨m, rfl⟩ := Int.eq_ofNat_of_zero_le h.1.1
      refine ⟨_, [], _, _, rfl, by rw [stW_len, feM_len], Nat.zero_le _, .inr (.inr (.inl ⟨?_, k4, h.1, ?_, ?_⟩))⟩
      · rw [stW_ok _ m z (by have := h.1.2; rw [feM_len]; omega) h.2]
      · unfold loadI
        rw [if_pos (by rw [feM_len]; exact h.1)]
      · exact stW_set _ _ _ (by rw [feM_len]; exact h.1) h.2
    · rw [if_pos (wrong_not h)]
      exact ⟨ws, L, _, _, rfl, rfl, hL, .inl ⟨wrong_not h, rfl⟩⟩
  rw [if_neg k4, if_neg hk5]
  unfold loadB
  rw [if_pos hin, hat]
  unfold ldM
  by_cases h : 0 ≤ a ∧ a < ws.length
  · rw [if_pos h]
    refine ⟨ws, L, _, _, rfl, rfl, hL, .inr (.inr (.inr (.inr ⟨rfl, ⟨k0, k2, k3, k4⟩, h, ?_, rfl⟩)))⟩
    obtain ⟨m, rfl⟩ := Int.eq_ofNat_of_zero_le h.1
    rw [Int.toNat_natCast, feM_get L ws m (by omega)]
  · rw [if_neg h]
    exact ⟨ws, L, _, _, rfl, rfl, hL, .inl ⟨by decide, rfl⟩⟩
end Go.Proofs.Ytlefefcakffepaa.Bus
