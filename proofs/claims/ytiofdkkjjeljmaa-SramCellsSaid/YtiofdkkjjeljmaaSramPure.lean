/- What the reference of chapter 03 answers, in the letters of the walk. -/
import Derived.Test.YtiofdkkjjeljmaaPSramPlaysx2
import Derived.Test.YtiofdkkjjeljmaaSramDo
namespace Go.Proofs.Ytiofdkkjjeljmaa.Sram
set_option linter.unusedVariables false
set_option linter.unusedSimpArgs false
open Go.RowKit Go.Proofs.Ytiofdkkjjeljmaa.PSramPlays Go.Proofs.YtiofdkkjjeljmaaW.PrintWords

theorem run_eq (ws : List Int) (a n : Int) (h : ws.length ≤ 65536) : switchyardref03_run.f ws a n = some (wrongI ws.length a n) := by
  unfold switchyardref03_run.f wrongI
  by_cases h1 : n < 0
  · rw [if_pos h1, if_pos h1]
  · rw [if_neg h1, if_neg h1]
    by_cases h2 : a < 0
    · rw [if_pos h2, if_pos (.inl h2)]
    · rw [if_neg h2]
      by_cases h3 : a > (ws.length : Int)
      · rw [if_pos h3, if_pos (.inr (.inl h3))]
      · rw [if_neg h3, show wrap64 ((ws.length : Int) - a) = (ws.length : Int) - a by unfold wrap64; omega]
        by_cases h4 : n > (ws.length : Int) - a
        · rw [if_pos h4, if_pos (.inr (.inr h4))]
        · rw [if_neg h4, if_neg (by omega)]
theorem load_eq (ws : List Int) (a : Int) : switchyardref03_Load.f ws a = some (loadI ws a) := by
  unfold switchyardref03_Load.f loadI
  by_cases h1 : a < 0
  · rw [if_pos h1, if_neg (by omega)]
  · rw [if_neg h1]
    by_cases h2 : a ≥ (ws.length : Int)
    · rw [if_pos h2, if_neg (by omega)]
    · rw [if_neg h2, if_pos (by omega), if_pos (by omega), if_pos (by omega)]
      rfl
theorem word_eq (z : Int) : switchyardref03_word.f z = some (decide (0 ≤ z ∧ z ≤ 65535)) := by
  unfold switchyardref03_word.f
  by_cases h : z ≥ 0
  · rw [if_pos h]
    simp [show 0 ≤ z from h]
  · rw [if_neg h, decide_eq_false (by omega)]
theorem fillI_wrong {ws : List Int} {a n z : Int} (h : wrongI ws.length a n ≠ 0) : fillI ws a n z = (ws, wrongI ws.length a n) := if_pos h
theorem fillI_arg {ws : List Int} {a n z : Int} (h : wrongI ws.length a n = 0) (hz : ¬ (0 ≤ z ∧ z ≤ 65535)) : fillI ws a n z = (ws, 2) := by
  unfold fillI
  rw [if_neg (fun e => e h), if_pos (by omega)]
theorem fillI_ok {ws : List Int} {a n z : Int} (h : wrongI ws.length a n = 0) (hz : 0 ≤ z ∧ z ≤ 65535) : fillI ws a n z = (fillL ws a.toNat z n.toNat, 0) := by
  unfold fillI
  rw [if_neg (fun e => e h), if_neg (by omega)]
theorem store_eq (ws : List Int) (a z : Int) (k : Nat) (h : ws.length ≤ 65536) : switchyardref03_Store.f (k + 1) ws a z = some (fillI ws a 1 z) := by
  unfold switchyardref03_Store.f
  by_cases h1 : 0 ≤ a ∧ a < ws.length
  · rw [if_neg (by omega), decide_eq_false (show ¬ (a ≥ (ws.length : Int)) by omega)]
    simp only [switchyardref03_Store.j0, word_eq, Option.bind_some, List.nil_append, List.length_nil]
    by_cases h2 : 0 ≤ z ∧ z ≤ 65535
    · rw [fillI_ok (wrongI_pos h1) h2]
      simp [h2, h1, show ws.length < 17592186044416 by omega]
      rfl
    · rw [fillI_arg (wrongI_pos h1) h2]
      simp [h2]
  · rw [fillI_wrong (by rw [wrongI_neg h1]; decide), wrongI_neg h1]
    by_cases h2 : a < 0
    · rw [if_pos h2]
      rfl
    · rw [if_neg h2, decide_eq_true (show a ≥ (ws.length : Int) by omega)]
      rfl
theorem fill_l (ws : List Int) (a n : Nat) (z : Int) (h : ws.length ≤ 65536) (hn : a + n ≤ ws.length) : ∀ (d i k : Nat), i + d = n → d < k → switchyardref03_Fill.l0 k a n z (fillL ws a z i) i = some (fillL ws a z n, 0)
  | 0, i, k, hi, hk => by
    obtain ⟨k, rfl⟩ : ∃ q, k = q + 1 := ⟨k - 1, by omega⟩
    obtain rfl : i = n := by omega
    simp only [switchyardref03_Fill.l0]
    rw [if_neg (by omega)]
  | d + 1, i, k, hi, hk => by
    obtain ⟨k, rfl⟩ : ∃ q, k = q + 1 := ⟨k - 1, by omega⟩
    simp only [switchyardref03_Fill.l0]
    have e1 : wrap64 ((a : Int) + (i : Int)) = ((a + i : Nat) : Int) := by unfold wrap64; omega
    have e2 : wrap64 ((i : Int) + 1) = ((i + 1 : Nat) : Int) := by unfold wrap64; omega
    rw [if_pos (by omega), e1, if_pos (by omega), if_pos (by rw [fillL_len]; omega), e2, Int.toNat_natCast]
    exact fill_l ws a n z h hn d (i + 1) k (by omega) (by omega)
theorem fill_eq (ws : List Int) (a n z : Int) (k : Nat) (h : ws.length ≤ 65536) (hk : ws.length < k) : switchyardref03_Fill.f k ws a n z = some (fillI ws a n z) := by
  unfold switchyardref03_Fill.f
  rw [run_eq ws a n h, word_eq]
  simp only [Option.bind_some, List.nil_append, List.length_nil]
  by_cases h1 : wrongI ws.length a n = 0
  · rw [if_pos h1]
    by_cases h2 : 0 ≤ z ∧ z ≤ 65535
    · rw [fillI_ok h1 h2, if_pos (decide_eq_true h2), if_pos (by omega)]
      have hb := wrongI_zero h1
      obtain ⟨i, rfl⟩ := Int.eq_ofNat_of_zero_le hb.1
      obtain ⟨j, rfl⟩ := Int.eq_ofNat_of_zero_le hb.2.1
      exact fill_l ws j i z h (by omega) i 0 k (by omega) (by omega)
    · rw [fillI_arg h1 h2, if_neg (by simpa using h2)]
  · rw [if_neg h1, fillI_wrong h1]
theorem take_snoc (l : List Int) (i : Nat) (h : i < l.length) : l.take (i + 1) = l.take i ++ [l.getD i 0] := by
  rw [List.take_add_one, List.getElem?_eq_getElem h]
  simp [List.getD_eq_getElem?_getD, h]
theorem span_l (ws : List Int) (a n : Nat) (h : ws.length ≤ 65536) (hn : a + n ≤ ws.length) : ∀ (d i k : Nat), i + d = n → d < k → switchyardref03_Span.l0 k ws a n ((ws.drop a).take i) i = some ((ws.drop a).take n, 0)
  | 0, i, k, hi, hk => by
    obtain ⟨k, rfl⟩ : ∃ q, k = q + 1 := ⟨k - 1, by omega⟩
    obtain rfl : i = n := by omega
    simp only [switchyardref03_Span.l0]
    rw [if_neg (by omega)]
  | d + 1, i, k, hi, hk => by
    obtain ⟨k, rfl⟩ : ∃ q, k = q + 1 := ⟨k - 1, by omega⟩
    simp only [switchyardref03_Span.l0]
    have e1 : wrap64 ((a : Int) + (i : Int)) = ((a + i : Nat) : Int) := by unfold wrap64; omega
    have e2 : wrap64 ((i : Int) + 1) = ((i + 1 : Nat) : Int) := by unfold wrap64; omega
    have e3 : (ws.drop a).take i ++ [rd ws ((a + i : Nat) : Int)] = (ws.drop a).take (i + 1) := by
      rw [take_snoc _ _ (by rw [List.length_drop]; omega)]
      simp [rd, List.getD_eq_getElem?_getD]
      rw [show ((a : Int) + (i : Int)).toNat = a + i by omega]
    rw [if_pos (by omega), e1, if_pos (by omega), if_pos (by omega), if_pos (by rw [List.length_take]; omega), e2, e3]
    exact span_l ws a n h hn d (i + 1) k (by omega) (by omega)
theorem span_eq' (ws : List Int) (a n : Int) (k : Nat) (h : ws.length ≤ 65536) (hk : ws.length < k) : switchyardref03_Span.f k ws a n = some (spanI ws a n) := by
  unfold switchyardref03_Span.f spanI
  rw [run_eq ws a n h]
  simp only [Option.bind_some]
  by_cases h1 : wrongI ws.length a n = 0
  · rw [if_pos h1, if_neg (fun e => e h1)]
    have hb := wrongI_zero h1
    obtain ⟨i, rfl⟩ := Int.eq_ofNat_of_zero_le hb.1
    obtain ⟨j, rfl⟩ := Int.eq_ofNat_of_zero_le hb.2.1
    exact span_l ws j i h (by omega) i 0 k (by omega) (by omega)
  · rw [if_neg h1, if_pos h1]
theorem do_eq (ws : List Int) (o a n z : Int) (k : Nat) (h : ws.length ≤ 65536) (hk : ws.length < k) : switchyardref03_Do.f k ws o a n z = some (doM ws o a n z) := by
  obtain ⟨k, rfl⟩ : ∃ q, k = q + 1 := ⟨k - 1, by omega⟩
  unfold switchyardref03_Do.f doM
  rw [store_eq ws a z k h, span_eq' ws a n (k + 1) h hk, fill_eq ws a n z (k + 1) h hk, load_eq ws a]
  simp only [Option.bind_some]
  split
  · rfl
  · split
    · rfl
    · split <;> rfl
end Go.Proofs.Ytiofdkkjjeljmaa.Sram
