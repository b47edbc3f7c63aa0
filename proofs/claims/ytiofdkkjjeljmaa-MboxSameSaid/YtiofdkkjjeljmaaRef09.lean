/- The reference of chapter 09: Is, has, Mask. -/
import Derived.Test.YtiofdkkjjeljmaaMbOrder0
namespace Go.Proofs.Ytiofdkkjjeljmaa.Ref09
set_option linter.unusedVariables false
set_option linter.unusedSimpArgs false
open Go.RowKit Go.Proofs.Ytiofdkkjjeljmaa.Sep Go.Proofs.Ytiofdkkjjeljmaa.Mb

/-- A core's bits. -/
def bw (m : Nat) : List Value := (List.range 8).map fun i => .bool (m.testBit i)
theorem bw_at (m i : Nat) (h : i < 8) : (bw m)[i]? = some (.bool (m.testBit i)) := by simp [bw, h]
theorem Is_walk (n : Int) (w : World) : Calls Try.prog 30 #[.int .i64 n] w fun e w' => e = .returned (.bool (decide (1 ≤ n ∧ n ≤ 8))) ∧ w' = w := by
  by_cases h1 : 1 ≤ n
  · by_cases h2 : n ≤ 8
    · rw [decide_eq_true (show 1 ≤ n ∧ n ≤ 8 from ⟨h1, h2⟩)]
      have g1 : n ≥ 1 := h1
      go_enter Try.func30, Try.ntmps30
      go_wp2
      go_ret
      exact ⟨rfl, rfl⟩
    · rw [decide_eq_false (show ¬ (1 ≤ n ∧ n ≤ 8) from fun e => h2 e.2)]
      have g1 : n ≥ 1 := h1
      have g2 := decide_eq_false h2
      go_enter Try.func30, Try.ntmps30
      go_wp2
      go_ret
      exact ⟨rfl, rfl⟩
  · rw [decide_eq_false (show ¬ (1 ≤ n ∧ n ≤ 8) from fun e => h1 e.1)]
    have g1 : decide (n ≥ 1) = false := decide_eq_false h1
    go_enter Try.func30, Try.ntmps30
    go_wp2
    go_ret
    exact ⟨rfl, rfl⟩
theorem has_walk (A : Option Addr) (n c : Nat) (k : Int) (w : World) : Calls Try.prog 69 #[.slice A n c, .int .i64 k] w fun e w' => e = .returned (.bool (decide (0 ≤ k ∧ k < n))) ∧ w' = w := by
  by_cases h1 : 0 ≤ k
  · by_cases h2 : k < n
    · rw [decide_eq_true (show 0 ≤ k ∧ k < n from ⟨h1, h2⟩)]
      have g1 : k ≥ 0 := h1
      go_enter Try.func69, Try.ntmps69
      go_wp2
      go_ret
      exact ⟨rfl, rfl⟩
    · rw [decide_eq_false (show ¬ (0 ≤ k ∧ k < n) from fun e => h2 e.2)]
      have g1 : k ≥ 0 := h1
      have g2 := decide_eq_false h2
      go_enter Try.func69, Try.ntmps69
      go_wp2
      go_ret
      exact ⟨rfl, rfl⟩
  · rw [decide_eq_false (show ¬ (0 ≤ k ∧ k < n) from fun e => h1 e.1)]
    have g1 : decide (k ≥ 0) = false := decide_eq_false h1
    go_enter Try.func69, Try.ntmps69
    go_wp2
    go_ret
    exact ⟨rfl, rfl⟩
theorem mask_step (m i : Nat) : m % 2 ^ (i + 1) = m % 2 ^ i + (if m.testBit i then 2 ^ i else 0) := by
  rw [Nat.pow_succ, Nat.mod_mul, Nat.testBit_eq_decide_div_mod_eq]
  rcases Nat.mod_two_eq_zero_or_one (m / 2 ^ i) with h | h
  · rw [h]; simp
  · rw [h]; simp
/-- A core of the reference's, as a value. -/
def coreV (m : Nat) (V : Value) : Value := .agg #[.bool (m.testBit 0), .bool (m.testBit 1), .bool (m.testBit 2), .bool (m.testBit 3), .bool (m.testBit 4), .bool (m.testBit 5), .bool (m.testBit 6), .bool (m.testBit 7), V]
theorem coreV_eq (m : Nat) (V : Value) : coreV m V = .agg (bw m ++ [V]).toArray := rfl
set_option maxHeartbeats 4000000 in
set_option maxRecDepth 100000 in
theorem Mask_walk (m : Nat) (hm : m < 256) (A : Option Addr) (n c : Nat) (w : World) : Calls Try.prog 34 #[coreV m (.slice A n c)] w fun e w' => e = .returned (.int .i64 (m : Int)) ∧ Up w w' := by
  unfold coreV
  have HB : ∀ i, i < 8 → [m.testBit 0, m.testBit 1, m.testBit 2, m.testBit 3, m.testBit 4, m.testBit 5, m.testBit 6, m.testBit 7][i]? = some (m.testBit i) := by
    intro i hi
    match i, hi with
    | 0, _ => rfl
    | 1, _ => rfl
    | 2, _ => rfl
    | 3, _ => rfl
    | 4, _ => rfl
    | 5, _ => rfl
    | 6, _ => rfl
    | 7, _ => rfl
  generalize m.testBit 0 = b0 at HB ⊢
  generalize m.testBit 1 = b1 at HB ⊢
  generalize m.testBit 2 = b2 at HB ⊢
  generalize m.testBit 3 = b3 at HB ⊢
  generalize m.testBit 4 = b4 at HB ⊢
  generalize m.testBit 5 = b5 at HB ⊢
  generalize m.testBit 6 = b6 at HB ⊢
  generalize m.testBit 7 = b7 at HB ⊢
  have HC : ∀ i, i < 8 → (w.alloc (.cells #[.bool b0, .bool b1, .bool b2, .bool b3, .bool b4, .bool b5, .bool b6, .bool b7, .slice A n c] 72)).cell? ⟨w.heap.size, i, none⟩ = some (.bool (m.testBit i)) := by
    intro i hi
    rw [cell_of_block (block_new w _) i]
    have h := HB i hi
    match i, hi with
    | 0, _ => exact congrArg (Option.map Value.bool) h
    | 1, _ => exact congrArg (Option.map Value.bool) h
    | 2, _ => exact congrArg (Option.map Value.bool) h
    | 3, _ => exact congrArg (Option.map Value.bool) h
    | 4, _ => exact congrArg (Option.map Value.bool) h
    | 5, _ => exact congrArg (Option.map Value.bool) h
    | 6, _ => exact congrArg (Option.map Value.bool) h
    | 7, _ => exact congrArg (Option.map Value.bool) h
  have HU := Lib.hid ((Up.refl w).alloc (.cells #[.bool b0, .bool b1, .bool b2, .bool b3, .bool b4, .bool b5, .bool b6, .bool b7, .slice A n c] 72))
  have HC := Lib.hid HC
  clear HB
  go_enter Try.func34, Try.ntmps34
  go_wp2_with fail
  obtain ⟨g, hg⟩ : ∃ g, w.heap.size = g := ⟨_, rfl⟩
  rw [hg] at HC
  simp only [hg]
  clear hg
  generalize w.alloc (.cells #[.bool b0, .bool b1, .bool b2, .bool b3, .bool b4, .bool b5, .bool b6, .bool b7, .slice A n c] 72) = wb at *
  go_loop [5, 3, 4] (fun v5 v3 v4 => ∃ i p r : Nat, i ≤ 8 ∧ v5 = .int .i64 i ∧ v3 = .int .i64 r ∧ v4 = .int .i64 p ∧ Hid (r = m % 2 ^ i) ∧ Hid (p = 2 ^ i) ∧ r ≤ 255 ∧ p ≤ 256) (fun v5 _ _ => 8 - (intOf v5).toNat)
  case atStart => exact ⟨0, 1, 0, by omega, rfl, rfl, rfl, Lib.hid (by simp [Nat.mod_one]), Lib.hid rfl, by omega, by omega⟩
  case round =>
    obtain ⟨i, p, r, hi, rfl, rfl, rfl, H1, H2, h3, h4⟩ := hrel
    by_cases hlt : i < 8
    · have c0 := HC.out i hlt
      have HS := Lib.hid (mask_step m i)
      have hr2 : m % 2 ^ (i + 1) ≤ 255 := Nat.le_trans (Nat.mod_le _ _) (by omega)
      have hp2 : p * 2 ≤ 256 := by
        have := H2.out
        have h5 : 2 ^ (i + 1) ≤ 2 ^ 8 := Nat.pow_le_pow_right (by omega) (by omega)
        rw [Nat.pow_succ, ← this] at h5
        exact h5
      have HR2 := Lib.hid hr2
      clear hr2
      cases hb : m.testBit i with
      | true =>
        rw [hb] at c0 HS
        have hs2 : m % 2 ^ (i + 1) = r + p := by rw [HS.out, H1.out, H2.out]; simp
        have hrp : r + p ≤ 255 := by rw [← hs2]; exact HR2.out
        have HS2 := Lib.hid hs2
        clear hs2 hb
        go_wp2
        go_round
        case rel => exact ⟨i + 1, p * 2, r + p, by omega, by go_num, by go_num, by go_num, Lib.hid HS2.out.symm, Lib.hid (by rw [H2.out, Nat.pow_succ]), by omega, hp2⟩
        case measure => simp [intOf]; omega
      | false =>
        rw [hb] at c0 HS
        have HS2 := Lib.hid (show m % 2 ^ (i + 1) = r by rw [HS.out, H1.out]; simp)
        clear hb
        go_wp2
        go_round
        case rel => exact ⟨i + 1, p * 2, r, by omega, by go_num, rfl, by go_num, Lib.hid HS2.out.symm, Lib.hid (by rw [H2.out, Nat.pow_succ]), by omega, hp2⟩
        case measure => simp [intOf]; omega
    · obtain rfl : i = 8 := by omega
      have hrm : r = m := by rw [H1.out]; exact Nat.mod_eq_of_lt (by omega)
      subst hrm
      go_wp2
      go_ret
      exact ⟨rfl, HU.out⟩
end Go.Proofs.Ytiofdkkjjeljmaa.Ref09
