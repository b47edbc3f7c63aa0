/- The pure statement of HeadWrites: for any two messages the law's function comes to true. -/
import Derived.Test.YtpkdanfiplolhaaPHeadWritesx
import Derived.Test.YtpkdanfiplolhaaHeadLaw
namespace Go.Proofs.Ytpkdanfiplolhaa.Pure
set_option linter.unusedVariables false
set_option linter.unusedSimpArgs false
open Go.RowKit Go.Proofs.Ytpkdanfiplolhaa.Given Go.Proofs.Ytpkdanfiplolhaa.HeadLaw Go.Proofs.Ytpkdanfiplolhaa.PHeadWrites Go.Proofs.YtpkdanfiplolhaaW.PrintWords Go.Proofs.YtpkdanfiplolhaaW.PrintLast
theorem s03_l (l m : List Int) (hl : l.length = m.length) (hb : l.length ≤ 1000) : ∀ (d i k : Nat), i + d = l.length → d < k → switchyardref03_Same.l0 k l m i = some (decide (l.drop i = m.drop i))
  | 0, i, k, hi, hk => by
    obtain ⟨k, rfl⟩ : ∃ q, k = q + 1 := ⟨k - 1, by omega⟩
    simp only [switchyardref03_Same.l0]
    rw [if_neg (by omega), List.drop_eq_nil_of_le (by omega), List.drop_eq_nil_of_le (by omega)]
    simp
  | d + 1, i, k, hi, hk => by
    obtain ⟨k, rfl⟩ : ∃ q, k = q + 1 := ⟨k - 1, by omega⟩
    simp only [switchyardref03_Same.l0]
    rw [if_pos (by omega), if_pos (by omega), if_pos (by omega), step64 (by omega), drop_step (by omega) (by omega)]
    by_cases h : rd l i = rd m i
    · rw [if_pos h, s03_l l m hl hb d (i + 1) k (by omega) (by omega)]
      simp [h]
    · rw [if_neg h]
      simp [h]
theorem s03 (l m : List Int) (hb : l.length ≤ 1000) (k : Nat) (hk : l.length < k) : switchyardref03_Same.f k l m = some (decide (l = m)) := by
  unfold switchyardref03_Same.f
  by_cases h : l.length = m.length
  · rw [if_pos (by omega)]
    exact s03_l l m h hb l.length 0 k (by omega) hk
  · rw [if_neg (by omega)]
    have : l ≠ m := fun e => h (by rw [e])
    simp [this]
theorem hWrite (a0 a1 a2 : Int) (l : List Int) (hb : l.length ≤ 1000) : head_Write.f a0 a1 a2 l = some (wrM a0 a1 a2 l) := by
  unfold head_Write.f head_wrong.f
  simp only [Option.bind_some]
  by_cases h : hwrong a0 a1 a2 l = 0
  · obtain ⟨hl, h0, h2, hg⟩ := hwrong_0.1 h
    rw [if_pos h, wrM_yes h, or_code a0 l.length h0 h2 hl, if_pos (by simp only [List.length_cons, List.length_nil]; omega)]
    rfl
  · rw [if_neg h, wrM_no h]
theorem hRight (a0 a1 a2 : Int) (l : List Int) : head_Right.f a0 a1 a2 l = some (hwrong a0 a1 a2 l == 0) := rfl
theorem alive {k : Nat} (hk : 10 ≤ k) : switchyardlaw26_alive.f k = some true := by
  unfold switchyardlaw26_alive.f
  have e : wrM 1 0 7 [5] = ([257, 0, 7, 5], 0) := by decide
  rw [hWrite 1 0 7 [5] (by simp), e]
  simp only [Option.bind_some, if_true]
  rw [s03 _ _ (by simp) k (by simp; omega)]
  simp
theorem eqI_l (l m : List Int) (hl : l.length = m.length) (hb : l.length ≤ 1000) : ∀ (d i k : Nat), i + d = l.length → d < k → slices_Equal_int_int.l0 k l m (l.length : Int) i = some (decide (l.drop i = m.drop i))
  | 0, i, k, hi, hk => by
    obtain ⟨k, rfl⟩ : ∃ q, k = q + 1 := ⟨k - 1, by omega⟩
    simp only [slices_Equal_int_int.l0]
    rw [if_neg (by omega), List.drop_eq_nil_of_le (by omega), List.drop_eq_nil_of_le (by omega)]
    simp
  | d + 1, i, k, hi, hk => by
    obtain ⟨k, rfl⟩ : ∃ q, k = q + 1 := ⟨k - 1, by omega⟩
    simp only [slices_Equal_int_int.l0]
    rw [if_pos (by omega), if_pos (by omega), if_pos (by omega), if_pos (by omega), step64 (by omega), drop_step (by omega) (by omega)]
    by_cases h : rd l i = rd m i
    · rw [if_pos h, eqI_l l m hl hb d (i + 1) k (by omega) (by omega)]
      simp [h]
    · rw [if_neg h]
      simp [h]
theorem eqI (l m : List Int) (hb : l.length ≤ 1000) (k : Nat) (hk : l.length < k) : slices_Equal_int_int.f k l m = some (decide (l = m)) := by
  unfold slices_Equal_int_int.f
  by_cases h : l.length = m.length
  · rw [if_pos (by omega)]
    exact eqI_l l m h hb l.length 0 k (by omega) hk
  · rw [if_neg (by omega)]
    have : l ≠ m := fun e => h (by rw [e])
    simp [this]
theorem hSame (a0 a1 a2 : Int) (l : List Int) (b0 b1 b2 : Int) (m : List Int) (hb : l.length ≤ 1000) (k : Nat) (hk : l.length < k) : head_Same.f k a0 a1 a2 l b0 b1 b2 m = some (decide (a0 = b0 ∧ a1 = b1 ∧ a2 = b2 ∧ l = m)) := by
  unfold head_Same.f
  rw [eqI l m hb k hk]
  by_cases h0 : a0 = b0 <;> by_cases h1 : a1 = b1 <;> by_cases h2 : a2 = b2 <;> simp [h0, h1, h2]
theorem rS_l (a0 a1 a2 b0 b1 b2 : Int) (l m : List Int) (hl : l.length = m.length) (hb : l.length ≤ 1000) : ∀ (d i k : Nat), i + d = l.length → d < k → switchyardref26_Same.l0 k i a0 a1 a2 l b0 b1 b2 m = some (decide (l.drop i = m.drop i))
  | 0, i, k, hi, hk => by
    obtain ⟨k, rfl⟩ : ∃ q, k = q + 1 := ⟨k - 1, by omega⟩
    simp only [switchyardref26_Same.l0]
    rw [if_neg (by omega), List.drop_eq_nil_of_le (by omega), List.drop_eq_nil_of_le (by omega)]
    simp
  | d + 1, i, k, hi, hk => by
    obtain ⟨k, rfl⟩ : ∃ q, k = q + 1 := ⟨k - 1, by omega⟩
    simp only [switchyardref26_Same.l0]
    rw [if_pos (by omega), if_pos (by omega), if_pos (by omega), step64 (by omega), drop_step (by omega) (by omega)]
    by_cases h : rd l i = rd m i
    · rw [if_pos h, rS_l a0 a1 a2 b0 b1 b2 l m hl hb d (i + 1) k (by omega) (by omega)]
      simp [h]
    · rw [if_neg h]
      simp [h]
theorem rSame (a0 a1 a2 : Int) (l : List Int) (b0 b1 b2 : Int) (m : List Int) (hb : l.length ≤ 1000) (k : Nat) (hk : l.length + 1 < k) : switchyardref26_Same.f k a0 a1 a2 l b0 b1 b2 m = some (decide (a0 = b0 ∧ a1 = b1 ∧ a2 = b2 ∧ l = m)) := by
  obtain ⟨k, rfl⟩ : ∃ q, k = q + 1 := ⟨k - 1, by omega⟩
  unfold switchyardref26_Same.f
  simp only [switchyardref26_Same.j0, if_true]
  by_cases h : l.length = m.length
  · have e : ((l.length : Int) != (m.length : Int)) = false := by simp [h]
    have e2 := rS_l a0 a1 a2 b0 b1 b2 l m h hb l.length 0 k (by omega) (by omega)
    have e3 : switchyardref26_Same.l0 k 0 a0 a1 a2 l b0 b1 b2 m = some (decide (l = m)) := e2
    simp only [e, e3, Bool.false_eq_true, if_false]
    by_cases h0 : a0 = b0 <;> by_cases h1 : a1 = b1 <;> by_cases h2 : a2 = b2 <;> simp [h0, h1, h2]
  · have e : ((l.length : Int) != (m.length : Int)) = true := by simp; omega
    have hne : l ≠ m := fun e => h (by rw [e])
    simp only [e, if_true]
    by_cases h0 : a0 = b0 <;> by_cases h1 : a1 = b1 <;> by_cases h2 : a2 = b2 <;> simp [h0, h1, h2, hne]
theorem rWord (a : Int) : switchyardref26_word.f a = some (!(oddI a)) := by
  unfold switchyardref26_word.f
  cases h : oddI a with
  | true =>
    rcases (odd_iff a).1 h with k | k
    · rw [if_neg (by omega)]; rfl
    · rw [if_pos (by omega)]; simp; omega
  | false =>
    have := (odd_not a).1 h
    rw [if_pos (by omega)]; simp; omega
theorem rR_l (a0 a1 a2 : Int) (l : List Int) (hb : l.length ≤ 1000) : ∀ (d i k : Nat), i + d = l.length → d < k → switchyardref26_Right.l0 k i a0 a1 a2 l = some (!((l.drop i).any oddI))
  | 0, i, k, hi, hk => by
    obtain ⟨k, rfl⟩ : ∃ q, k = q + 1 := ⟨k - 1, by omega⟩
    simp only [switchyardref26_Right.l0]
    rw [if_neg (by omega), List.drop_eq_nil_of_le (by omega)]
    rfl
  | d + 1, i, k, hi, hk => by
    obtain ⟨k, rfl⟩ : ∃ q, k = q + 1 := ⟨k - 1, by omega⟩
    simp only [switchyardref26_Right.l0]
    rw [if_pos (by omega), if_pos (by omega), step64 (by omega), any_step (by omega), rWord]
    simp only [Option.bind_some]
    cases h : oddI (rd l i) with
    | true => simp
    | false =>
      rw [if_pos (by simp), rR_l a0 a1 a2 l hb d (i + 1) k (by omega) (by omega)]
      simp
theorem rRight (a0 a1 a2 : Int) (l : List Int) (hb : l.length ≤ 1000) (k : Nat) (hk : l.length + 1 < k) : switchyardref26_Right.f k a0 a1 a2 l = some (hwrong a0 a1 a2 l == 0) := by
  obtain ⟨k, rfl⟩ : ∃ q, k = q + 1 := ⟨k - 1, by omega⟩
  unfold switchyardref26_Right.f
  have e3 : switchyardref26_Right.l0 k 0 a0 a1 a2 l = some (!(l.any oddI)) := rR_l a0 a1 a2 l hb l.length 0 k (by omega) (by omega)
  simp only [switchyardref26_Right.j0, if_true, rWord, Option.bind_some, e3]
  have hno : ∀ {p : Prop}, ¬ p → (hwrong a0 a1 a2 l = 0 → p) → some false = some (hwrong a0 a1 a2 l == 0) := by
    intro p hp hh
    have : hwrong a0 a1 a2 l ≠ 0 := fun e => hp (hh e)
    simp [this]
  by_cases h0 : a0 < 0
  · rw [if_pos h0]
    exact hno (p := 0 ≤ a0) (by omega) (fun e => (hwrong_0.1 e).2.1)
  · rw [if_neg h0]
    by_cases h2 : a0 > 2
    · rw [if_pos h2]
      exact hno (p := a0 ≤ 2) (by omega) (fun e => (hwrong_0.1 e).2.2.1)
    · rw [if_neg h2]
      cases g1 : oddI a1 with
      | true =>
        rw [if_neg (by simp)]
        exact hno (p := False) id (fun e => by have := (hwrong_0.1 e).2.2.2; simp [good, g1] at this)
      | false =>
        rw [if_pos (by simp)]
        cases g2 : oddI a2 with
        | true =>
          rw [if_neg (by simp)]
          exact hno (p := False) id (fun e => by have := (hwrong_0.1 e).2.2.2; simp [good, g2] at this)
        | false =>
          rw [if_pos (by simp)]
          by_cases h5 : (l.length : Int) > 5
          · rw [if_pos (by simp; omega)]
            exact hno (p := l.length ≤ 5) (by omega) (fun e => (hwrong_0.1 e).1)
          · rw [if_neg (by simp; omega), hwrong_eq, if_neg (by omega)]
            cases g3 : l.any oddI with
            | true =>
              rw [if_neg (by simp [good, g3])]
              rfl
            | false =>
              rw [if_pos ⟨by omega, by omega, by simp [good, g1, g2, g3]⟩]
              rfl
theorem rWrite (a0 a1 a2 : Int) (l : List Int) (hb : l.length ≤ 1000) (k : Nat) (hk : l.length + 1 < k) : switchyardref26_Write.f k a0 a1 a2 l = some (wrM a0 a1 a2 l) := by
  unfold switchyardref26_Write.f
  by_cases h5 : (l.length : Int) > 5
  · have h : hwrong a0 a1 a2 l = 18 := by rw [hwrong_eq, if_pos (by omega)]
    rw [if_pos h5, wrM_no (by rw [h]; decide), h]
  · rw [if_neg h5, rRight a0 a1 a2 l hb k hk]
    simp only [Option.bind_some]
    by_cases h : hwrong a0 a1 a2 l = 0
    · obtain ⟨hl, h0, h2, hg⟩ := hwrong_0.1 h
      rw [if_pos (by simp [h]), wrM_yes h, w64' (n := 256 * a0) (by omega) (by omega), w64' (by omega) (by omega), if_pos (by simp only [List.length_cons, List.length_nil]; omega)]
      rw [Int.mul_comm]
      rfl
    · rw [if_neg (by simp [h]), wrM_no h]
      rw [hwrong_eq, if_neg (by omega)] at h ⊢
      split
      · rename_i hc; rw [if_pos hc] at h; exact absurd rfl h
      · rfl

theorem HeadWrites (a0 a1 a2 : Int) (l : List Int) (b0 b1 b2 : Int) (m : List Int) : switchyardlaw26_HeadWrites.f 2000 a0 a1 a2 l b0 b1 b2 m = some true := by
  unfold switchyardlaw26_HeadWrites.f
  simp only [switchyardlaw26_HeadWrites.j0, if_true, alive (show 10 ≤ 1999 by omega), Option.bind_some]
  by_cases h : (l.length : Int) > 100
  · rw [if_pos h]
  · rw [if_neg h]
    by_cases h2 : (m.length : Int) > 100
    · rw [if_pos (by simp; omega)]
    · have h5 := wrM_len a0 a1 a2 l
      rw [if_neg (by simp; omega), hWrite a0 a1 a2 l (by omega), rWrite a0 a1 a2 l (by omega) 1999 (by omega), rRight a0 a1 a2 l (by omega) 1999 (by omega), hSame _ _ _ _ _ _ _ _ (by omega) 1999 (by omega), rSame _ _ _ _ _ _ _ _ (by omega) 1999 (by omega), hSame _ _ _ _ _ _ _ _ (by omega) 1999 (by omega)]
      simp only [hRight, Option.bind_some]
      rw [s03 _ _ (by omega) 1999 (by omega)]
      simp
end Go.Proofs.Ytpkdanfiplolhaa.Pure
