/- The pure statement of HeadReads: for any words the law's function comes to true. -/
import Derived.Test.YtpkdanfiplolhaaPHeadReadsx
import Derived.Test.YtpkdanfiplolhaaHeadLaw
namespace Go.Proofs.Ytpkdanfiplolhaa.Pure
set_option linter.unusedVariables false
set_option linter.unusedSimpArgs false
open Go.RowKit Go.Proofs.Ytpkdanfiplolhaa.Given Go.Proofs.Ytpkdanfiplolhaa.HeadLaw Go.Proofs.Ytpkdanfiplolhaa.PHeadReads Go.Proofs.YtpkdanfiplolhaaW.PrintWords Go.Proofs.YtpkdanfiplolhaaW.PrintLast
theorem s03_l (l m : List Int) (hl : l.length = m.length) (hb : l.length ≤ 1000) : ∀ (d i k : Nat), i + d = l.length → d < k → switchyardref03_Same.l0 k l m i = some (decide (l.drop i = m.drop i))
  | 0, i, k, hi, hk => by
    obtain ⟨k, rfl⟩ : ∃ q, k = q + 1 := ⟨k - 1, by omega⟩
    simp only [switchyardref03_Same.l0]
    rw [if_neg (by omega), List.drop_eq_nil_of_le (by omega), List.drop_eq_nil_of_le (by omega)]
    simp
  | d + 1, i, k, hi, hk => by
    obtain ⟨k, rfl⟩ : ∃ q, k = q + 1 := ⟨k - 1, by omega⟩
    simp only [switchyardref03_Same.l0]
    rw [if_pos (by omega), if_pos (by omega), if_pos (by omega), step64 (by omega), drop_step (by omega) (by omega)]
    by_cases h : rd l i = rd m i
    · rw [if_pos h, s03_l l m hl hb d (i + 1) k (by omega) (by omega)]
      simp [h]
    · rw [if_neg h]
      simp [h]
theorem s03 (l m : List Int) (hb : l.length ≤ 1000) (k : Nat) (hk : l.length < k) : switchyardref03_Same.f k l m = some (decide (l = m)) := by
  unfold switchyardref03_Same.f
  by_cases h : l.length = m.length
  · rw [if_pos (by omega)]
    exact s03_l l m h hb l.length 0 k (by omega) hk
  · rw [if_neg (by omega)]
    have : l ≠ m := fun e => h (by rw [e])
    simp [this]
theorem hWrite (a0 a1 a2 : Int) (l : List Int) (hb : l.length ≤ 1000) : head_Write.f a0 a1 a2 l = some (wrM a0 a1 a2 l) := by
  unfold head_Write.f head_wrong.f
  simp only [Option.bind_some]
  by_cases h : hwrong a0 a1 a2 l = 0
  · obtain ⟨hl, h0, h2, hg⟩ := hwrong_0.1 h
    rw [if_pos h, wrM_yes h, or_code a0 l.length h0 h2 hl, if_pos (by simp only [List.length_cons, List.length_nil]; omega)]
    rfl
  · rw [if_neg h, wrM_no h]
theorem hRight (a0 a1 a2 : Int) (l : List Int) : head_Right.f a0 a1 a2 l = some (hwrong a0 a1 a2 l == 0) := rfl
theorem alive {k : Nat} (hk : 10 ≤ k) : switchyardlaw26_alive.f k = some true := by
  unfold switchyardlaw26_alive.f
  have e : wrM 1 0 7 [5] = ([257, 0, 7, 5], 0) := by decide
  rw [hWrite 1 0 7 [5] (by simp), e]
  simp only [Option.bind_some, if_true]
  rw [s03 _ _ (by simp) k (by simp; omega)]
  simp
theorem hRead (l : List Int) (hb : l.length ≤ 1000) : head_Read.f l = some (rdM l) := by
  unfold head_Read.f
  by_cases h : (l.length : Int) < 3
  · rw [if_pos h, rdM_no (.inl (by omega))]
  · rw [if_neg h, if_pos (by omega), if_pos (by omega), if_pos (by omega), if_pos (by omega), if_pos (by omega)]
    have e : (l.take (l.length : Int).toNat).drop 3 = l.drop 3 := by rw [Int.toNat_natCast, List.take_length]
    have e2 : slices_Clone_int_int.f (l.drop 3) = some (l.drop 3) := if_pos (by rw [List.length_drop]; omega)
    rw [e, e2]
    simp only [Option.bind_some, hRight]
    by_cases hw : hwrong (rd l 0 / 256) (rd l 1) (rd l 2) (l.drop 3) = 0
    · obtain ⟨hl, h0, h2, hg⟩ := hwrong_0.1 hw
      rw [if_pos (by simp [hw]), or_code _ (l.drop 3).length h0 h2 hl]
      unfold rdM
      by_cases hc : rd l 0 = rd l 0 / 256 * 256 + ((l.drop 3).length : Int)
      · rw [if_pos hc, if_pos ⟨by omega, hw, hc⟩]
      · rw [if_neg hc, if_neg (fun x => hc x.2.2)]
    · rw [if_neg (by simp [hw])]
      unfold rdM
      rw [if_neg (fun x => hw x.2.1)]
theorem rS_l (a0 a1 a2 b0 b1 b2 : Int) (l m : List Int) (hl : l.length = m.length) (hb : l.length ≤ 1000) : ∀ (d i k : Nat), i + d = l.length → d < k → switchyardref26_Same.l0 k i a0 a1 a2 l b0 b1 b2 m = some (decide (l.drop i = m.drop i))
  | 0, i, k, hi, hk => by
    obtain ⟨k, rfl⟩ : ∃ q, k = q + 1 := ⟨k - 1, by omega⟩
    simp only [switchyardref26_Same.l0]
    rw [if_neg (by omega), List.drop_eq_nil_of_le (by omega), List.drop_eq_nil_of_le (by omega)]
    simp
  | d + 1, i, k, hi, hk => by
    obtain ⟨k, rfl⟩ : ∃ q, k = q + 1 := ⟨k - 1, by omega⟩
    simp only [switchyardref26_Same.l0]
    rw [if_pos (by omega), if_pos (by omega), if_pos (by omega), step64 (by omega), drop_step (by omega) (by omega)]
    by_cases h : rd l i = rd m i
    · rw [if_pos h, rS_l a0 a1 a2 b0 b1 b2 l m hl hb d (i + 1) k (by omega) (by omega)]
      simp [h]
    · rw [if_neg h]
      simp [h]
theorem rSame (a0 a1 a2 : Int) (l : List Int) (b0 b1 b2 : Int) (m : List Int) (hb : l.length ≤ 1000) (k : Nat) (hk : l.length + 1 < k) : switchyardref26_Same.f k a0 a1 a2 l b0 b1 b2 m = some (decide (a0 = b0 ∧ a1 = b1 ∧ a2 = b2 ∧ l = m)) := by
  obtain ⟨k, rfl⟩ : ∃ q, k = q + 1 := ⟨k - 1, by omega⟩
  unfold switchyardref26_Same.f
  simp only [switchyardref26_Same.j0, if_true]
  by_cases h : l.length = m.length
  · have e : ((l.length : Int) != (m.length : Int)) = false := by simp [h]
    have e2 := rS_l a0 a1 a2 b0 b1 b2 l m h hb l.length 0 k (by omega) (by omega)
    have e3 : switchyardref26_Same.l0 k 0 a0 a1 a2 l b0 b1 b2 m = some (decide (l = m)) := e2
    simp only [e, e3, Bool.false_eq_true, if_false]
    by_cases h0 : a0 = b0 <;> by_cases h1 : a1 = b1 <;> by_cases h2 : a2 = b2 <;> simp [h0, h1, h2]
  · have e : ((l.length : Int) != (m.length : Int)) = true := by simp; omega
    have hne : l ≠ m := fun e => h (by rw [e])
    simp only [e, if_true]
    by_cases h0 : a0 = b0 <;> by_cases h1 : a1 = b1 <;> by_cases h2 : a2 = b2 <;> simp [h0, h1, h2, hne]
theorem rWord (a : Int) : switchyardref26_word.f a = some (!(oddI a)) := by
  unfold switchyardref26_word.f
  cases h : oddI a with
  | true =>
    rcases (odd_iff a).1 h with k | k
    · rw [if_neg (by omega)]; rfl
    · rw [if_pos (by omega)]; simp; omega
  | false =>
    have := (odd_not a).1 h
    rw [if_pos (by omega)]; simp; omega
theorem rR_l (a0 a1 a2 : Int) (l : List Int) (hb : l.length ≤ 1000) : ∀ (d i k : Nat), i + d = l.length → d < k → switchyardref26_Right.l0 k i a0 a1 a2 l = some (!((l.drop i).any oddI))
  | 0, i, k, hi, hk => by
    obtain ⟨k, rfl⟩ : ∃ q, k = q + 1 := ⟨k - 1, by omega⟩
    simp only [switchyardref26_Right.l0]
    rw [if_neg (by omega), List.drop_eq_nil_of_le (by omega)]
    rfl
  | d + 1, i, k, hi, hk => by
    obtain ⟨k, rfl⟩ : ∃ q, k = q + 1 := ⟨k - 1, by omega⟩
    simp only [switchyardref26_Right.l0]
    rw [if_pos (by omega), if_pos (by omega), step64 (by omega), any_step (by omega), rWord]
    simp only [Option.bind_some]
    cases h : oddI (rd l i) with
    | true => simp
    | false =>
      rw [if_pos (by simp), rR_l a0 a1 a2 l hb d (i + 1) k (by omega) (by omega)]
      simp
theorem rRight (a0 a1 a2 : Int) (l : List Int) (hb : l.length ≤ 1000) (k : Nat) (hk : l.length + 1 < k) : switchyardref26_Right.f k a0 a1 a2 l = some (hwrong a0 a1 a2 l == 0) := by
  obtain ⟨k, rfl⟩ : ∃ q, k = q + 1 := ⟨k - 1, by omega⟩
  unfold switchyardref26_Right.f
  have e3 : switchyardref26_Right.l0 k 0 a0 a1 a2 l = some (!(l.any oddI)) := rR_l a0 a1 a2 l hb l.length 0 k (by omega) (by omega)
  simp only [switchyardref26_Right.j0, if_true, rWord, Option.bind_some, e3]
  have hno : ∀ {p : Prop}, ¬ p → (hwrong a0 a1 a2 l = 0 → p) → some false = some (hwrong a0 a1 a2 l == 0) := by
    intro p hp hh
    have : hwrong a0 a1 a2 l ≠ 0 := fun e => hp (hh e)
    simp [this]
  by_cases h0 : a0 < 0
  · rw [if_pos h0]
    exact hno (p := 0 ≤ a0) (by omega) (fun e => (hwrong_0.1 e).2.1)
  · rw [if_neg h0]
    by_cases h2 : a0 > 2
    · rw [if_pos h2]
      exact hno (p := a0 ≤ 2) (by omega) (fun e => (hwrong_0.1 e).2.2.1)
    · rw [if_neg h2]
      cases g1 : oddI a1 with
      | true =>
        rw [if_neg (by simp)]
        exact hno (p := False) id (fun e => by have := (hwrong_0.1 e).2.2.2; simp [good, g1] at this)
      | false =>
        rw [if_pos (by simp)]
        cases g2 : oddI a2 with
        | true =>
          rw [if_neg (by simp)]
          exact hno (p := False) id (fun e => by have := (hwrong_0.1 e).2.2.2; simp [good, g2] at this)
        | false =>
          rw [if_pos (by simp)]
          by_cases h5 : (l.length : Int) > 5
          · rw [if_pos (by simp; omega)]
            exact hno (p := l.length ≤ 5) (by omega) (fun e => (hwrong_0.1 e).1)
          · rw [if_neg (by simp; omega), hwrong_eq, if_neg (by omega)]
            cases g3 : l.any oddI with
            | true =>
              rw [if_neg (by simp [good, g3])]
              rfl
            | false =>
              rw [if_pos ⟨by omega, by omega, by simp [good, g1, g2, g3]⟩]
              rfl
theorem rWrite (a0 a1 a2 : Int) (l : List Int) (hb : l.length ≤ 1000) (k : Nat) (hk : l.length + 1 < k) : switchyardref26_Write.f k a0 a1 a2 l = some (wrM a0 a1 a2 l) := by
  unfold switchyardref26_Write.f
  by_cases h5 : (l.length : Int) > 5
  · have h : hwrong a0 a1 a2 l = 18 := by rw [hwrong_eq, if_pos (by omega)]
    rw [if_pos h5, wrM_no (by rw [h]; decide), h]
  · rw [if_neg h5, rRight a0 a1 a2 l hb k hk]
    simp only [Option.bind_some]
    by_cases h : hwrong a0 a1 a2 l = 0
    · obtain ⟨hl, h0, h2, hg⟩ := hwrong_0.1 h
      rw [if_pos (by simp [h]), wrM_yes h, w64' (n := 256 * a0) (by omega) (by omega), w64' (by omega) (by omega), if_pos (by simp only [List.length_cons, List.length_nil]; omega)]
      rw [Int.mul_comm]
      rfl
    · rw [if_neg (by simp [h]), wrM_no h]
      rw [hwrong_eq, if_neg (by omega)] at h ⊢
      split
      · rename_i hc; rw [if_pos hc] at h; exact absurd rfl h
      · rfl
theorem rRead (l : List Int) (hb : l.length ≤ 1000) (k : Nat) (hk : l.length + 10 < k) : switchyardref26_Read.f k l = some (rdM l) := by
  obtain ⟨k, rfl⟩ : ∃ q, k = q + 5 := ⟨k - 5, by omega⟩
  unfold switchyardref26_Read.f
  simp only [switchyardref26_Read.j0, if_true]
  by_cases h3 : (l.length : Int) < 3
  · rw [if_pos h3, rdM_no (.inl (by omega))]
  · rw [if_neg h3]
    by_cases h8 : (l.length : Int) > 8
    · rw [if_pos (by simp; omega), rdM_no (.inr (by omega))]
    · rw [if_neg (by simp; omega)]
      have hd : (l.drop 3).length ≤ 5 := by rw [List.length_drop]; omega
      have e1 : wrap64 ((0 : Int) + 1) = 1 := by unfold wrap64; omega
      have e2 : wrap64 ((1 : Int) + 1) = 2 := by unfold wrap64; omega
      have e3 : wrap64 ((2 : Int) + 1) = 3 := by unfold wrap64; omega
      have hsmall : ([] : List Int).length + (l.drop 3).length < 17592186044416 := by simp only [List.length_nil]; omega
      have c3 : (3 : Int) ≤ (l.length : Int) := by omega
      have c2 : (2 : Int) < (l.length : Int) := by omega
      have c1 : (1 : Int) < (l.length : Int) := by omega
      have c0 : (0 : Int) < (l.length : Int) := by omega
      simp only [switchyardref26_Read.l0, hsmall, c3, c2, c1, c0, if_true, Option.bind_some, List.nil_append, e1, e2, e3]
      rw [rWrite 0 _ _ _ (by omega) _ (by omega), rWrite 1 _ _ _ (by omega) _ (by omega), rWrite 2 _ _ _ (by omega) _ (by omega)]
      simp only [Option.bind_some, wrM_snd]
      have f0 : (0 : Int) ≤ 2 := by decide
      have f1 : (1 : Int) ≤ 2 := by decide
      have f2 : (2 : Int) ≤ 2 := by decide
      have f3 : ¬ (3 : Int) ≤ 2 := by decide
      simp only [f0, f1, f2, f3, if_true, if_false]
      cases hg : good (rd l 1) (rd l 2) (l.drop 3) with
      | false =>
        have hn : ∀ a, ¬ hwrong a (rd l 1) (rd l 2) (l.drop 3) = 0 := fun a e => by have := (hwrong_0.1 e).2.2.2; rw [hg] at this; cases this
        rw [if_neg (hn _), if_neg (hn _), if_neg (hn _)]
        unfold rdM
        rw [if_neg (fun x => hn _ x.2.1)]
      | true =>
        have hy : ∀ a : Int, 0 ≤ a → a ≤ 2 → hwrong a (rd l 1) (rd l 2) (l.drop 3) = 0 := fun a h0 h2 => hwrong_0.2 ⟨hd, h0, h2, hg⟩
        rw [if_pos (hy 0 (by omega) (by omega)), if_pos (hy 1 (by omega) (by omega)), if_pos (hy 2 (by omega) (by omega))]
        simp only [wrM_yes (hy 0 (by omega) (by omega)), wrM_yes (hy 1 (by omega) (by omega)), wrM_yes (hy 2 (by omega) (by omega))]
        have g : ∀ (x y z : Int) (t : List Int), (0 : Int) < ((x :: y :: z :: t).length : Int) := fun x y z t => by simp only [List.length_cons]; omega
        have r : ∀ (x : Int) (t : List Int), rd (x :: t) 0 = x := fun _ _ => rfl
        simp only [g, r, if_true]
        unfold rdM
        by_cases h0 : 0 * 256 + ((l.drop 3).length : Int) = rd l 0
        · have : rd l 0 / 256 = 0 := by omega
          rw [if_pos h0, this, if_pos ⟨by omega, hy 0 (by omega) (by omega), h0.symm⟩]
        · rw [if_neg h0]
          by_cases h1 : 1 * 256 + ((l.drop 3).length : Int) = rd l 0
          · have : rd l 0 / 256 = 1 := by omega
            rw [if_pos h1, this, if_pos ⟨by omega, hy 1 (by omega) (by omega), h1.symm⟩]
          · rw [if_neg h1]
            by_cases h2 : 2 * 256 + ((l.drop 3).length : Int) = rd l 0
            · have : rd l 0 / 256 = 2 := by omega
              rw [if_pos h2, this, if_pos ⟨by omega, hy 2 (by omega) (by omega), h2.symm⟩]
            · rw [if_neg h2, if_neg]
              rintro ⟨_, hw, he⟩
              obtain ⟨_, k0, k2, _⟩ := hwrong_0.1 hw
              have : rd l 0 / 256 = 0 ∨ rd l 0 / 256 = 1 ∨ rd l 0 / 256 = 2 := by omega
              omega

theorem HeadReads : switchyardlaw26_HeadReads.Pure := by
  intro l _ _ _
  refine ⟨2000, ?_⟩
  unfold switchyardlaw26_HeadReads.f
  rw [alive (by omega)]
  by_cases h : (l.length : Int) > 100
  · rw [if_pos h]; rfl
  · have h5 := rdM_len l
    rw [if_neg h, hRead l (by omega), rRead l (by omega) 2000 (by omega)]
    simp only [Option.bind_some]
    rw [rSame _ _ _ _ _ _ _ _ (by omega) 2000 (by omega)]
    simp
end Go.Proofs.Ytpkdanfiplolhaa.Pure
