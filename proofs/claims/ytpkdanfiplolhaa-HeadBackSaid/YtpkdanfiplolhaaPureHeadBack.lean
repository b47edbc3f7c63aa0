/- The pure statement of HeadBack: for any two messages and any words the law's function comes to true. -/
import Derived.Test.YtpkdanfiplolhaaPHeadBackx
import Derived.Test.YtpkdanfiplolhaaHeadLaw
namespace Go.Proofs.Ytpkdanfiplolhaa.Pure
set_option linter.unusedVariables false
set_option linter.unusedSimpArgs false
open Go.RowKit Go.Proofs.Ytpkdanfiplolhaa.Given Go.Proofs.Ytpkdanfiplolhaa.HeadLaw Go.Proofs.Ytpkdanfiplolhaa.PHeadBack Go.Proofs.YtpkdanfiplolhaaW.PrintWords Go.Proofs.YtpkdanfiplolhaaW.PrintLast
theorem s03_l (l m : List Int) (hl : l.length = m.length) (hb : l.length ≤ 1000) : ∀ (d i k : Nat), i + d = l.length → d < k → switchyardref03_Same.l0 k l m i = some (decide (l.drop i = m.drop i))
  | 0, i, k, hi, hk => by
    obtain ⟨k, rfl⟩ : ∃ q, k = q + 1 := ⟨k - 1, by omega⟩
    simp only [switchyardref03_Same.l0]
    rw [if_neg (by omega), List.drop_eq_nil_of_le (by omega), List.drop_eq_nil_of_le (by omega)]
    simp
  | d + 1, i, k, hi, hk => by
    obtain ⟨k, rfl⟩ : ∃ q, k = q + 1 := ⟨k - 1, by omega⟩
    simp only [switchyardref03_Same.l0]
    rw [if_pos (by omega), if_pos (by omega), if_pos (by omega), step64 (by omega), drop_step (by omega) (by omega)]
    by_cases h : rd l i = rd m i
    · rw [if_pos h, s03_l l m hl hb d (i + 1) k (by omega) (by omega)]
      simp [h]
    · rw [if_neg h]
      simp [h]
theorem s03 (l m : List Int) (hb : l.length ≤ 1000) (k : Nat) (hk : l.length < k) : switchyardref03_Same.f k l m = some (decide (l = m)) := by
  unfold switchyardref03_Same.f
  by_cases h : l.length = m.length
  · rw [if_pos (by omega)]
    exact s03_l l m h hb l.length 0 k (by omega) hk
  · rw [if_neg (by omega)]
    have : l ≠ m := fun e => h (by rw [e])
    simp [this]
theorem hWrite (a0 a1 a2 : Int) (l : List Int) (hb : l.length ≤ 1000) : head_Write.f a0 a1 a2 l = some (wrM a0 a1 a2 l) := by
  unfold head_Write.f head_wrong.f
  simp only [Option.bind_some]
  by_cases h : hwrong a0 a1 a2 l = 0
  · obtain ⟨hl, h0, h2, hg⟩ := hwrong_0.1 h
    rw [if_pos h, wrM_yes h, or_code a0 l.length h0 h2 hl, if_pos (by simp only [List.length_cons, List.length_nil]; omega)]
    rfl
  · rw [if_neg h, wrM_no h]
theorem hRight (a0 a1 a2 : Int) (l : List Int) : head_Right.f a0 a1 a2 l = some (hwrong a0 a1 a2 l == 0) := rfl
theorem alive {k : Nat} (hk : 10 ≤ k) : switchyardlaw26_alive.f k = some true := by
  unfold switchyardlaw26_alive.f
  have e : wrM 1 0 7 [5] = ([257, 0, 7, 5], 0) := by decide
  rw [hWrite 1 0 7 [5] (by simp), e]
  simp only [Option.bind_some, if_true]
  rw [s03 _ _ (by simp) k (by simp; omega)]
  simp
theorem hRead (l : List Int) (hb : l.length ≤ 1000) : head_Read.f l = some (rdM l) := by
  unfold head_Read.f
  by_cases h : (l.length : Int) < 3
  · rw [if_pos h, rdM_no (.inl (by omega))]
  · rw [if_neg h, if_pos (by omega), if_pos (by omega), if_pos (by omega), if_pos (by omega), if_pos (by omega)]
    have e : (l.take (l.length : Int).toNat).drop 3 = l.drop 3 := by rw [Int.toNat_natCast, List.take_length]
    have e2 : slices_Clone_int_int.f (l.drop 3) = some (l.drop 3) := if_pos (by rw [List.length_drop]; omega)
    rw [e, e2]
    simp only [Option.bind_some, hRight]
    by_cases hw : hwrong (rd l 0 / 256) (rd l 1) (rd l 2) (l.drop 3) = 0
    · obtain ⟨hl, h0, h2, hg⟩ := hwrong_0.1 hw
      rw [if_pos (by simp [hw]), or_code _ (l.drop 3).length h0 h2 hl]
      unfold rdM
      by_cases hc : rd l 0 = rd l 0 / 256 * 256 + ((l.drop 3).length : Int)
      · rw [if_pos hc, if_pos ⟨by omega, hw, hc⟩]
      · rw [if_neg hc, if_neg (fun x => hc x.2.2)]
    · rw [if_neg (by simp [hw])]
      unfold rdM
      rw [if_neg (fun x => hw x.2.1)]
theorem eqI_l (l m : List Int) (hl : l.length = m.length) (hb : l.length ≤ 1000) : ∀ (d i k : Nat), i + d = l.length → d < k → slices_Equal_int_int.l0 k l m (l.length : Int) i = some (decide (l.drop i = m.drop i))
  | 0, i, k, hi, hk => by
    obtain ⟨k, rfl⟩ : ∃ q, k = q + 1 := ⟨k - 1, by omega⟩
    simp only [slices_Equal_int_int.l0]
    rw [if_neg (by omega), List.drop_eq_nil_of_le (by omega), List.drop_eq_nil_of_le (by omega)]
    simp
  | d + 1, i, k, hi, hk => by
    obtain ⟨k, rfl⟩ : ∃ q, k = q + 1 := ⟨k - 1, by omega⟩
    simp only [slices_Equal_int_int.l0]
    rw [if_pos (by omega), if_pos (by omega), if_pos (by omega), if_pos (by omega), step64 (by omega), drop_step (by omega) (by omega)]
    by_cases h : rd l i = rd m i
    · rw [if_pos h, eqI_l l m hl hb d (i + 1) k (by omega) (by omega)]
      simp [h]
    · rw [if_neg h]
      simp [h]
theorem eqI (l m : List Int) (hb : l.length ≤ 1000) (k : Nat) (hk : l.length < k) : slices_Equal_int_int.f k l m = some (decide (l = m)) := by
  unfold slices_Equal_int_int.f
  by_cases h : l.length = m.length
  · rw [if_pos (by omega)]
    exact eqI_l l m h hb l.length 0 k (by omega) hk
  · rw [if_neg (by omega)]
    have : l ≠ m := fun e => h (by rw [e])
    simp [this]
theorem hSame (a0 a1 a2 : Int) (l : List Int) (b0 b1 b2 : Int) (m : List Int) (hb : l.length ≤ 1000) (k : Nat) (hk : l.length < k) : head_Same.f k a0 a1 a2 l b0 b1 b2 m = some (decide (a0 = b0 ∧ a1 = b1 ∧ a2 = b2 ∧ l = m)) := by
  unfold head_Same.f
  rw [eqI l m hb k hk]
  by_cases h0 : a0 = b0 <;> by_cases h1 : a1 = b1 <;> by_cases h2 : a2 = b2 <;> simp [h0, h1, h2]

theorem back2 (a0 a1 a2 : Int) (l : List Int) (b0 b1 b2 : Int) (m : List Int) (hl : l.length ≤ 100) (hm : m.length ≤ 100) (ha : hwrong a0 a1 a2 l = 0) :
    switchyardlaw26_HeadBack.j2 1998 (wrM a0 a1 a2 l).1 0 (wrM b0 b1 b2 m).1 (hwrong b0 b1 b2 m) false a0 a1 a2 l b0 b1 b2 m = some true := by
  have h5 := wrM_len a0 a1 a2 l
  simp only [switchyardlaw26_HeadBack.j2, if_true, alive (show 10 ≤ 1997 by omega), Option.bind_some]
  rw [if_neg (by simp)]
  by_cases hb : hwrong b0 b1 b2 m = 0
  · rw [if_pos hb, s03 _ _ (by omega) 1997 (by omega), hSame _ _ _ _ _ _ _ _ (by omega) 1997 (by omega)]
    simp only [Option.bind_some]
    rw [if_pos]
    rw [beq_iff_eq, Bool.eq_iff_iff]
    simp only [decide_eq_true_eq]
    constructor
    · exact wr_inj ha hb
    · rintro ⟨rfl, rfl, rfl, rfl⟩; rfl
  · rw [if_neg hb]
theorem back1 (a0 a1 a2 : Int) (l : List Int) (b0 b1 b2 : Int) (m : List Int) (hl : l.length ≤ 100) (hm : m.length ≤ 100) :
    switchyardlaw26_HeadBack.j1 1999 a0 a1 a2 l b0 b1 b2 m = some true := by
  have h5 := wrM_len a0 a1 a2 l
  simp only [switchyardlaw26_HeadBack.j1]
  rw [alive (show 10 ≤ 1998 by omega), hWrite a0 a1 a2 l (by omega), hWrite b0 b1 b2 m (by omega)]
  simp only [Option.bind_some, wrM_snd]
  by_cases ha : hwrong a0 a1 a2 l = 0
  · rw [if_pos ha, hRead _ (by omega), wr_back ha]
    simp only [Option.bind_some, if_true]
    rw [hSame _ _ _ _ _ _ _ _ (by omega) 1998 (by omega)]
    have e8 : decide (((wrM a0 a1 a2 l).1.length : Int) > 8) = false := by simp; omega
    simp only [Option.bind_some, decide_true, and_self, if_true, e8, ha]
    exact back2 a0 a1 a2 l b0 b1 b2 m hl hm ha
  · rw [if_neg ha]
theorem HeadBack (a0 a1 a2 : Int) (l : List Int) (b0 b1 b2 : Int) (m : List Int) (q : List Int) : switchyardlaw26_HeadBack.f 2000 a0 a1 a2 l b0 b1 b2 m q = some true := by
  unfold switchyardlaw26_HeadBack.f
  simp only [switchyardlaw26_HeadBack.j0, if_true, alive (show 10 ≤ 1999 by omega), Option.bind_some]
  by_cases h : (l.length : Int) > 100
  · rw [if_pos h]
  · rw [if_neg h]
    by_cases h2 : (m.length : Int) > 100
    · rw [if_pos h2]
    · rw [if_neg h2]
      by_cases h3 : (q.length : Int) > 100
      · rw [if_pos (by simp; omega)]
      · have b1' := back1 a0 a1 a2 l b0 b1 b2 m (by omega) (by omega)
        have h5 := rdM_len q
        rw [if_neg (by simp; omega), hRead q (by omega)]
        simp only [Option.bind_some, b1']
        by_cases he : (rdM q).2.2.2.2 = 0
        · obtain ⟨hw, hb⟩ := rd_back he
          rw [if_pos he, hWrite _ _ _ _ (by omega), hb]
          simp only [Option.bind_some, if_true]
          rw [s03 _ _ (by omega) 1999 (by omega), hRight, hw]
          simp
        · rw [if_neg he]
end Go.Proofs.Ytpkdanfiplolhaa.Pure
