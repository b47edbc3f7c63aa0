/- What the reference's functions of chapter 13 answer, as formulas: Ring, Right, Size, Base, At. -/
import Derived.Test.YtmfpahdbjcpmkaaDoorPPlotWherex3
import Derived.Test.YtmfpahdbjcpmkaaDoorPlotAt
namespace Go.Proofs.YtmfpahdbjcpmkaaDoor.Plot
set_option linter.unusedVariables false
set_option linter.unusedSimpArgs false
open Go.RowKit Go.Proofs.YtmfpahdbjcpmkaaDoorW.PrintWords Go.Proofs.YtmfpahdbjcpmkaaDoor.PPlotWhere

theorem w64 {n : Int} (h0 : -4294967296 ≤ n) (h1 : n ≤ 4294967296) : wrap64 n = n := by unfold wrap64; omega
theorem ring_r (n : Int) (k : Nat) : switchyardref13_Ring.f (k + 7) n = some (rgB n) := by
  unfold switchyardref13_Ring.f
  have e2 : wrap64 (2 * 2) = 4 := by rw [w64 (by omega) (by omega)]; rfl
  have e4 : wrap64 (2 * 4) = 8 := by rw [w64 (by omega) (by omega)]; rfl
  have e8 : wrap64 (2 * 8) = 16 := by rw [w64 (by omega) (by omega)]; rfl
  have e16 : wrap64 (2 * 16) = 32 := by rw [w64 (by omega) (by omega)]; rfl
  have e32 : wrap64 (2 * 32) = 64 := by rw [w64 (by omega) (by omega)]; rfl
  have e64 : wrap64 (2 * 64) = 128 := by rw [w64 (by omega) (by omega)]; rfl
  simp only [switchyardref13_Ring.l0, e2, e4, e8, e16, e32, e64]
  have c2 : ((2 : Int) ≤ 64) = True := by simp
  have c4 : ((4 : Int) ≤ 64) = True := by simp
  have c8 : ((8 : Int) ≤ 64) = True := by simp
  have c16 : ((16 : Int) ≤ 64) = True := by simp
  have c32 : ((32 : Int) ≤ 64) = True := by simp
  have c64 : ((64 : Int) ≤ 64) = True := by simp
  have c128 : ((128 : Int) ≤ 64) = False := by simp
  simp only [c2, c4, c8, c16, c32, c64, c128, if_true, if_false]
  by_cases h2 : n = 2
  · subst h2; rfl
  by_cases h4 : n = 4
  · subst h4; rfl
  by_cases h8 : n = 8
  · subst h8; rfl
  by_cases h16 : n = 16
  · subst h16; rfl
  by_cases h32 : n = 32
  · subst h32; rfl
  by_cases h64 : n = 64
  · subst h64; rfl
  rw [if_neg (Ne.symm h2), if_neg (Ne.symm h4), if_neg (Ne.symm h8), if_neg (Ne.symm h16), if_neg (Ne.symm h32), if_neg (Ne.symm h64)]
  simp [rgB, h2, h4, h8, h16, h32, h64]
theorem right_r (c r b : Int) (k : Nat) : switchyardref13_Right.f (k + 7) c r b = some (rtB c r b) := by
  unfold switchyardref13_Right.f
  rw [ring_r]
  by_cases h1 : c ≥ 2
  · by_cases h2 : c ≤ 8
    · cases h3 : rgB r with
      | false =>
        have e : rtB c r b = false := decide_eq_false (fun h => by rw [h3] at h; exact absurd h.2.2.1 (by decide))
        simp [h1, h2, e]
      | true =>
        by_cases h4 : b ≥ 1
        · have e : rtB c r b = decide (b ≤ 16) := by unfold rtB; rw [decide_eq_decide]; constructor <;> intro h <;> first | omega | exact ⟨by omega, by omega, h3, by omega, h⟩
          simp [h1, h2, h4, e]
        · have e : rtB c r b = false := decide_eq_false (fun h => by omega)
          simp [h1, h2, h4, e]
    · have e : rtB c r b = false := decide_eq_false (fun h => by omega)
      simp [h1, h2, e]
  · have e : rtB c r b = false := decide_eq_false (fun h => by omega)
    simp [h1, e]
theorem size_r (r : Int) (k : Nat) (hk : 7 ≤ k) : switchyardref13_Size.f k r = some (szI r) := by
  obtain ⟨k, rfl⟩ : ∃ m, k = m + 7 := ⟨k - 7, by omega⟩
  unfold switchyardref13_Size.f szI
  rw [ring_r]
  cases h3 : rgB r with
  | false => simp
  | true =>
    have hb := rgB_bd h3
    have e1 : wrap64 (4 + r) = 4 + r := w64 (by omega) (by omega)
    have e2 : wrap64 (4 + r + r) = 4 + r + r := w64 (by omega) (by omega)
    have e3 : wrap64 (4 + r + r + r) = 4 + r + r + r := w64 (by omega) (by omega)
    have e4 : wrap64 (8 * r) = 8 * r := w64 (by omega) (by omega)
    have e5 : wrap64 (4 + r + r + r + 8 * r) = 4 + 11 * r := by rw [w64 (by omega) (by omega)]; omega
    simp [e1, e2, e3, e4, e5]

/-! ### Base -/
/-- How many other cores there are from b on, below x. -/
def cnt (a b x : Int) : Int := (x - b) - (if b ≤ a ∧ a < x then 1 else 0)
set_option maxHeartbeats 2000000 in
theorem base_l1 (f t c r q : Int) (hr : rgB r = true) (hc : c ≤ 8) (a : Int) (ha0 : 0 ≤ a) (ha : a < c) : ∀ (d : Nat) (at_ b : Int) (k : Nat), (d : Int) = c - b → 0 ≤ b → 0 ≤ at_ → at_ ≤ 1000000 + 1000 * b → d + 8 < k →
    switchyardref13_Base.l1 k f t at_ a b c r q = (if a = f ∧ b ≤ t ∧ t < c ∧ t ≠ a then some (at_ + cnt a b t * szI r, true) else switchyardref13_Base.l0 (k - (d + 1)) f t (at_ + cnt a b c * szI r) (a + 1) c r q)
  | 0, at_, b, k, hd, hb, h0, h1, hk => by
    obtain ⟨k, rfl⟩ : ∃ m, k = m + 1 := ⟨k - 1, by omega⟩
    have hw : wrap64 (a + 1) = a + 1 := w64 (by omega) (by omega)
    have e : cnt a b c = 0 := by unfold cnt; rw [if_neg (by omega)]; omega
    simp only [switchyardref13_Base.l1]
    rw [if_neg (by omega), if_neg (by omega), hw, e]
    simp
  | d + 1, at_, b, k, hd, hb, h0, h1, hk => by
    obtain ⟨k, rfl⟩ : ∃ m, k = m + 1 := ⟨k - 1, by omega⟩
    have hw : wrap64 (b + 1) = b + 1 := w64 (by omega) (by omega)
    have hs := @szI_bd r
    simp only [switchyardref13_Base.l1]
    rw [if_pos (show b < c by omega), hw]
    by_cases hab : a = b
    · rw [if_pos hab, base_l1 f t c r q hr hc a ha0 ha d at_ (b + 1) k (by omega) (by omega) h0 (by omega) (by omega)]
      have e1 : cnt a (b + 1) c = cnt a b c := by unfold cnt; rw [if_neg (by omega), if_pos (by omega)]; omega
      have e2 : k - (d + 1) = k + 1 - (d + 1 + 1) := by omega
      rw [e1, e2]
      by_cases h : a = f ∧ b ≤ t ∧ t < c ∧ t ≠ a
      · have e3 : cnt a (b + 1) t = cnt a b t := by unfold cnt; rw [if_neg (by omega), if_pos (by omega)]; omega
        rw [if_pos (by omega), if_pos h, e3]
      · rw [if_neg (by omega), if_neg h]
    · rw [if_neg hab, size_r r k (by omega)]
      simp only [Option.bind_some]
      have hw2 : wrap64 (at_ + szI r) = at_ + szI r := w64 (by omega) (by omega)
      have ec : ∀ x, b < x → cnt a b x = cnt a (b + 1) x + 1 := by
        intro x hx
        unfold cnt
        by_cases h5 : b ≤ a ∧ a < x
        · rw [if_pos h5, if_pos (by omega)]; omega
        · rw [if_neg h5, if_neg (by omega)]; omega
      have em : ∀ x, b < x → at_ + szI r + cnt a (b + 1) x * szI r = at_ + cnt a b x * szI r := by
        intro x hx
        rw [ec x hx, Int.add_mul]; omega
      rw [hw2, base_l1 f t c r q hr hc a ha0 ha d (at_ + szI r) (b + 1) k (by omega) (by omega) (by omega) (by omega) (by omega)]
      have e2 : k - (d + 1) = k + 1 - (d + 1 + 1) := by omega
      rw [em c (by omega), e2]
      by_cases hf : a = f
      · rw [if_pos hf]
        by_cases ht : b = t
        · rw [if_pos ht]
          have e0 : cnt a b t = 0 := by unfold cnt; rw [if_neg (by omega)]; omega
          rw [if_pos (show a = f ∧ b ≤ t ∧ t < c ∧ t ≠ a by omega), e0]
          simp
        · rw [if_neg ht]
          by_cases h : a = f ∧ b ≤ t ∧ t < c ∧ t ≠ a
          · rw [if_pos (by omega), if_pos h, em t (by omega)]
          · rw [if_neg (by omega), if_neg h]
      · rw [if_neg hf, if_neg (by omega), if_neg (by omega)]
theorem cnt_all (a c : Int) (h0 : 0 ≤ a) (h : a < c) : cnt a 0 c = c - 1 := by unfold cnt; rw [if_pos (by omega)]; omega
theorem base_l0 (f t c r q : Int) (hr : rgB r = true) (hc : c ≤ 8) : ∀ (d : Nat) (at_ a : Int) (k : Nat), (d : Int) = c - a → 0 ≤ a → 0 ≤ at_ → at_ ≤ 6000 * a → 20 * d + 1 < k →
    switchyardref13_Base.l0 k f t at_ a c r q = (if a ≤ f ∧ f < c ∧ 0 ≤ t ∧ t < c ∧ t ≠ f then some (at_ + ((f - a) * (c - 1) + cnt f 0 t) * szI r, true) else some (0, false))
  | 0, at_, a, k, hd, ha, h0, h1, hk => by
    obtain ⟨k, rfl⟩ : ∃ m, k = m + 1 := ⟨k - 1, by omega⟩
    simp only [switchyardref13_Base.l0]
    rw [if_neg (by omega), if_neg (by omega)]
  | d + 1, at_, a, k, hd, ha, h0, h1, hk => by
    obtain ⟨k, rfl⟩ : ∃ m, k = m + 1 := ⟨k - 1, by omega⟩
    have hs := @szI_bd r
    have hc0 : ((c.toNat : Nat) : Int) = c - 0 := by omega
    simp only [switchyardref13_Base.l0]
    rw [if_pos (by omega), base_l1 f t c r q hr hc a ha (by omega) c.toNat at_ 0 k hc0 (by omega) h0 (by omega) (by omega), cnt_all a c ha (by omega)]
    have hm : 0 ≤ (c - 1) * szI r ∧ (c - 1) * szI r ≤ 7 * 708 := ⟨Int.mul_nonneg (by omega) hs.1, Int.mul_le_mul (by omega) hs.2 hs.1 (by decide)⟩
    by_cases h : a = f ∧ 0 ≤ t ∧ t < c ∧ t ≠ a
    · obtain ⟨rfl, h2, h3, h4⟩ := h
      rw [if_pos ⟨rfl, h2, h3, h4⟩, if_pos ⟨by omega, by omega, h2, h3, h4⟩, Int.sub_self, Int.zero_mul, Int.zero_add]
    · rw [if_neg h, base_l0 f t c r q hr hc d _ (a + 1) _ (by omega) (by omega) (by omega) (by omega) (by omega)]
      by_cases h5 : a ≤ f ∧ f < c ∧ 0 ≤ t ∧ t < c ∧ t ≠ f
      · rw [if_pos (by omega), if_pos h5]
        have e : (f - a) * (c - 1) = (c - 1) + (f - (a + 1)) * (c - 1) := by
          rw [show f - a = 1 + (f - (a + 1)) by omega, Int.add_mul, Int.one_mul]
        have e4 : (c - 1) * szI r + ((f - (a + 1)) * (c - 1) + cnt f 0 t) * szI r = ((f - a) * (c - 1) + cnt f 0 t) * szI r := by
          rw [e, ← Int.add_mul]
          congr 1
          omega
        rw [Int.add_assoc, e4]
      · rw [if_neg (by omega), if_neg h5]
theorem cnt_to (f t : Int) (h0 : 0 ≤ f) (h : t ≠ f) : cnt f 0 t = t - (if t > f then 1 else 0) := by
  unfold cnt
  by_cases h1 : t > f
  · rw [if_pos (by omega), if_pos h1]; omega
  · rw [if_neg (by omega), if_neg h1]; omega
/-- The reference's Base. -/
theorem base_r (c r b f t : Int) (k : Nat) : switchyardref13_Base.f (k + 200) c r b f t = some (if chB c r b f t = true then (chI c r f t, true) else (0, false)) := by
  unfold switchyardref13_Base.f
  rw [right_r c r b (k + 193)]
  simp only [Option.bind_some]
  cases h3 : rtB c r b with
  | false =>
    have e : ¬ (chB c r b f t = true) := fun h => by rw [(chB_is h).1] at h3; cases h3
    rw [if_neg e]
    rfl
  | true =>
    have hb := rtB_bd h3
    rw [if_pos rfl, base_l0 f t c r b hb.2.2.1 hb.2.1 c.toNat 0 0 (k + 200) (by omega) (by omega) (by omega) (by omega) (by omega)]
    by_cases h : chB c r b f t = true
    · have hh := chB_is h
      rw [if_pos h, if_pos ⟨by omega, hh.2.2.1, hh.2.2.2.1, hh.2.2.2.2.1, fun e => hh.2.2.2.2.2 e.symm⟩, cnt_to f t hh.2.1 (fun e => hh.2.2.2.2.2 e.symm)]
      unfold chI
      simp only [Int.sub_zero, Int.zero_add]
      rw [Int.add_sub_assoc]
    · rw [if_neg h, if_neg (fun h2 => h (decide_eq_true ⟨h3, by omega, by omega, by omega, by omega, by omega⟩))]
end Go.Proofs.YtmfpahdbjcpmkaaDoor.Plot
