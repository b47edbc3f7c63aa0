/- Floats of the numbers from 0 to 2^51: how two of them compare, and that they come back as numbers. No program in sight. -/
import Derived.Laws.Cover2
import Derived.Laws.Cover3
import Derived.Laws.FloatArith
namespace Go.Proofs.Ytiofdkkjjeljmaa.Floats
set_option linter.unusedVariables false
set_option linter.unusedSimpArgs false
open Ieee

abbrev fb (n : Int) : Nat := floatOfInt .f64 n
theorem least : Format.leastPlace double = -1074 := by decide +kernel
theorem inf_ : Format.infRung double = 9218868437227405312 := by decide +kernel
theorem bin_ : Format.binade double = 4503599627370496 := by decide +kernel
theorem sgn_ : Format.signWeight double = 9223372036854775808 := by decide +kernel
/-- A number is a power of two times what its leading digit leaves. -/
theorem pow_bd (n e : Nat) (he : e ≤ 51) (h1 : 2 ^ e ≤ n) (h2 : n < 2 ^ (e + 1)) : 4503599627370496 ≤ n * 2 ^ (52 - e) ∧ n * 2 ^ (52 - e) < 9007199254740992 := by
  have hp : 2 ^ e * 2 ^ (52 - e) = 2 ^ 52 := by rw [← Nat.pow_add, show e + (52 - e) = 52 by omega]
  have hq : 2 ^ (e + 1) * 2 ^ (52 - e) = 2 ^ 53 := by rw [← Nat.pow_add, show e + 1 + (52 - e) = 53 by omega]
  have hpos : 0 < 2 ^ (52 - e) := Nat.two_pow_pos _
  have p1 : 2 ^ 52 = 4503599627370496 := by decide
  have p2 : 2 ^ 53 = 9007199254740992 := by decide
  rw [← p1, ← p2]
  exact ⟨by rw [← hp]; exact Nat.mul_le_mul_right _ h1, by rw [← hq]; exact Nat.mul_lt_mul_of_pos_right h2 hpos⟩
theorem cut_0 (m : Nat) : Toward.even.cut false m 0 = m := by
  unfold Toward.cut
  have e : (1 <<< min 0 (m.log2 + 2)) = 1 := by simp
  rw [e]
  dsimp only
  have e1 : m % 1 = 0 := Nat.mod_one m
  rw [e1]
  simp
theorem word_min (a m : Nat) (h : a * 4503599627370496 + m ≤ 9218868437227405312) : Format.word double false (min (a * 4503599627370496 + m) 9218868437227405312) = a * 4503599627370496 + m := by
  unfold Format.word
  rw [if_neg (by simp)]
  exact Nat.min_eq_left h
theorem nearest_pos (n e : Nat) (he : e ≤ 51) (h1 : 2 ^ e ≤ n) (h2 : n < 2 ^ (e + 1)) : double.nearest false n 0 = (e + 1022) * 4503599627370496 + n * 2 ^ (52 - e) := by
  have hn : n ≠ 0 := by have := Nat.two_pow_pos e; omega
  have hl : n.log2 = e := (Nat.log2_eq_iff hn).2 ⟨h1, h2⟩
  obtain ⟨b1, b2⟩ := pow_bd n e he h1 h2
  unfold Format.nearest
  rw [if_neg hn]
  dsimp only
  rw [hl, least, inf_, bin_]
  have hf : (double.fractionBits : Int) = 52 := rfl
  rw [hf]
  have hmax : max ((0 : Int) + (e : Int) - 52) (-1074) = (e : Int) - 52 := by omega
  rw [hmax]
  have e1 : ((0 : Int) - ((e : Int) - 52)).toNat = 52 - e := by omega
  have e2 : (((e : Int) - 52) - 0).toNat = 0 := by omega
  have e3 : (((e : Int) - 52) - (-1074)).toNat = e + 1022 := by omega
  rw [e1, e2, e3, Nat.shiftLeft_eq, cut_0]
  generalize n * 2 ^ (52 - e) = m at *
  exact word_min _ _ (by omega)
theorem read_pos (m e : Nat) (he : e ≤ 51) (b1 : 4503599627370496 ≤ m) (b2 : m < 9007199254740992) : double.read ((e + 1022) * 4503599627370496 + m) = .number false m ((e : Int) - 52) := by
  unfold Format.read
  dsimp only
  rw [least, inf_, bin_, sgn_]
  have hm : ((e + 1022) * 4503599627370496 + m) % 9223372036854775808 = (e + 1022) * 4503599627370496 + m := Nat.mod_eq_of_lt (by omega)
  have hd : ((e + 1022) * 4503599627370496 + m) / 9223372036854775808 = 0 := Nat.div_eq_of_lt (by omega)
  rw [hm, hd, if_neg (by omega), if_pos (by omega)]
  have e1 : ((e + 1022) * 4503599627370496 + m) % 4503599627370496 = m - 4503599627370496 := by omega
  have e2 : ((e + 1022) * 4503599627370496 + m) / 4503599627370496 = e + 1023 := by omega
  rw [e1, e2]
  have e3 : 4503599627370496 + (m - 4503599627370496) = m := by omega
  have e4 : (-1074 : Int) + ((e + 1023 - 1 : Nat) : Int) = (e : Int) - 52 := by omega
  rw [e3, e4]
  rfl
theorem nearest_0 : double.nearest false 0 0 = 0 := by decide +kernel
theorem read_0 : double.read 0 = .number false 0 (-1074) := by decide +kernel
theorem fb_nat (n : Nat) : fb (n : Int) = double.nearest false n 0 := by
  show FloatKind.encode .f64 (.number (decide ((n : Int) < 0)) (n : Int).natAbs 0) = _
  have : decide ((n : Int) < 0) = false := decide_eq_false (by omega)
  rw [this, Int.natAbs_natCast]
  rfl
/-- What a number's float reads as: the number, shifted. -/
theorem read_fb (n : Nat) (h : n < 2 ^ 51) : (∃ e : Nat, e ≤ 51 ∧ double.read (fb n) = .number false (n * 2 ^ (52 - e)) ((e : Int) - 52) ∧ 0 < n ∧ 4503599627370496 ≤ n * 2 ^ (52 - e) ∧ n * 2 ^ (52 - e) < 9007199254740992) ∨ (n = 0 ∧ double.read (fb n) = .number false 0 (-1074)) := by
  by_cases h0 : n = 0
  · subst h0
    exact .inr ⟨rfl, by rw [fb_nat, nearest_0, read_0]⟩
  · have h1 := Nat.log2_self_le h0
    have h2 := @Nat.lt_log2_self n
    have he : n.log2 ≤ 51 := by
      apply Nat.le_of_not_lt
      intro hlt
      have : 2 ^ 51 ≤ 2 ^ n.log2 := Nat.pow_le_pow_right (by decide) (by omega)
      omega
    obtain ⟨b1, b2⟩ := pow_bd n _ he h1 h2
    exact .inl ⟨n.log2, he, by rw [fb_nat, nearest_pos n _ he h1 h2, read_pos _ _ he b1 b2], by omega, b1, b2⟩
theorem shl_cmp (a b k : Nat) : compare (signed false (a * 2 ^ k) 0) (signed false (b * 2 ^ k) 0) = compare (a : Int) (b : Int) := by
  unfold signed
  simp only [Bool.false_eq_true, if_false, Nat.shiftLeft_zero]
  have hp : 0 < 2 ^ k := Nat.two_pow_pos k
  rcases Nat.lt_trichotomy a b with h | h | h
  · have : a * 2 ^ k < b * 2 ^ k := Nat.mul_lt_mul_of_pos_right h hp
    rw [Int.compare_eq_lt.2 (by omega), Int.compare_eq_lt.2 (by omega)]
  · subst h
    rw [Int.compare_eq_eq.2 rfl, Int.compare_eq_eq.2 rfl]
  · have : b * 2 ^ k < a * 2 ^ k := Nat.mul_lt_mul_of_pos_right h hp
    rw [Int.compare_eq_gt.2 (by omega), Int.compare_eq_gt.2 (by omega)]
theorem signed_up (m k j : Nat) : signed false (m * 2 ^ k) j = signed false (m * 2 ^ (k + j)) 0 := by
  unfold signed
  simp only [Bool.false_eq_true, if_false, Nat.shiftLeft_eq, Nat.pow_zero, Nat.mul_one]
  rw [Nat.pow_add, Nat.mul_assoc]
/-- TWO NUMBERS' FLOATS COMPARE AS THE NUMBERS DO. -/
theorem order_fb (a b : Nat) (ha : a < 2 ^ 51) (hb : b < 2 ^ 51) : FloatKind.f64.format.order (fb a) (fb b) = some (compare (a : Int) (b : Int)) := by
  show (double.read (fb a)).order (double.read (fb b)) = _
  rcases read_fb a ha with ⟨e, he, h1, ha0, _, _⟩ | ⟨rfl, h1⟩ <;> rcases read_fb b hb with ⟨f, hf, h2, hb0, _, _⟩ | ⟨rfl, h2⟩
  · rw [h1, h2]
    show some (compare (signed false (a * 2 ^ (52 - e)) (((e : Int) - 52) - min ((e : Int) - 52) ((f : Int) - 52)).toNat) (signed false (b * 2 ^ (52 - f)) (((f : Int) - 52) - min ((e : Int) - 52) ((f : Int) - 52)).toNat)) = _
    rw [signed_up a (52 - e), signed_up b (52 - f), show 52 - e + (((e : Int) - 52) - min ((e : Int) - 52) ((f : Int) - 52)).toNat = 52 - min e f by omega, show 52 - f + (((f : Int) - 52) - min ((e : Int) - 52) ((f : Int) - 52)).toNat = 52 - min e f by omega, shl_cmp]
  · rw [h1, h2]
    show some (compare (signed false (a * 2 ^ (52 - e)) (((e : Int) - 52) - min ((e : Int) - 52) (-1074)).toNat) (signed false 0 ((-1074 : Int) - min ((e : Int) - 52) (-1074)).toNat)) = _
    have e0 : signed false 0 ((-1074 : Int) - min ((e : Int) - 52) (-1074)).toNat = signed false (0 * 2 ^ (52 - e + (((e : Int) - 52) - min ((e : Int) - 52) (-1074)).toNat)) 0 := by
      simp [signed]
    rw [signed_up, e0, shl_cmp]
  · rw [h1, h2]
    show some (compare (signed false 0 ((-1074 : Int) - min (-1074) ((f : Int) - 52)).toNat) (signed false (b * 2 ^ (52 - f)) (((f : Int) - 52) - min (-1074) ((f : Int) - 52)).toNat)) = _
    have e0 : signed false 0 ((-1074 : Int) - min (-1074) ((f : Int) - 52)).toNat = signed false (0 * 2 ^ (52 - f + (((f : Int) - 52) - min (-1074) ((f : Int) - 52)).toNat)) 0 := by
      simp [signed]
    rw [signed_up, e0, shl_cmp]
  · rw [h1]
    decide +kernel
/-- A number's float, made a number again. -/
theorem back_fb (n : Nat) (h : n < 2 ^ 51) : floatToIntVal .f64 (fb n) .i64 = some (n : Int) := by
  have hI : ((FloatKind.f64.decode (fb n)).toInt .zero) = some (n : Int) := by
    show (double.read (fb n)).toInt .zero = _
    rcases read_fb n h with ⟨e, he, h1, h0, b1, b2⟩ | ⟨rfl, h1⟩
    · rw [h1]
      show some (signed false (Toward.zero.cut false ((n * 2 ^ (52 - e)) <<< ((e : Int) - 52).toNat) (-((e : Int) - 52)).toNat) 0) = _
      have e1 : ((e : Int) - 52).toNat = 0 := by omega
      have e2 : (-((e : Int) - 52)).toNat = 52 - e := by omega
      have hl : (n * 2 ^ (52 - e)).log2 = 52 := (Nat.log2_eq_iff (by omega)).2 ⟨b1, b2⟩
      have hc : Toward.zero.cut false (n * 2 ^ (52 - e)) (52 - e) = n := by
        unfold Toward.cut
        rw [hl]
        have hm : min (52 - e) (52 + 2) = 52 - e := by omega
        rw [hm, Nat.shiftLeft_eq, Nat.one_mul]
        dsimp only
        rw [Nat.mul_div_cancel _ (Nat.two_pow_pos _)]
        rfl
      rw [e1, e2, Nat.shiftLeft_zero, hc]
      unfold signed
      simp
    · rw [h1]
      decide +kernel
  unfold floatToIntVal
  rw [hI]
  have m1 : IntKind.i64.min = -9223372036854775808 := by decide
  have m2 : IntKind.i64.max = 9223372036854775807 := by decide
  have hp : 2 ^ 51 = 2251799813685248 := by decide
  simp only
  rw [if_pos ⟨by omega, by omega⟩]
end Go.Proofs.Ytiofdkkjjeljmaa.Floats
