/- The reference of chapter 09: the bits of an acknowledgement. -/
import Derived.Test.YtiofdkkjjeljmaaRef09
namespace Go.Proofs.Ytiofdkkjjeljmaa.Ref09
set_option linter.unusedVariables false
set_option linter.unusedSimpArgs false
open Go.RowKit Go.Proofs.Ytiofdkkjjeljmaa.Sep Go.Proofs.Ytiofdkkjjeljmaa.Mb

/-- Bit j of a number, as the reference's halving finds it. -/
theorem int_bit (k : Int) (j : Nat) (hj : j < 8) : (BitVec.ofInt 64 k).getLsbD j = decide (k / 2 ^ j % 2 = 1) := by
  rw [← BitVec.testBit_toNat, BitVec.toNat_ofInt, Nat.testBit_eq_decide_div_mod_eq]
  have h0 : 0 ≤ k % ((2 ^ 64 : Nat) : Int) := Int.emod_nonneg _ (by decide)
  obtain ⟨r, hr⟩ := Int.eq_ofNat_of_zero_le h0
  rw [hr, Int.toNat_natCast]
  have hr' : (r : Int) = k % 18446744073709551616 := by rw [← hr]; rfl
  match j, hj with
  | 0, _ => simp only [decide_eq_decide]; simp; omega
  | 1, _ => simp only [decide_eq_decide]; simp; omega
  | 2, _ => simp only [decide_eq_decide]; simp; omega
  | 3, _ => simp only [decide_eq_decide]; simp; omega
  | 4, _ => simp only [decide_eq_decide]; simp; omega
  | 5, _ => simp only [decide_eq_decide]; simp; omega
  | 6, _ => simp only [decide_eq_decide]; simp; omega
  | 7, _ => simp only [decide_eq_decide]; simp; omega
theorem ackN_bit (m : Nat) (hm : m < 256) (k : Int) (j : Nat) (hj : j < 8) : (ackN m k).testBit j = (m.testBit j && !decide (k / 2 ^ j % 2 = 1)) := by
  unfold ackN
  rw [BitVec.testBit_toNat, BitVec.getLsbD_and, BitVec.getLsbD_not, int_bit k j hj, ← BitVec.testBit_toNat, ofInt_nat m hm]
  first | rfl | (rw [decide_eq_true (show j < 64 by omega), Bool.true_and]) | (simp [show j < 64 by omega]) | trace_state
theorem orN_bit (m f j : Nat) : (orN m f).testBit j = (m.testBit j || decide (f = j)) := by
  unfold orN
  rw [Nat.testBit_or, Nat.testBit_two_pow]
end Go.Proofs.Ytiofdkkjjeljmaa.Ref09
