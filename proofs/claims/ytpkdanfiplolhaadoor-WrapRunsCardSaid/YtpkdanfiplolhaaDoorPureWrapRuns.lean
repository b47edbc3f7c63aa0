/- The pure statement of WrapRuns: for any three numbers the law's function comes to true. No condition. -/
import Derived.Test.YtpkdanfiplolhaaDoorPWrapRunsx1
import Derived.Test.YtpkdanfiplolhaaDoorGivenLog
import Derived.Test.YtpkdanfiplolhaaDoorGivenHex
namespace Go.Proofs.YtpkdanfiplolhaaDoor.Pure
set_option linter.unusedVariables false
set_option linter.unusedSimpArgs false
open Go.RowKit Go.Proofs.YtpkdanfiplolhaaDoor.Given Go.Proofs.YtpkdanfiplolhaaDoor.PWrapRuns Go.Proofs.YtpkdanfiplolhaaDoorW.PrintWords Go.Proofs.YtpkdanfiplolhaaDoorW.PrintLast
theorem w64 {n : Int} (h0 : -65536 ≤ n) (h1 : n ≤ 4294967296) : wrap64 n = n := by unfold wrap64; omega
theorem pWord (a : Int) : wrap_Word.f a = some (wd a) := congrArg some (wd_and a)
theorem wd_bd (a : Int) : 0 ≤ wd a ∧ wd a < 65536 := ⟨wd_lo a, wd_hi a⟩
theorem pSub (a b : Int) : wrap_Sub.f a b = some (wsub a b) := by
  have := wd_bd a; have := wd_bd b
  unfold wrap_Sub.f
  simp only [pWord, Option.bind_some]
  rw [w64 (by omega) (by omega)]; rfl
theorem pAhead (a b : Int) : wrap_Ahead.f a b = some (whead a b) := by
  have h1 := wd_bd (wd b - wd a)
  have h2 := wd_bd (wsub b a + 32768)
  have h3 : 0 ≤ wsub b a ∧ wsub b a < 65536 := h1
  unfold wrap_Ahead.f
  simp only [pSub, pWord, Option.bind_some]
  rw [w64 (n := wsub b a + 32768) (by omega) (by omega), w64 (by omega) (by omega)]; rfl
theorem pAlive : switchyardlaw01_alive.f = some true := by
  unfold switchyardlaw01_alive.f
  have e1 : wsub 3 5 = 65534 := by decide
  have e2 : whead 65534 3 = 5 := by decide
  simp only [pSub, pAhead, Option.bind_some, e1, e2, if_true, wrap_Hex.f]
  decide +kernel
theorem rWord (a : Int) : switchyardref01_Word.f a = some (wd a) := by
  unfold switchyardref01_Word.f
  have h := tmod_k a 65536 (by decide)
  have hb := wd_bd a
  unfold wd at hb ⊢
  split
  · rename_i h'
    rw [w64 (by have := h.1 h'; omega) (by have := h.1 h'; omega), h.1 h']
  · rename_i h'
    rw [h.2 h']
theorem rSub (a b : Int) : switchyardref01_Sub.f a b = some (wsub a b) := by
  have := wd_bd a; have := wd_bd b
  unfold switchyardref01_Sub.f
  simp only [rWord, Option.bind_some]
  rw [w64 (by omega) (by omega)]; rfl
theorem and_i64_nat (a b : Nat) (ha : a < 9223372036854775808) (hb : b < 9223372036854775808) : bits .and .i64 (a : Int) (b : Int) = ((a &&& b : Nat) : Int) := by
  have hx : a &&& b < 2 ^ 63 := Nat.and_lt_two_pow _ (by omega)
  have h1 : (BitVec.ofInt 64 (a : Int)).toNat = a := by
    rw [BitVec.ofInt_natCast, BitVec.toNat_ofNat]; exact Nat.mod_eq_of_lt (by omega)
  have h2 : (BitVec.ofInt 64 (b : Int)).toNat = b := by
    rw [BitVec.ofInt_natCast, BitVec.toNat_ofNat]; exact Nat.mod_eq_of_lt (by omega)
  show IntKind.i64.wrap ((BitVec.ofInt 64 (a : Int) &&& BitVec.ofInt 64 (b : Int)).toNat : Int) = _
  rw [BitVec.toNat_and, h1, h2, IntKind.wrap_i64]
  omega
theorem pow_of_and (m : Nat) : 1 ≤ m → m &&& (m - 1) = 0 → ∃ j, m = 2 ^ j := by
  induction m using Nat.strongRecOn with
  | ind m ih =>
    intro h1 h
    by_cases hm : m = 1
    · exact ⟨0, hm⟩
    · have hd := congrArg (· / 2) h
      have hmod : ∀ i, (m &&& (m - 1)).testBit i = false := fun i => by rw [h]; simp
      by_cases he : m % 2 = 0
      · have e1 : m / 2 &&& (m / 2 - 1) = 0 := by
          apply Nat.eq_of_testBit_eq
          intro i
          have := hmod (i + 1)
          rw [Nat.testBit_and, Nat.testBit_succ, Nat.testBit_succ, show (m - 1) / 2 = m / 2 - 1 by omega] at this
          rw [Nat.testBit_and, this]
          simp
        obtain ⟨j, hj⟩ := ih (m / 2) (by omega) (by omega) e1
        exact ⟨j + 1, by rw [Nat.pow_succ]; omega⟩
      · exfalso
        have hn : m / 2 = 0 := by
          apply Nat.eq_of_testBit_eq
          intro i
          have := hmod (i + 1)
          rw [Nat.testBit_and, Nat.testBit_succ, Nat.testBit_succ, show (m - 1) / 2 = m / 2 by omega, Bool.and_self] at this
          rw [this]
          simp
        omega
theorem lg_pow : ∀ j : Fin 63, lg ((2 ^ j.val : Nat) : Int) = ((j.val : Int), true) := by decide +kernel
theorem lg_not (n : Int) (hn : n < 9223372036854775808) (h : ∀ j : Nat, j ≤ 62 → n ≠ ((2 ^ j : Nat) : Int)) : lg n = (0, false) := by
  unfold lg
  split
  · rfl
  · rename_i h1
    rw [if_neg]
    intro ha
    obtain ⟨m, rfl⟩ := Int.eq_ofNat_of_zero_le (show 0 ≤ n by omega)
    have e : ((m : Int) - 1) = ((m - 1 : Nat) : Int) := by omega
    rw [e, and_i64_nat m (m - 1) (by omega) (by omega)] at ha
    obtain ⟨j, hj⟩ := pow_of_and m (by omega) (by omega)
    by_cases h62 : j ≤ 62
    · exact h j h62 (by rw [hj])
    · have : 2 ^ 63 ≤ 2 ^ j := Nat.pow_le_pow_right (by decide) (by omega)
      omega
theorem pow_step (l : Nat) (h : l < 62) : wrap64 (2 * ((2 ^ l : Nat) : Int)) = ((2 ^ (l + 1) : Nat) : Int) := by
  have h1 : 2 ^ (l + 1) ≤ 2 ^ 62 := Nat.pow_le_pow_right (by decide) (by omega)
  rw [Nat.pow_succ] at h1 ⊢
  unfold wrap64
  omega
theorem rLog_yes (j : Nat) (hj : j ≤ 62) : ∀ (d l k : Nat), l + d = j → d < k → switchyardref01_Log.l0 k ((2 ^ j : Nat) : Int) ((2 ^ l : Nat) : Int) l = some ((j : Int), true)
  | 0, l, k, hl, hk => by
    obtain ⟨k, rfl⟩ : ∃ q, k = q + 1 := ⟨k - 1, by omega⟩
    obtain rfl : l = j := by omega
    simp only [switchyardref01_Log.l0, if_true]
    rw [if_pos (by omega)]
  | d + 1, l, k, hl, hk => by
    obtain ⟨k, rfl⟩ : ∃ q, k = q + 1 := ⟨k - 1, by omega⟩
    have hlt : 2 ^ l < 2 ^ j := Nat.pow_lt_pow_right (by decide) (by omega)
    have es : wrap64 ((l : Int) + 1) = ((l + 1 : Nat) : Int) := by unfold wrap64; omega
    simp only [switchyardref01_Log.l0]
    rw [if_pos (by omega), if_neg (by omega), if_pos (by omega), pow_step l (by omega), es, rLog_yes j hj d (l + 1) k (by omega) (by omega)]
theorem rLog_no (n : Int) (h : ∀ j : Nat, j ≤ 62 → n ≠ ((2 ^ j : Nat) : Int)) : ∀ (d l k : Nat), l + d = 62 → d + 1 < k → switchyardref01_Log.l0 k n ((2 ^ l : Nat) : Int) l = some (0, false)
  | 0, l, k, hl, hk => by
    obtain ⟨k, rfl⟩ : ∃ q, k = q + 2 := ⟨k - 2, by omega⟩
    obtain rfl : l = 62 := by omega
    have hne := (h 62 (by omega)).symm
    have e : wrap64 (((62 : Nat) : Int) + 1) = 63 := by unfold wrap64; omega
    simp only [switchyardref01_Log.l0]
    rw [if_pos (by omega), if_neg hne, if_neg (by omega), e, if_neg (by omega)]
  | d + 1, l, k, hl, hk => by
    obtain ⟨k, rfl⟩ : ∃ q, k = q + 1 := ⟨k - 1, by omega⟩
    have hne := (h l (by omega)).symm
    have es : wrap64 ((l : Int) + 1) = ((l + 1 : Nat) : Int) := by unfold wrap64; omega
    simp only [switchyardref01_Log.l0]
    rw [if_pos (by omega), if_neg hne, if_pos (by omega), pow_step l (by omega), es, rLog_no n h d (l + 1) k (by omega) (by omega)]
theorem rLog (n : Int) (hn : n < 9223372036854775808) : switchyardref01_Log.f 100 n = some (lg n) := by
  unfold switchyardref01_Log.f
  by_cases h : ∃ j : Nat, j ≤ 62 ∧ n = ((2 ^ j : Nat) : Int)
  · obtain ⟨j, hj, rfl⟩ := h
    rw [lg_pow ⟨j, by omega⟩]
    exact rLog_yes j hj j 0 100 (by omega) (by omega)
  · have h' : ∀ j : Nat, j ≤ 62 → n ≠ ((2 ^ j : Nat) : Int) := fun j hj e => h ⟨j, hj, e⟩
    rw [lg_not n hn h']
    exact rLog_no n h' 62 0 100 (by omega) (by omega)

theorem WrapRuns : switchyardlaw01_WrapRuns.Pure := by
  intro a n x _ hn _
  refine ⟨100, ?_⟩
  have hr : n < 9223372036854775808 := by
    simp [Lit.wf] at hn
    omega
  have hl : wrap_Log.f n = some (lg n) := if_pos hn
  have h1 : wrap_In.f a n x = some (decide (wsub x a < n)) := by
    unfold wrap_In.f
    simp only [pSub, Option.bind_some]
  have h2 : switchyardref01_In.f a n x = some (decide (wsub x a < n)) := by
    unfold switchyardref01_In.f
    simp only [rSub, Option.bind_some]
  unfold switchyardlaw01_WrapRuns.f
  rw [hl, rLog n hr, h1, h2]
  simp [pAlive]
end Go.Proofs.YtpkdanfiplolhaaDoor.Pure
