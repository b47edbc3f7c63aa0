/- The pure statement of WrapDigits: for any number and any text the law's function comes to true. No condition. -/
import Derived.Test.YtpkdanfiplolhaaPWrapDigitsx1
namespace Go.Proofs.Ytpkdanfiplolhaa.Pure
set_option linter.unusedVariables false
set_option linter.unusedSimpArgs false
open Go.RowKit Go.Proofs.Ytpkdanfiplolhaa.Given Go.Proofs.Ytpkdanfiplolhaa.PWrapDigits Go.Proofs.YtpkdanfiplolhaaW.PrintWords Go.Proofs.YtpkdanfiplolhaaW.PrintLast
theorem w64 {n : Int} (h0 : -65536 ≤ n) (h1 : n ≤ 4294967296) : wrap64 n = n := by unfold wrap64; omega
theorem pWord (a : Int) : wrap_Word.f a = some (wd a) := congrArg some (wd_and a)
theorem wd_bd (a : Int) : 0 ≤ wd a ∧ wd a < 65536 := ⟨wd_lo a, wd_hi a⟩
theorem pSub (a b : Int) : wrap_Sub.f a b = some (wsub a b) := by
  have := wd_bd a; have := wd_bd b
  unfold wrap_Sub.f
  simp only [pWord, Option.bind_some]
  rw [w64 (by omega) (by omega)]; rfl
theorem pAhead (a b : Int) : wrap_Ahead.f a b = some (whead a b) := by
  have h1 := wd_bd (wd b - wd a)
  have h2 := wd_bd (wsub b a + 32768)
  have h3 : 0 ≤ wsub b a ∧ wsub b a < 65536 := h1
  unfold wrap_Ahead.f
  simp only [pSub, pWord, Option.bind_some]
  rw [w64 (n := wsub b a + 32768) (by omega) (by omega), w64 (by omega) (by omega)]; rfl
theorem pAlive : switchyardlaw01_alive.f = some true := by
  unfold switchyardlaw01_alive.f
  have e1 : wsub 3 5 = 65534 := by decide
  have e2 : whead 65534 3 = 5 := by decide
  simp only [pSub, pAhead, Option.bind_some, e1, e2, if_true, wrap_Hex.f]
  decide +kernel
theorem rWord (a : Int) : switchyardref01_Word.f a = some (wd a) := by
  unfold switchyardref01_Word.f
  have h := tmod_k a 65536 (by decide)
  have hb := wd_bd a
  unfold wd at hb ⊢
  split
  · rename_i h'
    rw [w64 (by have := h.1 h'; omega) (by have := h.1 h'; omega), h.1 h']
  · rename_i h'
    rw [h.2 h']

theorem tab_dv (c : Nat) (hc : c < 256) : (∀ j, j < 16 → (((hexTab.data.toList.getD j 0).toNat : Nat) = c ↔ dv c = j)) := by
  have key : ∀ n : Fin 256, ∀ j : Fin 16, ((hexTab.data.toList.getD j.val 0).toNat = n.val ↔ dv n.val = j.val) := by decide +kernel
  exact fun j hj => key ⟨c, hc⟩ ⟨j, hj⟩
/-- The last of the first i digits that is c; -1: none is. -/
def dl (c : Nat) (i : Nat) : Int := if 0 ≤ dv c ∧ dv c < i then dv c else -1
theorem bt_tab (i : Nat) (h : i < 16) : bt (⟨#[48, 49, 50, 51, 52, 53, 54, 55, 56, 57, 97, 98, 99, 100, 101, 102]⟩ : ByteArray) i = ((hexTab.data.toList.getD i 0).toNat : Int) := by
  match i, h with
  | 0, _ | 1, _ | 2, _ | 3, _ | 4, _ | 5, _ | 6, _ | 7, _ | 8, _ | 9, _ | 10, _ | 11, _ | 12, _ | 13, _ | 14, _ | 15, _ => rfl
  | n + 16, h => exact absurd h (by omega)
theorem bt_bAt (s : ByteArray) (i : Nat) : bt s i = (bAt s i : Int) := by
  unfold bt bAt
  simp only [Int.toNat_natCast]
  split <;> rfl
theorem inner (s : ByteArray) (hs : s.size = 4) (w : Int) (i : Nat) (hi : i < 4) (d : Nat) : ∀ (k j : Nat), j + d = 16 → 16 < k + j →
    switchyardref01_Read.l1 k s (⟨#[48, 49, 50, 51, 52, 53, 54, 55, 56, 57, 97, 98, 99, 100, 101, 102]⟩ : ByteArray) w i (dl (bAt s i) j) j =
      switchyardref01_Read.l1 (k - d) s (⟨#[48, 49, 50, 51, 52, 53, 54, 55, 56, 57, 97, 98, 99, 100, 101, 102]⟩ : ByteArray) w i (dl (bAt s i) 16) 16 := by
  induction d with
  | zero =>
    intro k j hj hk
    obtain rfl : j = 16 := by omega
    rfl
  | succ d ih =>
    intro k j hj hk
    obtain ⟨k, rfl⟩ : ∃ m, k = m + 1 := ⟨k - 1, by omega⟩
    have ih' := ih k (j + 1) (by omega) (by omega)
    have e : wrap64 ((j : Int) + 1) = ((j + 1 : Nat) : Int) := by rw [w64 (by omega) (by omega)]; omega
    have hz : ((⟨#[48, 49, 50, 51, 52, 53, 54, 55, 56, 57, 97, 98, 99, 100, 101, 102]⟩ : ByteArray).size : Int) = 16 := rfl
    rw [show k + 1 - (d + 1) = k - d by omega, ← ih']
    rw [switchyardref01_Read.l1]
    rw [if_pos (by omega), if_pos (by omega), hz, if_pos (by omega), if_pos (by omega), if_pos (by omega), e, bt_tab j (by omega), bt_bAt]
    have hd := tab_dv (bAt s i) (bAt_lt s i) j (by omega)
    by_cases hc : ((hexTab.data.toList.getD j 0).toNat : Int) = (bAt s i : Int)
    · rw [if_pos hc]
      have h1 := hd.1 (by omega)
      have : dl (bAt s i) (j + 1) = (j : Int) := by unfold dl; rw [if_pos (by omega)]; exact h1
      rw [this]
    · rw [if_neg hc]
      have h1 : dv (bAt s i) ≠ j := fun h => hc (by have := hd.2 h; omega)
      have : dl (bAt s i) (j + 1) = dl (bAt s i) j := by
        unfold dl
        by_cases h : 0 ≤ dv (bAt s i) ∧ dv (bAt s i) < (j : Int)
        · rw [if_pos h, if_pos (by omega)]
        · rw [if_neg h, if_neg (by omega)]
      rw [this]
theorem outer (s : ByteArray) (hs : s.size = 4) (d : Nat) : ∀ (k i : Nat), i + d = 4 → dok s i = true → 18 * d < k →
    switchyardref01_Read.l0 k s (⟨#[48, 49, 50, 51, 52, 53, 54, 55, 56, 57, 97, 98, 99, 100, 101, 102]⟩ : ByteArray) (dn s i) i = some (hread s) := by
  induction d with
  | zero =>
    intro k i hi hok hk
    obtain ⟨k, rfl⟩ : ∃ m, k = m + 1 := ⟨k - 1, by omega⟩
    obtain rfl : i = 4 := by omega
    simp only [switchyardref01_Read.l0]
    rw [if_neg (by omega), hread_yes hs hok]
  | succ d ih =>
    intro k i hi hok hk
    obtain ⟨k, rfl⟩ : ∃ m, k = m + 1 := ⟨k - 1, by omega⟩
    simp only [switchyardref01_Read.l0]
    rw [if_pos (by omega)]
    have e0 : dl (bAt s i) 0 = -1 := by unfold dl; rw [if_neg (by omega)]
    have h := inner s hs (dn s i) i (by omega) 16 k 0 (by omega) (by omega)
    rw [e0] at h
    have h' : switchyardref01_Read.l1 k s (⟨#[48, 49, 50, 51, 52, 53, 54, 55, 56, 57, 97, 98, 99, 100, 101, 102]⟩ : ByteArray) (dn s i) i (-1) 0 = _ := h
    rw [h']
    clear h h'
    obtain ⟨m, hm⟩ : ∃ m, k - 16 = m + 1 := ⟨k - 17, by omega⟩
    rw [hm]
    simp only [switchyardref01_Read.l1]
    rw [if_neg (by omega)]
    have hv := dv_hi (bAt s i)
    have hb := dn_bd s i hok
    have hx : (16 : Int) ^ i ≤ 4096 := by
      have : i = 0 ∨ i = 1 ∨ i = 2 ∨ i = 3 := by omega
      rcases this with rfl | rfl | rfl | rfl <;> decide
    by_cases hc : 0 ≤ dv (bAt s i)
    · have e1 : dl (bAt s i) 16 = dv (bAt s i) := by unfold dl; rw [if_pos (by omega)]
      rw [e1, if_neg (by omega)]
      have e2 : wrap64 (wrap64 (16 * dn s i) + dv (bAt s i)) = dn s (i + 1) := by
        rw [w64 (n := 16 * dn s i) (by omega) (by omega), w64 (by omega) (by omega)]; simp only [dn]
      have e3 : wrap64 ((i : Int) + 1) = ((i + 1 : Nat) : Int) := by rw [w64 (by omega) (by omega)]; omega
      rw [e2, e3]
      have g1 : i + 1 + d = 4 := by clear ih e2 e3; omega
      have g2 : 18 * d < m := by clear ih e2 e3; omega
      exact ih m (i + 1) g1 (by simp [dok, hok, hc]) g2
    · have e1 : dl (bAt s i) 16 = -1 := by unfold dl; rw [if_neg (by omega)]
      rw [e1, if_pos (by omega), hread_no (k := i) (by omega) (by omega)]
theorem rRead (s : ByteArray) : switchyardref01_Read.f 73 s = some (hread s) := by
  unfold switchyardref01_Read.f
  by_cases h : s.size = 4
  · rw [if_pos (by omega)]
    exact outer s h 4 73 0 (by omega) rfl (by omega)
  · rw [if_neg (by omega), hread_len h]

theorem WrapDigits : switchyardlaw01_WrapDigits.Pure := by
  intro a s _ _
  refine ⟨73, ?_⟩
  unfold switchyardlaw01_WrapDigits.f
  by_cases h : (s.size : Int) > 200
  · rw [if_pos h, pAlive]; rfl
  · rw [if_neg h]
    simp only [wrap_Read.f, rRead, wrap_Hex.f, switchyardref01_Hex.f, Option.bind_some, if_true, beq_self_eq_true, pAlive]

end Go.Proofs.Ytpkdanfiplolhaa.Pure
