/- The pure statement of WrapIn: for any three numbers the law's function comes to true. No condition. -/
import Derived.Test.YtpkdanfiplolhaaPWrapInx1
namespace Go.Proofs.Ytpkdanfiplolhaa.Pure
set_option linter.unusedVariables false
set_option linter.unusedSimpArgs false
open Go.RowKit Go.Proofs.Ytpkdanfiplolhaa.Given Go.Proofs.Ytpkdanfiplolhaa.PWrapIn Go.Proofs.YtpkdanfiplolhaaW.PrintWords Go.Proofs.YtpkdanfiplolhaaW.PrintLast
theorem w64 {n : Int} (h0 : -65536 ≤ n) (h1 : n ≤ 4294967296) : wrap64 n = n := by unfold wrap64; omega
theorem pWord (a : Int) : wrap_Word.f a = some (wd a) := congrArg some (wd_and a)
theorem wd_bd (a : Int) : 0 ≤ wd a ∧ wd a < 65536 := ⟨wd_lo a, wd_hi a⟩
theorem pAdd (a b : Int) : wrap_Add.f a b = some (wadd a b) := by
  have := wd_bd a; have := wd_bd b
  unfold wrap_Add.f
  simp only [pWord, Option.bind_some]
  rw [w64 (by omega) (by omega)]; rfl
theorem pSub (a b : Int) : wrap_Sub.f a b = some (wsub a b) := by
  have := wd_bd a; have := wd_bd b
  unfold wrap_Sub.f
  simp only [pWord, Option.bind_some]
  rw [w64 (by omega) (by omega)]; rfl
theorem pAhead (a b : Int) : wrap_Ahead.f a b = some (whead a b) := by
  have h1 := wd_bd (wd b - wd a)
  have h2 := wd_bd (wsub b a + 32768)
  have h3 : 0 ≤ wsub b a ∧ wsub b a < 65536 := h1
  unfold wrap_Ahead.f
  simp only [pSub, pWord, Option.bind_some]
  rw [w64 (n := wsub b a + 32768) (by omega) (by omega), w64 (by omega) (by omega)]; rfl
theorem pAlive : switchyardlaw01_alive.f = some true := by
  unfold switchyardlaw01_alive.f
  have e1 : wsub 3 5 = 65534 := by decide
  have e2 : whead 65534 3 = 5 := by decide
  simp only [pSub, pAhead, Option.bind_some, e1, e2, if_true, wrap_Hex.f]
  decide +kernel

theorem pIn (a b c : Int) : wrap_In.f a b c = some (decide (wsub c a < b)) := by
  unfold wrap_In.f
  simp only [pSub, Option.bind_some]
/-- Whether one of the first i words is x. -/
def hit (a x : Int) : Nat → Bool
  | 0 => false
  | i + 1 => hit a x i || (wadd a i == wd x)
theorem hit_iff (a x : Int) : ∀ i : Nat, i ≤ 65536 → (hit a x i = true ↔ wsub x a < i)
  | 0, _ => by
    have : 0 ≤ wsub x a := wd_lo _
    simp only [hit]
    constructor
    · intro h; cases h
    · intro h; omega
  | i + 1, hi => by
    have ih := hit_iff a x i (by omega)
    have h1 := wd_bd a
    have h2 := wd_bd x
    simp only [hit, Bool.or_eq_true, ih, beq_iff_eq, wadd, wsub]
    rw [wd_small (n := (i : Int)) (by omega) (by omega)]
    unfold wd at h1 h2 ⊢
    omega
theorem loop (a n x : Int) (hn : n ≤ 300) (d : Nat) : ∀ (k : Nat) (i : Nat), (i : Int) ≤ n ∨ i = 0 → (n - i).toNat = d → d < k →
    switchyardlaw01_WrapIn.l0 k a n x (hit a x i) i = some true := by
  induction d with
  | zero =>
    intro k i h0 hd hk
    obtain ⟨k, rfl⟩ : ∃ m, k = m + 1 := ⟨k - 1, by omega⟩
    simp only [switchyardlaw01_WrapIn.l0]
    rw [if_neg (by omega)]
    simp only [pIn, pAlive, Option.bind_some]
    have h := hit_iff a x i (by omega)
    have h3 : 0 ≤ wsub x a := wd_lo _
    have e : decide (wsub x a < n) = hit a x i := by
      rw [Bool.eq_iff_iff, h]
      simp only [decide_eq_true_eq]
      omega
    rw [e]
    simp
  | succ d ih =>
    intro k i h0 hd hk
    obtain ⟨k, rfl⟩ : ∃ m, k = m + 1 := ⟨k - 1, by omega⟩
    simp only [switchyardlaw01_WrapIn.l0]
    rw [if_pos (by omega)]
    have e : wrap64 ((i : Int) + 1) = ((i + 1 : Nat) : Int) := by rw [w64 (by omega) (by omega)]; omega
    have ih' := ih k (i + 1) (by omega) (by omega) (by omega)
    rw [e]
    by_cases hh : hit a x i = true
    · rw [if_pos hh]
      simpa [hit, hh] using ih'
    · rw [if_neg hh]
      simp only [pAdd, pWord, Option.bind_some]
      simpa [hit, hh] using ih'

theorem WrapIn : switchyardlaw01_WrapIn.Pure := by
  intro a n x _ _ _
  refine ⟨n.toNat + 1, ?_⟩
  unfold switchyardlaw01_WrapIn.f
  by_cases h : n > 300
  · rw [if_pos h, pAlive]; rfl
  · rw [if_neg h]
    exact loop a n x (by omega) n.toNat (n.toNat + 1) 0 (by omega) (by omega) (by omega)

end Go.Proofs.Ytpkdanfiplolhaa.Pure
