/- Where a word lies and of which channel a word is: the two formulas invert each other. What the reference's Where answers. -/
import Derived.Test.YtmfpahdbjcpmkaaDoorPlotPure2
import Derived.Test.YtmfpahdbjcpmkaaDoorPlotWhere
namespace Go.Proofs.YtmfpahdbjcpmkaaDoor.Plot
set_option linter.unusedVariables false
set_option linter.unusedSimpArgs false
open Go.RowKit Go.Proofs.YtmfpahdbjcpmkaaDoorW.PrintWords Go.Proofs.YtmfpahdbjcpmkaaDoor.PPlotWhere

/-- How far behind its channel's begin a word lies. -/
def off (r f s i : Int) : Int := if f < 5 then f - 1 else 4 + (f - 5) * r + manyI f * s + i
theorem rg_cases {r : Int} (h : rgB r = true) : r = 2 ∨ r = 4 ∨ r = 8 ∨ r = 16 ∨ r = 32 ∨ r = 64 := by
  unfold rgB at h
  simp only [Bool.or_eq_true, beq_iff_eq] at h
  omega
theorem at_off (base r f s i : Int) (h : okAt r f s i) : atV base r f s i = (base + off r f s i, true) := by
  obtain ⟨o1, o2, o3, o4, o5, o6⟩ := h
  unfold atV off
  rw [if_neg (by omega)]
  by_cases h5 : f < 5
  · have hs : slotsI r f = 1 := if_neg (by omega)
    rw [if_pos h5, if_pos h5, if_pos (by omega)]
    congr 1
    omega
  · have hs : slotsI r f = r := if_pos (by omega)
    rw [if_neg h5, if_neg h5, if_neg (by omega)]
    congr 1
    omega
theorem word1 {r l : Int} (hr : rgB r = true) (h0 : 0 ≤ l) (h1 : l < 4 + 11 * r) : okAt r (whP r l).1 (whP r l).2.1 (whP r l).2.2 ∧ off r (whP r l).1 (whP r l).2.1 (whP r l).2.2 = l := by
  unfold whP
  by_cases c1 : l < 4
  · rw [if_pos c1]
    have hm : manyI (1 + l) = 1 := if_neg (by omega)
    have hs : slotsI r (1 + l) = 1 := if_neg (by omega)
    refine ⟨⟨by dsimp only; omega, by dsimp only; omega, by dsimp only; omega, by dsimp only; omega, by dsimp only; omega, by dsimp only; omega⟩, ?_⟩
    dsimp only [off]
    rw [if_pos (by omega)]
    omega
  · rw [if_neg c1]
    by_cases c2 : (l - 4) / r < 3
    · rw [if_pos c2]
      have hk : 0 ≤ (l - 4) / r := Int.ediv_nonneg (by omega) (by have := rgB_bd hr; omega)
      have hm : manyI (5 + (l - 4) / r) = 1 := if_neg (by omega)
      have hs : slotsI r (5 + (l - 4) / r) = r := if_pos (by omega)
      have hb := rgB_bd hr
      have hq0 : 0 ≤ (l - 4) % r := Int.emod_nonneg _ (by omega)
      have hq1 : (l - 4) % r < r := Int.emod_lt_of_pos _ (by omega)
      have hd := Int.mul_ediv_add_emod (l - 4) r
      refine ⟨⟨by dsimp only; omega, by dsimp only; omega, by dsimp only; omega, by dsimp only; omega, by dsimp only; omega, by dsimp only; omega⟩, ?_⟩
      dsimp only [off]
      rw [if_neg (by omega), hm, show 5 + (l - 4) / r - 5 = (l - 4) / r by omega, Int.mul_comm]
      omega
    · rw [if_neg c2]
      have hb := rgB_bd hr
      have hs : slotsI r 8 = r := if_pos (by omega)
      have hm : manyI 8 = 8 := if_pos rfl
      have h3 : 3 * r ≤ l - 4 := by
        have hd := Int.mul_ediv_add_emod (l - 4) r
        have hq0 : 0 ≤ (l - 4) % r := Int.emod_nonneg _ (by omega)
        have : r * 3 ≤ r * ((l - 4) / r) := Int.mul_le_mul_of_nonneg_left (by omega) (by omega)
        omega
      refine ⟨⟨by dsimp only; omega, by dsimp only; omega, by dsimp only; omega, by dsimp only; omega, by dsimp only; omega, by dsimp only; omega⟩, ?_⟩
      dsimp only [off]
      rw [if_neg (by omega), hm]
      omega
theorem word2 {r f s i : Int} (hr : rgB r = true) (h : okAt r f s i) : 0 ≤ off r f s i ∧ off r f s i < 4 + 11 * r ∧ whP r (off r f s i) = (f, s, i) := by
  obtain ⟨o1, o2, o3, o4, o5, o6⟩ := h
  have hb := rgB_bd hr
  by_cases h5 : f < 5
  · have hs : slotsI r f = 1 := if_neg (by omega)
    have hm : manyI f = 1 := if_neg (by omega)
    have e : off r f s i = f - 1 := if_pos h5
    rw [e]
    refine ⟨by omega, by omega, ?_⟩
    unfold whP
    rw [if_pos (by omega), show (1 : Int) + (f - 1) = f by omega, show s = 0 by omega, show i = 0 by omega]
  · have hs : slotsI r f = r := if_pos (by omega)
    by_cases h8 : f = 8
    · subst h8
      have hm : manyI 8 = 8 := if_pos rfl
      have e : off r 8 s i = 4 + 3 * r + 8 * s + i := by unfold off; rw [if_neg (by omega), hm]; omega
      rw [e]
      refine ⟨by omega, by omega, ?_⟩
      unfold whP
      have hk : ¬ ((4 + 3 * r + 8 * s + i - 4) / r < 3) := by
        have : 3 ≤ (4 + 3 * r + 8 * s + i - 4) / r := (Int.le_ediv_iff_mul_le (by omega)).2 (by omega)
        omega
      rw [if_neg (by omega), if_neg hk]
      rw [show (4 + 3 * r + 8 * s + i - 4 - 3 * r) / 8 = s by omega, show (4 + 3 * r + 8 * s + i - 4 - 3 * r) % 8 = i by omega]
    · have hm : manyI f = 1 := if_neg h8
      have e : off r f s i = 4 + (f - 5) * r + s := by unfold off; rw [if_neg h5, hm]; omega
      rw [e]
      have hf : f = 5 ∨ f = 6 ∨ f = 7 := by omega
      have hq : 0 ≤ (f - 5) * r ∧ (f - 5) * r ≤ 2 * r := by rcases hf with rfl | rfl | rfl <;> omega
      refine ⟨by omega, by omega, ?_⟩
      unfold whP
      have hk : (4 + (f - 5) * r + s - 4) / r = f - 5 := by
        rw [show 4 + (f - 5) * r + s - 4 = s + (f - 5) * r by omega, Int.add_mul_ediv_right _ _ (by omega), Int.ediv_eq_zero_of_lt o3 (by omega)]
        omega
      have hk2 : (4 + (f - 5) * r + s - 4) % r = s := by
        rw [show 4 + (f - 5) * r + s - 4 = s + (f - 5) * r by omega, Int.add_mul_emod_self_right, Int.emod_eq_of_lt o3 (by omega)]
      rw [if_neg (by omega), hk, hk2, if_pos (by omega), show (5 : Int) + (f - 5) = f by omega, show i = 0 by omega]
/-- The number of a channel. -/
def chN (c f t : Int) : Int := f * (c - 1) + t - (if t > f then 1 else 0)
theorem c_cases {c r b : Int} (h : rtB c r b = true) : c = 2 ∨ c = 3 ∨ c = 4 ∨ c = 5 ∨ c = 6 ∨ c = 7 ∨ c = 8 := by
  have := rtB_bd h
  omega
theorem chan1 {c r b n : Int} (h : rtB c r b = true) (h0 : 0 ≤ n) (h1 : n < c * (c - 1)) :
    0 ≤ n / (c - 1) ∧ n / (c - 1) < c ∧ 0 ≤ (if n % (c - 1) ≥ n / (c - 1) then n % (c - 1) + 1 else n % (c - 1)) ∧ (if n % (c - 1) ≥ n / (c - 1) then n % (c - 1) + 1 else n % (c - 1)) < c ∧ n / (c - 1) ≠ (if n % (c - 1) ≥ n / (c - 1) then n % (c - 1) + 1 else n % (c - 1)) ∧
    chN c (n / (c - 1)) (if n % (c - 1) ≥ n / (c - 1) then n % (c - 1) + 1 else n % (c - 1)) = n := by
  unfold chN
  rcases c_cases h with rfl | rfl | rfl | rfl | rfl | rfl | rfl <;> (split <;> (split <;> omega))
theorem chan2 {c r b f t : Int} (h : rtB c r b = true ∧ 0 ≤ f ∧ f < c ∧ 0 ≤ t ∧ t < c ∧ f ≠ t) :
    0 ≤ chN c f t ∧ chN c f t < c * (c - 1) ∧ chN c f t / (c - 1) = f ∧ (if chN c f t % (c - 1) ≥ f then chN c f t % (c - 1) + 1 else chN c f t % (c - 1)) = t := by
  obtain ⟨h1, h2, h3, h4, h5, h6⟩ := h
  unfold chN
  rcases c_cases h1 with rfl | rfl | rfl | rfl | rfl | rfl | rfl <;> (split <;> (refine ⟨by omega, by omega, by omega, ?_⟩; split <;> omega))
theorem sz_eq {c r b : Int} (h : rtB c r b = true) : szI r = 4 + 11 * r := if_pos (rtB_bd h).2.2.1
theorem wo_eq {c r b : Int} (h : rtB c r b = true) : woI c r b = c * (c - 1) * szI r := if_pos h
/-- A word's channel, and it lies there. -/
theorem back1 {c r b x : Int} (h : 0 ≤ x ∧ x < woI c r b) : chB c r b (whA c r x) (whB c r x) = true ∧ chI c r (whA c r x) (whB c r x) = x / szI r * szI r ∧ okAt r (whP r (x % szI r)).1 (whP r (x % szI r)).2.1 (whP r (x % szI r)).2.2 ∧ off r (whP r (x % szI r)).1 (whP r (x % szI r)).2.1 (whP r (x % szI r)).2.2 = x % szI r := by
  obtain ⟨h1, _⟩ := wo_rt h
  have hb := rtB_bd h1
  have hr := rgB_bd hb.2.2.1
  have hz := sz_eq h1
  have hp : 0 < szI r := by omega
  have hn1 : x / szI r < c * (c - 1) := by
    rw [Int.ediv_lt_iff_lt_mul hp, ← wo_eq h1]
    exact h.2
  obtain ⟨q1, q2, q3, q4, q5, q6⟩ := chan1 h1 (Int.ediv_nonneg h.1 (by omega)) hn1
  refine ⟨decide_eq_true ⟨h1, q1, q2, q3, q4, q5⟩, ?_, ?_⟩
  · show chN c _ _ * szI r = _
    unfold whA whB whB0 whA
    rw [q6]
  · exact word1 hb.2.2.1 (Int.emod_nonneg _ (by omega)) (by rw [← hz]; exact Int.emod_lt_of_pos _ hp)
theorem back1' {c r b x : Int} (h : 0 ≤ x ∧ x < woI c r b) : atV (chI c r (whA c r x) (whB c r x)) r (whP r (x % szI r)).1 (whP r (x % szI r)).2.1 (whP r (x % szI r)).2.2 = (x, true) := by
  obtain ⟨_, h2, h3, h4⟩ := back1 h
  rw [at_off _ _ _ _ _ h3, h4, h2, Int.mul_comm, Int.mul_ediv_add_emod]
/-- A channel's word is of it. -/
theorem back2 {c r b f t fd s i : Int} (hc : chB c r b f t = true) (ho : okAt r fd s i) :
    0 ≤ chI c r f t + off r fd s i ∧ chI c r f t + off r fd s i < woI c r b ∧ whA c r (chI c r f t + off r fd s i) = f ∧ whB c r (chI c r f t + off r fd s i) = t ∧ whP r ((chI c r f t + off r fd s i) % szI r) = (fd, s, i) := by
  have hh := chB_is hc
  have hb := rtB_bd hh.1
  have hr := rgB_bd hb.2.2.1
  have hz := sz_eq hh.1
  obtain ⟨n0, n1, n2, n3⟩ := chan2 hh
  obtain ⟨w0, w1, w2⟩ := word2 hb.2.2.1 ho
  have hi : chI c r f t = chN c f t * szI r := rfl
  have hd : (chI c r f t + off r fd s i) / szI r = chN c f t := by
    rw [hi, Int.add_comm, Int.add_mul_ediv_right _ _ (by omega), Int.ediv_eq_zero_of_lt w0 (by omega)]
    omega
  have hm : (chI c r f t + off r fd s i) % szI r = off r fd s i := by
    rw [hi, Int.add_comm, Int.add_mul_emod_self_right, Int.emod_eq_of_lt w0 (by omega)]
  have hlt : chI c r f t + off r fd s i < woI c r b := by
    rw [wo_eq hh.1, hi]
    have : (chN c f t + 1) * szI r ≤ c * (c - 1) * szI r := Int.mul_le_mul_of_nonneg_right (by omega) (by omega)
    rw [Int.add_mul] at this
    omega
  refine ⟨?_, hlt, ?_, ?_, ?_⟩
  · have := (chI_bd hc).1
    omega
  · unfold whA
    rw [hd, n2]
  · unfold whB whB0 whA
    rw [hd, n2, n3]
  · rw [hm, w2]
end Go.Proofs.YtmfpahdbjcpmkaaDoor.Plot
