/- What the reference's At answers, as a formula. -/
import Derived.Test.YtmfpahdbjcpmkaaDoorPlotPure
namespace Go.Proofs.YtmfpahdbjcpmkaaDoor.Plot
set_option linter.unusedVariables false
set_option linter.unusedSimpArgs false
open Go.RowKit Go.Proofs.YtmfpahdbjcpmkaaDoorW.PrintWords Go.Proofs.YtmfpahdbjcpmkaaDoor.PPlotWhere

section
variable (ring fd sl ix : Int)
theorem at_l2_yes (f slots many : Int) (hm : many ≤ 8) (hf : f = fd) (h1 : ix < many) : ∀ (d : Nat) (at_ i : Int), (d : Int) = ix - i → 0 ≤ i → 0 ≤ at_ → at_ + d ≤ 1000000 →
    Ev (fun k => switchyardref13_At.l2 k ring fd sl ix at_ f slots many sl i) (at_ + (ix - i), true)
  | 0, at_, i, hd, h0, ha, hb => by
    obtain rfl : i = ix := by omega
    refine Ev.step (f := fun _ => some (at_ + (i - i), true)) (fun k => ?_) (Ev.now _)
    simp only [switchyardref13_At.l2]
    rw [if_pos (by omega), if_pos hf]
    simp
  | d + 1, at_, i, hd, h0, ha, hb => by
    have h := at_l2_yes f slots many hm hf h1 d (at_ + 1) (i + 1) (by omega) (by omega) (by omega) (by omega)
    rw [show at_ + 1 + (ix - (i + 1)) = at_ + (ix - i) by omega] at h
    refine Ev.step (fun k => ?_) h
    simp only [switchyardref13_At.l2]
    rw [if_pos (by omega), if_pos hf, if_pos trivial, if_neg (by omega), w64 (by omega) (by omega), w64 (by omega) (by omega)]
theorem at_l2_no (f slots many s : Int) (hm : many ≤ 8) (r : Int × Bool) : ∀ (d : Nat) (at_ i : Int), (d : Int) = many - i → 0 ≤ i → 0 ≤ at_ → at_ + d ≤ 1000000 → -10 ≤ s → s ≤ 1000 → ¬ (f = fd ∧ s = sl ∧ i ≤ ix ∧ ix < many) →
    Ev (fun k => switchyardref13_At.l1 k ring fd sl ix (at_ + d) f slots many (s + 1)) r → Ev (fun k => switchyardref13_At.l2 k ring fd sl ix at_ f slots many s i) r
  | 0, at_, i, hd, h0, ha, hb, hs0, hs1, hn, h => by
    rw [show at_ + ((0 : Nat) : Int) = at_ by omega] at h
    refine Ev.step (fun k => ?_) h
    simp only [switchyardref13_At.l2]
    rw [if_neg (by omega), w64 (by omega) (by omega)]
  | d + 1, at_, i, hd, h0, ha, hb, hs0, hs1, hn, h => by
    rw [show at_ + ((d + 1 : Nat) : Int) = at_ + 1 + (d : Int) by omega] at h
    have h2 := at_l2_no f slots many s hm r d (at_ + 1) (i + 1) (by omega) (by omega) (by omega) (by omega) hs0 hs1 (by omega) h
    refine Ev.step (fun k => ?_) h2
    have e1 : wrap64 (at_ + 1) = at_ + 1 := w64 (by omega) (by omega)
    have e2 : wrap64 (i + 1) = i + 1 := w64 (by omega) (by omega)
    simp only [switchyardref13_At.l2]
    rw [if_pos (by omega), e1, e2]
    by_cases a : f = fd
    · rw [if_pos a]
      by_cases b : s = sl
      · rw [if_pos b]
        by_cases c : i = ix
        · exact absurd ⟨a, b, by omega, by omega⟩ hn
        · rw [if_neg c]
      · rw [if_neg b]
    · rw [if_neg a]
theorem at_l1_yes (f slots many : Int) (hm : many = 1 ∨ many = 8) (hsl : slots ≤ 64) (hf : f = fd) (h0x : 0 ≤ ix) (h1 : ix < many) (h2 : sl < slots) : ∀ (d : Nat) (at_ s : Int), (d : Int) = sl - s → 0 ≤ s → 0 ≤ at_ → at_ + 8 * d ≤ 900000 →
    Ev (fun k => switchyardref13_At.l1 k ring fd sl ix at_ f slots many s) (at_ + (sl - s) * many + ix, true)
  | 0, at_, s, hd, h0, ha, hb => by
    obtain rfl : s = sl := by omega
    have h := at_l2_yes ring fd s ix f slots many (by omega) hf h1 ix.toNat at_ 0 (by omega) (by omega) ha (by omega)
    rw [show at_ + (ix - 0) = at_ + (s - s) * many + ix by rw [Int.sub_self, Int.zero_mul]; omega] at h
    refine Ev.step (fun k => ?_) h
    simp only [switchyardref13_At.l1]
    rw [if_pos h2]
  | d + 1, at_, s, hd, h0, ha, hb => by
    have h := at_l1_yes f slots many hm hsl hf h0x h1 h2 d (at_ + many) (s + 1) (by omega) (by omega) (by omega) (by omega)
    rw [show at_ + many + (sl - (s + 1)) * many + ix = at_ + (sl - s) * many + ix by rcases hm with rfl | rfl <;> omega] at h
    have h3 := at_l2_no ring fd sl ix f slots many s (by omega) _ many.toNat at_ 0 (by omega) (by omega) ha (by omega) (by omega) (by omega) (by omega) (by rw [show ((many.toNat : Nat) : Int) = many by omega]; exact h)
    refine Ev.step (fun k => ?_) h3
    simp only [switchyardref13_At.l1]
    rw [if_pos (by omega)]
theorem at_l1_no (f slots many : Int) (hm : many = 1 ∨ many = 8) (hsl : slots ≤ 64) (hf0 : 0 ≤ f) (hf8 : f ≤ 8) (r : Int × Bool) : ∀ (d : Nat) (at_ s : Int), (d : Int) = slots - s → 0 ≤ s → 0 ≤ at_ → at_ + 8 * d ≤ 900000 → ¬ (f = fd ∧ s ≤ sl ∧ sl < slots ∧ 0 ≤ ix ∧ ix < many) →
    Ev (fun k => switchyardref13_At.l0 k ring fd sl ix (at_ + (slots - s) * many) (f + 1)) r → Ev (fun k => switchyardref13_At.l1 k ring fd sl ix at_ f slots many s) r
  | 0, at_, s, hd, h0, ha, hb, hn, h => by
    obtain rfl : s = slots := by omega
    rw [show at_ + (s - s) * many = at_ by rw [Int.sub_self, Int.zero_mul]; omega] at h
    refine Ev.step (fun k => ?_) h
    simp only [switchyardref13_At.l1]
    rw [if_neg (by omega), w64 (by omega) (by omega)]
  | d + 1, at_, s, hd, h0, ha, hb, hn, h => by
    rw [show at_ + (slots - s) * many = at_ + many + (slots - (s + 1)) * many by rcases hm with rfl | rfl <;> omega] at h
    have h2 := at_l1_no f slots many hm hsl hf0 hf8 r d (at_ + many) (s + 1) (by omega) (by omega) (by omega) (by omega) (by omega) h
    have h3 := at_l2_no ring fd sl ix f slots many s (by omega) _ many.toNat at_ 0 (by omega) (by omega) ha (by omega) (by omega) (by omega) (by omega) (by rw [show ((many.toNat : Nat) : Int) = many by omega]; exact h2)
    refine Ev.step (fun k => ?_) h3
    simp only [switchyardref13_At.l1]
    rw [if_pos (by omega)]
/-- Slots and words of a field. -/
def slotsI (ring f : Int) : Int := if f ≥ 5 then ring else 1
theorem at_l0_step (f at_ : Int) (hf : f ≤ 8) (r : Int × Bool) (h : Ev (fun k => switchyardref13_At.l1 k ring fd sl ix at_ f (slotsI ring f) (manyI f) 0) r) : Ev (fun k => switchyardref13_At.l0 k ring fd sl ix at_ f) r := by
  have h1 : Ev (fun k => switchyardref13_At.j2 k ring fd sl ix at_ f (slotsI ring f) (manyI f)) r := by
    refine Ev.step (fun k => ?_) h
    simp only [switchyardref13_At.j2]
  have h2 : Ev (fun k => switchyardref13_At.j1 k ring fd sl ix at_ f (slotsI ring f) 1) r := by
    refine Ev.step (fun k => ?_) h1
    simp only [switchyardref13_At.j1, manyI]
    by_cases c : f = 8
    · rw [if_pos c, if_pos c]
    · rw [if_neg c, if_neg c]
  refine Ev.step (fun k => ?_) h2
  simp only [switchyardref13_At.l0, slotsI]
  rw [if_pos hf]
  by_cases c : f ≥ 5
  · rw [if_pos c, if_pos c]
  · rw [if_neg c, if_neg c]
theorem many_or (f : Int) : manyI f = 1 ∨ manyI f = 8 := by unfold manyI; split <;> simp
theorem many_at {f : Int} (h : f ≠ 8) : manyI f = 1 := if_neg h
theorem slots_le (f : Int) (h0 : 0 ≤ ring) (h1 : ring ≤ 64) : 0 ≤ slotsI ring f ∧ slotsI ring f ≤ 64 := by unfold slotsI; split <;> omega
/-- Is there such a word? -/
def okAt (f s i : Int) : Prop := 1 ≤ f ∧ f ≤ 8 ∧ 0 ≤ s ∧ s < slotsI ring f ∧ 0 ≤ i ∧ i < manyI f
theorem at_yes (h : okAt ring fd sl ix) (h0 : 0 ≤ ring) (h1 : ring ≤ 64) : ∀ (d : Nat) (f at_ : Int), (d : Int) = fd - f → 1 ≤ f → 0 ≤ at_ → at_ + 600 * d ≤ 200000 →
    Ev (fun k => switchyardref13_At.l0 k ring fd sl ix at_ f) ((List.range d).foldl (fun (a : Int) (j : Nat) => a + slotsI ring (f + (j : Int)) * manyI (f + (j : Int))) at_ + sl * manyI fd + ix, true)
  | 0, f, at_, hd, hf, ha, hb => by
    obtain rfl : f = fd := by omega
    obtain ⟨o1, o2, o3, o4, o5, o6⟩ := h
    have hs := slots_le ring f h0 h1
    refine at_l0_step ring f sl ix f at_ o2 _ ?_
    have := at_l1_yes ring f sl ix f (slotsI ring f) (manyI f) (many_or f) hs.2 rfl o5 o6 o4 sl.toNat at_ 0 (by omega) (by omega) ha (by omega)
    rw [Int.sub_zero] at this
    exact this
  | d + 1, f, at_, hd, hf, ha, hb => by
    have hs := slots_le ring f h0 h1
    have hm := many_or f
    have hp : 0 ≤ slotsI ring f * manyI f ∧ slotsI ring f * manyI f ≤ 512 := by
      rcases hm with e | e <;> rw [e] <;> omega
    have h2 := at_yes h h0 h1 d (f + 1) (at_ + slotsI ring f * manyI f) (by omega) (by omega) (by omega) (by omega)
    refine at_l0_step ring fd sl ix f at_ (by have := h.2.1; omega) _ ?_
    refine at_l1_no ring fd sl ix f (slotsI ring f) (manyI f) hm hs.2 (by omega) (by have := h.2.1; omega) _ (slotsI ring f).toNat at_ 0 (by omega) (by omega) ha (by omega) (by omega) ?_
    rw [Int.sub_zero]
    rw [List.range_succ_eq_map, List.foldl_cons, List.foldl_map]
    have e : ∀ (a : Int) (l : List Nat), l.foldl (fun (a : Int) (j : Nat) => a + slotsI ring (f + ((j + 1 : Nat) : Int)) * manyI (f + ((j + 1 : Nat) : Int))) a = l.foldl (fun (a : Int) (j : Nat) => a + slotsI ring (f + 1 + (j : Int)) * manyI (f + 1 + (j : Int))) a := by
      intro a l
      congr 1
      funext a j
      rw [show f + ((j + 1 : Nat) : Int) = f + 1 + (j : Int) by omega]
    simp only [Nat.succ_eq_add_one]
    rw [e]
    simp only [Int.natCast_zero, Int.add_zero]
    exact h2
theorem at_no (h : ¬ okAt ring fd sl ix) (h0 : 0 ≤ ring) (h1 : ring ≤ 64) : ∀ (d : Nat) (f at_ : Int), (d : Int) = 9 - f → 1 ≤ f → 0 ≤ at_ → at_ + 600 * d ≤ 200000 →
    Ev (fun k => switchyardref13_At.l0 k ring fd sl ix at_ f) (0, false)
  | 0, f, at_, hd, hf, ha, hb => by
    refine Ev.step (f := fun _ => some (0, false)) (fun k => ?_) (Ev.now _)
    simp only [switchyardref13_At.l0]
    rw [if_neg (by omega)]
  | d + 1, f, at_, hd, hf, ha, hb => by
    have hs := slots_le ring f h0 h1
    have hm := many_or f
    have hp : 0 ≤ slotsI ring f * manyI f ∧ slotsI ring f * manyI f ≤ 512 := by
      rcases hm with e | e <;> rw [e] <;> omega
    have h2 := at_no h h0 h1 d (f + 1) (at_ + slotsI ring f * manyI f) (by omega) (by omega) (by omega) (by omega)
    refine at_l0_step ring fd sl ix f at_ (by omega) _ ?_
    refine at_l1_no ring fd sl ix f (slotsI ring f) (manyI f) hm hs.2 (by omega) (by omega) _ (slotsI ring f).toNat at_ 0 (by omega) (by omega) ha (by omega) ?_ (by rw [Int.sub_zero]; exact h2)
    rintro ⟨rfl, a1, a2, a3, a4⟩
    exact h ⟨hf, by omega, a1, a2, a3, a4⟩
end
theorem atV_yes (base ring f s i : Int) (h : okAt ring f s i) : atV base ring f s i = ((List.range (f - 1).toNat).foldl (fun (a : Int) (j : Nat) => a + slotsI ring (1 + (j : Int)) * manyI (1 + (j : Int))) base + s * manyI f + i, true) := by
  obtain ⟨o1, o2, o3, o4, o5, o6⟩ := h
  have hf : f = 1 ∨ f = 2 ∨ f = 3 ∨ f = 4 ∨ f = 5 ∨ f = 6 ∨ f = 7 ∨ f = 8 := by omega
  rcases hf with rfl | rfl | rfl | rfl | rfl | rfl | rfl | rfl <;>
    (simp [slotsI, manyI] at o4 o6
     simp [atV, slotsI, manyI, List.range_succ]
     repeat' (first | rw [if_neg (by omega)] | rw [if_pos (by omega)])
     simp only [Prod.mk.injEq, and_true]
     omega)
theorem atV_no (base ring f s i : Int) (h : ¬ okAt ring f s i) : atV base ring f s i = (0, false) := by
  unfold atV
  split
  · rfl
  · rename_i h1
    have e : 1 ≤ f ∧ f ≤ 8 ∧ 0 ≤ i ∧ i < manyI f := by omega
    split
    · rename_i h2
      split
      · rename_i h3
        refine absurd ⟨e.1, e.2.1, by omega, ?_, e.2.2.1, e.2.2.2⟩ h
        unfold slotsI
        rw [if_neg (by omega)]
        omega
      · rfl
    · rename_i h2
      split
      · rfl
      · rename_i h3
        refine absurd ⟨e.1, e.2.1, by omega, ?_, e.2.2.1, e.2.2.2⟩ h
        unfold slotsI
        rw [if_pos (by omega)]
        omega
/-- The reference's At. -/
theorem at_r (base ring f s i : Int) (hb : 0 ≤ base) (hb1 : base ≤ 100000) (h0 : 0 ≤ ring) (h1 : ring ≤ 64) : Ev (fun k => switchyardref13_At.f k base ring f s i) (atV base ring f s i) := by
  unfold switchyardref13_At.f
  by_cases h : okAt ring f s i
  · rw [atV_yes base ring f s i h]
    have ho := h
    obtain ⟨o1, o2, _⟩ := ho
    exact at_yes ring f s i h h0 h1 (f - 1).toNat 1 base (by omega) (by omega) hb (by omega)
  · rw [atV_no base ring f s i h]
    exact at_no ring f s i h h0 h1 8 1 base (by omega) (by omega) hb (by omega)
end Go.Proofs.YtmfpahdbjcpmkaaDoor.Plot
