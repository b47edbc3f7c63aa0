/- More contracts of the package plot: At. -/
import Derived.Test.YtmfpahdbjcpmkaaDoorPlotOf
namespace Go.Proofs.YtmfpahdbjcpmkaaDoor.Plot
set_option linter.unusedVariables false
set_option linter.unusedSimpArgs false
open Go.RowKit Go.Proofs.YtmfpahdbjcpmkaaDoor.Given Go.Proofs.YtmfpahdbjcpmkaaDoorW.PrintWords

theorem both_walk (b : Bool) (w : World) : Calls Tryd.prog 23 #[.bool b] w fun e w' => e = .returned (.int .i64 (if b = true then 1 else 0)) ∧ w' = w := by
  cases b with
  | true =>
    go_enter Tryd.func23, Tryd.ntmps23
    go_wp2
    go_ret
    exact ⟨rfl, rfl⟩
  | false =>
    go_enter Tryd.func23, Tryd.ntmps23
    go_wp2
    go_ret
    exact ⟨rfl, rfl⟩
/-- How many words a slot of a field has. -/
def manyI (f : Int) : Int := if f = 8 then 8 else 1
/-- Where a word lies, and whether there is one. -/
def atV (base ring f s i : Int) : Int × Bool :=
  if f < 1 ∨ 8 < f ∨ i < 0 ∨ manyI f ≤ i then (0, false)
  else if f < 5 then (if s = 0 then (base + f - 1, true) else (0, false))
  else if s < 0 ∨ ring ≤ s then (0, false)
  else (base + 4 + (f - 5) * ring + manyI f * s + i, true)
theorem ret_at {x y : Int} (b : Bool) (h : x = y) : Ending.returned (.tuple #[.int .i64 x, .bool b]) = Ending.returned (.tuple #[.int .i64 y, .bool b]) := by rw [h]
set_option maxHeartbeats 8000000 in
theorem At_walk (base ring f s i : Int) (hb0 : 0 ≤ base) (hb1 : base ≤ 100000) (hr0 : 0 ≤ ring) (hr1 : ring ≤ 64) (w : World) (ht : TT w) :
    Calls Tryd.prog 17 #[.agg #[.int .i64 base, .int .i64 ring], .int .i64 f, .int .i64 s, .int .i64 i] w fun e w' => e = .returned (.tuple #[.int .i64 (atV base ring f s i).1, .bool (atV base ring f s i).2]) ∧ Up w w' := by
  have HT := Lib.hid ht
  have HA : ∀ j, j < 9 → w.cell? ⟨0, j, none⟩ = some (.int .i64 (aheadL.getD j 0)) := ht.ah
  have HA := Lib.hid HA
  clear ht
  by_cases k0 : f < 1
  · have k9 : (f == 8) = false := beq_eq_false_iff_ne.2 (by omega)
    have E : atV base ring f s i = (0, false) := by unfold atV; rw [if_pos (by omega)]
    rw [E]
    clear E
    go_enter Tryd.func17, Tryd.ntmps17
    go_wp2
    go_ret2
    exact ⟨rfl, by repeat (first | exact Up.refl _ | apply Up.alloc | apply Up.drewN | apply Up.drew)⟩
  · have k0' : decide (f < 1) = false := decide_eq_false k0
    by_cases k1 : f > 8
    · have k9 : (f == 8) = false := beq_eq_false_iff_ne.2 (by omega)
      have E : atV base ring f s i = (0, false) := by unfold atV; rw [if_pos (by omega)]
      rw [E]
      clear E
      go_enter Tryd.func17, Tryd.ntmps17
      go_wp2
      go_ret2
      exact ⟨rfl, by repeat (first | exact Up.refl _ | apply Up.alloc | apply Up.drewN | apply Up.drew)⟩
    · have k1' : decide (f > 8) = false := decide_eq_false k1
      by_cases k2 : i < 0
      · have E0 : atV base ring f s i = (0, false) := by unfold atV; rw [if_pos (by omega)]
        rw [E0]
        clear E0
        by_cases k9 : f = 8
        · subst k9
          go_enter Tryd.func17, Tryd.ntmps17
          go_wp2
          go_ret2
          exact ⟨rfl, by repeat (first | exact Up.refl _ | apply Up.alloc | apply Up.drewN | apply Up.drew)⟩
        · have k9' : (f == 8) = false := beq_eq_false_iff_ne.2 k9
          go_enter Tryd.func17, Tryd.ntmps17
          go_wp2
          go_ret2
          exact ⟨rfl, by repeat (first | exact Up.refl _ | apply Up.alloc | apply Up.drewN | apply Up.drew)⟩
      · have k2' : decide (i < 0) = false := decide_eq_false k2
        by_cases k9 : f = 8
        · subst k9
          by_cases k3 : i ≥ 8
          · have E : atV base ring 8 s i = (0, false) := by unfold atV; rw [if_pos (.inr (.inr (.inr (by unfold manyI; rw [if_pos rfl]; omega))))]
            rw [E]
            clear E
            go_enter Tryd.func17, Tryd.ntmps17
            go_wp2
            go_ret2
            exact ⟨rfl, by repeat (first | exact Up.refl _ | apply Up.alloc | apply Up.drewN | apply Up.drew)⟩
          · have k3' : decide (i ≥ 8) = false := decide_eq_false k3
            have hmany : manyI 8 = 8 := if_pos rfl
            by_cases k6 : s < 0
            · have E : atV base ring 8 s i = (0, false) := by unfold atV; rw [if_neg (by rw [hmany]; omega), if_neg (by omega), if_pos (by omega)]
              rw [E]
              clear E hmany
              go_enter Tryd.func17, Tryd.ntmps17
              go_wp2
              go_ret2
              exact ⟨rfl, by repeat (first | exact Up.refl _ | apply Up.alloc | apply Up.drewN | apply Up.drew)⟩
            · have k6' : decide (s < 0) = false := decide_eq_false k6
              by_cases k7 : s ≥ ring
              · have E : atV base ring 8 s i = (0, false) := by unfold atV; rw [if_neg (by rw [hmany]; omega), if_neg (by omega), if_pos (by omega)]
                rw [E]
                clear E hmany
                go_enter Tryd.func17, Tryd.ntmps17
                go_wp2
                go_ret2
                exact ⟨rfl, by repeat (first | exact Up.refl _ | apply Up.alloc | apply Up.drewN | apply Up.drew)⟩
              · have k7' : decide (s ≥ ring) = false := decide_eq_false k7
                have E : atV base ring 8 s i = (base + 4 + (8 - 5) * ring + 8 * s + i, true) := by unfold atV; rw [if_neg (by rw [hmany]; omega), if_neg (by omega), if_neg (by omega), hmany]
                rw [E]
                have hA : (w.alloc (.cells #[.int .i64 base, .int .i64 ring] 25)).cell? ⟨0, 8, none⟩ = some (.int .i64 3) := pw_cell_below ((Up.refl w).alloc _) (HA.out 8 (by decide))
                clear E hmany
                go_enter Tryd.func17, Tryd.ntmps17
                go_wp2
                go_quiet (fail)
                go_wp2
                go_ret2
                exact ⟨ret_at true (by first | rfl | omega | (simp only [IntKind.wrap_i64]; omega) | (simp [IntKind.wrap_i64]; omega) | (unfold wrap64; omega)), by repeat (first | exact Up.refl _ | apply Up.alloc | apply Up.drewN | apply Up.drew)⟩
        · have k9' : (f == 8) = false := beq_eq_false_iff_ne.2 k9
          by_cases k3 : i ≥ 1
          · have E : atV base ring f s i = (0, false) := by unfold atV; rw [if_pos (.inr (.inr (.inr (by unfold manyI; rw [if_neg k9]; omega))))]
            rw [E]
            clear E
            go_enter Tryd.func17, Tryd.ntmps17
            go_wp2
            go_ret2
            exact ⟨rfl, by repeat (first | exact Up.refl _ | apply Up.alloc | apply Up.drewN | apply Up.drew)⟩
          · have k3' : decide (i ≥ 1) = false := decide_eq_false k3
            have hmany : manyI f = 1 := if_neg k9
            by_cases k4 : f < 5
            · by_cases k5 : s = 0
              · subst k5
                have E : atV base ring f 0 i = (base + f - 1, true) := by unfold atV; rw [if_neg (by rw [hmany]; omega), if_pos k4, if_pos rfl]
                rw [E]
                clear E hmany
                go_enter Tryd.func17, Tryd.ntmps17
                go_wp2
                go_quiet ((go_at_call 23; exact Calls.quiet_of_same (both_walk _ _)))
                go_wp2
                go_ret2
                exact ⟨ret_at true (by first | rfl | omega | (simp only [IntKind.wrap_i64]; omega) | (simp [IntKind.wrap_i64]; omega)), by repeat (first | exact Up.refl _ | apply Up.alloc | apply Up.drewN | apply Up.drew)⟩
              · have k5' : (s == 0) = false := beq_eq_false_iff_ne.2 k5
                have E : atV base ring f s i = (0, false) := by unfold atV; rw [if_neg (by rw [hmany]; omega), if_pos k4, if_neg k5]
                rw [E]
                clear E hmany
                go_enter Tryd.func17, Tryd.ntmps17
                go_wp2
                go_quiet ((go_at_call 23; exact Calls.quiet_of_same (both_walk _ _)))
                go_wp2
                go_ret2
                exact ⟨ret_at false (by first | rfl | simp [IntKind.wrap_i64]), by repeat (first | exact Up.refl _ | apply Up.alloc | apply Up.drewN | apply Up.drew)⟩
            · have k4' : decide (f < 5) = false := decide_eq_false k4
              by_cases k6 : s < 0
              · have E : atV base ring f s i = (0, false) := by unfold atV; rw [if_neg (by rw [hmany]; omega), if_neg (by omega), if_pos (by omega)]
                rw [E]
                clear E hmany
                go_enter Tryd.func17, Tryd.ntmps17
                go_wp2
                go_ret2
                exact ⟨rfl, by repeat (first | exact Up.refl _ | apply Up.alloc | apply Up.drewN | apply Up.drew)⟩
              · have k6' : decide (s < 0) = false := decide_eq_false k6
                by_cases k7 : s ≥ ring
                · have E : atV base ring f s i = (0, false) := by unfold atV; rw [if_neg (by rw [hmany]; omega), if_neg (by omega), if_pos (by omega)]
                  rw [E]
                  clear E hmany
                  go_enter Tryd.func17, Tryd.ntmps17
                  go_wp2
                  go_ret2
                  exact ⟨rfl, by repeat (first | exact Up.refl _ | apply Up.alloc | apply Up.drewN | apply Up.drew)⟩
                · have k7' : decide (s ≥ ring) = false := decide_eq_false k7
                  rcases (show f = 5 ∨ f = 6 ∨ f = 7 by omega) with rfl | rfl | rfl
                  · have E : atV base ring 5 s i = (base + 4 + (5 - 5) * ring + 1 * s + i, true) := by unfold atV; rw [if_neg (by rw [hmany]; omega), if_neg (by omega), if_neg (by omega), hmany]
                    rw [E]
                    have hA : (w.alloc (.cells #[.int .i64 base, .int .i64 ring] 25)).cell? ⟨0, 5, none⟩ = some (.int .i64 0) := pw_cell_below ((Up.refl w).alloc _) (HA.out 5 (by decide))
                    clear E hmany
                    go_enter Tryd.func17, Tryd.ntmps17
                    go_wp2
                    go_quiet (fail)
                    go_wp2
                    go_ret2
                    exact ⟨ret_at true (by first | rfl | omega | (simp only [IntKind.wrap_i64]; omega) | (simp [IntKind.wrap_i64]; omega) | (unfold wrap64; omega)), by repeat (first | exact Up.refl _ | apply Up.alloc | apply Up.drewN | apply Up.drew)⟩
                  · have E : atV base ring 6 s i = (base + 4 + (6 - 5) * ring + 1 * s + i, true) := by unfold atV; rw [if_neg (by rw [hmany]; omega), if_neg (by omega), if_neg (by omega), hmany]
                    rw [E]
                    have hA : (w.alloc (.cells #[.int .i64 base, .int .i64 ring] 25)).cell? ⟨0, 6, none⟩ = some (.int .i64 1) := pw_cell_below ((Up.refl w).alloc _) (HA.out 6 (by decide))
                    clear E hmany
                    go_enter Tryd.func17, Tryd.ntmps17
                    go_wp2
                    go_quiet (fail)
                    go_wp2
                    go_ret2
                    exact ⟨ret_at true (by first | rfl | omega | (simp only [IntKind.wrap_i64]; omega) | (simp [IntKind.wrap_i64]; omega) | (unfold wrap64; omega)), by repeat (first | exact Up.refl _ | apply Up.alloc | apply Up.drewN | apply Up.drew)⟩
                  · have E : atV base ring 7 s i = (base + 4 + (7 - 5) * ring + 1 * s + i, true) := by unfold atV; rw [if_neg (by rw [hmany]; omega), if_neg (by omega), if_neg (by omega), hmany]
                    rw [E]
                    have hA : (w.alloc (.cells #[.int .i64 base, .int .i64 ring] 25)).cell? ⟨0, 7, none⟩ = some (.int .i64 2) := pw_cell_below ((Up.refl w).alloc _) (HA.out 7 (by decide))
                    clear E hmany
                    go_enter Tryd.func17, Tryd.ntmps17
                    go_wp2
                    go_quiet (fail)
                    go_wp2
                    go_ret2
                    exact ⟨ret_at true (by first | rfl | omega | (simp only [IntKind.wrap_i64]; omega) | (simp [IntKind.wrap_i64]; omega) | (unfold wrap64; omega)), by repeat (first | exact Up.refl _ | apply Up.alloc | apply Up.drewN | apply Up.drew)⟩
end Go.Proofs.YtmfpahdbjcpmkaaDoor.Plot
