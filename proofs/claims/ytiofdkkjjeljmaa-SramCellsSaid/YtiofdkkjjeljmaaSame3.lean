/- Whether two lists of numbers are the same (the reference's Same), out of the printed walk. -/
import Derived.Test.YtiofdkkjjeljmaaPSramPlaysx1
import Derived.Test.YtiofdkkjjeljmaaLat
namespace Go.Proofs.Ytiofdkkjjeljmaa.Same3
set_option linter.unusedVariables false
set_option linter.unusedSimpArgs false
open Go.RowKit Go.Proofs.Ytiofdkkjjeljmaa.PSramPlays Go.Proofs.YtiofdkkjjeljmaaW.PrintWords Go.Proofs.Ytiofdkkjjeljmaa.Lat

theorem w64' {n : Int} (h0 : -4294967296 ≤ n) (h1 : n ≤ 4294967296) : wrap64 n = n := by unfold wrap64; omega
theorem step64 {i : Nat} (h : i ≤ 1000000) : wrap64 ((i : Int) + 1) = ((i + 1 : Nat) : Int) := by rw [w64' (by omega) (by omega)]; omega
theorem drop_step {l m : List Int} {i : Nat} (h : i < l.length) (h' : i < m.length) : decide (l.drop i = m.drop i) = (decide (rd l i = rd m i) && decide (l.drop (i + 1) = m.drop (i + 1))) := by
  have e1 : rd l i = l[i] := by simp [rd, List.getD_eq_getElem?_getD, List.getElem?_eq_getElem h]
  have e2 : rd m i = m[i] := by simp [rd, List.getD_eq_getElem?_getD, List.getElem?_eq_getElem h']
  rw [e1, e2, Bool.eq_iff_iff]
  rw [List.drop_eq_getElem_cons h, List.drop_eq_getElem_cons h']
  simp only [Bool.and_eq_true, decide_eq_true_eq, List.cons.injEq]
theorem s03_l (l m : List Int) (hl : l.length = m.length) (hb : l.length ≤ 1000) : ∀ (d i k : Nat), i + d = l.length → d < k → switchyardref03_Same.l0 k l m i = some (decide (l.drop i = m.drop i))
  | 0, i, k, hi, hk => by
    obtain ⟨k, rfl⟩ : ∃ q, k = q + 1 := ⟨k - 1, by omega⟩
    simp only [switchyardref03_Same.l0]
    rw [if_neg (by omega), List.drop_eq_nil_of_le (by omega), List.drop_eq_nil_of_le (by omega)]
    simp
  | d + 1, i, k, hi, hk => by
    obtain ⟨k, rfl⟩ : ∃ q, k = q + 1 := ⟨k - 1, by omega⟩
    simp only [switchyardref03_Same.l0]
    rw [if_pos (by omega), if_pos (by omega), if_pos (by omega), step64 (by omega), drop_step (by omega) (by omega)]
    by_cases h : rd l i = rd m i
    · rw [if_pos h, s03_l l m hl hb d (i + 1) k (by omega) (by omega)]
      simp [h]
    · rw [if_neg h]
      simp [h]
theorem s03 (l m : List Int) (hb : l.length ≤ 1000) (k : Nat) (hk : l.length < k) : switchyardref03_Same.f k l m = some (decide (l = m)) := by
  unfold switchyardref03_Same.f
  by_cases h : l.length = m.length
  · rw [if_pos (by omega)]
    exact s03_l l m h hb l.length 0 k (by omega) hk
  · rw [if_neg (by omega)]
    have : l ≠ m := fun e => h (by rw [e])
    simp [this]
theorem Same_walk (l m : List Int) (A0 A1 : Option Addr) (c0 c1 : Nat) (w : World) (hr0 : Kd.C (Kd.int .i64) w A0 l.length l) (hc0 : l.length ≤ c0) (hr1 : Kd.C (Kd.int .i64) w A1 m.length m) (hc1 : m.length ≤ c1) (hb : l.length ≤ 1000) :
    Calls Try.prog 22 #[.slice A0 l.length c0, .slice A1 m.length c1] w fun e w' => e = .returned (.bool (decide (l = m))) ∧ Drawn w w' := by
  refine (switchyardref03_Same.calls 2000 A0 c0 l A1 c1 m _ w hr0 hc0 hr1 hc1 (s03 l m hb 2000 (by omega))).mono ?_
  rintro e w' ⟨rfl, hd⟩
  exact ⟨rfl, hd.out⟩
theorem Same_l (l m : List Int) (P Q : Nat → Prop) (A0 A1 : Option Addr) (n0 n1 c0 c1 : Nat) (w : World) (h0 : LAt w P (.slice A0 n0 c0) l) (h1 : LAt w Q (.slice A1 n1 c1) m) (hl : l.length ≤ 1000) (hm : m.length ≤ 1000000) :
    Calls Try.prog 22 #[.slice A0 n0 c0, .slice A1 n1 c1] w fun e w' => e = .returned (.bool (decide (l = m))) ∧ Up w w' := by
  obtain ⟨A, c, e0, k0, r0⟩ := h0.c (by omega)
  obtain ⟨B, d, e1, k1, r1⟩ := h1.c hm
  cases e0
  cases e1
  refine (Same_walk l m _ _ _ _ w r0 k0 r1 k1 hl).mono ?_
  rintro e w' ⟨rfl, n, rfl⟩
  exact ⟨rfl, Up.drewN (Up.refl _) _⟩
end Go.Proofs.Ytiofdkkjjeljmaa.Same3
