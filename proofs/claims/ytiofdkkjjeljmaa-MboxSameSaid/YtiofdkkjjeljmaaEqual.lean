/- slices.Equal at complex128 (two lists that are the same) and at int. -/
import Derived.Test.YtiofdkkjjeljmaaProg
import Derived.Test.YtiofdkkjjeljmaaBase
import Derived.Test.YtiofdkkjjeljmaaLat
import Derived.Deep.QuietTactic
import Derived.BigQuiet
import Derived.Deep.Cut
namespace Go.Proofs.Ytiofdkkjjeljmaa.Equal
set_option linter.unusedVariables false
set_option linter.unusedSimpArgs false
open Go.RowKit Go.Proofs.Ytiofdkkjjeljmaa.Lat Go.Proofs.YtiofdkkjjeljmaaW.PrintWords

/-- A row of values, read in memory. -/
def CAt (w : World) (A : Option Addr) (cs : List Value) : Prop := ∀ (j : Nat) (u : Value), cs[j]? = some u → ∃ ad, A = some ad ∧ w.cell? (ad.add j) = some u
theorem CAt.up {w w' : World} {A : Option Addr} {cs : List Value} (h : CAt w A cs) (hu : Up w w') : CAt w' A cs := fun j u hj => by
  obtain ⟨ad, h1, h2⟩ := h j u hj
  exact ⟨ad, h1, pw_cell_below hu h2⟩
/-- A complex number that is itself. -/
def Self (u : Value) : Prop := ∃ x y : Nat, u = .complex .f64 x y ∧ (FloatKind.f64.format.order x x == some .eq) = true ∧ (FloatKind.f64.format.order y y == some .eq) = true
set_option maxHeartbeats 4000000 in
set_option maxRecDepth 100000 in
theorem Equal_c (cs : List Value) (A B : Option Addr) (c d : Nat) (w : World) (hA : CAt w A cs) (hB : CAt w B cs) (hs : ∀ u ∈ cs, Self u) (hl : cs.length ≤ 1000000) :
    Calls Try.prog 60 #[.slice A cs.length c, .slice B cs.length d] w fun e w' => e = .returned (.bool true) ∧ Up w w' := by
  have HA := Lib.hid hA
  have HB := Lib.hid hB
  have HS := Lib.hid hs
  clear hA hB hs
  go_enter Try.func60, Try.ntmps60
  go_wp2_with fail
  go_loopw [13] (fun v13 wx => ∃ i : Nat, i ≤ cs.length ∧ v13 = .int .i64 i ∧ Hid (Up w wx)) (fun v13 _ => cs.length - (intOf v13).toNat)
  case atStart => exact ⟨0, Nat.zero_le _, rfl, Lib.hid (Up.refl _)⟩
  case round =>
    obtain ⟨i, hi, rfl, HU⟩ := hrel
    by_cases hlt : i < cs.length
    · have hg := List.getElem?_eq_getElem hlt
      obtain ⟨x, y, e, hx, hy⟩ := HS.out _ (List.getElem_mem hlt)
      rw [e] at hg
      obtain ⟨ad, rfl, k0⟩ := HA.out.up HU.out i _ hg
      obtain ⟨bd, rfl, k1⟩ := HB.out.up HU.out i _ hg
      clear hg e
      go_upto_region 6 with fail
      go_quiet (fail)
      go_wp2
      go_roundw
      case rel => exact ⟨i + 1, by omega, by go_num, Lib.hid (Up.drewN HU.out _)⟩
      case measure => simp [intOf]; omega
    · obtain rfl : i = cs.length := by omega
      go_wp2
      go_ret
      exact ⟨rfl, HU.out⟩
theorem CAt.of_lat {w : World} {P : Nat → Prop} {A : Option Addr} {n c : Nat} {q : List Int} (h : LAt w P (.slice A n c) q) : CAt w A (q.map (Value.int .i64)) := by
  intro j u hj
  rcases h with ⟨_, rfl⟩ | ⟨ad, c', hv, _, h3⟩
  · simp at hj
  · injection hv with h1 h2 h4
    obtain ⟨z, hz, rfl⟩ := by simpa using hj
    obtain ⟨hl, rfl⟩ := List.getElem?_eq_some_iff.1 hz
    have hc := (h3 j hl).2
    simp [List.getD_eq_getElem?_getD, hl] at hc
    exact ⟨ad, h1, hc⟩
theorem Equal_len (p q : List Int) (A B : Option Addr) (c d : Nat) (w : World) (hne : p.length ≠ q.length) :
    Calls Try.prog 62 #[.slice A p.length c, .slice B q.length d] w fun e w' => e = .returned (.bool false) ∧ Drawn w w' := by
  have h1 : ((p.length : Int) != (q.length : Int)) = true := by
    rw [bne_iff_ne]
    omega
  have h2 : ((p.length : Int) == (q.length : Int)) = false := beq_eq_false_iff_ne.2 (by omega)
  generalize p.length = m at *
  generalize q.length = n at *
  clear hne
  go_enter Try.func62, Try.ntmps62
  go_wp2
  go_ret
  exact ⟨rfl, Drawn.refl _⟩
theorem take_step {p q : List Int} {i : Nat} (h : p.take i = q.take i) (hp : i < p.length) (hq : i < q.length) (e : p.getD i 0 = q.getD i 0) : p.take (i + 1) = q.take (i + 1) := by
  rw [List.take_add_one, List.take_add_one, h, List.getElem?_eq_getElem hp, List.getElem?_eq_getElem hq]
  simp [List.getD_eq_getElem?_getD, hp, hq] at e
  rw [e]
set_option maxHeartbeats 4000000 in
set_option maxRecDepth 100000 in
theorem Equal_i (p q : List Int) (A B : Option Addr) (c d : Nat) (w : World) (hA : CAt w A (p.map (Value.int .i64))) (hB : CAt w B (q.map (Value.int .i64))) (hl : p.length ≤ 1000000) :
    Calls Try.prog 62 #[.slice A p.length c, .slice B q.length d] w fun e w' => e = .returned (.bool (decide (p = q))) ∧ Drawn w w' := by
  by_cases hpq : p.length = q.length
  case neg =>
    rw [decide_eq_false (fun e => hpq (by rw [e]))]
    exact Equal_len p q A B c d w hpq
  rw [← hpq]
  have HA := Lib.hid hA
  have HB := Lib.hid hB
  have HQ := Lib.hid hpq
  clear hA hB hpq
  obtain ⟨r, hr⟩ : ∃ r, decide (p = q) = r := ⟨_, rfl⟩
  rw [hr]
  have HR := Lib.hid hr
  clear hr
  go_enter Try.func62, Try.ntmps62
  go_wp2_with fail
  go_loopw [13] (fun v13 wx => ∃ i : Nat, i ≤ p.length ∧ v13 = .int .i64 i ∧ Hid (p.take i = q.take i) ∧ Hid (Drawn w wx)) (fun v13 _ => p.length - (intOf v13).toNat)
  case atStart => exact ⟨0, Nat.zero_le _, rfl, Lib.hid rfl, Lib.hid (Drawn.refl _)⟩
  case round =>
    obtain ⟨i, hi, rfl, HT, HU⟩ := hrel
    by_cases hlt : i < p.length
    · have hlq : i < q.length := by rw [← HQ.out]; exact hlt
      obtain ⟨ad, rfl, k0⟩ := HA.out.up HU.out.up i (.int .i64 (p.getD i 0)) (by simp [List.getD_eq_getElem?_getD, hlt])
      obtain ⟨bd, rfl, k1⟩ := HB.out.up HU.out.up i (.int .i64 (q.getD i 0)) (by simp [List.getD_eq_getElem?_getD, hlq])
      have HS := Lib.hid (fun e => take_step HT.out hlt hlq e)
      have HNE : Hid (p.getD i 0 ≠ q.getD i 0 → r = false) := Lib.hid (fun hne => by
        rw [← HR.out]
        exact decide_eq_false (fun e => hne (by rw [e])))
      clear hlq
      by_cases e : p.getD i 0 = q.getD i 0
      · have HS2 := Lib.hid (HS.out e)
        rw [← e] at k1
        clear e HS HNE
        generalize p.getD i 0 = x at *
        go_upto_region 6 with fail
        go_quiet (fail)
        go_wp2
        go_roundw
        case rel => exact ⟨i + 1, by omega, by go_num, HS2, Lib.hid (HU.out.step _)⟩
        case measure => simp [intOf]; omega
      · have HN2 := Lib.hid (HNE.out e)
        have e1 : (p.getD i 0 == q.getD i 0) = false := beq_eq_false_iff_ne.2 e
        have e2 : (p.getD i 0 != q.getD i 0) = true := by rw [bne, e1]; rfl
        clear e HS HNE
        generalize p.getD i 0 = x at *
        generalize q.getD i 0 = y at *
        go_upto_region 6 with fail
        go_quiet (fail)
        go_wp2
        go_ret
        exact ⟨by rw [HN2.out]; rfl, HU.out.step _⟩
    · obtain rfl : i = p.length := by omega
      go_wp2
      go_ret
      refine ⟨?_, HU.out⟩
      have h := HT.out
      rw [List.take_length, HQ.out, List.take_length] at h
      rw [← HR.out, decide_eq_true h]
      rfl
end Go.Proofs.Ytiofdkkjjeljmaa.Equal
