/- The reference's Same of chapter 09. -/
import Derived.Test.YtiofdkkjjeljmaaRef09l
import Derived.Test.YtiofdkkjjeljmaaMbSame0
import Derived.Test.YtiofdkkjjeljmaaArrEq
namespace Go.Proofs.Ytiofdkkjjeljmaa.Ref09
set_option linter.unusedVariables false
set_option linter.unusedSimpArgs false
open Go.RowKit Go.Proofs.Ytiofdkkjjeljmaa.Sep Go.Proofs.Ytiofdkkjjeljmaa.Mb

/-- What is read of the reference's mailboxes. -/
def RRow (w : World) (A : Option Addr) (S : List MC) : Prop := ∀ i, i < S.length → ∃ g o Ai ci, A = some ⟨g, o, none⟩ ∧ (∀ j, j < 8 → w.cell? ⟨g, o + (i * 9 + j), none⟩ = some (.bool ((S.getD i default).m.testBit j))) ∧ w.cell? ⟨g, o + (i * 9 + 8), none⟩ = some (.slice Ai (S.getD i default).q.length ci) ∧ (∀ j, j < (S.getD i default).q.length → ∃ g2 o2, Ai = some ⟨g2, o2, none⟩ ∧ w.cell? ⟨g2, o2 + j * 2, none⟩ = some (.int .i64 (((S.getD i default).q.getD j default).f : Int)) ∧ w.cell? ⟨g2, o2 + j * 2 + 1, none⟩ = some (.int .i64 (((S.getD i default).q.getD j default).w : Int)))
theorem RRow.up {w w' : World} {A : Option Addr} {S : List MC} (h : RRow w A S) (hu : Up w w') : RRow w' A S := fun i hi => by
  obtain ⟨g, o, Ai, ci, h1, h2, h3, h4⟩ := h i hi
  refine ⟨g, o, Ai, ci, h1, fun j hj => cell_up hu (h2 j hj), cell_up hu h3, fun j hj => ?_⟩
  obtain ⟨g2, o2, e, a, b⟩ := h4 j hj
  exact ⟨g2, o2, e, cell_up hu a, cell_up hu b⟩
theorem rb_row {P0 : Nat → Prop} {w0 w : World} {F : List Rg} {V : Value} {S : List MC} (h : St P0 w0 w (rb V S :: F)) : ∃ A c, V = .slice A S.length c ∧ RRow w A S := by
  obtain ⟨A, c, rfl, -⟩ := rb_form h
  refine ⟨A, c, rfl, fun i hi => ?_⟩
  obtain ⟨g, o, c', Ai, ci, e, h1, h2, h3⟩ := rb_core h i hi
  obtain ⟨rfl, -, rfl⟩ := Value.slice.inj e
  obtain ⟨_, _, e2, -, -, h4⟩ := il_form h3.right
  cases e2
  exact ⟨g, o, Ai, ci, rfl, h1, h2, h4⟩
theorem bl_at (m j : Nat) (hj : j < 8) : (bl m)[j]? = some (m.testBit j) := by
  simp [bl, hj]
theorem bits_eq {m m' : Nat} (h : m < 256) (h' : m' < 256) (hb : ∀ j, j < 8 → m.testBit j = m'.testBit j) : m = m' := by
  refine Nat.eq_of_testBit_eq fun i => ?_
  by_cases hi : i < 8
  · exact hb i hi
  · have p : 2 ^ 8 ≤ 2 ^ i := Nat.pow_le_pow_right (by omega) (by omega)
    rw [Nat.testBit_lt_two_pow (by omega), Nat.testBit_lt_two_pow (by omega)]
theorem eq_bits (m m' : Nat) (wx : World) : (Op.equalIn 10000 69 (.agg #[.bool (m.testBit 0), .bool (m.testBit 1), .bool (m.testBit 2), .bool (m.testBit 3), .bool (m.testBit 4), .bool (m.testBit 5), .bool (m.testBit 6), .bool (m.testBit 7)]) (.agg #[.bool (m'.testBit 0), .bool (m'.testBit 1), .bool (m'.testBit 2), .bool (m'.testBit 3), .bool (m'.testBit 4), .bool (m'.testBit 5), .bool (m'.testBit 6), .bool (m'.testBit 7)])).run Try.prog wx = .ok (bl m == bl m') wx :=
  ArrEq.bools wx 69 4 8 Try.underlying69 Try.underlying4 (fun _ => by kernel_rfl) (bl m) (bl m') rfl rfl
set_option maxHeartbeats 8000000 in
set_option maxRecDepth 100000 in
theorem Same_r {w : World} {S T : List MC} (A B : Option Addr) (c d : Nat) (h8 : S.length ≤ 8) (hS : ∀ C ∈ S, C.q.length ≤ 16) (hT : ∀ C ∈ T, C.q.length ≤ 16) (ha : RRow w A S) (hb : RRow w B T) :
    Calls Try.prog 51 #[.slice A S.length c, .slice B T.length d] w fun e w' => e = .returned (.bool (eqB S T)) ∧ Up w w' := by
  have HA := Lib.hid ha
  have HB := Lib.hid hb
  have H16 : Hid (∀ i, (S.getD i default).q.length ≤ 16) := Lib.hid fun i => by
    rw [List.getD_eq_getElem?_getD]
    by_cases hi : i < S.length
    · rw [List.getElem?_eq_getElem hi]
      exact hS _ (List.getElem_mem hi)
    · rw [List.getElem?_eq_none (by omega)]
      exact Nat.zero_le _
  clear ha hb hS hT
  by_cases hl : S.length = T.length
  case neg =>
    rw [eqB_no (fun e => hl (by rw [e]))]
    have h1 : ((S.length : Int) != (T.length : Int)) = true := by
      rw [bne_iff_ne]
      omega
    clear hl
    go_enter Try.func51, Try.ntmps51
    go_wp2
    go_ret
    exact ⟨rfl, Up.refl _⟩
  have HL := Lib.hid hl
  rw [← hl]
  obtain ⟨r, hr⟩ : ∃ r, eqB S T = r := ⟨_, rfl⟩
  rw [hr]
  have HR := Lib.hid hr
  clear hr
  obtain ⟨n, hn⟩ : ∃ n, S.length = n := ⟨_, rfl⟩
  rw [hn] at h8 ⊢
  have HN := Lib.hid hn
  clear hl hn
  go_enter Try.func51, Try.ntmps51
  go_wp2_with fail
  go_loopw [5] (fun v5 wx => ∃ i : Nat, i ≤ n ∧ v5 = .int .i64 i ∧ Hid (Up w wx) ∧ Hid (∀ j, j < i → S.getD j default = T.getD j default)) (fun v5 _ => n - (intOf v5).toNat)
  case atStart => exact ⟨0, Nat.zero_le _, rfl, Lib.hid (Up.refl _), Lib.hid (fun j hj => by omega)⟩
  case round =>
    obtain ⟨i, hi, rfl, HU, HE⟩ := hrel
    by_cases hlt : i < n
    · obtain ⟨g, o, Ai, ci, rfl, hk, k8, hql⟩ := HA.out.up HU.out i (by rw [HN.out]; exact hlt)
      obtain ⟨g', o', Bi, di, rfl, hj, j8, hqr⟩ := HB.out.up HU.out i (by rw [← HL.out, HN.out]; exact hlt)
      rw [← Nat.add_assoc] at k8 j8
      have HQL := Lib.hid hql
      have HQR := Lib.hid hqr
      have k0 : wr.cell? ⟨g, o + i * 9, none⟩ = some (.bool ((S.getD i default).m.testBit 0)) := hk 0 (by omega)
      have k1 := hk 1 (by omega)
      rw [← Nat.add_assoc] at k1
      have k2 := hk 2 (by omega)
      rw [← Nat.add_assoc] at k2
      have k3 := hk 3 (by omega)
      rw [← Nat.add_assoc] at k3
      have k4 := hk 4 (by omega)
      rw [← Nat.add_assoc] at k4
      have k5 := hk 5 (by omega)
      rw [← Nat.add_assoc] at k5
      have k6 := hk 6 (by omega)
      rw [← Nat.add_assoc] at k6
      have k7 := hk 7 (by omega)
      rw [← Nat.add_assoc] at k7
      have j0 : wr.cell? ⟨g', o' + i * 9, none⟩ = some (.bool ((T.getD i default).m.testBit 0)) := hj 0 (by omega)
      have j1 := hj 1 (by omega)
      rw [← Nat.add_assoc] at j1
      have j2 := hj 2 (by omega)
      rw [← Nat.add_assoc] at j2
      have j3 := hj 3 (by omega)
      rw [← Nat.add_assoc] at j3
      have j4 := hj 4 (by omega)
      rw [← Nat.add_assoc] at j4
      have j5 := hj 5 (by omega)
      rw [← Nat.add_assoc] at j5
      have j6 := hj 6 (by omega)
      rw [← Nat.add_assoc] at j6
      have j7 := hj 7 (by omega)
      rw [← Nat.add_assoc] at j7
      have hq16 := H16.out i
      have hmS := (S.getD i default).hm
      have hmT := (T.getD i default).hm
      have HX : (S.getD i default ≠ T.getD i default) → Hid (false = r) := fun he => Lib.hid (by rw [← HR.out]; exact (eqB_no fun e => he (by rw [e])).symm)
      have HY : (S.getD i default = T.getD i default) → Hid (∀ j, j < i + 1 → S.getD j default = T.getD j default) := fun he => Lib.hid fun j hj => by
        by_cases e : j = i
        · subst e
          exact he
        · exact HE.out j (by omega)
      have HX := Lib.hid HX
      have HY := Lib.hid HY
      clear hk hj hql hqr HE
      generalize S.getD i default = C at *
      generalize T.getD i default = D at *
      have i0 : (0 : Int) ≤ (i : Int) := by omega
      have i1 : (i : Int) < (n : Int) := by omega
      by_cases hm : C.m = D.m
      · rw [← hm] at j0 j1 j2 j3 j4 j5 j6 j7
        have hE := fun wx => eq_bits C.m C.m wx
        rw [beq_self_eq_true] at hE
        have HM := Lib.hid hm
        generalize C.m.testBit 0 = b0 at k0 j0 hE
        generalize C.m.testBit 1 = b1 at k1 j1 hE
        generalize C.m.testBit 2 = b2 at k2 j2 hE
        generalize C.m.testBit 3 = b3 at k3 j3 hE
        generalize C.m.testBit 4 = b4 at k4 j4 hE
        generalize C.m.testBit 5 = b5 at k5 j5 hE
        generalize C.m.testBit 6 = b6 at k6 j6 hE
        generalize C.m.testBit 7 = b7 at k7 j7 hE
        by_cases hlen : C.q.length = D.q.length
        · have HLN := Lib.hid hlen
          rw [← hlen] at j8
          obtain ⟨mq, hnq⟩ : ∃ mq, C.q.length = mq := ⟨_, rfl⟩
          rw [hnq] at j8 k8 hq16
          have HNQ := Lib.hid hnq
          clear hlen hnq hm hmS hmT
          go_upto_region 6 with fail
          go_quiet (fail)
          clear hE k0 j0 k1 j1 k2 j2 k3 j3 k4 j4 k5 j5 k6 j6 k7 j7
          go_wp2_with fail
          obtain ⟨W, rfl⟩ : ∃ W, W = wr := ⟨_, rfl⟩
          have HUW : Hid (Up W (W.drewN nq)) := Lib.hid ((Up.refl W).drewN nq)
          have k8w := cell_up HUW.out k8
          have j8w := cell_up HUW.out j8
          go_loopw [6] (fun v6 wx => ∃ k : Nat, k ≤ mq ∧ v6 = .int .i64 k ∧ Hid (Up W wx) ∧ Hid (∀ j, j < k → C.q.getD j default = D.q.getD j default)) (fun v6 _ => mq - (intOf v6).toNat)
          case atStart => exact ⟨0, Nat.zero_le _, rfl, HUW, Lib.hid (fun j hj => by omega)⟩
          case round =>
            clear HUW k8w j8w
            obtain ⟨k, hk, rfl, HUi, HEi⟩ := hrel
            have x8 := cell_up HUi.out k8
            have y8 := cell_up HUi.out j8
            by_cases hlt2 : k < mq
            · obtain ⟨g2, o2, rfl, a0, a1⟩ := HQL.out k (by rw [HNQ.out]; exact hlt2)
              obtain ⟨g3, o3, rfl, c0, c1⟩ := HQR.out k (by rw [← HLN.out, HNQ.out]; exact hlt2)
              have a0 := cell_up HUi.out a0
              have a1 := cell_up HUi.out a1
              have c0 := cell_up HUi.out c0
              have c1 := cell_up HUi.out c1
              have HX2 : Hid (C.q.getD k default ≠ D.q.getD k default → false = r) := Lib.hid fun he => (HX.out (fun e => he (by rw [e]))).out
              have HY2 : Hid (C.q.getD k default = D.q.getD k default → (∀ j, j < k + 1 → C.q.getD j default = D.q.getD j default)) := Lib.hid fun he j hj => by
                by_cases e : j = k
                · subst e
                  exact he
                · exact HEi.out j (by omega)
              clear HX HY HQL HQR HEi k8 j8
              generalize C.q.getD k default = x at *
              generalize D.q.getD k default = y at *
              have k0' : (0 : Int) ≤ (k : Int) := by omega
              have k1' : (k : Int) < (mq : Int) := by omega
              by_cases hxy : x = y
              · subst hxy
                have HY3 := Lib.hid (HY2.out rfl)
                clear HX2 HY2
                go_upto_region 11 with fail
                go_quiet (fail)
                have HU3 := Lib.hid (HUi.out.drewN nq)
                clear x8 y8 a0 a1 c0 c1
                go_wp2
                go_roundw
                case rel => exact ⟨k + 1, by omega, by go_num, HU3, HY3⟩
                case measure => simp [intOf]; omega
              · have HX3 := Lib.hid (HX2.out hxy)
                have hd : ((x.f : Int) == (y.f : Int)) = false ∨ (x.f = y.f ∧ ((x.w : Int) == (y.w : Int)) = false) := by
                  by_cases e : x.f = y.f
                  · refine .inr ⟨e, beq_eq_false_iff_ne.2 fun e2 => hxy ?_⟩
                    obtain ⟨f, v, _, _⟩ := x
                    obtain ⟨f', v', _, _⟩ := y
                    simp only at e e2
                    subst e
                    obtain rfl : v = v' := by omega
                    rfl
                  · exact .inl (beq_eq_false_iff_ne.2 fun e2 => e (by omega))
                clear HX2 HY2 hxy
                rcases hd with hd | ⟨hd1, hd⟩
                · go_upto_region 11 with fail
                  go_quiet (fail)
                  have HU3 := Lib.hid (Up.trans HU.out (HUi.out.drewN nq))
                  go_wp2
                  go_ret
                  exact ⟨by rw [HX3.out]; rfl, HU3.out⟩
                · rw [hd1] at a0
                  clear hd1
                  go_upto_region 11 with fail
                  go_quiet (fail)
                  have HU3 := Lib.hid (Up.trans HU.out (HUi.out.drewN nq))
                  go_wp2
                  go_ret
                  exact ⟨by rw [HX3.out]; rfl, HU3.out⟩
            · obtain rfl : k = mq := by omega
              have HY3 := Lib.hid ((HY.out (mc_eq HM.out (congrArg (List.map enc) (List.ext_getElem HLN.out fun j h1 h2 => by
                have := HEi.out j (by have := HNQ.out; omega)
                simpa [List.getD_eq_getElem?_getD, h1, h2] using this)))).out)
              have HU3 := Lib.hid (Up.trans HU.out HUi.out)
              clear HX HY HQL HQR HEi k8 j8
              go_wp2
              go_roundw
              case rel => exact ⟨i + 1, by omega, by go_num, HU3, HY3⟩
              case measure => simp [intOf]; omega
        · have HXX := HX.out (fun e => hlen (by rw [e]))
          have hne : ((C.q.length : Int) != (D.q.length : Int)) = true := by
            rw [bne_iff_ne]
            omega
          clear hlen hm hmS hmT HX HY
          generalize C.q.length = q1 at *
          generalize D.q.length = q2 at *
          go_upto_region 6 with fail
          go_quiet (fail)
          have HU1 := Lib.hid (HU.out.drewN nq)
          go_wp2
          go_ret
          exact ⟨by rw [HXX.out]; rfl, HU1.out⟩
      · have HXX := HX.out (fun e => hm (by rw [e]))
        have hE := fun wx => eq_bits C.m D.m wx
        have hbf : (bl C.m == bl D.m) = false := by
          rw [beq_eq_false_iff_ne]
          intro e
          refine hm (bits_eq hmS hmT fun j hj => ?_)
          have h1 := bl_at C.m j hj
          have h2 := bl_at D.m j hj
          rw [e] at h1
          exact Option.some.inj (h1.symm.trans h2)
        rw [hbf] at hE
        clear hm hmS hmT HX HY hbf
        generalize C.m.testBit 0 = b0 at k0 hE
        generalize D.m.testBit 0 = d0 at j0 hE
        generalize C.m.testBit 1 = b1 at k1 hE
        generalize D.m.testBit 1 = d1 at j1 hE
        generalize C.m.testBit 2 = b2 at k2 hE
        generalize D.m.testBit 2 = d2 at j2 hE
        generalize C.m.testBit 3 = b3 at k3 hE
        generalize D.m.testBit 3 = d3 at j3 hE
        generalize C.m.testBit 4 = b4 at k4 hE
        generalize D.m.testBit 4 = d4 at j4 hE
        generalize C.m.testBit 5 = b5 at k5 hE
        generalize D.m.testBit 5 = d5 at j5 hE
        generalize C.m.testBit 6 = b6 at k6 hE
        generalize D.m.testBit 6 = d6 at j6 hE
        generalize C.m.testBit 7 = b7 at k7 hE
        generalize D.m.testBit 7 = d7 at j7 hE
        generalize C.q.length = q1 at *
        generalize D.q.length = q2 at *
        go_upto_region 6 with fail
        go_quiet (fail)
        have HU1 := Lib.hid (HU.out.drewN nq)
        go_wp2
        go_ret
        exact ⟨by rw [HXX.out]; rfl, HU1.out⟩
    · obtain rfl : i = n := by omega
      have HX : Hid (true = r) := Lib.hid (by
        rw [← HR.out]
        refine (eqB_yes ?_).symm
        refine List.ext_getElem (HL.out) fun j h1 h2 => ?_
        have := HE.out j (by have := HN.out; omega)
        simpa [List.getD_eq_getElem?_getD, h1, h2] using this)
      clear HE
      go_wp2
      go_ret
      exact ⟨by rw [HX.out]; rfl, HU.out⟩
end Go.Proofs.Ytiofdkkjjeljmaa.Ref09
