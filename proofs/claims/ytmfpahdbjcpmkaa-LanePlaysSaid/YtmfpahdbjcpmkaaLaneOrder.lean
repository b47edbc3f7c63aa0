/- LaneOrder, walked: the loop. -/
import Derived.Test.YtmfpahdbjcpmkaaLaneRows
import Derived.Deep.AppendLies
import Derived.Laws.AppendOwnNone
import Derived.Test.YtmfpahdbjcpmkaaSame
namespace Go.Proofs.Ytmfpahdbjcpmkaa.Lane
set_option linter.unusedVariables false
set_option linter.unusedSimpArgs false
open Go.RowKit Go.Proofs.YtmfpahdbjcpmkaaW.PrintWords

theorem int_info : ∃ t0, Try.prog.info? 3 = some t0 ∧ t0.zero = some (.int .i64 0) ∧ t0.size = 1 ∧ t0.bytes = 8 := by
  have h := info_int
  cases hi : Try.prog.info? 3 with
  | none => rw [hi] at h; cases h
  | some i =>
    rw [hi] at h
    simp at h
    exact ⟨i, rfl, h.1, h.2.1, h.2.2⟩
set_option maxHeartbeats 8000000 in
set_option maxRecDepth 100000 in
theorem order_walk (n : Nat) (h1 : 1 ≤ n) (h2 : n ≤ 64) (A : Option Addr) (c : Nat) (ops : List (Int × Int)) (w : World) (hr : OpsAt w A ops) (hl : ops.length ≤ 150) :
    Calls Try.prog 4 #[.int .i64 n, .slice A ops.length c] w fun e w' => e = .returned (.bool true) ∧ Up w w' := by
  have HR := Lib.hid hr
  clear hr
  obtain ⟨t0, ht0, hz0, hz1, hz2⟩ := int_info
  have hgt : decide ((ops.length : Int) > 150) = false := decide_eq_false (by omega)
  go_enter Try.func4, Try.ntmps4
  go_wp2_with fail
  refine (New_ok n h1 h2 w).mono ?_
  rintro e w1 ⟨b, R, rfl, hL, hU, hb, hR⟩
  have HQ0 : Hid (QAt w1 b R n []) := Lib.hid ⟨_, _, hL, by simp, rfl⟩
  have HU0 := Lib.hid hU
  clear hL hU
  go_wp2
  go_loopw [24, 6, 7] (fun v24 v6 v7 wx => ∃ (i : Nat) (put taken q : List Int), i ≤ ops.length ∧ v24 = .int .i64 i ∧ put.length ≤ i ∧ Hid (put = taken ++ q) ∧ Hid (QAt wx b R n q) ∧ Hid (wx.ownsRow w1.heap.size 3 1 v6 put.length (put.map (Value.int .i64))) ∧ Hid (wx.ownsRow w1.heap.size 3 1 v7 taken.length (taken.map (Value.int .i64))) ∧ Hid (Apart v6 v7) ∧ Hid (Up w wx) ∧ w1.heap.size ≤ wx.heap.size) (fun v24 _ _ _ => ops.length - (intOf v24).toNat)
  case atStart => exact ⟨0, [], [], [], Nat.zero_le _, rfl, Nat.le_refl _, Lib.hid rfl, HQ0, Lib.hid (World.ownsRow_nil _ _ _ _), Lib.hid (World.ownsRow_nil _ _ _ _), Lib.hid (fun g h => by cases h), HU0, Nat.le_refl _⟩
  case round =>
    obtain ⟨i, put, taken, q, hi, rfl, hpl, HE, HQ, HP, HT, HN, HU, hsz⟩ := hrel
    by_cases hlt : i < ops.length
    · obtain ⟨ad, rfl, k0, k1⟩ := HR.out i hlt
      have c0 : wr.cell? (ad.add (i * 2)) = some (.int .i64 (ops.getD i (0, 0)).1) := pw_cell_below HU.out k0
      have c1 : wr.cell? ⟨(ad.add (i * 2)).block, (ad.add (i * 2)).off + 1, none⟩ = some (.int .i64 (ops.getD i (0, 0)).2) := by
        have := pw_cell_below HU.out k1
        rw [← Go.Deep.add_add] at this
        exact this
      clear k0 k1
      generalize (ops.getD i (0, 0)).1 = a at *
      generalize (ops.getD i (0, 0)).2 = x at *
      have hbw := HQ.out.lt
      have hQ1 := Lib.hid (HQ.out.up ((Up.refl wr).alloc (.cells #[.int .i64 a, .int .i64 x] 38)))
      have hP1 := Lib.hid (HP.out.alloc (.cells #[.int .i64 a, .int .i64 x] 38))
      have hT1 := Lib.hid (HT.out.alloc (.cells #[.int .i64 a, .int .i64 x] 38))
      have hU1 : Hid (Up w (wr.alloc (.cells #[.int .i64 a, .int .i64 x] 38))) := Lib.hid (Up.alloc HU.out _)
      by_cases ha2 : a = 2
      · subst ha2
        go_wp2
        go_roundw
        case rel => exact ⟨i + 1, put, taken, q, by omega, by go_num, by omega, HE, hQ1, hP1, hT1, HN, hU1, by simp; omega⟩
        case measure => simp [intOf]; omega
      · have e2 : (a == 2) = false := beq_eq_false_iff_ne.2 ha2
        have hD := Lib.hid (do_q b R n q a x _ hQ1.out)
        have hle := HQ.out.le
        have hb1 := HQ0.out.lt
        by_cases ha0 : a = 0
        · subst ha0
          by_cases hqn : q.length = n
          · have E : doL n q 0 x = (q, 0, 5) := by simp [doL, hqn]
            rw [E] at hD
            dsimp only at hD
            clear E
            go_wp2_with fail
            refine hD.out.mono ?_
            rintro e w2 ⟨rfl, hq, ho⟩
            have hlq := hq.le
            have HQ2 := Lib.hid hq
            have d0 : w2.cell? ⟨wr.heap.size, 0, none⟩ = some (.int .i64 0) := cell_of_block ((ho.block wr.heap.size (by simp) (by omega) (by omega)).trans (block_new wr _)) 0
            have d1 : w2.cell? ⟨wr.heap.size, 1, none⟩ = some (.int .i64 x) := cell_of_block ((ho.block wr.heap.size (by simp) (by omega) (by omega)).trans (block_new wr _)) 1
            have HP2 := Lib.hid (own_off hP1.out ho (own_far hP1.out hb1.1) (own_far hP1.out hb1.2))
            have HT2 := Lib.hid (own_off hT1.out ho (own_far hT1.out hb1.1) (own_far hT1.out hb1.2))
            have HU2 : Hid (Up w w2) := Lib.hid (Up.of_off hU1.out ho hb hR)
            have hs2 : wr.heap.size + 1 ≤ w2.heap.size := by have := ho.size; simpa using this
            have hcmp : decide (((q).length : Int) > (n : Int)) = false := decide_eq_false (by omega)
            clear hq ho hD
            go_wp2_with (first | (go_at_call 14; refine (Len_q b R n _ _ HQ2.out).mono ?_; rintro e w' ⟨rfl, rfl⟩) | (go_at_call 15; refine (Cap_q b R n _ _ HQ2.out).mono ?_; rintro e w' ⟨rfl, rfl⟩))
            go_roundw
            case rel => exact ⟨i + 1, put, taken, q, by omega, by go_num, by omega, HE, HQ2, HP2, HT2, HN, HU2, by omega⟩
            case measure => simp [intOf]; omega
          · have E : doL n q 0 x = (q ++ [x], 0, 0) := by simp [doL, hqn]
            rw [E] at hD
            dsimp only at hD
            clear E
            go_wp2_with fail
            refine hD.out.mono ?_
            rintro e w2 ⟨rfl, hq, ho⟩
            have hlq := hq.le
            have HQ2 := Lib.hid hq
            have d0 : w2.cell? ⟨wr.heap.size, 0, none⟩ = some (.int .i64 0) := cell_of_block ((ho.block wr.heap.size (by simp) (by omega) (by omega)).trans (block_new wr _)) 0
            have d1 : w2.cell? ⟨wr.heap.size, 1, none⟩ = some (.int .i64 x) := cell_of_block ((ho.block wr.heap.size (by simp) (by omega) (by omega)).trans (block_new wr _)) 1
            have HP2 := Lib.hid (own_off hP1.out ho (own_far hP1.out hb1.1) (own_far hP1.out hb1.2))
            have HT2 := Lib.hid (own_off hT1.out ho (own_far hT1.out hb1.1) (own_far hT1.out hb1.2))
            have HU2 : Hid (Up w w2) := Lib.hid (Up.of_off hU1.out ho hb hR)
            have hs2 : wr.heap.size + 1 ≤ w2.heap.size := by have := ho.size; simpa using this
            have hcmp : decide (((q ++ [x]).length : Int) > (n : Int)) = false := decide_eq_false (by omega)
            clear hq ho hD
            go_wp2_with (at_builtin; refine wpList_append_lies _ rfl (.tmp 45) (.tmp 48) 36 rfl w1.heap.size 3 t0 (.int .i64 0) 1 8 Try.underlying36 ht0 hz0 hz1 hz2 rfl (by decide) _ put.length _ rfl (HP2.out.alloc _) ⟨w2.heap.size, 0, none⟩ 1 1 [.int .i64 x] rfl (by simp) (World.news_of_block (cs := #[.int .i64 x]) (t := 3) (fr := (0, 0)) (heap_alloc_new w2 _)) (by simp [Value.oneCell']) (by omega) (by unfold maxLen; omega) (by omega) (by simp; omega) (w2.heap.size + 1) (by simp) ?_)
            intro gg cap w3 hown3 hgrow hat hlt3
            have lV : ∀ q, u6.ownBlock = some q → w1.heap.size ≤ q ∧ q < wr.heap.size := fun q hq => HP.out.lt q hq
            have HQ3 : Hid (QAt w3 b R n _) := Lib.hid ((HQ2.out.up ((Up.refl w2).alloc _)).grown hgrow (fun hq => by have := lV _ hq; omega) (fun hq => by have := lV _ hq; omega))
            have HU3 : Hid (Up w w3) := Lib.hid (Up.trans_grown (Up.alloc HU2.out _) hgrow (fun q hq => by have := lV q hq; have := HU0.out.size; omega))
            have d0' : w3.cell? ⟨wr.heap.size, 0, none⟩ = some (.int .i64 0) := by
              rw [hgrow.cell_far _ (by simp; omega) (fun hq => by have := lV _ hq.symm; simp at this)]
              exact pw_cell_below ((Up.refl w2).alloc _) d0
            have hs3 : w1.heap.size ≤ w3.heap.size := by have := hgrow.size; simp at this; omega
            have HT3 : Hid (w3.ownsRow w1.heap.size 3 1 u7 taken.length (taken.map (Value.int .i64))) := Lib.hid ((HT2.out.alloc _).kept hgrow (by
              cases h7 : u7.ownBlock with
              | none => exact .inl rfl
              | some g7 => exact .inr (fun h => HN.out g7 h.symm h7)))
            have HP3 : Hid (w3.ownsRow w1.heap.size 3 1 (.slice (some ⟨gg, 0, none⟩) (put.length + 1) cap) (put ++ [x]).length ((put ++ [x]).map (Value.int .i64))) := Lib.hid (by
              rw [List.length_append, List.map_append]
              exact hown3)
            have HN3 : Hid (Apart (.slice (some ⟨gg, 0, none⟩) (put.length + 1) cap) u7) := Lib.hid (fun g h6 h7 => by
              have e6 : gg = g := by simpa [Value.ownBlock] using h6
              subst e6
              rcases hat with h | h
              · exact HN.out gg h h7
              · have := (HT.out.lt gg h7).2
                omega)
            clear hown3 hgrow hat
            go_wp2_with (first | (go_at_call 14; refine (Len_q b R n _ _ HQ3.out).mono ?_; rintro e w' ⟨rfl, rfl⟩) | (go_at_call 15; refine (Cap_q b R n _ _ HQ3.out).mono ?_; rintro e w' ⟨rfl, rfl⟩))
            go_roundw
            case rel => exact ⟨i + 1, put ++ [x], taken, q ++ [x], by omega, by go_num, by simp; omega, Lib.hid (by rw [HE.out, List.append_assoc]), HQ3, HP3, HT3, HN3, HU3, hs3⟩
            case measure => simp [intOf]; omega
        · have e0 : (a == 0) = false := beq_eq_false_iff_ne.2 ha0
          by_cases ha1 : a = 1
          · subst ha1
            cases q with
            | nil =>
              have E : doL n [] 1 x = ([], 0, 6) := rfl
              rw [E] at hD
              dsimp only at hD
              clear E
              go_wp2_with fail
              refine hD.out.mono ?_
              rintro e w2 ⟨rfl, hq, ho⟩
              have hlq := hq.le
              have HQ2 := Lib.hid hq
              have d0 : w2.cell? ⟨wr.heap.size, 0, none⟩ = some (.int .i64 1) := cell_of_block ((ho.block wr.heap.size (by simp) (by omega) (by omega)).trans (block_new wr _)) 0
              have d1 : w2.cell? ⟨wr.heap.size, 1, none⟩ = some (.int .i64 x) := cell_of_block ((ho.block wr.heap.size (by simp) (by omega) (by omega)).trans (block_new wr _)) 1
              have HP2 := Lib.hid (own_off hP1.out ho (own_far hP1.out hb1.1) (own_far hP1.out hb1.2))
              have HT2 := Lib.hid (own_off hT1.out ho (own_far hT1.out hb1.1) (own_far hT1.out hb1.2))
              have HU2 : Hid (Up w w2) := Lib.hid (Up.of_off hU1.out ho hb hR)
              have hs2 : wr.heap.size + 1 ≤ w2.heap.size := by have := ho.size; simpa using this
              have hcmp : decide (((([] : List Int)).length : Int) > (n : Int)) = false := decide_eq_false (by omega)
              clear hq ho hD
              go_wp2_with (first | (go_at_call 14; refine (Len_q b R n _ _ HQ2.out).mono ?_; rintro e w' ⟨rfl, rfl⟩) | (go_at_call 15; refine (Cap_q b R n _ _ HQ2.out).mono ?_; rintro e w' ⟨rfl, rfl⟩))
              go_roundw
              case rel => exact ⟨i + 1, put, taken, [], by omega, by go_num, by omega, HE, HQ2, HP2, HT2, HN, HU2, by omega⟩
              case measure => simp [intOf]; omega
            | cons y t =>
              have hpt : taken.length + 1 ≤ put.length := by rw [HE.out]; simp
              have E : doL n (y :: t) 1 x = (t, y, 0) := rfl
              rw [E] at hD
              dsimp only at hD
              clear E
              go_wp2_with fail
              refine hD.out.mono ?_
              rintro e w2 ⟨rfl, hq, ho⟩
              have hlq := hq.le
              have HQ2 := Lib.hid hq
              have d0 : w2.cell? ⟨wr.heap.size, 0, none⟩ = some (.int .i64 1) := cell_of_block ((ho.block wr.heap.size (by simp) (by omega) (by omega)).trans (block_new wr _)) 0
              have d1 : w2.cell? ⟨wr.heap.size, 1, none⟩ = some (.int .i64 x) := cell_of_block ((ho.block wr.heap.size (by simp) (by omega) (by omega)).trans (block_new wr _)) 1
              have HP2 := Lib.hid (own_off hP1.out ho (own_far hP1.out hb1.1) (own_far hP1.out hb1.2))
              have HT2 := Lib.hid (own_off hT1.out ho (own_far hT1.out hb1.1) (own_far hT1.out hb1.2))
              have HU2 : Hid (Up w w2) := Lib.hid (Up.of_off hU1.out ho hb hR)
              have hs2 : wr.heap.size + 1 ≤ w2.heap.size := by have := ho.size; simpa using this
              have hcmp : decide (((t).length : Int) > (n : Int)) = false := decide_eq_false (by omega)
              clear hq ho hD
              go_wp2_with (at_builtin; refine wpList_append_lies _ rfl (.tmp 58) (.tmp 60) 36 rfl w1.heap.size 3 t0 (.int .i64 0) 1 8 Try.underlying36 ht0 hz0 hz1 hz2 rfl (by decide) _ taken.length _ rfl (HT2.out.alloc _) ⟨w2.heap.size, 0, none⟩ 1 1 [.int .i64 y] rfl (by simp) (World.news_of_block (cs := #[.int .i64 y]) (t := 3) (fr := (0, 0)) (heap_alloc_new w2 _)) (by simp [Value.oneCell']) (by omega) (by unfold maxLen; omega) (by omega) (by simp; omega) (w2.heap.size + 1) (by simp) ?_)
              intro gg cap w3 hown3 hgrow hat hlt3
              have lV : ∀ q, u7.ownBlock = some q → w1.heap.size ≤ q ∧ q < wr.heap.size := fun q hq => HT.out.lt q hq
              have HQ3 : Hid (QAt w3 b R n _) := Lib.hid ((HQ2.out.up ((Up.refl w2).alloc _)).grown hgrow (fun hq => by have := lV _ hq; omega) (fun hq => by have := lV _ hq; omega))
              have HU3 : Hid (Up w w3) := Lib.hid (Up.trans_grown (Up.alloc HU2.out _) hgrow (fun q hq => by have := lV q hq; have := HU0.out.size; omega))
              have d0' : w3.cell? ⟨wr.heap.size, 0, none⟩ = some (.int .i64 1) := by
                rw [hgrow.cell_far _ (by simp; omega) (fun hq => by have := lV _ hq.symm; simp at this)]
                exact pw_cell_below ((Up.refl w2).alloc _) d0
              have hs3 : w1.heap.size ≤ w3.heap.size := by have := hgrow.size; simp at this; omega
              have HP3 : Hid (w3.ownsRow w1.heap.size 3 1 u6 put.length (put.map (Value.int .i64))) := Lib.hid ((HP2.out.alloc _).kept hgrow (by
                cases h6 : u6.ownBlock with
                | none => exact .inl rfl
                | some g6 => exact .inr (fun h => HN.out g6 h6 h.symm)))
              have HT3 : Hid (w3.ownsRow w1.heap.size 3 1 (.slice (some ⟨gg, 0, none⟩) (taken.length + 1) cap) (taken ++ [y]).length ((taken ++ [y]).map (Value.int .i64))) := Lib.hid (by
                rw [List.length_append, List.map_append]
                exact hown3)
              have HN3 : Hid (Apart u6 (.slice (some ⟨gg, 0, none⟩) (taken.length + 1) cap)) := Lib.hid (fun g h6 h7 => by
                have e7 : gg = g := by simpa [Value.ownBlock] using h7
                subst e7
                rcases hat with h | h
                · exact HN.out gg h6 h
                · have := (HP.out.lt gg h6).2
                  omega)
              clear hown3 hgrow hat
              go_wp2_with (first | (go_at_call 14; refine (Len_q b R n _ _ HQ3.out).mono ?_; rintro e w' ⟨rfl, rfl⟩) | (go_at_call 15; refine (Cap_q b R n _ _ HQ3.out).mono ?_; rintro e w' ⟨rfl, rfl⟩))
              go_roundw
              case rel => exact ⟨i + 1, put, taken ++ [y], t, by omega, by go_num, by omega, Lib.hid (by rw [HE.out, List.append_assoc]; rfl), HQ3, HP3, HT3, HN3, HU3, hs3⟩
              case measure => simp [intOf]; omega
          · have e1 : (a == 1) = false := beq_eq_false_iff_ne.2 ha1
            obtain ⟨y, er, E⟩ : ∃ y er, doL n q a x = (q, y, er) := by
              by_cases hx : 0 ≤ x ∧ x < q.length
              · exact ⟨q.getD x.toNat 0, 1, by simp only [doL, if_neg ha0, if_neg ha1, if_neg ha2, if_pos hx]⟩
              · exact ⟨0, 0, by simp only [doL, if_neg ha0, if_neg ha1, if_neg ha2, if_neg hx]⟩
            rw [E] at hD
            dsimp only at hD
            clear E
            go_wp2_with fail
            refine hD.out.mono ?_
            rintro e w2 ⟨rfl, hq, ho⟩
            have hlq := hq.le
            have HQ2 := Lib.hid hq
            have d0 : w2.cell? ⟨wr.heap.size, 0, none⟩ = some (.int .i64 a) := cell_of_block ((ho.block wr.heap.size (by simp) (by omega) (by omega)).trans (block_new wr _)) 0
            have d1 : w2.cell? ⟨wr.heap.size, 1, none⟩ = some (.int .i64 x) := cell_of_block ((ho.block wr.heap.size (by simp) (by omega) (by omega)).trans (block_new wr _)) 1
            have HP2 := Lib.hid (own_off hP1.out ho (own_far hP1.out hb1.1) (own_far hP1.out hb1.2))
            have HT2 := Lib.hid (own_off hT1.out ho (own_far hT1.out hb1.1) (own_far hT1.out hb1.2))
            have HU2 : Hid (Up w w2) := Lib.hid (Up.of_off hU1.out ho hb hR)
            have hs2 : wr.heap.size + 1 ≤ w2.heap.size := by have := ho.size; simpa using this
            have hcmp : decide (((q).length : Int) > (n : Int)) = false := decide_eq_false (by omega)
            clear hq ho hD
            go_wp2_with (first | (go_at_call 14; refine (Len_q b R n _ _ HQ2.out).mono ?_; rintro e w' ⟨rfl, rfl⟩) | (go_at_call 15; refine (Cap_q b R n _ _ HQ2.out).mono ?_; rintro e w' ⟨rfl, rfl⟩))
            go_roundw
            case rel => exact ⟨i + 1, put, taken, q, by omega, by go_num, by omega, HE, HQ2, HP2, HT2, HN, HU2, by omega⟩
            case measure => simp [intOf]; omega
    · obtain rfl : i = ops.length := by omega
      go_wp2_with fail
      refine (All_q b R n q _ HQ.out).mono ?_
      rintro e w3 ⟨v, rfl, hv, hu⟩
      have HU3 : Hid (Up w w3) := Lib.hid (Up.trans HU.out hu)
      have hb1 := HQ0.out.lt
      have hsw := hu.size
      have hP3 := own_off HP.out (Off.of_up (b := b) (R := R) hu) (own_far HP.out hb1.1) (own_far HP.out hb1.2)
      have hT3 := own_off HT.out (Off.of_up (b := b) (R := R) hu) (own_far HT.out hb1.1) (own_far HT.out hb1.2)
      have HP3 := Lib.hid hP3
      have HT3 := Lib.hid hT3
      have hpl2 : taken.length + q.length ≤ put.length := by rw [HE.out, List.length_append]; exact Nat.le_refl _
      have hlo := HU0.out.size
      clear hP3 hT3 hu
      rcases hv.2 with ⟨rfl, hq0⟩ | ⟨g, cap, cur, rfl, _⟩
      · obtain rfl := List.eq_nil_of_length_eq_zero hq0
        obtain ⟨A0, c0, rfl, hc0, hr0⟩ := reads_own HP3.out
        obtain ⟨A1, c1, rfl, hc1, hr1⟩ := reads_own HT3.out
        have hS := Lib.hid (Same_walk put taken A0 A1 c0 c1 w3 hr0 hc0 hr1 hc1 (by omega))
        have hE : decide (put = taken) = true := decide_eq_true (by rw [HE.out]; simp)
        rw [hE] at hS
        clear hr0 hr1 hE hv
        go_wp2_with (first | (at_builtin; refine wpList_append_own_none rfl (.tmp 69) (.tmp 71) 36 rfl w1.heap.size 3 t0 1 Try.underlying36 ht0 _ taken.length _ rfl HT3.out rfl ?_) | (go_at_call 16; refine hS.out.mono ?_; rintro e w' ⟨rfl, hd⟩; have HD := Lib.hid hd; clear hd) | (go_at_call 12; refine (alive_walk _).mono ?_; rintro e w5 ⟨rfl, hu⟩; have HA := Lib.hid hu; clear hu))
        go_ret
        exact ⟨rfl, Up.trans (Up.trans HU3.out HD.out.up) HA.out⟩
      · have HV := Lib.hid hv
        obtain ⟨A0, c0, rfl, hc0, _⟩ := reads_own HP3.out
        have hcells : ∀ j u, (q.map (Value.int .i64))[j]? = some u → w3.cell? ((⟨g, 0, none⟩ : Addr).add j) = some u := fun j u hj => hv.cells (by rfl) j u hj
        have HC := Lib.hid hcells
        clear hv hcells
        have H1 : ∀ u ∈ q.map (Value.int .i64), u.oneCell' = true := by
          intro u hu
          obtain ⟨z, _, rfl⟩ := List.mem_map.1 hu
          rfl
        have H1 := Lib.hid H1
        go_wp2_with (at_builtin; refine wpList_append_out _ rfl (.tmp 69) (.tmp 71) 36 rfl w1.heap.size 3 t0 (.int .i64 0) 1 8 Try.underlying36 ht0 hz0 hz1 hz2 rfl (by decide) _ taken.length _ rfl HT3.out ⟨g, 0, none⟩ q.length cap (q.map (Value.int .i64)) rfl (by simp) HC.out H1.out (by unfold maxLen; omega) (by omega) (by omega) ?_)
        intro A1 c1 w4 hown hgrow
        have hown' : w4.ownsRow w1.heap.size 3 1 (.slice A1 (taken.length + q.length) c1) (taken ++ q).length ((taken ++ q).map (Value.int .i64)) := by
          rw [List.length_append, List.map_append]
          exact hown
        have hP4 : w4.ownsRow w1.heap.size 3 1 (.slice A0 put.length c0) put.length (put.map (Value.int .i64)) := HP3.out.kept hgrow (by
          cases h6 : (Value.slice A0 put.length c0).ownBlock with
          | none => exact .inl rfl
          | some g6 => exact .inr (fun h => HN.out g6 h6 h.symm))
        have HU4 : Hid (Up w w4) := Lib.hid (Up.trans_grown HU3.out hgrow (fun q hq => by have := (HT3.out.lt q hq).1; omega))
        obtain ⟨A2, c2, e2, _, hr0⟩ := reads_own hP4
        injection e2 with e2a e2b e2c
        subst e2a e2c
        obtain ⟨A3, c3, e3, hc1, hr1⟩ := reads_own hown'
        injection e3 with e3a e3b e3c
        subst e3a e3c
        have hS := Same_walk put (taken ++ q) A0 A1 c0 c1 w4 hr0 hc0 hr1 hc1 (by omega)
        rw [← e3b] at hS
        have hS := Lib.hid hS
        clear e3b e2b
        have hE : decide (put = taken ++ q) = true := decide_eq_true HE.out
        rw [hE] at hS
        clear hr0 hr1 hE hown hown' hP4 hgrow
        go_wp2_with (first | (go_at_call 16; refine hS.out.mono ?_; rintro e w' ⟨rfl, hd⟩; have HD := Lib.hid hd; clear hd) | (go_at_call 12; refine (alive_walk _).mono ?_; rintro e w5 ⟨rfl, hu⟩; have HA := Lib.hid hu; clear hu))
        go_ret
        exact ⟨rfl, Up.trans (Up.trans HU4.out HD.out.up) HA.out⟩
end Go.Proofs.Ytmfpahdbjcpmkaa.Lane
