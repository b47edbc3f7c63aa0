/- BusOrder, walked. -/
import Derived.Test.YtlefefcakffepaaBusOrd0
import Derived.Deep.CutRange
namespace Go.Proofs.Ytlefefcakffepaa.Bus
set_option linter.unusedVariables false
set_option linter.unusedSimpArgs false
open Go.RowKit Go.Proofs.Ytlefefcakffepaa.Lat Go.Proofs.Ytlefefcakffepaa.Sep Go.Proofs.Ytlefefcakffepaa.Sram Go.Proofs.Ytlefefcakffepaa.Find Go.Proofs.Ytlefefcakffepaa.Sbuf Go.Proofs.Ytlefefcakffepaa.Open Go.Proofs.Ytlefefcakffepaa.Ref05

theorem info_store : (Try.prog.info? 55).map (fun i => (i.zero, i.size, i.bytes)) = some (some (.agg #[.int .i64 0, .int .i64 0]), 2, 16) := by kernel_rfl
set_option maxHeartbeats 16000000 in
set_option maxRecDepth 100000 in
theorem order_walk (n m k : Nat) (hh : (1 ≤ n ∧ n ≤ 8) ∧ (1 ≤ m ∧ m ≤ 200) ∧ 1 ≤ k ∧ k ≤ 16) (A : Option Addr) (c : Nat) (rows : List (List Int)) (w : World) (hr : Recs 4 w A rows) (hl : rows.length ≤ 80) :
    Calls Try.prog 5 #[.int .i64 n, .int .i64 m, .int .i64 k, .slice A rows.length c] w fun e w' => e = .returned (.bool true) ∧ Up w w' := by
  have HR := Lib.hid hr
  have HH := Lib.hid hh
  have HF := Lib.hid (fun wx => few_q m A rows.length c wx hl (by omega))
  have hn8 : n ≤ 8 := hh.1.2
  clear hr hh
  go_enter Try.func5, Try.ntmps5
  go_wp2_with fail
  refine (New_st (St.nil w) n m k ⟨HH.out.1, by have := HH.out.2.1; omega, HH.out.2.2⟩).mono ?_
  rintro e w1 ⟨b, rfl, hs⟩
  have HS1 : Hid (St No w w1 [bus b k (List.replicate m 0) (List.replicate n [])]) := Lib.hid hs
  clear hs
  have hmk := fun wx => run_mkSts n hn8 wx
  go_wp2_with (first
    | (go_at_call 10; refine (HF.out _).mono ?_; rintro e wg ⟨rfl, rfl⟩)
    | (go_at_call 21; refine (Cores_q _ HS1.out).mono ?_; rw [List.length_replicate]; rintro e wh ⟨rfl, rfl⟩)
    | fail)
  have h2 := sts_new n HS1.out
  rw [List.toArray_replicate] at h2
  have HS2 : Hid (St No w (wh.alloc (.cells (Array.replicate n (Value.slice none 0 0)) 53)) [bus b k (List.replicate m 0) (List.replicate n []), sts wh.heap.size (List.replicate n [])]) := Lib.hid (h2.get 1)
  clear h2 HS1 hmk
  have hmk2 := fun wx => run_mk n (by omega) wx
  have hmk3 := fun wx => run_mk m (by have := HH.out.2.1; omega) wx
  refine (Cores_q _ HS2.out).mono ?_
  rw [List.length_replicate]
  rintro e wi ⟨rfl, rfl⟩
  go_wp2_with fail
  clear hmk2 hmk3
  have h3 := (HS2.out.alloc ((List.replicate n (0 : Int)).map (Value.int .i64)).toArray 3).alloc ((List.replicate m (0 : Int)).map (Value.int .i64)).toArray 3
  have HS3 : Hid (St No w _ [bus b k (List.replicate m 0) (List.replicate n []), sts wh.heap.size (List.replicate n []), ints (wh.heap.size + 1) (List.replicate n 0), ints (wh.heap.size + 1 + 1) (List.replicate m 0)]) := Lib.hid (by
    rw [World.size_alloc, World.size_alloc] at h3
    exact ((h3.get 1).get 3).get 3)
  rw [replicate_map, replicate_map] at HS3
  clear h3 HS2
  go_loopg [50] rows.length (fun gk v50 wx => ∃ (i : Nat) (ws : List Int) (Ls SS : List (List W16)) (os : List Int), i ≤ rows.length ∧ Hid (i + gk = rows.length) ∧ v50 = .int .i64 i ∧ Hid (St No w wx [bus b k ws Ls, sts wh.heap.size SS, ints (wh.heap.size + 1) os, ints (wh.heap.size + 1 + 1) ws]) ∧ Hid (Inv m n i ws Ls SS os))
  case atStart =>
    refine ⟨0, List.replicate m 0, List.replicate n [], List.replicate n [], List.replicate n 0, Nat.zero_le _, Lib.hid (Nat.zero_add _), rfl, ?_, Lib.hid ⟨by simp, by simp, by simp, by simp, fun c hc => ?_⟩⟩
    · first | exact HS3 | (show Hid (St No w _ [_, _, bk _ _ ((List.replicate n (0 : Int)).map (Value.int .i64)).toArray, bk _ _ ((List.replicate m (0 : Int)).map (Value.int .i64)).toArray]); rw [replicate_map, replicate_map]; exact HS3)
    · have e1 : ∀ (L : List (List W16)), L = List.replicate n [] → L.getD c default = [] := by
        rintro L rfl
        simp [List.getD_eq_getElem?_getD, hc]
      have e2 : (List.replicate n (0 : Int)).getD c 0 = 0 := by simp [List.getD_eq_getElem?_getD, hc]
      rw [e1 _ rfl, e2]
      exact ⟨Nat.zero_le _, fun x hx => by simp at hx, [], rfl, rfl⟩
  case round =>
    clear HS3
    obtain ⟨i, ws, Ls, SS, os, hi, HG, rfl, HS, HI⟩ := hrel
    obtain ⟨wo, rfl⟩ : ∃ wo, wo = wr := ⟨wr, rfl⟩
    obtain ⟨g1, rfl⟩ : ∃ g1, g1 = gk := ⟨gk, rfl⟩
    by_cases hlt : i < rows.length
    · obtain ⟨ad, kk, co, a, z, rfl, k0, k1, k2, k3⟩ := row4_cells HR.out i hlt
      have hs := HS.out
      have m0 := cell_up hs.up k0
      have m1 := cell_up hs.up k1
      have m2 := cell_up hs.up k2
      have m3 := cell_up hs.up k3
      clear k0 k1 k2 k3
      by_cases h45 : kk = 4 ∨ kk = 5
      · have HS2 := Lib.hid (hs.allocU (.cells #[.int .i64 kk, .int .i64 co, .int .i64 a, .int .i64 z] 31))
        have HI2 : Hid (Inv m n (i + 1) ws Ls SS os) := Lib.hid ⟨HI.out.hw, HI.out.hL, HI.out.hS, HI.out.ho, fun c hc => ⟨by have := (HI.out.each c hc).1; omega, (HI.out.each c hc).2⟩⟩
        clear hs HS HI
        have hk : kk = 4 ∨ (¬ kk = 4 ∧ kk = 5) := by omega
        clear h45
        rcases hk with rfl | ⟨h4, rfl⟩
        all_goals
          go_wp2
          go_roundg (g1 - 1)
          case measure => have := HG.out; omega
          case rel => exact ⟨i + 1, ws, Ls, SS, os, by omega, Lib.hid (by have := HG.out; omega), by go_num, HS2, HI2⟩
      · have K4 : ¬ kk = 4 := by omega
        have K5 : ¬ kk = 5 := by omega
        have K4' : (kk == 4) = false := beq_eq_false_iff_ne.2 K4
        have K5' : (kk == 5) = false := beq_eq_false_iff_ne.2 K5
        clear h45
        have HOK := Lib.hid (bus_ok hs)
        have HS1 : Hid (St No w (wo.alloc (.cells #[.int .i64 kk, .int .i64 co, .int .i64 a, .int .i64 z] 31)) [bus b k ws Ls, bk wo.heap.size 31 #[.int .i64 kk, .int .i64 co, .int .i64 a, .int .i64 z], sts wh.heap.size SS, ints (wh.heap.size + 1) os, ints (wh.heap.size + 1 + 1) ws]) := Lib.hid ((hs.alloc _ _).get 1)
        clear hs HS
        have HDO := Lib.hid (do_st HS1.out kk co a z)
        have HRF := Lib.hid (do_refused HOK.out kk co a z)
        have HOR := Lib.hid (order_step HOK.out kk co a z K4 K5)
        obtain ⟨⟨d1, d2, d3, d4⟩, hd⟩ : ∃ d, doB k ws Ls kk co a z = d := ⟨_, rfl⟩
        rw [hd] at HDO HRF HOR
        clear hd HS1 HOK
        go_wp2_with fail
        refine HDO.out.mono ?_
        rintro e w4 ⟨rfl, hs⟩
        clear HDO m0 m1 m2 m3
        by_cases h0 : d4 = 0
        · subst h0
          obtain ⟨hco, T, L', new, m', hd, happ, hnew⟩ := HOR.out rfl
          obtain ⟨rfl, rfl, rfl, -⟩ : d1 = feM ws T ∧ d2 = Ls.set co.toNat L' ∧ d3 = m' ∧ True := by
            obtain ⟨e1, e2⟩ := Prod.mk.inj hd
            obtain ⟨e2, e3⟩ := Prod.mk.inj e2
            obtain ⟨e3, -⟩ := Prod.mk.inj e3
            exact ⟨e1, e2, e3, trivial⟩
          obtain ⟨c, rfl⟩ := Int.eq_ofNat_of_zero_le hco.1
          have hcn : c < n := by have := hco.2; have := HI.out.hL; omega
          rw [Int.toNat_natCast] at hs
          have HS4 : Hid (St No w w4 [bus b k (feM ws T) (Ls.set c L'), bk wo.heap.size 31 #[.int .i64 kk, .int .i64 (c : Int), .int .i64 a, .int .i64 z], sts wh.heap.size SS, ints (wh.heap.size + 1) os, ints (wh.heap.size + 1 + 1) ws]) := Lib.hid hs
          have q0 : w4.cell? ⟨wo.heap.size, 0, none⟩ = some (.int .i64 kk) := cell_of_block (hs.get 1).bk_at 0
          have q1 : w4.cell? ⟨wo.heap.size, 1, none⟩ = some (.int .i64 (c : Int)) := cell_of_block (hs.get 1).bk_at 1
          have q2 : w4.cell? ⟨wo.heap.size, 2, none⟩ = some (.int .i64 a) := cell_of_block (hs.get 1).bk_at 2
          have q3 : w4.cell? ⟨wo.heap.size, 3, none⟩ = some (.int .i64 z) := cell_of_block (hs.get 1).bk_at 3
          have hc0 : decide ((c : Int) < 0) = false := decide_eq_false (by omega)
          have hc1 : decide ((n : Int) ≤ c) = false := decide_eq_false (by omega)
          have hc2 : decide (n ≤ c) = false := decide_eq_false (by omega)
          have HNEW := Lib.hid hnew
          have HAPP := Lib.hid happ
          clear hs hd happ hnew hco HRF HOR
          obtain ⟨D, hSD, hOD⟩ := (HI.out.each c hcn).2.2
          have HB : Hid (∀ x ∈ D ++ (T ++ L'), x.a < m) := Lib.hid (by
            rw [← HAPP.out, at_, Int.toNat_natCast, ← List.append_assoc, ← hSD]
            intro x hx
            rcases List.mem_append.1 hx with hx | hx
            · exact (HI.out.each c hcn).2.1 x hx
            · rcases HNEW.out with ⟨-, y, rfl, -, -, hy⟩ | ⟨-, rfl⟩
              · obtain rfl := List.mem_singleton.1 hx
                rw [← HI.out.hw]; exact hy
              · simp at hx)
          have HAC : ∀ SS', SS'.length = n → SS'.getD c default = SS.getD c default ++ new → (∀ c', c' ≠ c → SS'.getD c' default = SS.getD c' default) → Acc m n c i Ls SS os T L' D SS' := fun SS' a1 a2 a3 =>
            ⟨hcn, HI.out.hL, a1, HI.out.ho, by
              rw [← HAPP.out, at_, Int.toNat_natCast, ← List.append_assoc, ← hSD, List.length_append]
              have := (HI.out.each c hcn).1
              rcases HNEW.out with ⟨-, y, rfl, -, -, hy⟩ | ⟨-, rfl⟩ <;> (simp only [List.length_singleton, List.length_nil]; omega), HB.out, by rw [a2, hSD, List.append_assoc]; exact congrArg (D ++ ·) (by have := HAPP.out; rwa [at_, Int.toNat_natCast] at this), a3, hOD⟩
          have HACC := Lib.hid HAC
          have HSD := Lib.hid hSD
          clear HAC hSD hOD
          have hcS : c < SS.length := by rw [HI.out.hS]; exact hcn
          have HCS := Lib.hid hcS
          clear hcS
          go_upto_if 84 with fail
          go_cut [50] from 50 to 186 (fun v50 wx => v50 = .int .i64 (i : Int) ∧ ∃ SS', Hid (St No w wx [bus b k (feM ws T) (Ls.set c L'), bk wo.heap.size 31 #[.int .i64 kk, .int .i64 (c : Int), .int .i64 a, .int .i64 z], sts wh.heap.size SS', ints (wh.heap.size + 1) os, ints (wh.heap.size + 1 + 1) ws]) ∧ Hid (Acc m n c i Ls SS os T L' D SS'))
          case first =>
            by_cases hk0 : kk = 0
            · subst hk0
              obtain ⟨x, rfl, hxa, hxz, hxm⟩ : ∃ x : W16, new = [x] ∧ (x.a : Int) = a ∧ (x.v : Int) = z ∧ x.a < ws.length := by
                rcases HNEW.out with ⟨-, h⟩ | ⟨h, -⟩
                · exact h
                · exact absurd rfl h
              subst hxa hxz
              clear hxm
              obtain ⟨v, s0, t0, hs⟩ := sts_open (HS4.out.get 2) c HCS.out
              obtain ⟨Av, cv, rfl, hv1, hv2⟩ : ∃ A c', v = .slice A (SS.getD c default).length c' ∧ (SS.getD c default).length ≤ c' ∧ c' ≤ maxLen := by
                obtain ⟨P, ⟨Q, Q2, _, _, _, h2, _⟩, _⟩ := St.step (L := [rl v (SS.getD c default)]) hs
                exact slc_form h2
              have h80 : (SS.getD c default).length ≤ i := (HI.out.each c hcn).1
              generalize hSc : SS.getD c default = Sc at *
              have HSC := Lib.hid hSc
              clear hSc
              have n1 := World.new_ne w4 _ q1
              have n2 := World.new_ne w4 _ q2
              have n3 := World.new_ne w4 _ q3
              have n4 := World.new_ne w4 _ s0
              have l4 := World.block_lt_of_cell? w4 _ s0
              have hog : wo.heap.size ≠ wh.heap.size := sts_ne HS4.out.drop
              have HOG := Lib.hid hog
              obtain ⟨ti, hti, hz0, hz1, hz2⟩ := info_of' info_store
              have HS5 : Hid (St No w ((w4.alloc (.cells #[.int .i64 (x.a : Int), .int .i64 (x.v : Int)] 55)).drew) (slc 55 2 (.slice Av Sc.length cv) Sc.length (Sc.flatMap sw) :: _)) := Lib.hid ((hs.alloc #[.int .i64 (x.a : Int), .int .i64 (x.v : Int)] 55).drew.get 1)
              have HRD := Lib.hid (Rd.of_block (sz := 2) (m := 1) ((hs.alloc #[.int .i64 (x.a : Int), .int .i64 (x.v : Int)] 55).drew.bk_at) rfl (by simp [Value.oneCell']))
              clear hs HS4 hog
              go_upto_region 14 with fail
              refine wp_region_noPanic ?_
              refine wp_region_held_drew (S := (fun wx => wx.cell? ⟨wo.heap.size, 1, none⟩ = some (.int .i64 (c : Int)) ∧ wx.cell? ⟨wo.heap.size, 2, none⟩ = some (.int .i64 (x.a : Int)) ∧ wx.cell? ⟨wo.heap.size, 3, none⟩ = some (.int .i64 (x.v : Int)))) (by kernel_rfl) ?_ (fun hHeld => ?_)
              · first | exact ⟨q1, q2, q3⟩ | exact ⟨r1, r2, r3⟩ | exact ⟨cell_set_far HOG.out r1, cell_set_far HOG.out r2, cell_set_far HOG.out r3⟩ | go_keep
              refine wpAnyH_take (i := 0) (oi := ⟨_, _, _, _, _, _⟩) (v := ?_) rfl (by kernel_rfl) (by kernel_rfl) (by kernel_rfl) (fun _ _ _ h => h) (Or.inl ⟨by rfl, ?_⟩) (by assumption) ?_
              rotate_left
              · (intro w hSw; (try dsimp only at hSw); go_simp; try with_reducible rfl)
              try simp only [Act.put, List.setIfInBounds_toArray, List.set_cons_zero, List.set_cons_succ]
              refine wpAnyH_take (i := 1) (oi := ⟨_, _, _, _, _, _⟩) (v := ?_) rfl (by kernel_rfl) (by kernel_rfl) (by kernel_rfl) (fun _ _ _ h => h) (Or.inl ⟨by rfl, ?_⟩) (by assumption) ?_
              rotate_left
              · (intro w hSw; (try dsimp only at hSw); go_simp; try with_reducible rfl)
              try simp only [Act.put, List.setIfInBounds_toArray, List.set_cons_zero, List.set_cons_succ]
              refine wpAnyH_take (i := 2) (oi := ⟨_, _, _, _, _, _⟩) (v := ?_) rfl (by kernel_rfl) (by kernel_rfl) (by kernel_rfl) (fun _ _ _ h => h) (Or.inl ⟨by rfl, ?_⟩) (by assumption) ?_
              rotate_left
              · (intro w hSw; (try dsimp only at hSw); go_simp; try with_reducible rfl)
              try simp only [Act.put, List.setIfInBounds_toArray, List.set_cons_zero, List.set_cons_succ]
              refine wpAnyH_take (i := 3) (oi := ⟨_, _, _, _, _, _⟩) (v := ?_) rfl (by kernel_rfl) (by kernel_rfl) (by kernel_rfl) (fun _ _ _ h => h) (Or.inl ⟨by rfl, ?_⟩) (by assumption) ?_
              rotate_left
              · (intro w hSw; (try dsimp only at hSw); go_simp; try with_reducible rfl)
              try simp only [Act.put, List.setIfInBounds_toArray, List.set_cons_zero, List.set_cons_succ]
              refine wpAnyH_take (i := 4) (oi := ⟨_, _, _, _, _, _⟩) (v := ?_) rfl (by kernel_rfl) (by kernel_rfl) (by kernel_rfl) (fun _ _ _ h => h) (Or.inl ⟨by rfl, ?_⟩) (by assumption) ?_
              rotate_left
              · (intro w hSw; (try dsimp only at hSw); go_simp; try with_reducible rfl)
              try simp only [Act.put, List.setIfInBounds_toArray, List.set_cons_zero, List.set_cons_succ]
              refine wpAnyH_take (i := 5) (oi := ⟨_, _, _, _, _, _⟩) (v := ?_) rfl (by kernel_rfl) (by kernel_rfl) (by kernel_rfl) (fun _ _ _ h => h) (Or.inl ⟨by rfl, ?_⟩) (by assumption) ?_
              rotate_left
              · (intro w hSw; (try dsimp only at hSw); go_simp; try with_reducible rfl)
              try simp only [Act.put, List.setIfInBounds_toArray, List.set_cons_zero, List.set_cons_succ]
              refine wpAnyH_take (i := 6) (oi := ⟨_, _, _, _, _, _⟩) (v := ?_) rfl (by kernel_rfl) (by kernel_rfl) (by kernel_rfl) (fun _ _ _ h => h) (Or.inl ⟨by rfl, ?_⟩) (by assumption) ?_
              rotate_left
              · (intro w hSw; (try dsimp only at hSw); go_simp; try with_reducible rfl)
              try simp only [Act.put, List.setIfInBounds_toArray, List.set_cons_zero, List.set_cons_succ]
              refine wpAnyH_take (i := 8) (oi := ⟨_, _, _, _, _, _⟩) (v := ?_) rfl (by kernel_rfl) (by kernel_rfl) (by kernel_rfl) (fun _ _ _ h => h) (Or.inl ⟨by rfl, ?_⟩) (by assumption) ?_
              rotate_left
              · (intro w hSw; (try dsimp only at hSw); go_simp; try with_reducible rfl)
              try simp only [Act.put, List.setIfInBounds_toArray, List.set_cons_zero, List.set_cons_succ]
              refine wpAnyH_take (i := 9) (oi := ⟨_, _, _, _, _, _⟩) (v := ?_) rfl (by kernel_rfl) (by kernel_rfl) (by kernel_rfl) (fun _ _ _ h => h) (Or.inl ⟨by rfl, ?_⟩) (by assumption) ?_
              rotate_left
              · (intro w hSw; (try dsimp only at hSw); go_simp; try with_reducible rfl)
              try simp only [Act.put, List.setIfInBounds_toArray, List.set_cons_zero, List.set_cons_succ]
              refine wpAnyH_take (i := 10) (oi := ⟨_, _, _, _, _, _⟩) (v := ?_) rfl (by kernel_rfl) (by kernel_rfl) (by kernel_rfl) (fun _ _ _ h => h) (Or.inl ⟨by rfl, ?_⟩) (by assumption) ?_
              rotate_left
              · (intro w hSw; (try dsimp only at hSw); go_simp; try with_reducible rfl)
              try simp only [Act.put, List.setIfInBounds_toArray, List.set_cons_zero, List.set_cons_succ]
              refine wpAnyH_take (i := 11) (oi := ⟨_, _, _, _, _, _⟩) (v := ?_) rfl (by kernel_rfl) (by kernel_rfl) (by kernel_rfl) (fun _ _ _ h => h) (Or.inl ⟨by rfl, ?_⟩) (by assumption) ?_
              rotate_left
              · (intro w hSw; (try dsimp only at hSw); go_simp; try with_reducible rfl)
              try simp only [Act.put, List.setIfInBounds_toArray, List.set_cons_zero, List.set_cons_succ]
              refine wpAnyH_take (i := 12) (oi := ⟨_, _, _, _, _, _⟩) (v := ?_) rfl (by kernel_rfl) (by kernel_rfl) (by kernel_rfl) (fun _ _ _ h => h) (Or.inl ⟨by rfl, ?_⟩) (by assumption) ?_
              rotate_left
              · (intro w hSw; (try dsimp only at hSw); go_simp; try with_reducible rfl)
              try simp only [Act.put, List.setIfInBounds_toArray, List.set_cons_zero, List.set_cons_succ]
              refine wpAnyH_ready (rs := [7, 13]) (by kernel_rfl) (by simp) (AllReadyH.cons (o := ⟨_, _, _, _, _, _⟩) rfl (fun K hK => ?_) (AllReadyH.cons (o := ⟨_, _, _, _, _, _⟩) rfl (fun K hK => ?_) AllReadyH.nil))
              · go_simp
                refine hK.out _ _ ?_ (fun hHeld => ?_)
                · first | exact ⟨q1, q2, q3⟩ | exact ⟨r1, r2, r3⟩ | exact ⟨cell_set_far HOG.out r1, cell_set_far HOG.out r2, cell_set_far HOG.out r3⟩ | go_keep
                clear hK K
                try simp only [Act.put, List.setIfInBounds_toArray, List.set_cons_zero, List.set_cons_succ]
                refine wpAnyH_ready (rs := [13]) (by kernel_rfl) (by simp) (AllReadyH.cons (o := ⟨_, _, _, _, _, _⟩) rfl (fun K hK => ?_) AllReadyH.nil)
                go_simp
                refine hK.out _ _ ?_ (fun hHeld => ?_)
                · first | exact ⟨q1, q2, q3⟩ | exact ⟨r1, r2, r3⟩ | exact ⟨cell_set_far HOG.out r1, cell_set_far HOG.out r2, cell_set_far HOG.out r3⟩ | go_keep
                clear hK K
                try simp only [Act.put, List.setIfInBounds_toArray, List.set_cons_zero, List.set_cons_succ]
                refine wpAnyH_ready (rs := [14]) (by kernel_rfl) (by simp) (AllReadyH.cons (o := ⟨_, _, _, _, _, _⟩) rfl (fun K hK => ?_) AllReadyH.nil)
                (refine St.step_append 55 ti (.agg #[.int .i64 0, .int .i64 0]) 2 16 HS5.out (by rfl) _ _ 53 (by rfl) Try.underlying53 hti hz0 hz1 hz2 (by rfl) (by decide) (by rfl) (some ⟨w4.heap.size, 0, none⟩) 1 1 [.int .i64 (x.a : Int), .int .i64 (x.v : Int)] (by rfl) HRD.out (by unfold maxLen; omega) (by omega) ?_; intro A5 c5 w5 hst hsz; have HS6 := Lib.hid hst; have r4 := (stsx_cell HCS.out (hst.get 2)).1; have r5 := (stsx_cell HCS.out (hst.get 2)).2; have r1 : w5.cell? ⟨wo.heap.size, 1, none⟩ = some (.int .i64 (c : Int)) := cell_of_block (St.bk_at (hst.get 4)) 1; have r2 : w5.cell? ⟨wo.heap.size, 2, none⟩ = some (.int .i64 (x.a : Int)) := cell_of_block (St.bk_at (hst.get 4)) 2; have r3 : w5.cell? ⟨wo.heap.size, 3, none⟩ = some (.int .i64 (x.v : Int)) := cell_of_block (St.bk_at (hst.get 4)) 3; clear hst hsz)
                refine hK.out _ _ ?_ (fun hHeld => ?_)
                · first | exact ⟨q1, q2, q3⟩ | exact ⟨r1, r2, r3⟩ | exact ⟨cell_set_far HOG.out r1, cell_set_far HOG.out r2, cell_set_far HOG.out r3⟩ | go_keep
                clear hK K
                try simp only [Act.put, List.setIfInBounds_toArray, List.set_cons_zero, List.set_cons_succ]
                refine wpAnyH_take (i := 15) (oi := ⟨_, _, _, _, _, _⟩) (v := ?_) rfl (by kernel_rfl) (by kernel_rfl) (by kernel_rfl) (fun _ _ _ h => h) (Or.inl ⟨by rfl, ?_⟩) (by assumption) ?_
                rotate_left
                · (intro w hSw; (try dsimp only at hSw); go_simp; try with_reducible rfl)
                try simp only [Act.put, List.setIfInBounds_toArray, List.set_cons_zero, List.set_cons_succ]
                refine wpAnyH_ready (rs := [16]) (by kernel_rfl) (by simp) (AllReadyH.cons (o := ⟨_, _, _, _, _, _⟩) rfl (fun K hK => ?_) AllReadyH.nil)
                go_simp
                refine hK.out _ _ ?_ (fun hHeld => ?_)
                · first | exact ⟨q1, q2, q3⟩ | exact ⟨r1, r2, r3⟩ | exact ⟨cell_set_far HOG.out r1, cell_set_far HOG.out r2, cell_set_far HOG.out r3⟩ | go_keep
                clear hK K
                try simp only [Act.put, List.setIfInBounds_toArray, List.set_cons_zero, List.set_cons_succ]
                refine wpAnyH_done (by kernel_rfl) ?_ _
                refine NoPanic.normal ?_
                have hh : St No w w5 (rl (.slice A5 (Sc.length + 1) c5) (Sc ++ [x]) :: stsx wh.heap.size SS c (.slice Av Sc.length cv) :: [bus b k (feM ws T) (Ls.set c L'), bk wo.heap.size 31 #[.int .i64 0, .int .i64 (c : Int), .int .i64 (x.a : Int), .int .i64 (x.v : Int)], ints (wh.heap.size + 1) os, ints (wh.heap.size + 1 + 1) ws]) := by
                  unfold rl
                  rw [sw_snoc, List.length_append, List.length_singleton]
                  exact HS6.out.cut 1
                have HS7 := Lib.hid ((sts_store HCS.out hh).put 2)
                have HA7 := Lib.hid (HACC.out (SS.set c (Sc ++ [x])) (by rw [List.length_set]; exact HI.out.hS) (set_getD SS c _ HCS.out) (fun c' h => by simp [List.getD_eq_getElem?_getD, List.getElem?_set, Ne.symm h]))
                clear hh HS6 HS5 HRD r1 r2 r3 r4 r5 hHeld
                go_wp2_with fail
                go_meet
                case rel => exact ⟨rfl, _, HS7, HA7⟩
              · go_simp
                refine hK.out _ _ ?_ (fun hHeld => ?_)
                · first | exact ⟨q1, q2, q3⟩ | exact ⟨r1, r2, r3⟩ | exact ⟨cell_set_far HOG.out r1, cell_set_far HOG.out r2, cell_set_far HOG.out r3⟩ | go_keep
                clear hK K
                try simp only [Act.put, List.setIfInBounds_toArray, List.set_cons_zero, List.set_cons_succ]
                refine wpAnyH_ready (rs := [7]) (by kernel_rfl) (by simp) (AllReadyH.cons (o := ⟨_, _, _, _, _, _⟩) rfl (fun K hK => ?_) AllReadyH.nil)
                go_simp
                refine hK.out _ _ ?_ (fun hHeld => ?_)
                · first | exact ⟨q1, q2, q3⟩ | exact ⟨r1, r2, r3⟩ | exact ⟨cell_set_far HOG.out r1, cell_set_far HOG.out r2, cell_set_far HOG.out r3⟩ | go_keep
                clear hK K
                try simp only [Act.put, List.setIfInBounds_toArray, List.set_cons_zero, List.set_cons_succ]
                refine wpAnyH_ready (rs := [14]) (by kernel_rfl) (by simp) (AllReadyH.cons (o := ⟨_, _, _, _, _, _⟩) rfl (fun K hK => ?_) AllReadyH.nil)
                (refine St.step_append 55 ti (.agg #[.int .i64 0, .int .i64 0]) 2 16 HS5.out (by rfl) _ _ 53 (by rfl) Try.underlying53 hti hz0 hz1 hz2 (by rfl) (by decide) (by rfl) (some ⟨w4.heap.size, 0, none⟩) 1 1 [.int .i64 (x.a : Int), .int .i64 (x.v : Int)] (by rfl) HRD.out (by unfold maxLen; omega) (by omega) ?_; intro A5 c5 w5 hst hsz; have HS6 := Lib.hid hst; have r4 := (stsx_cell HCS.out (hst.get 2)).1; have r5 := (stsx_cell HCS.out (hst.get 2)).2; have r1 : w5.cell? ⟨wo.heap.size, 1, none⟩ = some (.int .i64 (c : Int)) := cell_of_block (St.bk_at (hst.get 4)) 1; have r2 : w5.cell? ⟨wo.heap.size, 2, none⟩ = some (.int .i64 (x.a : Int)) := cell_of_block (St.bk_at (hst.get 4)) 2; have r3 : w5.cell? ⟨wo.heap.size, 3, none⟩ = some (.int .i64 (x.v : Int)) := cell_of_block (St.bk_at (hst.get 4)) 3; clear hst hsz)
                refine hK.out _ _ ?_ (fun hHeld => ?_)
                · first | exact ⟨q1, q2, q3⟩ | exact ⟨r1, r2, r3⟩ | exact ⟨cell_set_far HOG.out r1, cell_set_far HOG.out r2, cell_set_far HOG.out r3⟩ | go_keep
                clear hK K
                try simp only [Act.put, List.setIfInBounds_toArray, List.set_cons_zero, List.set_cons_succ]
                refine wpAnyH_take (i := 15) (oi := ⟨_, _, _, _, _, _⟩) (v := ?_) rfl (by kernel_rfl) (by kernel_rfl) (by kernel_rfl) (fun _ _ _ h => h) (Or.inl ⟨by rfl, ?_⟩) (by assumption) ?_
                rotate_left
                · (intro w hSw; (try dsimp only at hSw); go_simp; try with_reducible rfl)
                try simp only [Act.put, List.setIfInBounds_toArray, List.set_cons_zero, List.set_cons_succ]
                refine wpAnyH_ready (rs := [16]) (by kernel_rfl) (by simp) (AllReadyH.cons (o := ⟨_, _, _, _, _, _⟩) rfl (fun K hK => ?_) AllReadyH.nil)
                go_simp
                refine hK.out _ _ ?_ (fun hHeld => ?_)
                · first | exact ⟨q1, q2, q3⟩ | exact ⟨r1, r2, r3⟩ | exact ⟨cell_set_far HOG.out r1, cell_set_far HOG.out r2, cell_set_far HOG.out r3⟩ | go_keep
                clear hK K
                try simp only [Act.put, List.setIfInBounds_toArray, List.set_cons_zero, List.set_cons_succ]
                refine wpAnyH_done (by kernel_rfl) ?_ _
                refine NoPanic.normal ?_
                have hh : St No w w5 (rl (.slice A5 (Sc.length + 1) c5) (Sc ++ [x]) :: stsx wh.heap.size SS c (.slice Av Sc.length cv) :: [bus b k (feM ws T) (Ls.set c L'), bk wo.heap.size 31 #[.int .i64 0, .int .i64 (c : Int), .int .i64 (x.a : Int), .int .i64 (x.v : Int)], ints (wh.heap.size + 1) os, ints (wh.heap.size + 1 + 1) ws]) := by
                  unfold rl
                  rw [sw_snoc, List.length_append, List.length_singleton]
                  exact HS6.out.cut 1
                have HS7 := Lib.hid ((sts_store HCS.out hh).put 2)
                have HA7 := Lib.hid (HACC.out (SS.set c (Sc ++ [x])) (by rw [List.length_set]; exact HI.out.hS) (set_getD SS c _ HCS.out) (fun c' h => by simp [List.getD_eq_getElem?_getD, List.getElem?_set, Ne.symm h]))
                clear hh HS6 HS5 HRD r1 r2 r3 r4 r5 hHeld
                go_wp2_with fail
                go_meet
                case rel => exact ⟨rfl, _, HS7, HA7⟩
            · obtain rfl : new = [] := by
                rcases HNEW.out with ⟨h, -⟩ | ⟨-, h⟩
                · exact absurd h hk0
                · exact h
              have K0 : (kk == 0) = false := beq_eq_false_iff_ne.2 hk0
              have HA7 := Lib.hid (HACC.out SS HI.out.hS (by rw [List.append_nil]) (fun _ _ => rfl))
              clear HACC
              go_wp2_with fail
              go_meet
              case rel => exact ⟨rfl, _, HS4, HA7⟩
          case rest =>
            clear HS4 HACC HNEW HAPP HB HSD HCS q0 q1 q2 q3
            obtain ⟨rfl, SS', HS4, HA⟩ := hcut
            have hcS : c < SS'.length := by rw [HA.out.hS]; exact hcn
            have hcL : c < (Ls.set c L').length := by rw [List.length_set, HA.out.hL]; exact hcn
            have HCS := Lib.hid hcS
            have HWT := Lib.hid (fun (wx : World) (hu : Up wc wx) => Waits_u (HS4.out.more hu) c hcL)
            rw [set_getD Ls c L' (by rw [HA.out.hL]; exact hcn)] at HWT
            obtain ⟨v, s0, t0, hs⟩ := sts_open (HS4.out.get 2) c hcS
            rw [HA.out.here] at hs
            obtain ⟨Av, cv, rfl, hv1, hv2⟩ : ∃ A c', v = .slice A (D ++ (T ++ L')).length c' ∧ (D ++ (T ++ L')).length ≤ c' ∧ c' ≤ maxLen := by
              obtain ⟨P, ⟨Q, Q2, _, _, _, h2, _⟩, _⟩ := St.step (L := [rl v (D ++ (T ++ L'))]) hs
              exact slc_form h2
            have hlen := HA.out.len
            have hdl : D.length + T.length + L'.length = (D ++ (T ++ L')).length := by simp only [List.length_append]; omega
            have q1 : wc.cell? ⟨wo.heap.size, 1, none⟩ = some (.int .i64 (c : Int)) := cell_of_block (hs.get 3).bk_at 1
            obtain ⟨N, hN⟩ : ∃ N, (D ++ (T ++ L')).length = N := ⟨_, rfl⟩
            obtain ⟨lf, hlf⟩ : ∃ lf, D.length + T.length = lf := ⟨_, rfl⟩
            have HS5 := Lib.hid hs
            rw [hN] at s0 hv1 hlen hdl
            simp only [hN] at HS5
            rw [hlf] at hdl
            have hs1 : IntKind.i64.wrap ((N : Int) - (L'.length : Int)) = (lf : Int) := by rw [IntWalk.i64_in _ (by omega)]; omega
            have HN := Lib.hid hN
            have HLF := Lib.hid hlf
            have HDL := Lib.hid hdl
            have hN81 : N ≤ 81 := by omega
            clear hs hdl hlf hN hcS hcL hlen
            go_upto_region 15 with fail
            go_region_held3 (fun wx => wx.cell? ⟨wo.heap.size, 1, none⟩ = some (.int .i64 (c : Int)) ∧ wx.cell? ⟨wh.heap.size, c, none⟩ = some (.slice Av N cv) ∧ Hid (Up wc wx))
              (first | exact ⟨q1, s0, Lib.hid (Up.drew (Up.refl _))⟩ | (go_split_ands; exact ⟨cell_up hu (by assumption), cell_up hu (by assumption), Lib.hid (Up.trans (Hid.out (by assumption)) hu)⟩))
              ((go_at_call 22; refine (HWT.out _ ?_).mono ?_; (go_split_ands; exact Hid.out (by assumption)); rintro e w8 ⟨A8, c8, rfl, hr8, hu⟩))
            go_split_ands
            have HU8 := (by assumption : Hid (Up wc w8))
            have hos : os.length = n := HA.out.ho
            have HS8 : Hid (St No w w8 [bus b k (feM ws T) (Ls.set c L'), bk wo.heap.size 31 #[.int .i64 kk, .int .i64 (c : Int), .int .i64 a, .int .i64 z], sts wh.heap.size SS', ints (wh.heap.size + 1) (os.set c ((D.length + 0 : Nat) : Int)), ints (wh.heap.size + 1 + 1) (feM ws (T.take 0))]) := Lib.hid (by
              have e1 : os.set c ((D.length + 0 : Nat) : Int) = os := by
                rw [Nat.add_zero, ← HA.out.od, List.getD_eq_getElem?_getD, List.getElem?_eq_getElem (by rw [hos]; exact hcn)]
                simp
              rw [e1]
              exact HS4.out.more HU8.out)
            have HOS := Lib.hid hos
            clear HS4 HS5 HU8 HWT hu hr8 q1 s0 t0 hos hv1 hv2
            go_wp2_with fail
            go_loopg [] T.length (fun lk wx => ∃ j : Nat, Hid (j + lk = T.length) ∧ Hid (St No w wx [bus b k (feM ws T) (Ls.set c L'), bk wo.heap.size 31 #[.int .i64 kk, .int .i64 (c : Int), .int .i64 a, .int .i64 z], sts wh.heap.size SS', ints (wh.heap.size + 1) (os.set c ((D.length + j : Nat) : Int)), ints (wh.heap.size + 1 + 1) (feM ws (T.take j))]))
            case atStart => exact ⟨0, Lib.hid (Nat.zero_add _), HS8⟩
            case round =>
              clear HS8
              obtain ⟨j, HJ, HS9⟩ := hrel
              obtain ⟨lk, rfl⟩ : ∃ lk, lk = gk := ⟨gk, rfl⟩
              have hs9 := HS9.out
              have q1 : wr.cell? ⟨wo.heap.size, 1, none⟩ = some (.int .i64 (c : Int)) := cell_of_block (hs9.get 1).bk_at 1
              obtain ⟨v, s0, t0, hs⟩ := sts_open (hs9.get 2) c HCS.out
              rw [HA.out.here] at hs
              have hco : c < os.length := by rw [HOS.out]; exact hcn
              have c3 := ints_get (hs9.get 3) c (by rw [List.length_set]; exact hco)
              have f3 : wr.frozen? ⟨wh.heap.size + 1, c, none⟩ = false := free_of_block (hs9.get 3).bk_at c
              rw [os_set hco] at c3
              obtain ⟨dj, hdj⟩ : ∃ dj, D.length + j = dj := ⟨_, rfl⟩
              rw [hdj] at c3
              by_cases hj : j < T.length
              · obtain ⟨x, hx1, hx2, hx3⟩ := drain_next HI.out.hw HA.out.bound j hj
                have hdl := HDL.out
                have hlf := HLF.out
                have hN := HN.out
                have hd1 : decide (dj < lf) = true := decide_eq_true (by omega)
                have hd2 : dj < N := by omega
                obtain ⟨gx, ox, cv', rfl, k0, k1⟩ : ∃ gx ox c', v = .slice (some ⟨gx, ox, none⟩) N c' ∧ wr.cell? ⟨gx, ox + dj * 2, none⟩ = some (.int .i64 (x.a : Int)) ∧ wr.cell? ⟨gx, ox + dj * 2 + 1, none⟩ = some (.int .i64 (x.v : Int)) := by
                  obtain ⟨P, ⟨Q, Q2, _, _, _, h2, _⟩, _⟩ := St.step (L := [rl v (D ++ (T ++ L'))]) hs
                  obtain ⟨A, c', rfl, hc⟩ := slc_form h2
                  obtain ⟨gx, ox, rfl, _, _, _, hcell, hfr⟩ := slc_cells h2 (by omega)
                  have e := sw_at (D ++ (T ++ L')) dj (by omega)
                  rw [← hdj, hx1] at e
                  rw [hN]
                  rw [← hdj]
                  exact ⟨gx, ox, c', rfl, hcell _ _ e.1, hcell _ _ e.2⟩
                obtain ⟨xa, hxa⟩ : ∃ xa, x.a = xa := ⟨_, rfl⟩
                obtain ⟨xv, hxv⟩ : ∃ xv, x.v = xv := ⟨_, rfl⟩
                rw [hxa, hxv] at hx3
                rw [hxa] at k0 hx2
                rw [hxv] at k1
                have c4 := ints_get (hs9.get 4) xa (by rw [feM_len, HI.out.hw]; exact hx2)
                have f4 : wr.frozen? ⟨wh.heap.size + 1 + 1, xa, none⟩ = false := free_of_block (hs9.get 4).bk_at xa
                obtain ⟨u4, hu4⟩ : ∃ u4, (feM ws (T.take j)).getD xa 0 = u4 := ⟨_, rfl⟩
                rw [hu4] at c4
                have h11 := ints_set (hs9.get 4) xa (xv : Int)
                rw [hx3] at h11
                have h12 := ints_set (h11.get 4) c ((dj : Int) + 1)
                rw [List.set_set, show (dj : Int) + 1 = ((D.length + (j + 1) : Nat) : Int) by omega] at h12
                have HS10 := Lib.hid (St.drew ((((h12.get 4).get 4).get 4).allocU (.cells #[.int .i64 (xa : Int), .int .i64 (xv : Int)] 55)))
                have HEJ := Lib.hid (show ((D.length + (j + 1) : Nat) : Int) = (dj : Int) + 1 by omega)
                have n1 := World.new_ne wr _ q1
                have n2 := World.new_ne wr _ s0
                have n3 := World.new_ne wr _ c3
                have n4 := World.new_ne wr _ k0
                have n5 := World.new_ne wr _ k1
                have n6 := World.new_ne wr _ c4
                have l1 := World.block_lt_of_cell? wr _ q1
                have l3 := World.block_lt_of_cell? wr _ c3
                have l4 := World.block_lt_of_cell? wr _ c4
                have hm1 : (xa : Int) < m := by omega
                have hm2 : decide (m ≤ xa) = false := decide_eq_false (by omega)
                have hd3 : (dj : Int) ≤ 81 := by omega
                have b1 : ¬ wo.heap.size = wh.heap.size + 1 := bk_ne (hs9.cut 0 |>.cut 1)
                have b2 : ¬ wo.heap.size = wh.heap.size + 1 + 1 := bk_ne ((hs9.cut 0 |>.cut 1).cut 1)
                have b3 := Ne.symm b1
                have b4 := Ne.symm b2
                clear hs9 hs HS9 hco hdj hx1 hx3 hdl hlf hN hxa hxv hu4 h11 h12 hx2 t0
                go_upto_region 18 with fail
                go_region_held3 (fun wx => wx.cell? ⟨wo.heap.size, 1, none⟩ = some (.int .i64 (c : Int)) ∧ wx.cell? ⟨wh.heap.size, c, none⟩ = some (.slice (some ⟨gx, ox, none⟩) N cv') ∧ wx.cell? ⟨wh.heap.size + 1, c, none⟩ = some (.int .i64 (dj : Int)) ∧ wx.cell? ⟨gx, ox + dj * 2, none⟩ = some (.int .i64 (xa : Int)) ∧ wx.cell? ⟨gx, ox + dj * 2 + 1, none⟩ = some (.int .i64 (xv : Int)))
                  (first | exact ⟨q1, s0, c3, k0, k1⟩ | go_keep) (fail)
                go_wp2_with fail
                go_roundg (lk - 1)
                case measure => have := HJ.out; omega
                case rel => exact ⟨j + 1, Lib.hid (by have := HJ.out; omega), by rw [← HEJ.out]; exact HS10⟩
              · obtain rfl : j = T.length := by have := HJ.out; omega
                obtain rfl : dj = lf := by have := HLF.out; omega
                have hs8 := hs
                rw [List.take_length] at hs8
                have HAH := Lib.hid HA.out.here
                have HNX := Lib.hid (inv_next HI.out HA.out)
                have hwl : (feM ws T).length = m := by rw [feM_len]; exact HI.out.hw
                have hll : (Ls.set c L').length = n := by rw [List.length_set]; exact HA.out.hL
                have hlg := set_getD Ls c L' (by rw [HA.out.hL]; exact hcn)
                have hog := os_set hco ((D.length + T.length : Nat) : Int)
                obtain ⟨ws2, hws2⟩ : ∃ x, feM ws T = x := ⟨_, rfl⟩
                obtain ⟨Ls2, hLs2⟩ : ∃ x, Ls.set c L' = x := ⟨_, rfl⟩
                obtain ⟨os2, hos2⟩ : ∃ x, os.set c ((D.length + T.length : Nat) : Int) = x := ⟨_, rfl⟩
                rw [hws2] at hs8 HNX hwl
                rw [hLs2] at hs8 HNX hll hlg
                rw [hos2] at hs8 HNX hog
                have hdl := HDL.out
                rw [hdj] at hog
                clear hws2 hLs2 hos2
                obtain ⟨Av, cv, rfl, hv1, hv2⟩ : ∃ A c', v = .slice A N c' ∧ N ≤ c' ∧ c' ≤ maxLen := by
                  obtain ⟨P, ⟨Q, Q2, _, _, _, h2, _⟩, _⟩ := St.step (L := [rl v (D ++ (T ++ L'))]) hs8
                  obtain ⟨A, c', h3, h4⟩ := slc_form h2
                  rw [HN.out] at h3 h4
                  exact ⟨A, c', h3, h4⟩
                obtain ⟨ti, hti, hz0, hz1, hz2⟩ := info_of' info_store
                obtain ⟨As, hsl, hrs⟩ : ∃ As, (∀ W : World, (Instr.slice 53 (.slice Av N cv) (some (.int .i64 (dj : Int))) none none).run Try.prog W = .ok (.slice As L'.length (cv - dj)) W) ∧ Rd wr 2 As L'.length (L'.flatMap sw) := by
                  obtain ⟨P, ⟨Q, Q2, _, _, _, h2, _⟩, _⟩ := St.step (L := [rl (.slice Av N cv) (D ++ (T ++ L'))]) hs8
                  unfold rl at h2
                  simp only [HN.out] at h2
                  obtain ⟨A', e1, e2⟩ := Sep.slc_drop Try.underlying53 hti hz1 h2 dj (by omega) (by omega)
                  have e3 : N - dj = L'.length := by omega
                  rw [e3] at e1 e2
                  have e4 : ((D ++ (T ++ L')).flatMap sw).drop (dj * 2) = L'.flatMap sw := by
                    rw [← sw_drop, ← hdj, ← List.append_assoc, ← List.length_append, List.drop_left]
                  rw [e4] at e2
                  exact ⟨A', e1, slc_rd e2 (sw_one L')⟩
                have HRS := Lib.hid hrs
                have HC : Hid (St No w wr.drew [rl (.slice Av N cv) (D ++ (T ++ L')), stsx wh.heap.size SS' c (.slice Av N cv), bus b k ws2 Ls2, bk wo.heap.size 31 #[.int .i64 kk, .int .i64 (c : Int), .int .i64 a, .int .i64 z], ints (wh.heap.size + 1) os2, ints (wh.heap.size + 1 + 1) ws2]) := Lib.hid (hs8.drew)
                have HW2 := Lib.hid (fun (wx : World) (hh : Hid (St No w wx [rl (.slice Av N cv) (D ++ (T ++ L')), stsx wh.heap.size SS' c (.slice Av N cv), bus b k ws2 Ls2, bk wo.heap.size 31 #[.int .i64 kk, .int .i64 (c : Int), .int .i64 a, .int .i64 z], ints (wh.heap.size + 1) os2, ints (wh.heap.size + 1 + 1) ws2])) => Waits_u (hh.out.get 2) c (by rw [hll]; exact hcn))
                rw [hlg] at HW2
                have HRM := Lib.hid (fun (wx : World) (hh : Hid (St No w wx [rl (.slice Av N cv) (D ++ (T ++ L')), stsx wh.heap.size SS' c (.slice Av N cv), bus b k ws2 Ls2, bk wo.heap.size 31 #[.int .i64 kk, .int .i64 (c : Int), .int .i64 a, .int .i64 z], ints (wh.heap.size + 1) os2, ints (wh.heap.size + 1 + 1) ws2])) => Ram_st (hh.out.get 2))
                have HOG := Lib.hid hog
                have hL81 : L'.length ≤ 100000 := by omega
                have hco2 : c < os2.length := by rw [HNX.out.ho]; exact hcn
                have HCO := Lib.hid hco2
                have hwl2 : ws2.length ≤ 1000 := by have := HH.out.2.1; omega
                have HWL := Lib.hid hwl
                have d1 : decide (dj < dj) = false := decide_eq_false (by omega)
                clear hs hs8 hs9 HS9 hrs hog hdl hlg hll hwl hdj hco hco2 hj
                go_upto_region 22 with fail
                go_region_held3 (fun wx => wx.cell? ⟨wo.heap.size, 1, none⟩ = some (.int .i64 (c : Int)) ∧ wx.cell? ⟨wh.heap.size, c, none⟩ = some (.slice Av N cv) ∧ wx.cell? ⟨wh.heap.size + 1, c, none⟩ = some (.int .i64 (dj : Int)) ∧ Hid (St No w wx [rl (.slice Av N cv) (D ++ (T ++ L')), stsx wh.heap.size SS' c (.slice Av N cv), bus b k ws2 Ls2, bk wo.heap.size 31 #[.int .i64 kk, .int .i64 (c : Int), .int .i64 a, .int .i64 z], ints (wh.heap.size + 1) os2, ints (wh.heap.size + 1 + 1) ws2]))
                  (first | exact ⟨q1, s0, c3, HC⟩ | (go_split_ands; exact ⟨cell_up hu (by assumption), cell_up hu (by assumption), cell_up hu (by assumption), Lib.hid (St.more (Hid.out (by assumption)) hu)⟩) | exact ⟨z1, z2, z3, HZ⟩)
                  (first
                    | (go_at_call 22; refine (HW2.out _ ?_).mono ?_; (go_split_ands; assumption); rintro e w8 ⟨A8, c8, rfl, hr8, hu⟩; have hu8 := hu)
                    | (go_at_call 24; refine (Pairs.Pairs_walk L' A8 c8 _ hr8 hL81).mono ?_; rintro e w9 ⟨A9, c9, rfl, hr9, hu⟩; have hu9 := hu)
                    | (go_at_call 25; refine (Pairs.Cells_walk L' As (cv - dj) _ (HRS.out.up (((Up.refl _).drew.trans hu8).trans hu9)) hL81).mono ?_; rintro e w10 ⟨A10, c10, rfl, hr10, hu⟩; have hu10 := hu)
                    | (go_at_call 23; refine (Pairs.SameCells_walk L' A9 A10 c9 c10 _ (hr9.up hu10) hr10 hL81).mono ?_; rintro e w11 ⟨rfl, hu⟩)
                    | (go_at_call 16; refine (HRM.out _ ?_).mono ?_; (go_split_ands; assumption); rintro e w12 ⟨r12, rfl, hs12⟩; have H12 : Hid (St No w w12 [ram r12 ws2, bus b k ws2 Ls2, rl (.slice Av N cv) (D ++ (T ++ L')), stsx wh.heap.size SS' c (.slice Av N cv), bk wo.heap.size 31 #[.int .i64 kk, .int .i64 (c : Int), .int .i64 a, .int .i64 z], ints (wh.heap.size + 1) os2, ints (wh.heap.size + 1 + 1) ws2]) := Lib.hid hs12; have HZ : Hid (St No w w12 [rl (.slice Av N cv) (D ++ (T ++ L')), stsx wh.heap.size SS' c (.slice Av N cv), bus b k ws2 Ls2, bk wo.heap.size 31 #[.int .i64 kk, .int .i64 (c : Int), .int .i64 a, .int .i64 z], ints (wh.heap.size + 1) os2, ints (wh.heap.size + 1 + 1) ws2]) := Lib.hid (hs12.drop.put 2); have z1 : w12.cell? ⟨wo.heap.size, 1, none⟩ = some (.int .i64 (c : Int)) := cell_of_block (St.bk_at (hs12.get 4)) 1; have z2 := (stsx_cell HCS.out (hs12.get 3)).1; have z3 := ints_get (hs12.get 5) c HCO.out; rw [HOG.out] at z3; clear hs12)
                    | (go_at_call 15; refine (Words_st H12.out).mono ?_; rintro e w13 ⟨v13, rfl, hs13⟩; have H13 : Hid (St No w w13 (lat v13 ws2 :: [ram r12 ws2, bus b k ws2 Ls2, rl (.slice Av N cv) (D ++ (T ++ L')), stsx wh.heap.size SS' c (.slice Av N cv), bk wo.heap.size 31 #[.int .i64 kk, .int .i64 (c : Int), .int .i64 a, .int .i64 z], ints (wh.heap.size + 1) os2, ints (wh.heap.size + 1 + 1) ws2])) := Lib.hid hs13; have H14 := ints_lat (hs13.get 7); rw [HWL.out] at H14; have H15 := Lib.hid H14; clear H14; have HZ : Hid (St No w w13 [rl (.slice Av N cv) (D ++ (T ++ L')), stsx wh.heap.size SS' c (.slice Av N cv), bus b k ws2 Ls2, bk wo.heap.size 31 #[.int .i64 kk, .int .i64 (c : Int), .int .i64 a, .int .i64 z], ints (wh.heap.size + 1) os2, ints (wh.heap.size + 1 + 1) ws2]) := Lib.hid ((St.put (hs13.drop.drop) 2)); have z1 : w13.cell? ⟨wo.heap.size, 1, none⟩ = some (.int .i64 (c : Int)) := cell_of_block (St.bk_at (hs13.get 5)) 1; have z2 := (stsx_cell HCS.out (hs13.get 4)).1; have z3 := ints_get (hs13.get 6) c HCO.out; rw [HOG.out] at z3; clear hs13)
                    | (go_at_call 14; refine (Same_u H13.out H15.out hwl2).mono ?_; rintro e w14 ⟨rfl, hu⟩))
                go_split_ands
                have hf := Hid.out (by assumption : Hid (St No w w14 [rl (.slice Av N cv) (D ++ (T ++ L')), stsx wh.heap.size SS' c (.slice Av N cv), bus b k ws2 Ls2, bk wo.heap.size 31 #[.int .i64 kk, .int .i64 (c : Int), .int .i64 a, .int .i64 z], ints (wh.heap.size + 1) os2, ints (wh.heap.size + 1 + 1) ws2]))
                rw [← HAH.out] at hf
                have HSF := Lib.hid (((sts_back HCS.out hf).cut 2).get 1)
                clear hf
                go_wp2_with fail
                go_roundg (g1 - 1)
                case measure => have := HG.out; omega
                case rel => exact ⟨i + 1, ws2, Ls2, SS', os2, by omega, Lib.hid (by have := HG.out; omega), by go_num, HSF, HNX⟩
        · obtain ⟨rfl, rfl⟩ := HRF.out (.inl h0)
          have H0 : (d4 == 0) = false := beq_eq_false_iff_ne.2 h0
          have HS2 := Lib.hid (hs.cut 1)
          have HI2 : Hid (Inv m n (i + 1) d1 d2 SS os) := Lib.hid ⟨HI.out.hw, HI.out.hL, HI.out.hS, HI.out.ho, fun c hc => ⟨by have := (HI.out.each c hc).1; omega, (HI.out.each c hc).2⟩⟩
          clear hs HI HRF HOR
          go_wp2
          go_roundg (g1 - 1)
          case measure => have := HG.out; omega
          case rel => exact ⟨i + 1, _, _, SS, os, by omega, Lib.hid (by have := HG.out; omega), by go_num, HS2, HI2⟩
    · obtain rfl : i = rows.length := by omega
      go_wp2_with (go_at_call 11; refine (alive_st HS.out).mono ?_; rintro e w9 ⟨rfl, hs⟩; have HF9 := Lib.hid hs.up; clear hs)
      go_ret
      exact ⟨rfl, HF9.out⟩
end Go.Proofs.Ytlefefcakffepaa.Bus
