/- BusAlone, walked. -/
import Derived.Test.YtlefefcakffepaaBusPlain
import Derived.Test.YtlefefcakffepaaOpen
namespace Go.Proofs.Ytlefefcakffepaa.Bus
set_option linter.unusedVariables false
set_option linter.unusedSimpArgs false
open Go.RowKit Go.Proofs.Ytlefefcakffepaa.Lat Go.Proofs.Ytlefefcakffepaa.Sep Go.Proofs.Ytlefefcakffepaa.Sram Go.Proofs.Ytlefefcakffepaa.Find Go.Proofs.Ytlefefcakffepaa.Sbuf Go.Proofs.Ytlefefcakffepaa.Open

theorem row4_cells {w : World} {A : Option Addr} {rows : List (List Int)} (hr : Recs 4 w A rows) (i : Nat) (hi : i < rows.length) : ∃ ad k a n z, A = some ad ∧ w.cell? (ad.add (i * 4)) = some (.int .i64 k) ∧ w.cell? ⟨(ad.add (i * 4)).block, (ad.add (i * 4)).off + 1, none⟩ = some (.int .i64 a) ∧ w.cell? ⟨(ad.add (i * 4)).block, (ad.add (i * 4)).off + 2, none⟩ = some (.int .i64 n) ∧ w.cell? ⟨(ad.add (i * 4)).block, (ad.add (i * 4)).off + 3, none⟩ = some (.int .i64 z) := by
  obtain ⟨ad, rfl, hc⟩ := hr i hi
  have h0 := hc 0 (by omega)
  have h1 := hc 1 (by omega)
  have h2 := hc 2 (by omega)
  have h3 := hc 3 (by omega)
  rw [← Go.Deep.add_add] at h1 h2 h3
  exact ⟨ad, _, _, _, _, rfl, h0, h1, h2, h3⟩
/-- A list of ints that was made. -/
abbrev ints (g : Nat) (l : List Int) : Rg := bk g 3 (l.map (Value.int .i64)).toArray
section
variable {P0 : Nat → Prop} {w0 w w' : World} {F : List Rg} {g : Nat} {l : List Int}
theorem ints_get (h : St P0 w0 w (ints g l :: F)) (a : Nat) (ha : a < l.length) : w.cell? ⟨g, a, none⟩ = some (.int .i64 (l.getD a 0)) := by
  have h1 := cell_of_block h.bk_at a
  rw [h1]
  simp [List.getD_eq_getElem?_getD, ha]
theorem ints_set (h : St P0 w0 w (ints g l :: F)) (a : Nat) (z : Int) : St P0 w0 (w.setCell ⟨g, a, none⟩ (.int .i64 z)) (ints g (l.set a z) :: F) := by
  have h1 := h.set a (.int .i64 z)
  have e : (l.map (Value.int .i64)).toArray.setIfInBounds a (.int .i64 z) = ((l.set a z).map (Value.int .i64)).toArray := by simp [List.map_set]
  rw [e] at h1
  exact h1
theorem ints_lat (h : St P0 w0 w (ints g l :: F)) : St P0 w0 w (lat (.slice (some ⟨g, 0, none⟩) l.length l.length) l :: F) := h.imp fun P hP =>
  LAt.of_block (rest := []) (by rw [List.append_nil]; exact hP.2) (Nat.le_refl _) hP.1
end
theorem few_q (n : Int) (A : Option Addr) (m c : Nat) (w : World) (hm : m ≤ 80) (hn : n ≤ 200) : Calls Try.prog 10 #[.int .i64 n, .slice A m c] w fun e w' => e = .returned (.bool true) ∧ w' = w := by
  have g1 : (m : Int) ≤ 80 := by omega
  go_enter Try.func10, Try.ntmps10
  go_wp2
  go_ret
  exact ⟨rfl, rfl⟩
theorem few_no (n : Int) (A : Option Addr) (m c : Nat) (w : World) (h : ¬ (m ≤ 80 ∧ n ≤ 200)) : Calls Try.prog 10 #[.int .i64 n, .slice A m c] w fun e w' => e = .returned (.bool false) ∧ w' = w := by
  by_cases hm : m ≤ 80
  · have g1 : (m : Int) ≤ 80 := by omega
    have g2 : decide (n ≤ 200) = false := decide_eq_false (by omega)
    clear h
    go_enter Try.func10, Try.ntmps10
    go_wp2
    go_ret
    exact ⟨rfl, rfl⟩
  · have g1 : decide ((m : Int) ≤ 80) = false := decide_eq_false (by omega)
    clear h
    go_enter Try.func10, Try.ntmps10
    go_wp2
    go_ret
    exact ⟨rfl, rfl⟩
theorem replicate_map (n : Nat) : ((List.replicate n (0 : Int)).map (Value.int .i64)).toArray = Array.replicate n (.int .i64 0) := by simp
set_option maxHeartbeats 16000000 in
set_option maxRecDepth 100000 in
theorem alone_walk (n cap : Nat) (hn : 1 ≤ n ∧ n ≤ 200) (hcap : 1 ≤ cap ∧ cap ≤ 16) (A : Option Addr) (c : Nat) (rows : List (List Int)) (w : World) (hr : Recs 4 w A rows) (hl : rows.length ≤ 80) :
    Calls Try.prog 3 #[.int .i64 n, .int .i64 cap, .slice A rows.length c] w fun e w' => e = .returned (.bool true) ∧ Up w w' := by
  have HR := Lib.hid hr
  have HN := Lib.hid hn
  have HC := Lib.hid hcap
  have HF := Lib.hid (fun wx => few_q n A rows.length c wx hl (by omega))
  have HMK := Lib.hid (fun wx => run_mk n (by omega) wx)
  have hn200 := hn.2
  clear hr hn hcap
  go_enter Try.func3, Try.ntmps3
  go_wp2_with fail
  refine (New_st (St.nil w) 1 n cap ⟨by omega, ⟨HN.out.1, by omega⟩, HC.out⟩).mono ?_
  rintro e w1 ⟨b, rfl, hs⟩
  have HS1 : Hid (St No w w1 [bus b cap (List.replicate n 0) [[]]]) := Lib.hid hs
  clear hs
  have hmk := HMK.out
  go_wp2_with (go_at_call 10; refine (HF.out _).mono ?_; rintro e wg ⟨rfl, rfl⟩)
  clear hmk
  go_loopw [37] (fun v37 wx => ∃ (i : Nat) (ws : List Int) (L : List W16), i ≤ rows.length ∧ v37 = .int .i64 i ∧ Hid (St No w wx [bus b cap ws [L], ints wg.heap.size (feM ws L)]) ∧ Hid (ws.length = n ∧ L.length ≤ cap)) (fun v37 _ => rows.length - (intOf v37).toNat)
  case atStart =>
    refine ⟨0, List.replicate n 0, [], Nat.zero_le _, rfl, Lib.hid ?_, Lib.hid ⟨by simp, Nat.zero_le _⟩⟩
    have h1 := (HS1.out.alloc ((List.replicate n (0 : Int)).map (Value.int .i64)).toArray 3).get 1
    first | exact h1 | (rw [replicate_map] at h1; show St _ _ _ [_, bk _ _ ((feM (List.replicate n 0) []).map (Value.int .i64)).toArray]; rw [show feM (List.replicate n 0) [] = List.replicate n 0 from rfl, replicate_map]; exact h1)
  case round =>
    clear HS1
    obtain ⟨i, ws, L, hi, rfl, HS, HI⟩ := hrel
    by_cases hlt : i < rows.length
    · obtain ⟨ad, k, co, a, z, rfl, k0, k1, k2, k3⟩ := row4_cells HR.out i hlt
      have hs := HS.out
      have m0 := cell_up hs.up k0
      have m1 := cell_up hs.up k1
      have m2 := cell_up hs.up k2
      have m3 := cell_up hs.up k3
      clear k0 k1 k2 k3
      have HS1 : Hid (St No w (wr.alloc (.cells #[.int .i64 k, .int .i64 0, .int .i64 a, .int .i64 z] 31)) [bk wr.heap.size 31 #[.int .i64 k, .int .i64 0, .int .i64 a, .int .i64 z], bus b cap ws [L], ints wg.heap.size (feM ws L)]) := Lib.hid (hs.alloc #[.int .i64 k, .int .i64 0, .int .i64 a, .int .i64 z] 31)
      clear hs HS
      by_cases hk5 : k = 5
      · subst hk5
        have HS2 := Lib.hid HS1.out.drop
        clear HS1
        go_wp2
        go_roundw
        case rel => exact ⟨i + 1, ws, L, by omega, by go_num, HS2, HI⟩
        case measure => simp [intOf]; omega
      · have K5 : (k == 5) = false := beq_eq_false_iff_ne.2 hk5
        obtain ⟨ws', L', m, e0, hd, hlen, hL', hcase⟩ := alone_step (cap := cap) (ws := ws) (L := L) k a z (by have := HI.out.1; omega) HI.out.2 HC.out.1 hk5
        have HD := Lib.hid hd
        have HI' : Hid (ws'.length = n ∧ L'.length ≤ cap) := Lib.hid ⟨hlen.trans HI.out.1, hL'⟩
        have HOL : Hid ((feM ws L).length = n) := Lib.hid ((feM_len L ws).trans HI.out.1)
        have hwn : ws.length = n := HI.out.1
        rw [hwn] at hcase
        clear hd hk5 hlen hL' hwn
        generalize hown : feM ws L = own at *
        have HO := Lib.hid hown
        clear hown
        have HS2 : Hid (St No w _ [bus b cap ws [L], bk wr.heap.size 31 #[.int .i64 k, .int .i64 0, .int .i64 a, .int .i64 z], ints wg.heap.size own]) := Lib.hid (HS1.out.get 1)
        clear HS1
        go_wp2_with fail
        refine (do_st HS2.out k 0 a z).mono ?_
        rw [HD.out]
        rintro e w4 ⟨rfl, hs⟩
        have HS4 : Hid (St No w w4 [bus b cap ws' [L'], bk wr.heap.size 31 #[.int .i64 k, .int .i64 0, .int .i64 a, .int .i64 z], ints wg.heap.size own]) := Lib.hid hs
        have q0 : w4.cell? ⟨wr.heap.size, 0, none⟩ = some (.int .i64 k) := cell_of_block (hs.get 1).bk_at 0
        have q2 : w4.cell? ⟨wr.heap.size, 2, none⟩ = some (.int .i64 a) := cell_of_block (hs.get 1).bk_at 2
        have q3 : w4.cell? ⟨wr.heap.size, 3, none⟩ = some (.int .i64 z) := cell_of_block (hs.get 1).bk_at 3
        clear hs HS2 HD m0 m1 m2 m3
        rcases hcase with ⟨he, hf⟩ | ⟨rfl, rfl, ha, hf⟩ | ⟨rfl, rfl, ha, rfl, hf⟩ | ⟨rfl, hk, hf⟩ | ⟨rfl, hk, ha, rfl, hf⟩
        · have E0 : (e0 == 0) = false := beq_eq_false_iff_ne.2 he
          rw [← hf] at HS4
          have HE := Lib.hid (HS4.out.cut 1)
          clear HS4 hf he
          go_wp2
          go_roundw
          case rel => exact ⟨i + 1, ws', L', by omega, by go_num, HE, HI'⟩
          case measure => simp [intOf]; omega
        · obtain ⟨j, rfl⟩ := Int.eq_ofNat_of_zero_le ha.1
          have hj : j < own.length := by have := HOL.out; omega
          have hj1 : (j : Int) < n := ha.2
          have hj2 : decide (n ≤ j) = false := decide_eq_false (by omega)
          have c0 := ints_get (HS4.out.get 2) j hj
          have f0 : w4.frozen? ⟨wg.heap.size, j, none⟩ = false := free_of_block (HS4.out.get 2).bk_at j
          have h9 := ints_set (HS4.out.get 2) j z
          rw [Int.toNat_natCast] at hf
          rw [← hf] at h9
          have HE : Hid (St No w _ [bus b cap ws' [L'], ints wg.heap.size (feM ws' L')]) := Lib.hid ((h9.cut 2).get 1)
          clear HS4 hf h9 hj ha
          go_wp2
          go_roundw
          case rel => exact ⟨i + 1, ws', L', by omega, by go_num, HE, HI'⟩
          case measure => simp [intOf]; omega
        · obtain ⟨j, rfl⟩ := Int.eq_ofNat_of_zero_le ha.1
          have hj : j < own.length := by have := HOL.out; omega
          have hj1 : (j : Int) < n := ha.2
          have hj2 : decide (n ≤ j) = false := decide_eq_false (by omega)
          have c0 := ints_get (HS4.out.get 2) j hj
          have f0 : w4.frozen? ⟨wg.heap.size, j, none⟩ = false := free_of_block (HS4.out.get 2).bk_at j
          have h9 := ints_set (HS4.out.get 2) j z
          rw [Int.toNat_natCast] at hf
          rw [Int.toNat_natCast]
          rw [← hf] at h9
          have HE : Hid (St No w _ [bus b cap ws' [L'], ints wg.heap.size (feM ws' L')]) := Lib.hid ((h9.cut 2).get 1)
          clear HS4 hf h9 hj ha
          generalize own.getD j 0 = u at *
          go_wp2
          go_roundw
          case rel => exact ⟨i + 1, ws', L', by omega, by go_num, HE, HI'⟩
          case measure => simp [intOf]; omega
        · rw [← hf] at HS4
          have HE := Lib.hid (HS4.out.cut 1)
          clear HS4 hf
          rcases hk with rfl | rfl
          all_goals
            go_wp2
            go_roundw
            case rel => exact ⟨i + 1, ws', L', by omega, by go_num, HE, HI'⟩
            case measure => simp [intOf]; omega
        · obtain ⟨j, rfl⟩ := Int.eq_ofNat_of_zero_le ha.1
          have hj : j < own.length := by have := HOL.out; omega
          have hj1 : (j : Int) < n := ha.2
          have hj2 : decide (n ≤ j) = false := decide_eq_false (by omega)
          have c0 := ints_get (HS4.out.get 2) j hj
          rw [Int.toNat_natCast]
          rw [← hf] at HS4
          have HE := Lib.hid (HS4.out.cut 1)
          have K0 : (k == 0) = false := beq_eq_false_iff_ne.2 hk.1
          have K2 : (k == 2) = false := beq_eq_false_iff_ne.2 hk.2.1
          have K3 : (k == 3) = false := beq_eq_false_iff_ne.2 hk.2.2.1
          have K4 : (k == 4) = false := beq_eq_false_iff_ne.2 hk.2.2.2
          clear HS4 hf hj ha hk
          generalize own.getD j 0 = u at *
          go_wp2
          go_roundw
          case rel => exact ⟨i + 1, ws', L', by omega, by go_num, HE, HI'⟩
          case measure => simp [intOf]; omega
    · obtain rfl : i = rows.length := by omega
      have hwn := HI.out.1
      have hinv := HI.out
      have e1 : fenceB ws [L] 0 = (feM ws L, [[]], (L.length : Int), 0) := rfl
      have HLN : Hid ((feM ws L).length = n) := Lib.hid ((feM_len L ws).trans hwn)
      have HE1 := Lib.hid e1
      clear e1 hinv hwn
      go_wp2_with fail
      refine (Fence_st HS.out 0).mono ?_
      rw [HE1.out]
      rintro e w5 ⟨rfl, hs⟩
      have HS5 : Hid (St No w w5 [bus b cap (feM ws L) [[]], ints wg.heap.size (feM ws L)]) := Lib.hid hs
      clear hs HS HE1
      go_wp2_with fail
      refine (Ram_st HS5.out).mono ?_
      rintro e w6 ⟨r6, rfl, hs⟩
      have HS6 : Hid (St No w w6 [ram r6 (feM ws L), bus b cap (feM ws L) [[]], ints wg.heap.size (feM ws L)]) := Lib.hid hs
      clear hs HS5
      go_wp2_with fail
      refine (Words_st HS6.out).mono ?_
      rintro e w7 ⟨v7, rfl, hs⟩
      have hs7 : St No w w7 [lat v7 (feM ws L), lat (.slice (some ⟨wg.heap.size, 0, none⟩) (feM ws L).length (feM ws L).length) (feM ws L)] := (ints_lat (((hs.cut 1).cut 1).get 1)).get 1
      rw [HLN.out] at hs7
      have HS7 := Lib.hid hs7
      clear hs hs7 HS6
      go_wp2_with fail
      refine (Sram.Same_st HS7.out (by have := HLN.out; omega) (by have := HLN.out; omega)).mono ?_
      rw [decide_eq_true (rfl : feM ws L = feM ws L)]
      rintro e w8 ⟨rfl, hs⟩
      have HS8 := Lib.hid hs
      clear hs HS7
      go_wp2_with (go_at_call 11; refine (alive_st HS8.out).mono ?_; rintro e w9 ⟨rfl, hs⟩; have HF9 := Lib.hid hs.up; clear hs)
      go_ret
      exact ⟨rfl, HF9.out⟩
end Go.Proofs.Ytlefefcakffepaa.Bus
