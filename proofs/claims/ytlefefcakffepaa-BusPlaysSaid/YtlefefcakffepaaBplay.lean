/- BusPlays, walked. -/
import Derived.Test.YtlefefcakffepaaBr8
import Derived.Test.YtlefefcakffepaaBusPlain3
import Derived.Test.YtlefefcakffepaaBusAlone
namespace Go.Proofs.Ytlefefcakffepaa.Br
set_option linter.unusedVariables false
set_option linter.unusedSimpArgs false
open Go.RowKit Go.Proofs.Ytlefefcakffepaa.CellOf Go.Proofs.Ytlefefcakffepaa.CellP Go.Proofs.Ytlefefcakffepaa.Lat Go.Proofs.Ytlefefcakffepaa.Sep Go.Proofs.Ytlefefcakffepaa.Sram Go.Proofs.Ytlefefcakffepaa.Find Go.Proofs.Ytlefefcakffepaa.Sbuf Go.Proofs.Ytlefefcakffepaa.Open Go.Proofs.Ytlefefcakffepaa.Ref05 Go.Proofs.Ytlefefcakffepaa.Bus Go.Proofs.Ytlefefcakffepaa.PBusPlays Go.Proofs.YtlefefcakffepaaW.PrintWords
theorem is_u (n m k : Int) (w : World) : Calls Try.prog 17 #[.int .i64 n, .int .i64 m, .int .i64 k] w fun e w' => e = .returned (.bool (decide ((1 ≤ n ∧ n ≤ 8) ∧ (1 ≤ m ∧ m ≤ 65536) ∧ 1 ≤ k ∧ k ≤ 16))) ∧ Up w w' := by
  refine (switchyardref06_Is.calls n m k (decide ((1 ≤ n ∧ n ≤ 8) ∧ (1 ≤ m ∧ m ≤ 65536) ∧ 1 ≤ k ∧ k ≤ 16)) w ?_).mono ?_
  · unfold switchyardref06_Is.f switchyardref03_Is.f switchyardref05_Is.f
    by_cases h1 : n ≥ 1
    · rw [if_pos h1]
      by_cases h2 : n ≤ 8
      · rw [if_pos h2]
        by_cases h3 : m ≥ 1
        · rw [if_pos h3, Option.bind_some]
          by_cases h4 : m ≤ 65536
          · rw [decide_eq_true h4, if_pos rfl]
            by_cases h5 : k ≥ 1
            · rw [if_pos h5, Option.bind_some]
              congr 1
              exact decide_eq_decide.2 ⟨fun h6 => by omega, fun h6 => by omega⟩
            · rw [if_neg h5, Option.bind_some, decide_eq_false (by omega)]
          · rw [decide_eq_false h4, if_neg (by decide), decide_eq_false (by omega)]
        · rw [if_neg h3, Option.bind_some, if_neg (by decide), decide_eq_false (by omega)]
      · rw [if_neg h2, decide_eq_false (by omega)]
    · rw [if_neg h1, decide_eq_false (by omega)]
  · rintro x w' ⟨rfl, hd⟩
    exact ⟨rfl, hd.below⟩
set_option maxHeartbeats 16000000 in
set_option maxRecDepth 100000 in
theorem plays_walk (n m k : Nat) (hh : (1 ≤ n ∧ n ≤ 8) ∧ (1 ≤ m ∧ m ≤ 200) ∧ 1 ≤ k ∧ k ≤ 16) (A : Option Addr) (c : Nat) (rows : List (List Int)) (w : World) (hr : Recs 4 w A rows) (hl : rows.length ≤ 80) :
    Calls Try.prog 4 #[.int .i64 n, .int .i64 m, .int .i64 k, .slice A rows.length c] w fun e w' => e = .returned (.bool true) ∧ Up w w' := by
  have HR := Lib.hid hr
  have HH := Lib.hid hh
  have HF := Lib.hid (fun wx => few_q m A rows.length c wx hl (by omega))
  have HI := Lib.hid (fun wx => is_u (n : Int) (m : Int) (k : Int) wx)
  rw [decide_eq_true (by omega)] at HI
  clear hr hh
  go_enter Try.func4, Try.ntmps4
  go_wp2_with fail
  refine (HF.out _).mono ?_
  rintro e wg ⟨rfl, hwg⟩
  subst hwg
  go_wp2_with fail
  refine (New_st (St.nil wg) n m k ⟨HH.out.1, by have := HH.out.2.1; omega, HH.out.2.2⟩).mono ?_
  rintro e w1 ⟨b, rfl, hs⟩
  have HS1 := Lib.hid hs
  clear hs
  go_wp2_with fail
  refine (HI.out _).mono ?_
  rintro e w2 ⟨rfl, hu⟩
  have HS2 := Lib.hid (HS1.out.more hu)
  clear hu HS1 HI
  go_wp2_with fail
  refine (New_b HS2.out n m (by have := HH.out; omega) (by have := HH.out; omega) (by have := HH.out; omega)).mono ?_
  intro e w3 hd
  unfold NwP at hd
  obtain ⟨Ar, cr, Ab, cb, rfl, h3⟩ := hd
  have h4 := h3.alloc #[.slice Ar m cr, .slice Ab n cb] 45
  have HS4 : Hid (St No wg _ (bus b k (List.replicate m 0) (List.replicate n []) :: rbus (.slice Ar m cr) (.slice Ab n cb) k (List.replicate m 0) (List.replicate n []) :: [bk w3.heap.size 45 #[.slice Ar m cr, .slice Ab n cb]])) := Lib.hid ((h4.get 1).get 2)
  clear h3 h4 HS2
  go_wp2_with fail
  obtain ⟨q, hq⟩ : ∃ q, w3.heap.size = q := ⟨_, rfl⟩
  rw [hq] at HS4 ⊢
  go_loopg [57] rows.length (fun gk v57 wx => ∃ (i : Nat) (ws : List Int) (Ls : List (List W16)) (Ar : Option Addr) (cr : Nat) (Ab : Option Addr) (cb : Nat), i ≤ rows.length ∧ Hid (i + gk = rows.length) ∧ v57 = .int .i64 i ∧ Hid (ws.length = m ∧ Ls.length = n) ∧ Hid (St No wg wx (bus b k ws Ls :: rbus (.slice Ar m cr) (.slice Ab n cb) k ws Ls :: [bk q 45 #[.slice Ar m cr, .slice Ab n cb]])))
  case atStart => exact ⟨0, List.replicate m 0, List.replicate n [], Ar, cr, Ab, cb, Nat.zero_le _, Lib.hid (Nat.zero_add _), rfl, Lib.hid ⟨by simp, by simp⟩, HS4⟩
  case round =>
    clear HS4
    obtain ⟨i, ws, Ls, Ar, cr, Ab, cb, hi, HG, rfl, HLN, HS⟩ := hrel
    by_cases hlt : i < rows.length
    · obtain ⟨ad, kk, co, a, z, rfl, k0, k1, k2, k3⟩ := row4_cells HR.out i hlt
      have hs := HS.out
      have m0 := cell_up hs.up k0
      have m1 := cell_up hs.up k1
      have m2 := cell_up hs.up k2
      have m3 := cell_up hs.up k3
      have HN1 : Hid (i + 1 + (gk - 1) = rows.length) := Lib.hid (by have := HG.out; omega)
      have HN2 : Hid (gk - 1 < gk) := Lib.hid (by have := HG.out; omega)
      have HN3 : Hid (i + 1 ≤ rows.length) := Lib.hid (by omega)
      have hok := bus_ok hs
      have hle := (bus_le hs).2
      have hlen : ∀ j, (Ls.getD j default).length ≤ k := fun j => by
        by_cases hj : j < Ls.length
        · exact hok.len j hj
        · rw [List.getD_eq_getElem?_getD, List.getElem?_eq_none (by omega)]
          exact Nat.zero_le _
      have h5 := hs.alloc #[.int .i64 kk, .int .i64 co, .int .i64 a, .int .i64 z] 31
      have HRD := Lib.hid (Do_b (h5.get 2) HLN.out.1.symm HLN.out.2.symm (by have := HH.out; omega) hlen hle hok.ram (by have := HH.out; omega) kk co a z)
      have HDO := Lib.hid (fun (wx : World) (F' : List Rg) (h : St No wg wx (bus b k ws Ls :: F')) => do_st h kk co a z)
      have HL2 := Lib.hid (show (doB k ws Ls kk co a z).1.length = m ∧ (doB k ws Ls kk co a z).2.1.length = n from ⟨by rw [(do_len k ws Ls kk co a z).1]; exact HLN.out.1, by rw [(do_len k ws Ls kk co a z).2]; exact HLN.out.2⟩)
      have b0 : (wr.alloc (.cells #[.int .i64 kk, .int .i64 co, .int .i64 a, .int .i64 z] 31)).cell? ⟨q, 0, none⟩ = some (.slice Ar m cr) := cell_of_block (h5.get 3).bk_at 0
      have b1 : (wr.alloc (.cells #[.int .i64 kk, .int .i64 co, .int .i64 a, .int .i64 z] 31)).cell? ⟨q, 1, none⟩ = some (.slice Ab n cb) := cell_of_block (h5.get 3).bk_at 1
      have o0 : (wr.alloc (.cells #[.int .i64 kk, .int .i64 co, .int .i64 a, .int .i64 z] 31)).cell? ⟨wr.heap.size, 0, none⟩ = some (.int .i64 kk) := cell_of_block (h5).bk_at 0
      have o1 : (wr.alloc (.cells #[.int .i64 kk, .int .i64 co, .int .i64 a, .int .i64 z] 31)).cell? ⟨wr.heap.size, 1, none⟩ = some (.int .i64 co) := cell_of_block (h5).bk_at 1
      have o2 : (wr.alloc (.cells #[.int .i64 kk, .int .i64 co, .int .i64 a, .int .i64 z] 31)).cell? ⟨wr.heap.size, 2, none⟩ = some (.int .i64 a) := cell_of_block (h5).bk_at 2
      have o3 : (wr.alloc (.cells #[.int .i64 kk, .int .i64 co, .int .i64 a, .int .i64 z] 31)).cell? ⟨wr.heap.size, 3, none⟩ = some (.int .i64 z) := cell_of_block (h5).bk_at 3
      obtain ⟨⟨ws', Ls', told, er⟩, hd⟩ : ∃ d, doB k ws Ls kk co a z = d := ⟨_, rfl⟩
      rw [hd] at HRD HDO HL2
      dsimp only at HRD HDO HL2
      clear hd hs h5 hok hle hlen k0 k1 k2 k3 HS HG HLN
      go_wp2_with fail
      refine HRD.out.mono ?_
      intro e w4 hd
      unfold DrT at hd
      obtain ⟨A2, c2, B2, d2, rfl, h6⟩ := hd
      have h7 := h6.alloc #[.slice A2 m c2, .slice B2 n d2] 45
      have n0 : (w4.alloc (.cells #[.slice A2 m c2, .slice B2 n d2] 45)).cell? ⟨w4.heap.size, 0, none⟩ = some (.slice A2 m c2) := cell_of_block (h7).bk_at 0
      have n1 : (w4.alloc (.cells #[.slice A2 m c2, .slice B2 n d2] 45)).cell? ⟨w4.heap.size, 1, none⟩ = some (.slice B2 n d2) := cell_of_block (h7).bk_at 1
      have b0 : (w4.alloc (.cells #[.slice A2 m c2, .slice B2 n d2] 45)).cell? ⟨q, 0, none⟩ = some (.slice Ar m cr) := cell_of_block (h7.get 4).bk_at 0
      have b1 : (w4.alloc (.cells #[.slice A2 m c2, .slice B2 n d2] 45)).cell? ⟨q, 1, none⟩ = some (.slice Ab n cb) := cell_of_block (h7.get 4).bk_at 1
      have fb0 : (w4.alloc (.cells #[.slice A2 m c2, .slice B2 n d2] 45)).frozen? ⟨q, 0, none⟩ = false := free_of_block (h7.get 4).bk_at 0
      have fb1 : (w4.alloc (.cells #[.slice A2 m c2, .slice B2 n d2] 45)).frozen? ⟨q, 1, none⟩ = false := free_of_block (h7.get 4).bk_at 1
      have h8 := ((h7.get 4).set 0 (.slice A2 m c2)).set 1 (.slice B2 n d2)
      have HS8 : Hid (St No wg (((w4.alloc (.cells #[.slice A2 m c2, .slice B2 n d2] 45)).setCell ⟨q, 0, none⟩ (.slice A2 m c2)).setCell ⟨q, 1, none⟩ (.slice B2 n d2)) (bus b k ws Ls :: rbus (.slice A2 m c2) (.slice B2 n d2) k ws' Ls' :: bk q 45 #[.slice A2 m c2, .slice B2 n d2] :: [bk wr.heap.size 31 #[.int .i64 kk, .int .i64 co, .int .i64 a, .int .i64 z]])) := Lib.hid ((((h8.cut 1).get 2).get 3).get 2 |> fun _ => by
        have h9 := h8.cut 1
        have h10 : St No wg (((w4.alloc (.cells #[.slice A2 m c2, .slice B2 n d2] 45)).setCell ⟨q, 0, none⟩ (.slice A2 m c2)).setCell ⟨q, 1, none⟩ (.slice B2 n d2)) [rbus (.slice A2 m c2) (.slice B2 n d2) k ws' Ls', bk q 45 #[.slice A2 m c2, .slice B2 n d2], bk wr.heap.size 31 #[.int .i64 kk, .int .i64 co, .int .i64 a, .int .i64 z], bus b k ws Ls] := h9.get 1
        exact h10.get 3)
      clear h6 h7 h8 HRD m0 m1 m2 m3
      go_upto_region 14 with fail
      generalize (((w4.alloc (.cells #[.slice A2 m c2, .slice B2 n d2] 45)).setCell ⟨q, 0, none⟩ (.slice A2 m c2)).setCell ⟨q, 1, none⟩ (.slice B2 n d2)) = w5 at *
      have HD1 := Lib.hid (HDO.out w5 _ HS8.out)
      have o0 : w5.cell? ⟨wr.heap.size, 0, none⟩ = some (.int .i64 kk) := cell_of_block (HS8.out.get 3).bk_at 0
      have o1 : w5.cell? ⟨wr.heap.size, 1, none⟩ = some (.int .i64 co) := cell_of_block (HS8.out.get 3).bk_at 1
      have o2 : w5.cell? ⟨wr.heap.size, 2, none⟩ = some (.int .i64 a) := cell_of_block (HS8.out.get 3).bk_at 2
      have o3 : w5.cell? ⟨wr.heap.size, 3, none⟩ = some (.int .i64 z) := cell_of_block (HS8.out.get 3).bk_at 3
      clear HDO HS8
      go_wp2_with fail
      refine HD1.out.mono ?_
      rintro e w6 ⟨rfl, h9⟩
      have b0 : w6.cell? ⟨q, 0, none⟩ = some (.slice A2 m c2) := cell_of_block (h9.get 2).bk_at 0
      have b1 : w6.cell? ⟨q, 1, none⟩ = some (.slice B2 n d2) := cell_of_block (h9.get 2).bk_at 1
      have hok2 := bus_ok h9
      have HLK := Lib.hid (Like_st h9 HL2.out.1.symm HL2.out.2.symm (by have := HH.out; omega) (fun j => by
        by_cases hj : j < Ls'.length
        · have := hok2.len j hj
          have := HH.out
          omega
        · rw [List.getD_eq_getElem?_getD, List.getElem?_eq_none (by omega)]
          exact Nat.zero_le _) (by have := HL2.out.1; have := HH.out; omega))
      clear h9 hok2 HD1
      go_wp2_with fail
      refine HLK.out.mono ?_
      rintro e w7 ⟨rfl, h10⟩
      have HS10 := Lib.hid (h10.cut 3)
      clear h10 HLK
      go_wp2_with fail
      go_roundg (gk - 1)
      case measure => exact HN2.out
      case rel => exact ⟨i + 1, ws', Ls', A2, c2, B2, d2, HN3.out, HN1, by go_num, HL2, HS10⟩
    · clear HG
      obtain rfl : i = rows.length := by omega
      go_wp2_with fail
      refine (alive_walk _).mono ?_
      rintro e w6 ⟨rfl, hu⟩
      have HU := Lib.hid (HS.out.up.trans hu)
      clear hu HS
      go_wp2_with fail
      go_ret
      exact ⟨rfl, HU.out⟩
end Go.Proofs.Ytlefefcakffepaa.Br
