/- The reference of the bus: Swap, Load; written by mkbr5.py. -/
import Derived.Test.YtlefefcakffepaaBr4
namespace Go.Proofs.Ytlefefcakffepaa.Br
set_option linter.unusedVariables false
set_option linter.unusedSimpArgs false
open Go.RowKit Go.Proofs.Ytlefefcakffepaa.CellOf Go.Proofs.Ytlefefcakffepaa.CellP Go.Proofs.Ytlefefcakffepaa.Lat Go.Proofs.Ytlefefcakffepaa.Sep Go.Proofs.Ytlefefcakffepaa.Sram Go.Proofs.Ytlefefcakffepaa.Find Go.Proofs.Ytlefefcakffepaa.Sbuf Go.Proofs.Ytlefefcakffepaa.Ref05 Go.Proofs.Ytlefefcakffepaa.Bus Go.Proofs.Ytlefefcakffepaa.PBusPlays Go.Proofs.YtlefefcakffepaaW.PrintWords
theorem results_ctt {fn : Func} {p u v : Tmp} {ty : TypeId} (h : fn.results = #[.cell p ty, .tmp u, .tmp v]) (tmps : Array Value) (P : Program) (w : World) :
    (results fn tmps).run P w = ((asAddr (tmps.getD p undef)).run P w).andThen fun a w₁ => ((loadVar ty a).run P w₁).andThen fun c w₂ => .ok (.tuple #[c, tmps.getD u undef, tmps.getD v undef]) w₂ := by
  simp only [results, h]
  simp [Sem.run_bind, Result.andThen]
section
variable {P0 : Nat → Prop} {w0 w w' : World} {F M : List Rg} {ws : List Int} {Ls : List (List W16)} {L : List W16} {cap : Nat}
def DrT (P0 : Nat → Prop) (w0 : World) (F : List Rg) (cap : Nat) (ws' : List Int) (Ls' : List (List W16)) (m n : Nat) (v u : Value) (x : Ending) (w' : World) : Prop := ∃ Ar cr Ab cb, x = .returned (.tuple #[.agg #[.slice Ar m cr, .slice Ab n cb], v, u]) ∧ St P0 w0 w' (rbus (.slice Ar m cr) (.slice Ab n cb) cap ws' Ls' :: F)
theorem word_at {A : Option Addr} {m c a : Nat} (h : St P0 w0 w (alls M :: F)) (hV : lat (.slice A m c) ws ∈ M) (hm : m = ws.length) (ha : a < m) : ∃ ad, A = some ad ∧ w.cell? (ad.add a) = some (.int .i64 (ws.getD a 0)) := by
  obtain ⟨A', c', e, hr⟩ := lat_form h hV
  cases e
  obtain ⟨ad, hA, hc⟩ := hr.2.2 (by omega)
  refine ⟨ad, hA, hc a _ ?_⟩
  rw [List.getElem?_map, List.getD_eq_getElem?_getD, List.getElem?_eq_getElem (show a < ws.length by omega)]
  rfl
set_option maxHeartbeats 8000000 in
set_option maxRecDepth 100000 in
theorem Swap_b {Ar Ab : Option Addr} {m cr n cb : Nat} (h : St P0 w0 w (rbus (.slice Ar m cr) (.slice Ab n cb) cap ws Ls :: F)) (hm : m = ws.length) (hn : n = Ls.length) (h8 : n ≤ 8) (hl : ∀ j, (Ls.getD j default).length ≤ cap) (hc : 1 ≤ cap ∧ cap ≤ 16) (hw : ws.length ≤ 65536) (core a z : Int) :
    Calls Try.prog 44 #[.agg #[.slice Ar m cr, .slice Ab n cb], .int .i64 core, .int .i64 a, .int .i64 z] w fun x w' => DrT P0 w0 F cap (swapB ws Ls core a z).1 (swapB ws Ls core a z).2.1 m n (.int .i64 (swapB ws Ls core a z).2.2.1) (.int .i64 (swapB ws Ls core a z).2.2.2) x w' := by
  have h2 := ((h.alloc #[.slice Ar m cr, .slice Ab n cb] 45).alloc #[.slice none 0 0, .slice none 0 0] 45).get 1
  rw [World.size_alloc] at h2
  have HS0 := Lib.hid h2
  have HWR := Lib.hid (wrong_x Ar Ab m cr n cb core a)
  have HIS := Lib.hid (refIs_walk z)
  by_cases hwr : wrongC n m core a = 0
  case neg =>
    have E : swapB ws Ls core a z = (ws, Ls, 0, wrongC n m core a) := by
      unfold swapB wrongC at *
      by_cases c1 : 0 ≤ core ∧ core < n
      · rw [if_pos c1] at hwr ⊢
        by_cases c2 : 0 ≤ a ∧ a < m
        · rw [if_pos c2] at hwr
          exact absurd rfl hwr
        · have e1 : wrongE ws.length a z = 4 := if_neg (by rw [← hm]; exact c2)
          have e2 : swM ws (at_ Ls core) a z = (ws, at_ Ls core, 0, 4) := by
            unfold swM
            rw [e1]
            rfl
          rw [if_neg c2, if_pos (by unfold inC; omega), e2]
          dsimp only
          rw [set_self]
      · rw [if_neg c1, if_neg (by unfold inC; omega)]
    rw [E]
    have en : (wrongC n m core a != 0) = true := by simpa [bne] using hwr
    generalize wrongC n m core a = e at *
    clear h h2 hwr E hm hn
    go_enter Try.func44, Try.ntmps44
    go_wp2_with fail
    refine (HWR.out _).mono ?_
    rintro x w3 ⟨rfl, hu⟩
    have h3 := HS0.out.more hu
    have b0 : w3.cell? ⟨w.heap.size, 0, none⟩ = some (.slice Ar m cr) := cell_of_block (h3).bk_at 0
    have b1 : w3.cell? ⟨w.heap.size, 1, none⟩ = some (.slice Ab n cb) := cell_of_block (h3).bk_at 1
    have r0 : w3.cell? ⟨(w.heap.size + 1), 0, none⟩ = some (.slice none 0 0) := cell_of_block (h3.get 1).bk_at 0
    have r1 : w3.cell? ⟨(w.heap.size + 1), 1, none⟩ = some (.slice none 0 0) := cell_of_block (h3.get 1).bk_at 1
    have fr0 : w3.frozen? ⟨(w.heap.size + 1), 0, none⟩ = false := free_of_block (h3.get 1).bk_at 0
    have fr1 : w3.frozen? ⟨(w.heap.size + 1), 1, none⟩ = false := free_of_block (h3.get 1).bk_at 1
    have HS := Lib.hid (h3.get 1)
    clear h3 hu HS0 HWR
    go_wp2_with fail
    (try simp only [Exit.inBlock, Exit.then])
    refine bodyPost_ret (v := .tuple #[.agg #[.slice Ar m cr, .slice Ab n cb], .int .i64 0, .int .i64 e]) ?_ rfl ?_
    · rw [results_ctt (fn := Try.f44) rfl]
      go_simp
    · unfold DrT
      exact ⟨_, _, _, _, rfl, ((((HS.out.set 0 (.slice Ar m cr)).set 1 (.slice Ab n cb)).drop).cut 0)⟩
  have hin : (0 ≤ core ∧ core < n) ∧ 0 ≤ a ∧ a < m := by
    unfold wrongC at hwr
    by_cases c1 : 0 ≤ core ∧ core < n
    · rw [if_pos c1] at hwr
      by_cases c2 : 0 ≤ a ∧ a < m
      · exact ⟨c1, c2⟩
      · rw [if_neg c2] at hwr
        cases hwr
    · rw [if_neg c1] at hwr
      cases hwr
  rw [hwr] at HWR
  have einC : inC Ls core := by unfold inC; omega
  by_cases hz : 0 ≤ z ∧ z ≤ 65535
  case neg =>
    have ez : inW z = false := by
      rw [Bool.eq_false_iff]
      intro e
      exact hz ((inW_iff z).1 e)
    rw [ez] at HIS
    have E : swapB ws Ls core a z = (ws, Ls, 0, 2) := by
      have e1 : wrongE ws.length a z = 2 := by
        unfold wrongE
        rw [if_pos (by omega), if_neg hz]
      have e2 : swM ws (at_ Ls core) a z = (ws, at_ Ls core, 0, 2) := by
        unfold swM
        rw [e1]
        rfl
      unfold swapB
      rw [if_pos einC, e2]
      dsimp only
      rw [set_self]
    rw [E]
    clear h h2 hwr E hm hn hz ez einC hin
    go_enter Try.func44, Try.ntmps44
    go_wp2_with fail
    refine (HWR.out _).mono ?_
    rintro x w3 ⟨rfl, hu⟩
    have HS1 := Lib.hid (HS0.out.more hu)
    clear hu HS0 HWR
    go_wp2_with fail
    refine (HIS.out _).mono ?_
    rintro x w4 ⟨rfl, hu⟩
    have hu' : w3 = w4 := by first | exact hu | exact hu.symm
    have h3 := HS1.out
    rw [hu'] at h3
    have b0 : w4.cell? ⟨w.heap.size, 0, none⟩ = some (.slice Ar m cr) := cell_of_block (h3).bk_at 0
    have b1 : w4.cell? ⟨w.heap.size, 1, none⟩ = some (.slice Ab n cb) := cell_of_block (h3).bk_at 1
    have r0 : w4.cell? ⟨(w.heap.size + 1), 0, none⟩ = some (.slice none 0 0) := cell_of_block (h3.get 1).bk_at 0
    have r1 : w4.cell? ⟨(w.heap.size + 1), 1, none⟩ = some (.slice none 0 0) := cell_of_block (h3.get 1).bk_at 1
    have fr0 : w4.frozen? ⟨(w.heap.size + 1), 0, none⟩ = false := free_of_block (h3.get 1).bk_at 0
    have fr1 : w4.frozen? ⟨(w.heap.size + 1), 1, none⟩ = false := free_of_block (h3.get 1).bk_at 1
    have HS := Lib.hid (h3.get 1)
    clear h3 HS1 HIS hu' hu
    go_wp2_with fail
    (try simp only [Exit.inBlock, Exit.then])
    refine bodyPost_ret (v := .tuple #[.agg #[.slice Ar m cr, .slice Ab n cb], .int .i64 0, .int .i64 2]) ?_ rfl ?_
    · rw [results_ctt (fn := Try.f44) rfl]
      go_simp
    · unfold DrT
      exact ⟨_, _, _, _, rfl, ((((HS.out.set 0 (.slice Ar m cr)).set 1 (.slice Ab n cb)).drop).cut 0)⟩
  have ez : inW z = true := (inW_iff z).2 hz
  rw [ez] at HIS
  obtain ⟨i, rfl⟩ := Int.eq_ofNat_of_zero_le hin.1.1
  obtain ⟨a, rfl⟩ := Int.eq_ofNat_of_zero_le hin.2.1
  have hi : i < n := by omega
  have ham : a < m := by omega
  have ham2 : (a : Int) < (m : Int) := by omega
  have hli : (Ls.getD i default).length ≤ 16 := by have := hl i; omega
  have ewz : wrongE ws.length (a : Int) z = 0 := by
    unfold wrongE
    rw [if_pos (by omega), if_pos hz]
  obtain ⟨L1, eL⟩ : ∃ L1, Ls.getD i default = L1 := ⟨_, rfl⟩
  have hfl : (feM ws L1).length = ws.length := feM_len L1 ws
  have eS : swapB ws Ls (i : Int) (a : Int) z = (stW (feM ws L1) (a : Int) z, Ls.set i [], (feM ws L1).getD a 0, 0) := by
    have e1 : (fillI (feM ws L1) (a : Int) 1 z).2 = 0 := by
      unfold fillI
      rw [if_neg (by rw [wrongI_pos (by omega)]; simp), if_neg (by omega)]
    have e2 : (loadI (feM ws L1) (a : Int)).1 = (feM ws L1).getD a 0 := by
      unfold loadI
      rw [if_pos (by omega)]
      rfl
    unfold swapB
    rw [if_pos einC, show at_ Ls (i : Int) = L1 from eL]
    unfold swM
    rw [if_neg (by rw [ewz]; simp), e1, e2]
    rfl
  rw [eS]
  dsimp only
  have HFB := Lib.hid (fun (wx : World) (F' : List Rg) (h : St P0 w0 wx (rbus (.slice Ar m cr) (.slice Ab n cb) cap ws Ls :: F')) => Fence_b (i := i) h hm hn hi h8 hli hw)
  rw [eL] at HFB
  have HFW := Lib.hid (show (feM ws L1).length ≤ 65536 by omega)
  have HFM := Lib.hid (show m = (feM ws L1).length by omega)
  have HSW := Lib.hid (show (fillI (feM ws L1) (a : Int) 1 z).2 = 0 from by
    unfold fillI
    rw [if_neg (by rw [wrongI_pos (by omega)]; simp), if_neg (by omega)])
  have HSL := Lib.hid (show (stW (feM ws L1) (a : Int) z).length = m from by rw [stW_len]; omega)
  generalize L1.length = nl at HFB
  generalize feM ws L1 = ws1 at *
  obtain ⟨was, ewas⟩ : ∃ v, ws1.getD a 0 = v := ⟨_, rfl⟩
  rw [ewas]
  have HWAS := Lib.hid ewas
  clear ewas
  clear h h2 hwr eS hin einC hz ez ewz hn hm hw eL hli hl hfl
  go_enter Try.func44, Try.ntmps44
  go_wp2_with fail
  refine (HWR.out _).mono ?_
  rintro x w3 ⟨rfl, hu⟩
  have HS1 := Lib.hid (HS0.out.more hu)
  clear hu HS0 HWR
  go_wp2_with fail
  refine (HIS.out _).mono ?_
  rintro x w4 ⟨rfl, hu⟩
  have hu' : w3 = w4 := by first | exact hu | exact hu.symm
  have h3 := HS1.out
  rw [hu'] at h3
  have b0 : w4.cell? ⟨w.heap.size, 0, none⟩ = some (.slice Ar m cr) := cell_of_block (h3).bk_at 0
  have b1 : w4.cell? ⟨w.heap.size, 1, none⟩ = some (.slice Ab n cb) := cell_of_block (h3).bk_at 1
  have fb0 : w4.frozen? ⟨w.heap.size, 0, none⟩ = false := free_of_block (h3).bk_at 0
  have fb1 : w4.frozen? ⟨w.heap.size, 1, none⟩ = false := free_of_block (h3).bk_at 1
  have HF1 := Lib.hid (HFB.out w4 _ (h3.get 2))
  clear h3 HS1 HIS hu' hu HFB
  go_wp2_with fail
  refine HF1.out.mono ?_
  intro y w6 hd
  unfold DrP at hd
  obtain ⟨A2, c2, B2, d2, rfl, h6, -⟩ := hd
  have b0 : w6.cell? ⟨w.heap.size, 0, none⟩ = some (.slice Ar m cr) := cell_of_block (h6.get 1).bk_at 0
  have b1 : w6.cell? ⟨w.heap.size, 1, none⟩ = some (.slice Ab n cb) := cell_of_block (h6.get 1).bk_at 1
  have fb0 : w6.frozen? ⟨w.heap.size, 0, none⟩ = false := free_of_block (h6.get 1).bk_at 0
  have fb1 : w6.frozen? ⟨w.heap.size, 1, none⟩ = false := free_of_block (h6.get 1).bk_at 1
  have HS7 : Hid (St P0 w0 ((w6.setCell ⟨w.heap.size, 0, none⟩ (.slice A2 m c2)).setCell ⟨w.heap.size, 1, none⟩ (.slice B2 n d2)) (bk w.heap.size 45 #[.slice A2 m c2, .slice B2 n d2] :: rbus (.slice A2 m c2) (.slice B2 n d2) cap ws1 (Ls.set i []) :: bk (w.heap.size + 1) 45 #[.slice none 0 0, .slice none 0 0] :: F)) := Lib.hid (((h6.get 1).set 0 (.slice A2 m c2)).set 1 (.slice B2 n d2))
  clear h6 HF1
  go_upto_region 7 with fail
  generalize (w6.setCell ⟨w.heap.size, 0, none⟩ (.slice A2 m c2)).setCell ⟨w.heap.size, 1, none⟩ (.slice B2 n d2) = w7 at *
  obtain ⟨ad, eA, kw⟩ := word_at (HS7.out.get 1) (.head _) HFM.out ham
  subst eA
  have HRS := Lib.hid (RStore_x (ws := ws1) (vr := .slice (some ad) m c2) (HS7.out.get 1) (.head _) (a : Int) z HFW.out)
  rw [HSW.out] at HRS
  have b0 : w7.cell? ⟨w.heap.size, 0, none⟩ = some (.slice (some ad) m c2) := cell_of_block (HS7.out).bk_at 0
  have b1 : w7.cell? ⟨w.heap.size, 1, none⟩ = some (.slice B2 n d2) := cell_of_block (HS7.out).bk_at 1
  have fb0 : w7.frozen? ⟨w.heap.size, 0, none⟩ = false := free_of_block (HS7.out).bk_at 0
  have fb1 : w7.frozen? ⟨w.heap.size, 1, none⟩ = false := free_of_block (HS7.out).bk_at 1
  clear HS7 HSW
  rw [HWAS.out] at kw
  go_wp2_with fail
  refine HRS.out.mono ?_
  rintro y w8 ⟨vr', rfl, h9⟩
  obtain ⟨A6, c6, e6, -⟩ := lat_form h9 (.head _)
  rw [HSL.out] at e6
  subst e6
  have g0 : w8.cell? ⟨w.heap.size, 0, none⟩ = some (.slice (some ad) m c2) := cell_of_block (h9.get 1).bk_at 0
  have g1 : w8.cell? ⟨w.heap.size, 1, none⟩ = some (.slice B2 n d2) := cell_of_block (h9.get 1).bk_at 1
  have fg0 : w8.frozen? ⟨w.heap.size, 0, none⟩ = false := free_of_block (h9.get 1).bk_at 0
  have fg1 : w8.frozen? ⟨w.heap.size, 1, none⟩ = false := free_of_block (h9.get 1).bk_at 1
  have h10 := (h9.get 1).set 0 (.slice A6 m c6)
  have e0 : (w8.setCell ⟨w.heap.size, 0, none⟩ (.slice A6 m c6)).cell? ⟨w.heap.size, 0, none⟩ = some (.slice A6 m c6) := cell_of_block (h10).bk_at 0
  have e1 : (w8.setCell ⟨w.heap.size, 0, none⟩ (.slice A6 m c6)).cell? ⟨w.heap.size, 1, none⟩ = some (.slice B2 n d2) := cell_of_block (h10).bk_at 1
  have r0 : (w8.setCell ⟨w.heap.size, 0, none⟩ (.slice A6 m c6)).cell? ⟨(w.heap.size + 1), 0, none⟩ = some (.slice none 0 0) := cell_of_block (h10.get 2).bk_at 0
  have r1 : (w8.setCell ⟨w.heap.size, 0, none⟩ (.slice A6 m c6)).cell? ⟨(w.heap.size + 1), 1, none⟩ = some (.slice none 0 0) := cell_of_block (h10.get 2).bk_at 1
  have fr0 : (w8.setCell ⟨w.heap.size, 0, none⟩ (.slice A6 m c6)).frozen? ⟨(w.heap.size + 1), 0, none⟩ = false := free_of_block (h10.get 2).bk_at 0
  have fr1 : (w8.setCell ⟨w.heap.size, 0, none⟩ (.slice A6 m c6)).frozen? ⟨(w.heap.size + 1), 1, none⟩ = false := free_of_block (h10.get 2).bk_at 1
  have HS := Lib.hid (h10.get 2)
  clear h9 h10 HRS kw
  go_wp2_with fail
  (try simp only [Exit.inBlock, Exit.then])
  refine bodyPost_ret (v := .tuple #[.agg #[.slice A6 m c6, .slice B2 n d2], .int .i64 was, .int .i64 0]) ?_ rfl ?_
  · rw [results_ctt (fn := Try.f44) rfl]
    go_simp
  · unfold DrT
    exact ⟨_, _, _, _, rfl, ((((HS.out.set 0 (.slice A6 m c6)).set 1 (.slice B2 n d2)).drop).cut 0).ro_sub fun E hE => by
      rcases List.mem_cons.1 hE with rfl | hE
      · exact .head _
      · obtain rfl := List.mem_singleton.1 hE
        exact .tail _ (.tail _ (.head _))⟩
/-! ### Load -/
theorem ld_eq (ws : List Int) (Ls : List (List W16)) (core a : Int) : loadB ws Ls core a = if wrongC Ls.length ws.length core a = 0 then (if findB (at_ Ls core) a = true then findW (at_ Ls core) a else ws.getD a.toNat 0, 0) else (0, wrongC Ls.length ws.length core a) := by
  unfold loadB wrongC ldM inC
  by_cases c1 : 0 ≤ core ∧ core < Ls.length
  · rw [if_pos c1, if_pos c1]
    by_cases c2 : 0 ≤ a ∧ a < ws.length
    · rw [if_pos c2, if_pos c2, if_pos rfl]
    · rw [if_neg c2, if_neg c2, if_neg (by decide)]
  · rw [if_neg c1, if_neg c1, if_neg (by decide)]
set_option maxHeartbeats 8000000 in
set_option maxRecDepth 100000 in
theorem Load_b {Ar Ab : Option Addr} {m cr n cb : Nat} (h : St P0 w0 w (rbus (.slice Ar m cr) (.slice Ab n cb) cap ws Ls :: F)) (hm : m = ws.length) (hn : n = Ls.length) (hl : ∀ j, (Ls.getD j default).length ≤ 16) (core a : Int) :
    Calls Try.prog 49 #[.agg #[.slice Ar m cr, .slice Ab n cb], .int .i64 core, .int .i64 a] w fun x w' => x = .returned (.tuple #[.int .i64 (loadB ws Ls core a).1, .int .i64 (loadB ws Ls core a).2]) ∧ Up w w' := by
  have h2 := h.alloc #[.slice Ar m cr, .slice Ab n cb] 45
  have HS0 := Lib.hid h2
  have HUP := Lib.hid ((Up.refl w).alloc (.cells #[.slice Ar m cr, .slice Ab n cb] 45))
  have HWR := Lib.hid (wrong_x Ar Ab m cr n cb core a)
  rw [ld_eq, ← hm, ← hn]
  by_cases hwr : wrongC n m core a = 0
  case neg =>
    rw [if_neg hwr]
    have en : (wrongC n m core a != 0) = true := by simpa [bne] using hwr
    generalize wrongC n m core a = e at *
    clear h h2 hwr hm hn
    go_enter Try.func49, Try.ntmps49
    go_wp2_with fail
    refine (HWR.out _).mono ?_
    rintro x w3 ⟨rfl, hu⟩
    have HU := Lib.hid (HUP.out.trans hu)
    clear hu
    go_wp2_with fail
    go_ret2
    exact ⟨rfl, HU.out⟩
  rw [if_pos hwr]
  have hin : (0 ≤ core ∧ core < n) ∧ 0 ≤ a ∧ a < m := by
    unfold wrongC at hwr
    by_cases c1 : 0 ≤ core ∧ core < n
    · rw [if_pos c1] at hwr
      by_cases c2 : 0 ≤ a ∧ a < m
      · exact ⟨c1, c2⟩
      · rw [if_neg c2] at hwr
        cases hwr
    · rw [if_neg c1] at hwr
      cases hwr
  rw [hwr] at HWR
  obtain ⟨i, rfl⟩ := Int.eq_ofNat_of_zero_le hin.1.1
  obtain ⟨a, rfl⟩ := Int.eq_ofNat_of_zero_le hin.2.1
  have hi : i < n := by omega
  have hi2 : (i : Int) < (n : Int) := by omega
  have ham2 : (a : Int) < (m : Int) := by omega
  obtain ⟨g, o, C, cC, eA, k0, k1, h3⟩ := buf_at (i := i) (h2.get 1) (.tail _ (.head _)) hn hi
  subst eA
  obtain ⟨ad, eB, kw⟩ := word_at (h2.get 1) (.head _) hm (show a < m by omega)
  subst eB
  have hli := hl i
  have HFN := Lib.hid (fun (wx : World) (hu : Up _ wx) => Find_u (h3.ro_get (.head _) |>.more hu) cap (a : Int) (show (Ls.getD i default).length ≤ 100000 by omega))
  rw [show at_ Ls (i : Int) = Ls.getD i default from rfl, Int.toNat_natCast]
  rw [findV_eq] at HFN
  obtain ⟨was, ewas⟩ : ∃ v, ws.getD a 0 = v := ⟨_, rfl⟩
  rw [ewas] at kw ⊢
  generalize findB (Ls.getD i default) (a : Int) = fb at *
  generalize findW (Ls.getD i default) (a : Int) = fw at *
  generalize (Ls.getD i default).length = nl at *
  have d0 : (w.alloc (.cells #[.slice (some ad) m cr, .slice (some ⟨g, o, none⟩) n cb] 45)).cell? ⟨w.heap.size, 0, none⟩ = some (.slice (some ad) m cr) := cell_of_block h2.bk_at 0
  have d1 : (w.alloc (.cells #[.slice (some ad) m cr, .slice (some ⟨g, o, none⟩) n cb] 45)).cell? ⟨w.heap.size, 1, none⟩ = some (.slice (some ⟨g, o, none⟩) n cb) := cell_of_block h2.bk_at 1
  clear h h2 h3 hwr hm hn hin ewas hl HS0
  go_enter Try.func49, Try.ntmps49
  go_wp2_with fail
  refine (HWR.out _).mono ?_
  rintro x w3 ⟨rfl, hu⟩
  have b0 := cell_below hu d0
  have b1 := cell_below hu d1
  have k0' := cell_below hu k0
  have k1' := cell_below hu k1
  have kw' := cell_below hu kw
  have HF := Lib.hid (HFN.out _ hu)
  have HU3 := Lib.hid (HUP.out.trans hu)
  clear hu d0 d1 k0 k1 kw HFN HWR HUP
  go_wp2_with fail
  refine HF.out.mono ?_
  rintro x w4 ⟨rfl, hu⟩
  have c0 := cell_below hu b0
  have kw'' := cell_below hu kw'
  have HU4 := Lib.hid (HU3.out.trans hu)
  clear hu b0 b1 k0' k1' kw' HF HU3
  cases fb with
  | true =>
    go_wp2_with fail
    go_ret2
    exact ⟨rfl, HU4.out⟩
  | false =>
    go_wp2_with fail
    go_ret2
    exact ⟨rfl, HU4.out⟩
end
end Go.Proofs.Ytlefefcakffepaa.Br
