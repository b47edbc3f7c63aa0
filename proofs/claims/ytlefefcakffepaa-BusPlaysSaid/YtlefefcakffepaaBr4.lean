/- The reference of the bus: Store; written by mkbr4.py. -/
import Derived.Test.YtlefefcakffepaaBr3
import Derived.BigQuiet
namespace Go.Proofs.Ytlefefcakffepaa.Br
set_option linter.unusedVariables false
set_option linter.unusedSimpArgs false
open Go.RowKit Go.Proofs.Ytlefefcakffepaa.CellOf Go.Proofs.Ytlefefcakffepaa.CellP Go.Proofs.Ytlefefcakffepaa.Lat Go.Proofs.Ytlefefcakffepaa.Sep Go.Proofs.Ytlefefcakffepaa.Sram Go.Proofs.Ytlefefcakffepaa.Find Go.Proofs.Ytlefefcakffepaa.Sbuf Go.Proofs.Ytlefefcakffepaa.Ref05 Go.Proofs.Ytlefefcakffepaa.Bus Go.Proofs.Ytlefefcakffepaa.PBusPlays Go.Proofs.YtlefefcakffepaaW.PrintWords
section
variable {P0 : Nat → Prop} {w0 w w' : World} {F M : List Rg} {ws : List Int} {Ls : List (List W16)} {L : List W16} {cap : Nat}
theorem set_self (Ls : List (List W16)) (i : Nat) : Ls.set i (Ls.getD i default) = Ls := by
  refine List.ext_getElem (by simp) fun j h1 h2 => ?_
  rw [List.getElem_set]
  split
  · rename_i e
    subst e
    simp [List.getD_eq_getElem?_getD, List.getElem?_eq_getElem h2]
  · rfl
theorem put_ok {cap : Nat} {L : List W16} {a z : Int} (ha : 0 ≤ a ∧ a ≤ 65535) (hz : 0 ≤ z ∧ z ≤ 65535) (hl : L.length < cap) : (putB cap L a z).2 = 0 := by
  unfold putB mkW
  rw [dif_pos ⟨ha, hz⟩]
  dsimp only
  rw [if_neg (by omega)]
theorem put_len {cap : Nat} {L : List W16} {a z : Int} (hl : L.length ≤ cap) : (putB cap L a z).1.length ≤ cap := by
  unfold putB
  cases mkW a z with
  | none => exact hl
  | some x =>
    dsimp only
    split
    · exact hl
    · simp; omega
/-- The end of a store: the buffer with the store, put back. -/
theorem tail_len (L : List W16) (ws : List Int) : (drM ws L).2.length = L.length - 1 := by cases L <;> simp [drM]
set_option maxHeartbeats 8000000 in
set_option maxRecDepth 100000 in
theorem Store_b {Ar Ab : Option Addr} {m cr n cb : Nat} (h : St P0 w0 w (rbus (.slice Ar m cr) (.slice Ab n cb) cap ws Ls :: F)) (hm : m = ws.length) (hn : n = Ls.length) (h8 : n ≤ 8) (hl : ∀ j, (Ls.getD j default).length ≤ cap) (hc : 1 ≤ cap ∧ cap ≤ 16) (hw : ws.length ≤ 65536) (core a z : Int) :
    Calls Try.prog 43 #[.agg #[.slice Ar m cr, .slice Ab n cb], .int .i64 core, .int .i64 a, .int .i64 z] w fun x w' => DrP P0 w0 F cap (storeB cap ws Ls core a z).1 (storeB cap ws Ls core a z).2.1 m n (.int .i64 (storeB cap ws Ls core a z).2.2) (fun _ _ _ _ => True) x w' := by
  have h2 := ((h.alloc #[.slice Ar m cr, .slice Ab n cb] 45).alloc #[.slice none 0 0, .slice none 0 0] 45).get 1
  rw [World.size_alloc] at h2
  have HS0 := Lib.hid h2
  have HWR := Lib.hid (wrong_x Ar Ab m cr n cb core a)
  have HIS := Lib.hid (refIs_walk z)
  by_cases hwr : wrongC n m core a = 0
  case neg =>
    have E : storeB cap ws Ls core a z = (ws, Ls, wrongC n m core a) := by
      unfold storeB wrongC at *
      by_cases c1 : 0 ≤ core ∧ core < n
      · rw [if_pos c1] at hwr ⊢
        by_cases c2 : 0 ≤ a ∧ a < m
        · rw [if_pos c2] at hwr
          exact absurd rfl hwr
        · have e1 : wrongE ws.length a z = 4 := if_neg (by rw [← hm]; exact c2)
          have e2 : soM cap ws (at_ Ls core) a z = (ws, at_ Ls core, 4) := by
            unfold soM
            rw [e1]
            rfl
          rw [if_neg c2, if_pos (by unfold inC; omega), e2]
          dsimp only
          rw [set_self]
      · rw [if_neg c1, if_neg (by unfold inC; omega)]
    rw [E]
    have en : (wrongC n m core a != 0) = true := by simpa [bne] using hwr
    generalize wrongC n m core a = e at *
    clear h h2 hwr E hm hn
    go_enter Try.func43, Try.ntmps43
    go_wp2_with fail
    refine (HWR.out _).mono ?_
    rintro x w3 ⟨rfl, hu⟩
    have h3 := HS0.out.more hu
    have b0 : w3.cell? ⟨w.heap.size, 0, none⟩ = some (.slice Ar m cr) := cell_of_block (h3).bk_at 0
    have b1 : w3.cell? ⟨w.heap.size, 1, none⟩ = some (.slice Ab n cb) := cell_of_block (h3).bk_at 1
    have r0 : w3.cell? ⟨(w.heap.size + 1), 0, none⟩ = some (.slice none 0 0) := cell_of_block (h3.get 1).bk_at 0
    have r1 : w3.cell? ⟨(w.heap.size + 1), 1, none⟩ = some (.slice none 0 0) := cell_of_block (h3.get 1).bk_at 1
    have fr0 : w3.frozen? ⟨(w.heap.size + 1), 0, none⟩ = false := free_of_block (h3.get 1).bk_at 0
    have fr1 : w3.frozen? ⟨(w.heap.size + 1), 1, none⟩ = false := free_of_block (h3.get 1).bk_at 1
    have HS := Lib.hid (h3.get 1)
    clear h3 hu HS0 HWR
    go_wp2_with fail
    (try simp only [Exit.inBlock, Exit.then])
    refine bodyPost_ret (v := .tuple #[.agg #[.slice Ar m cr, .slice Ab n cb], .int .i64 e]) ?_ rfl ?_
    · rw [results_cell_tmp (fn := Try.f43) rfl]
      go_simp
    · unfold DrP
      exact ⟨_, _, _, _, rfl, ((((HS.out.set 0 (.slice Ar m cr)).set 1 (.slice Ab n cb)).drop).cut 0), trivial⟩
  have hin : (0 ≤ core ∧ core < n) ∧ 0 ≤ a ∧ a < m := by
    unfold wrongC at hwr
    by_cases c1 : 0 ≤ core ∧ core < n
    · rw [if_pos c1] at hwr
      by_cases c2 : 0 ≤ a ∧ a < m
      · exact ⟨c1, c2⟩
      · rw [if_neg c2] at hwr
        cases hwr
    · rw [if_neg c1] at hwr
      cases hwr
  rw [hwr] at HWR
  have einC : inC Ls core := by unfold inC; omega
  by_cases hz : 0 ≤ z ∧ z ≤ 65535
  case neg =>
    have ez : inW z = false := by
      rw [Bool.eq_false_iff]
      intro e
      exact hz ((inW_iff z).1 e)
    rw [ez] at HIS
    have E : storeB cap ws Ls core a z = (ws, Ls, 2) := by
      have e1 : wrongE ws.length a z = 2 := by
        unfold wrongE
        rw [if_pos (by omega), if_neg hz]
      have e2 : soM cap ws (at_ Ls core) a z = (ws, at_ Ls core, 2) := by
        unfold soM
        rw [e1]
        rfl
      unfold storeB
      rw [if_pos einC, e2]
      dsimp only
      rw [set_self]
    rw [E]
    clear h h2 hwr E hm hn hz ez einC hin
    go_enter Try.func43, Try.ntmps43
    go_wp2_with fail
    refine (HWR.out _).mono ?_
    rintro x w3 ⟨rfl, hu⟩
    have HS1 := Lib.hid (HS0.out.more hu)
    clear hu HS0 HWR
    go_wp2_with fail
    refine (HIS.out _).mono ?_
    rintro x w4 ⟨rfl, hu⟩
    have hu' : w3 = w4 := by first | exact hu | exact hu.symm
    have h3 := HS1.out
    rw [hu'] at h3
    have b0 : w4.cell? ⟨w.heap.size, 0, none⟩ = some (.slice Ar m cr) := cell_of_block (h3).bk_at 0
    have b1 : w4.cell? ⟨w.heap.size, 1, none⟩ = some (.slice Ab n cb) := cell_of_block (h3).bk_at 1
    have r0 : w4.cell? ⟨(w.heap.size + 1), 0, none⟩ = some (.slice none 0 0) := cell_of_block (h3.get 1).bk_at 0
    have r1 : w4.cell? ⟨(w.heap.size + 1), 1, none⟩ = some (.slice none 0 0) := cell_of_block (h3.get 1).bk_at 1
    have fr0 : w4.frozen? ⟨(w.heap.size + 1), 0, none⟩ = false := free_of_block (h3.get 1).bk_at 0
    have fr1 : w4.frozen? ⟨(w.heap.size + 1), 1, none⟩ = false := free_of_block (h3.get 1).bk_at 1
    have HS := Lib.hid (h3.get 1)
    clear h3 HS1 HIS hu' hu
    go_wp2_with fail
    (try simp only [Exit.inBlock, Exit.then])
    refine bodyPost_ret (v := .tuple #[.agg #[.slice Ar m cr, .slice Ab n cb], .int .i64 2]) ?_ rfl ?_
    · rw [results_cell_tmp (fn := Try.f43) rfl]
      go_simp
    · unfold DrP
      exact ⟨_, _, _, _, rfl, ((((HS.out.set 0 (.slice Ar m cr)).set 1 (.slice Ab n cb)).drop).cut 0), trivial⟩
  have ez : inW z = true := (inW_iff z).2 hz
  rw [ez] at HIS
  obtain ⟨i, rfl⟩ := Int.eq_ofNat_of_zero_le hin.1.1
  have hi : i < n := by omega
  have hi2 : (i : Int) < (n : Int) := by omega
  have ewz : wrongE ws.length a z = 0 := by
    unfold wrongE
    rw [if_pos (by omega), if_pos hz]
  have ha : 0 ≤ a ∧ a ≤ 65535 := by omega
  have hli : (Ls.getD i default).length ≤ cap := hl i
  have eS : storeB cap ws Ls (i : Int) a z = ((soM cap ws (Ls.getD i default) a z).1, Ls.set i (soM cap ws (Ls.getD i default) a z).2.1, (soM cap ws (Ls.getD i default) a z).2.2) := by
    unfold storeB
    rw [if_pos einC]
    rfl
  rw [eS]
  have HLW := Lib.hid hw
  obtain ⟨g, o, C, cC, eA, k0, k1, -⟩ := buf_at (i := i) (HS0.out.get 2) (.tail _ (.head _)) hn hi
  subst eA
  by_cases hfull : (Ls.getD i default).length = cap
  · have e2 : soM cap ws (Ls.getD i default) a z = ((drM ws (Ls.getD i default)).1, (putB cap (drM ws (Ls.getD i default)).2 a z).1, 0) := by
      unfold soM
      rw [if_neg (by rw [ewz]; simp), if_pos hfull, put_ok ha hz (by rw [tail_len]; omega)]
    rw [e2]
    dsimp only
    have HDR := Lib.hid (fun (wx : World) (F' : List Rg) (h : St P0 w0 wx (rbus (.slice Ar m cr) (.slice (some ⟨g, o, none⟩) n cb) cap ws Ls :: F')) => Drain_b (i := i) h hm hn hi h8 (by omega) hw)
    have HWLN := Lib.hid (drM_len (Ls.getD i default) ws)
    have HTL := Lib.hid (tail_len (Ls.getD i default) ws)
    have HG2 := Lib.hid (show ∀ L' : List W16, (Ls.set i L').getD i default = L' from fun L' => by simp [List.getD_eq_getElem?_getD, List.getElem?_set_self (show i < Ls.length by omega)])
    have hlc : (cap : Int) ≤ ((Ls.getD i default).length : Int) := by omega
    generalize drM ws (Ls.getD i default) = dr at *
    obtain ⟨ws1, L1⟩ := dr
    dsimp only at *
    generalize (Ls.getD i default).length = nl at *
    have HN := Lib.hid hn
    have HM := Lib.hid hm
    clear h h2 hwr eS e2 hin einC hz ez ewz ha hn hm hw
    go_enter Try.func43, Try.ntmps43
    go_wp2_with fail
    refine (HWR.out _).mono ?_
    rintro x w3 ⟨rfl, hu⟩
    have HS1 := Lib.hid (HS0.out.more hu)
    have k0' := cell_below hu k0
    have k1' := cell_below hu k1
    clear hu HS0 HWR k0 k1
    go_wp2_with fail
    refine (HIS.out _).mono ?_
    rintro x w4 ⟨rfl, hu⟩
    have hu' : w3 = w4 := by first | exact hu | exact hu.symm
    rw [hu'] at k0' k1'
    have h3 := HS1.out
    rw [hu'] at h3
    have b0 : w4.cell? ⟨w.heap.size, 0, none⟩ = some (.slice Ar m cr) := cell_of_block (h3).bk_at 0
    have b1 : w4.cell? ⟨w.heap.size, 1, none⟩ = some (.slice (some ⟨g, o, none⟩) n cb) := cell_of_block (h3).bk_at 1
    have fb0 : w4.frozen? ⟨w.heap.size, 0, none⟩ = false := free_of_block (h3).bk_at 0
    have fb1 : w4.frozen? ⟨w.heap.size, 1, none⟩ = false := free_of_block (h3).bk_at 1
    have r0 : w4.cell? ⟨(w.heap.size + 1), 0, none⟩ = some (.slice none 0 0) := cell_of_block (h3.get 1).bk_at 0
    have r1 : w4.cell? ⟨(w.heap.size + 1), 1, none⟩ = some (.slice none 0 0) := cell_of_block (h3.get 1).bk_at 1
    have fr0 : w4.frozen? ⟨(w.heap.size + 1), 0, none⟩ = false := free_of_block (h3.get 1).bk_at 0
    have fr1 : w4.frozen? ⟨(w.heap.size + 1), 1, none⟩ = false := free_of_block (h3.get 1).bk_at 1
    have HS3 := Lib.hid h3
    clear h3 HS1 HIS hu' hu
    go_upto_region 6 with fail
    go_quiet (fail)
    have h5 := HS3.out.drewN nq
    generalize w4.drewN nq = w5 at *
    have b0 : w5.cell? ⟨w.heap.size, 0, none⟩ = some (.slice Ar m cr) := cell_of_block (h5).bk_at 0
    have b1 : w5.cell? ⟨w.heap.size, 1, none⟩ = some (.slice (some ⟨g, o, none⟩) n cb) := cell_of_block (h5).bk_at 1
    have fb0 : w5.frozen? ⟨w.heap.size, 0, none⟩ = false := free_of_block (h5).bk_at 0
    have fb1 : w5.frozen? ⟨w.heap.size, 1, none⟩ = false := free_of_block (h5).bk_at 1
    have HD5 := Lib.hid (HDR.out w5 _ (h5.get 2))
    clear h5 HS3 HDR k0' k1'
    go_wp2_with fail
    refine HD5.out.mono ?_
    intro y w6 hd
    unfold DrP at hd
    obtain ⟨A2, c2, B2, d2, rfl, h6, -⟩ := hd
    have b0 : w6.cell? ⟨w.heap.size, 0, none⟩ = some (.slice Ar m cr) := cell_of_block (h6.get 1).bk_at 0
    have b1 : w6.cell? ⟨w.heap.size, 1, none⟩ = some (.slice (some ⟨g, o, none⟩) n cb) := cell_of_block (h6.get 1).bk_at 1
    have fb0 : w6.frozen? ⟨w.heap.size, 0, none⟩ = false := free_of_block (h6.get 1).bk_at 0
    have fb1 : w6.frozen? ⟨w.heap.size, 1, none⟩ = false := free_of_block (h6.get 1).bk_at 1
    have h7 := ((h6.get 1).set 0 (.slice A2 m c2)).set 1 (.slice B2 n d2)
    have HS7 : Hid (St P0 w0 ((w6.setCell ⟨w.heap.size, 0, none⟩ (.slice A2 m c2)).setCell ⟨w.heap.size, 1, none⟩ (.slice B2 n d2)) (bk w.heap.size 45 #[.slice A2 m c2, .slice B2 n d2] :: rbus (.slice A2 m c2) (.slice B2 n d2) cap ws1 (Ls.set i L1) :: bk (w.heap.size + 1) 45 #[.slice none 0 0, .slice none 0 0] :: F)) := Lib.hid h7
    clear h6 h7 HD5
    go_upto_region 8 with fail
    generalize (w6.setCell ⟨w.heap.size, 0, none⟩ (.slice A2 m c2)).setCell ⟨w.heap.size, 1, none⟩ (.slice B2 n d2) = w7 at *
    have HN7 := Lib.hid (show n = (Ls.set i L1).length by rw [List.length_set]; exact HN.out)
    have HG7 := Lib.hid (HG2.out L1)
    have HL7 := Lib.hid (show L1.length ≤ 100000 by have := HTL.out; omega)
    obtain ⟨g2, o2, D, cD, eB, k2, k3, h8'⟩ := buf_at (i := i) (HS7.out.get 1) (.tail _ (.head _)) HN7.out hi
    (try subst eB)
    (try cases eB)
    rw [HG7.out] at k3 h8'
    have HP := Lib.hid (Put_x h8' (.head _) cap a z HL7.out)
    have b0 : w7.cell? ⟨w.heap.size, 0, none⟩ = some (.slice A2 m c2) := cell_of_block (HS7.out).bk_at 0
    have b1 : w7.cell? ⟨w.heap.size, 1, none⟩ = some (.slice (some ⟨g2, o2, none⟩) n d2) := cell_of_block (HS7.out).bk_at 1
    generalize L1.length = nl1 at k3 HP
    clear h8'
    go_wp2_with fail
    refine HP.out.mono ?_
    rintro y wp ⟨V', rfl, h9⟩
    obtain ⟨Av, cv, e3, -, -, -, -⟩ := rl_form (h9.ro_get (.head _))
    subst e3
    have h10 := h9.alloc #[.int .i64 (cap : Int), .slice Av (putB cap L1 a z).1.length cv] 90
    have HWT := Lib.hid (with_x (Ar := A2) (cr := c2) (m := m) (cap := cap) (h10.get 1) (.tail _ (.tail _ (.tail _ (.head _)))) HN7.out (.head _) hi h8)
    have b0 : (wp.alloc (.cells #[.int .i64 (cap : Int), .slice Av (putB cap L1 a z).1.length cv] 90)).cell? ⟨w.heap.size, 0, none⟩ = some (.slice A2 m c2) := cell_of_block (h10.get 2).bk_at 0
    have b1 : (wp.alloc (.cells #[.int .i64 (cap : Int), .slice Av (putB cap L1 a z).1.length cv] 90)).cell? ⟨w.heap.size, 1, none⟩ = some (.slice (some ⟨g2, o2, none⟩) n d2) := cell_of_block (h10.get 2).bk_at 1
    clear h9 h10 HP k2 k3
    generalize (putB cap L1 a z).1.length = np at *
    go_wp2_with fail
    refine HWT.out.mono ?_
    rintro y w9 ⟨A9, c9, rfl, h11⟩
    have r0 : w9.cell? ⟨(w.heap.size + 1), 0, none⟩ = some (.slice none 0 0) := cell_of_block (h11.get 3).bk_at 0
    have r1 : w9.cell? ⟨(w.heap.size + 1), 1, none⟩ = some (.slice none 0 0) := cell_of_block (h11.get 3).bk_at 1
    have fr0 : w9.frozen? ⟨(w.heap.size + 1), 0, none⟩ = false := free_of_block (h11.get 3).bk_at 0
    have fr1 : w9.frozen? ⟨(w.heap.size + 1), 1, none⟩ = false := free_of_block (h11.get 3).bk_at 1
    have HS11 := Lib.hid (h11.get 3)
    clear h11 HWT
    go_wp2_with fail
    (try simp only [Exit.inBlock, Exit.then])
    refine bodyPost_ret (v := .tuple #[.agg #[.slice A2 m c2, .slice A9 n c9], .int .i64 0]) ?_ rfl ?_
    · rw [results_cell_tmp (fn := Try.f43) rfl]
      go_simp
    · unfold DrP
      have h12 := ((HS11.out.set 0 (.slice A2 m c2)).set 1 (.slice A9 n c9)).drop
      have h13 := (h12.cut 1).cut 1
      rw [List.set_set] at h13
      exact ⟨_, _, _, _, rfl, h13.ro_sub fun E hE => by
        rcases List.mem_cons.1 hE with rfl | hE
        · exact .tail _ (.tail _ (.tail _ (.head _)))
        · obtain rfl := List.mem_singleton.1 hE
          exact .head _, trivial⟩
  · have hlt : (Ls.getD i default).length < cap := by omega
    have e2 : soM cap ws (Ls.getD i default) a z = (ws, (putB cap (Ls.getD i default) a z).1, 0) := by
      unfold soM
      rw [if_neg (by rw [ewz]; simp), if_neg hfull, put_ok ha hz hlt]
    rw [e2]
    dsimp only
    obtain ⟨L1, eL⟩ : ∃ L1, Ls.getD i default = L1 := ⟨_, rfl⟩
    rw [eL] at hlt k1 ⊢
    have HG7 := Lib.hid eL
    have HN7 := Lib.hid hn
    have HL7 := Lib.hid (show L1.length ≤ 100000 by omega)
    have hlc : ¬ (cap : Int) ≤ (L1.length : Int) := by omega
    obtain ⟨nl, hnl⟩ : ∃ k, L1.length = k := ⟨_, rfl⟩
    rw [hnl] at hlc k1
    have HM := Lib.hid hm
    clear h h2 hwr eS e2 hin einC hz ez ewz ha hn hm hw hfull hlt eL hnl hli hl
    go_enter Try.func43, Try.ntmps43
    go_wp2_with fail
    refine (HWR.out _).mono ?_
    rintro x w3 ⟨rfl, hu⟩
    have HS1 := Lib.hid (HS0.out.more hu)
    have k0' := cell_below hu k0
    have k1' := cell_below hu k1
    clear hu HS0 HWR k0 k1
    go_wp2_with fail
    refine (HIS.out _).mono ?_
    rintro x w4 ⟨rfl, hu⟩
    have hu' : w3 = w4 := by first | exact hu | exact hu.symm
    rw [hu'] at k0' k1'
    have h3 := HS1.out
    rw [hu'] at h3
    have b0 : w4.cell? ⟨w.heap.size, 0, none⟩ = some (.slice Ar m cr) := cell_of_block (h3).bk_at 0
    have b1 : w4.cell? ⟨w.heap.size, 1, none⟩ = some (.slice (some ⟨g, o, none⟩) n cb) := cell_of_block (h3).bk_at 1
    have fb0 : w4.frozen? ⟨w.heap.size, 0, none⟩ = false := free_of_block (h3).bk_at 0
    have fb1 : w4.frozen? ⟨w.heap.size, 1, none⟩ = false := free_of_block (h3).bk_at 1
    have r0 : w4.cell? ⟨(w.heap.size + 1), 0, none⟩ = some (.slice none 0 0) := cell_of_block (h3.get 1).bk_at 0
    have r1 : w4.cell? ⟨(w.heap.size + 1), 1, none⟩ = some (.slice none 0 0) := cell_of_block (h3.get 1).bk_at 1
    have fr0 : w4.frozen? ⟨(w.heap.size + 1), 0, none⟩ = false := free_of_block (h3.get 1).bk_at 0
    have fr1 : w4.frozen? ⟨(w.heap.size + 1), 1, none⟩ = false := free_of_block (h3.get 1).bk_at 1
    have HS3 := Lib.hid h3
    clear h3 HS1 HIS hu' hu
    go_upto_region 6 with fail
    go_quiet (fail)
    have HS7 : Hid (St P0 w0 (w4.drewN nq) (bk w.heap.size 45 #[.slice Ar m cr, .slice (some ⟨g, o, none⟩) n cb] :: rbus (.slice Ar m cr) (.slice (some ⟨g, o, none⟩) n cb) cap ws Ls :: bk (w.heap.size + 1) 45 #[.slice none 0 0, .slice none 0 0] :: F)) := Lib.hid (((HS3.out.drewN nq).get 2).get 1)
    clear HS3 k0' k1'
    go_upto_region 8 with fail
    generalize w4.drewN nq = w7 at *
    obtain ⟨g2, o2, D, cD, eB, k2, k3, h8'⟩ := buf_at (i := i) (HS7.out.get 1) (.tail _ (.head _)) HN7.out hi
    (try subst eB)
    (try cases eB)
    rw [HG7.out] at k3 h8'
    have HP := Lib.hid (Put_x h8' (.head _) cap a z HL7.out)
    have b0 : w7.cell? ⟨w.heap.size, 0, none⟩ = some (.slice Ar m cr) := cell_of_block (HS7.out).bk_at 0
    have b1 : w7.cell? ⟨w.heap.size, 1, none⟩ = some (.slice (some ⟨g, o, none⟩) n cb) := cell_of_block (HS7.out).bk_at 1
    generalize L1.length = nl1 at k3 HP
    clear h8'
    go_wp2_with fail
    refine HP.out.mono ?_
    rintro y wp ⟨V', rfl, h9⟩
    obtain ⟨Av, cv, e3, -, -, -, -⟩ := rl_form (h9.ro_get (.head _))
    subst e3
    have h10 := h9.alloc #[.int .i64 (cap : Int), .slice Av (putB cap L1 a z).1.length cv] 90
    have HWT := Lib.hid (with_x (Ar := Ar) (cr := cr) (m := m) (cap := cap) (h10.get 1) (.tail _ (.tail _ (.tail _ (.head _)))) HN7.out (.head _) hi h8)
    have b0 : (wp.alloc (.cells #[.int .i64 (cap : Int), .slice Av (putB cap L1 a z).1.length cv] 90)).cell? ⟨w.heap.size, 0, none⟩ = some (.slice Ar m cr) := cell_of_block (h10.get 2).bk_at 0
    have b1 : (wp.alloc (.cells #[.int .i64 (cap : Int), .slice Av (putB cap L1 a z).1.length cv] 90)).cell? ⟨w.heap.size, 1, none⟩ = some (.slice (some ⟨g, o, none⟩) n cb) := cell_of_block (h10.get 2).bk_at 1
    clear h9 h10 HP k2 k3
    generalize (putB cap L1 a z).1.length = np at *
    go_wp2_with fail
    refine HWT.out.mono ?_
    rintro y w9 ⟨A9, c9, rfl, h11⟩
    have r0 : w9.cell? ⟨(w.heap.size + 1), 0, none⟩ = some (.slice none 0 0) := cell_of_block (h11.get 3).bk_at 0
    have r1 : w9.cell? ⟨(w.heap.size + 1), 1, none⟩ = some (.slice none 0 0) := cell_of_block (h11.get 3).bk_at 1
    have fr0 : w9.frozen? ⟨(w.heap.size + 1), 0, none⟩ = false := free_of_block (h11.get 3).bk_at 0
    have fr1 : w9.frozen? ⟨(w.heap.size + 1), 1, none⟩ = false := free_of_block (h11.get 3).bk_at 1
    have HS11 := Lib.hid (h11.get 3)
    clear h11 HWT
    go_wp2_with fail
    (try simp only [Exit.inBlock, Exit.then])
    refine bodyPost_ret (v := .tuple #[.agg #[.slice Ar m cr, .slice A9 n c9], .int .i64 0]) ?_ rfl ?_
    · rw [results_cell_tmp (fn := Try.f43) rfl]
      go_simp
    · unfold DrP
      have h12 := ((HS11.out.set 0 (.slice Ar m cr)).set 1 (.slice A9 n c9)).drop
      have h13 := (h12.cut 1).cut 1
      exact ⟨_, _, _, _, rfl, h13.ro_sub fun E hE => by
        rcases List.mem_cons.1 hE with rfl | hE
        · exact .tail _ (.tail _ (.tail _ (.head _)))
        · obtain rfl := List.mem_singleton.1 hE
          exact .head _, trivial⟩
end
end Go.Proofs.Ytlefefcakffepaa.Br
