/- The law's Like. -/
import Derived.Test.YtlefefcakffepaaBr7
namespace Go.Proofs.Ytlefefcakffepaa.Br
set_option linter.unusedVariables false
set_option linter.unusedSimpArgs false
open Go.RowKit Go.Proofs.Ytlefefcakffepaa.CellOf Go.Proofs.Ytlefefcakffepaa.CellP Go.Proofs.Ytlefefcakffepaa.Lat Go.Proofs.Ytlefefcakffepaa.Sep Go.Proofs.Ytlefefcakffepaa.Sram Go.Proofs.Ytlefefcakffepaa.Find Go.Proofs.Ytlefefcakffepaa.Sbuf Go.Proofs.Ytlefefcakffepaa.Ref05 Go.Proofs.Ytlefefcakffepaa.Bus Go.Proofs.Ytlefefcakffepaa.PBusPlays Go.Proofs.YtlefefcakffepaaW.PrintWords
section
variable {P0 : Nat → Prop} {w0 w w' : World} {F M : List Rg} {ws : List Int} {Ls : List (List W16)} {L : List W16} {cap b : Nat}
theorem waits_no (h : St P0 w0 w (bus b cap ws Ls :: F)) (core : Int) (hno : ¬ inC Ls core) : Calls Try.prog 22 #[.pointer (some ⟨b, 0, none⟩), .int .i64 core] w fun e w' => ∃ A c, e = .returned (.slice A 0 c) ∧ St P0 w0 w' (bus b cap ws Ls :: F) := by
  have e : waitsB Ls core = [] := if_neg hno
  have h1 := Waits_st h core
  rw [e] at h1
  refine h1.mono ?_
  rintro x w' ⟨A, c, rfl, hs⟩
  exact ⟨A, c, rfl, hs.drop⟩
set_option maxHeartbeats 16000000 in
set_option maxRecDepth 100000 in
theorem Like_st {Ar Ab : Option Addr} {m cr n cb : Nat} (h : St P0 w0 w (bus b cap ws Ls :: rbus (.slice Ar m cr) (.slice Ab n cb) cap ws Ls :: F)) (hm : m = ws.length) (hn : n = Ls.length) (h8 : n ≤ 8) (hl : ∀ j, (Ls.getD j default).length ≤ 16) (hw : ws.length ≤ 200) :
    Calls Try.prog 20 #[.pointer (some ⟨b, 0, none⟩), .agg #[.slice Ar m cr, .slice Ab n cb]] w fun x w' => x = .returned (.bool true) ∧ St P0 w0 w' (bus b cap ws Ls :: rbus (.slice Ar m cr) (.slice Ab n cb) cap ws Ls :: F) := by
  have h2 : St P0 w0 (w.alloc (.cells #[.slice Ar m cr, .slice Ab n cb] 45)) (bus b cap ws Ls :: rbus (.slice Ar m cr) (.slice Ab n cb) cap ws Ls :: bk w.heap.size 45 #[.slice Ar m cr, .slice Ab n cb] :: F) := ((h.alloc #[.slice Ar m cr, .slice Ab n cb] 45).get 2).get 2
  have HS0 := Lib.hid h2
  have HCO := Lib.hid (fun (wx : World) (h : Hid (St P0 w0 wx (bus b cap ws Ls :: rbus (.slice Ar m cr) (.slice Ab n cb) cap ws Ls :: bk w.heap.size 45 #[.slice Ar m cr, .slice Ab n cb] :: F))) => Cores_q wx h.out)
  rw [← hn] at HCO
  have HRM := Lib.hid (fun (wx : World) (h : Hid (St P0 w0 wx (bus b cap ws Ls :: rbus (.slice Ar m cr) (.slice Ab n cb) cap ws Ls :: bk w.heap.size 45 #[.slice Ar m cr, .slice Ab n cb] :: F))) => Ram_st h.out)
  have HN := Lib.hid hn
  have HW := Lib.hid (show ws.length ≤ 1000 by omega)
  have HWU := Lib.hid (fun (wx : World) (F' : List Rg) (i : Nat) (hi : i < n) (h : St P0 w0 wx (bus b cap ws Ls :: F')) => Waits_u h i (by omega))
  have HNO := Lib.hid (fun (wx : World) (F' : List Rg) (h : St P0 w0 wx (bus b cap ws Ls :: F')) => And.intro (waits_no h (-1) (by unfold inC; omega)) (waits_no h (n : Int) (by unfold inC; omega)))
  have HLL := Lib.hid hl
  have x0 : (w.alloc (.cells #[.slice Ar m cr, .slice Ab n cb] 45)).cell? ⟨w.heap.size, 0, none⟩ = some (.slice Ar m cr) := cell_of_block (h2.get 2).bk_at 0
  have x1 : (w.alloc (.cells #[.slice Ar m cr, .slice Ab n cb] 45)).cell? ⟨w.heap.size, 1, none⟩ = some (.slice Ab n cb) := cell_of_block (h2.get 2).bk_at 1
  clear h h2 hn hl hw hm
  go_enter Try.func20, Try.ntmps20
  go_upto_region 1 with fail
  generalize w.alloc (.cells #[.slice Ar m cr, .slice Ab n cb] 45) = wb at *
  have HSD := Lib.hid HS0.out.drew
  go_region_held3 (fun wx => wx.cell? ⟨w.heap.size, 0, none⟩ = some (.slice Ar m cr) ∧ wx.cell? ⟨w.heap.size, 1, none⟩ = some (.slice Ab n cb) ∧ Hid (St P0 w0 wx (bus b cap ws Ls :: rbus (.slice Ar m cr) (.slice Ab n cb) cap ws Ls :: bk w.heap.size 45 #[.slice Ar m cr, .slice Ab n cb] :: F)))
    (first | exact ⟨z0, z1, HZ⟩ | exact ⟨x0, x1, HSD⟩)
    (first
      | (go_at_call 21; refine (HCO.out _ ?_).mono ?_; (go_split_ands; assumption); rintro e w8 ⟨rfl, hw⟩; subst hw)
      | (go_at_call 16; refine (HRM.out _ ?_).mono ?_; (go_split_ands; assumption); rintro e w12 ⟨r12, rfl, hs12⟩; have H12 := Lib.hid hs12; have HZ : Hid (St P0 w0 w12 (bus b cap ws Ls :: rbus (.slice Ar m cr) (.slice Ab n cb) cap ws Ls :: bk w.heap.size 45 #[.slice Ar m cr, .slice Ab n cb] :: F)) := Lib.hid hs12.drop; have z0 : w12.cell? ⟨w.heap.size, 0, none⟩ = some (.slice Ar m cr) := cell_of_block (hs12.get 3).bk_at 0; have z1 : w12.cell? ⟨w.heap.size, 1, none⟩ = some (.slice Ab n cb) := cell_of_block (hs12.get 3).bk_at 1; clear hs12)
      | (go_at_call 15; refine (Words_st H12.out).mono ?_; rintro e w13 ⟨v13, rfl, hs13⟩; have H13 := Lib.hid hs13; have H15 := Lib.hid (St.ro_get (hs13.get 3) (A := lat (.slice Ar m cr) ws) (.head _)); have HZ : Hid (St P0 w0 w13 (bus b cap ws Ls :: rbus (.slice Ar m cr) (.slice Ab n cb) cap ws Ls :: bk w.heap.size 45 #[.slice Ar m cr, .slice Ab n cb] :: F)) := Lib.hid hs13.drop.drop; have z0 : w13.cell? ⟨w.heap.size, 0, none⟩ = some (.slice Ar m cr) := cell_of_block (hs13.get 4).bk_at 0; have z1 : w13.cell? ⟨w.heap.size, 1, none⟩ = some (.slice Ab n cb) := cell_of_block (hs13.get 4).bk_at 1; clear hs13)
      | (go_at_call 14; refine (Same_u H13.out H15.out HW.out).mono ?_; rintro e w14 ⟨rfl, hu⟩; have HZ2 := HZ; have y0 := z0; have y1 := z1; have HZ : Hid (St P0 w0 w14 (bus b cap ws Ls :: rbus (.slice Ar m cr) (.slice Ab n cb) cap ws Ls :: bk w.heap.size 45 #[.slice Ar m cr, .slice Ab n cb] :: F)) := Lib.hid (HZ2.out.more hu); have z0 : w14.cell? ⟨w.heap.size, 0, none⟩ = some (.slice Ar m cr) := cell_up hu y0; have z1 : w14.cell? ⟨w.heap.size, 1, none⟩ = some (.slice Ab n cb) := cell_up hu y1; clear HZ2 y0 y1))
  have HS1 := HZ
  have b0 := z0
  have b1 := z1
  clear HZ z0 z1 HSD HS0 x0 x1 H12 H13 H15 HCO HRM hu
  go_wp2_with fail
  go_loopg [25] n (fun gk v25 wx => ∃ i : Nat, i ≤ n ∧ Hid (i + gk = n) ∧ v25 = .int .i64 i ∧ Hid (St P0 w0 wx (bus b cap ws Ls :: rbus (.slice Ar m cr) (.slice Ab n cb) cap ws Ls :: bk w.heap.size 45 #[.slice Ar m cr, .slice Ab n cb] :: F)))
  case atStart => exact ⟨0, Nat.zero_le _, Lib.hid (Nat.zero_add _), rfl, HS1⟩
  case round =>
    clear HS1 b0 b1
    obtain ⟨i, hi, HG, rfl, HS⟩ := hrel
    by_cases hlt : i < n
    · have HN1 : Hid (i + 1 + (gk - 1) = n) := Lib.hid (by have := HG.out; omega)
      have HN2 : Hid (gk - 1 < gk) := Lib.hid (by have := HG.out; omega)
      have HN3 : Hid (i + 1 ≤ n) := Lib.hid (by omega)
      obtain ⟨g, o, C, cC, eA, k0, k1, h3⟩ := buf_at (i := i) (HS.out.get 1) (.tail _ (.head _)) HN.out hlt
      subst eA
      have hli := HLL.out i
      have HW8 := Lib.hid (fun (wx : World) (hu : Up wr wx) => HWU.out wx _ i hlt (HS.out.more hu))
      obtain ⟨L1, eL⟩ : ∃ L1, Ls.getD i default = L1 := ⟨_, rfl⟩
      rw [eL] at k1 h3 hli HW8
      obtain ⟨C', cC', e1, -, -, hrd, -⟩ := rl_form (h3.ro_get (.head _))
      cases e1
      have HRS := Lib.hid hrd
      have hL : L1.length ≤ 100000 := by omega
      have HHL := Lib.hid hL
      have hi2 : (i : Int) < (n : Int) := by omega
      have HUB := Lib.hid ((Up.refl wr).alloc (.cells #[.int .i64 (cap : Int), .slice C L1.length cC] 90))
      have q1 : (wr.alloc (.cells #[.int .i64 (cap : Int), .slice C L1.length cC] 90)).cell? ⟨wr.heap.size, 1, none⟩ = some (.slice C L1.length cC) := cell_of_block (HS.out.alloc #[.int .i64 (cap : Int), .slice C L1.length cC] 90).bk_at 1
      clear h3 hrd eL hli HG
      go_upto_region 6 with fail
      clear k0 k1
      generalize wr.alloc (.cells #[.int .i64 (cap : Int), .slice C L1.length cC] 90) = wb2 at *
      have HQ : Hid (Up wb2 wb2.drew) := Lib.hid ((Up.refl _).drew)
      go_region_held3 (fun wx => wx.cell? ⟨wr.heap.size, 1, none⟩ = some (.slice C L1.length cC) ∧ Hid (Up wb2 wx))
        (first | exact ⟨y1, HY⟩ | exact ⟨q1, HQ⟩)
        (first
          | (go_at_call 22; refine (HW8.out _ (HUB.out.trans HQ.out)).mono ?_; rintro e w8 ⟨A8, c8, rfl, hr8, hu⟩; have HY : Hid (Up wb2 w8) := Lib.hid (HQ.out.trans hu); have y1 : w8.cell? ⟨wr.heap.size, 1, none⟩ = some (.slice C L1.length cC) := cell_up HY.out q1; clear hu)
          | (go_at_call 24; refine (Pairs.Pairs_walk L1 A8 c8 _ hr8 HHL.out).mono ?_; rintro e w9 ⟨A9, c9, rfl, hr9, hu⟩; have HY0 := HY; clear y1; have HY : Hid (Up wb2 w9) := Lib.hid (HY0.out.trans hu); have y1 : w9.cell? ⟨wr.heap.size, 1, none⟩ = some (.slice C L1.length cC) := cell_up HY.out q1; clear hu HY0)
          | (go_at_call 25; refine (Pairs.Cells_walk L1 C cC _ (HRS.out.up (HUB.out.trans HY.out)) HHL.out).mono ?_; rintro e w10 ⟨A10, c10, rfl, hr10, hu⟩; have hr9' := hr9.up hu; have HY0 := HY; clear y1; have HY : Hid (Up wb2 w10) := Lib.hid (HY0.out.trans hu); have y1 : w10.cell? ⟨wr.heap.size, 1, none⟩ = some (.slice C L1.length cC) := cell_up HY.out q1; clear hu HY0)
          | (go_at_call 23; refine (Pairs.SameCells_walk L1 A9 A10 c9 c10 _ hr9' hr10 HHL.out).mono ?_; rintro e w11 ⟨rfl, hu⟩; have HY0 := HY; clear y1; have HY : Hid (Up wb2 w11) := Lib.hid (HY0.out.trans hu); have y1 : w11.cell? ⟨wr.heap.size, 1, none⟩ = some (.slice C L1.length cC) := cell_up HY.out q1; clear hu HY0))
      have HS9 := Lib.hid (HS.out.more (HUB.out.trans HY.out))
      clear HY y1 HQ q1 HRS HW8 hr8 hr9 hr9' hr10 HS
      go_wp2_with fail
      go_roundg (gk - 1)
      case measure => exact HN2.out
      case rel => exact ⟨i + 1, HN3.out, HN1, by go_num, HS9⟩
    · clear HG
      obtain rfl : i = n := by omega
      have HW1 := Lib.hid ((HNO.out wr _ HS.out).1)
      go_wp2_with fail
      refine HW1.out.mono ?_
      rintro x w3 ⟨A3, c3, rfl, h3⟩
      have b1 : w3.cell? ⟨w.heap.size, 1, none⟩ = some (.slice Ab i cb) := cell_of_block (h3.get 2).bk_at 1
      have HW2 := Lib.hid ((HNO.out w3 _ h3).2)
      clear h3 HW1 HS
      go_wp2_with fail
      refine HW2.out.mono ?_
      rintro x w4 ⟨A4, c4, rfl, h4⟩
      have HS4 := Lib.hid (h4.cut 2)
      clear h4 HW2
      go_wp2_with fail
      go_ret
      exact ⟨rfl, HS4.out⟩
end
end Go.Proofs.Ytlefefcakffepaa.Br
