/- The reference of the bus: Do; written by mkbr6.py. -/
import Derived.Test.YtlefefcakffepaaBr5
namespace Go.Proofs.Ytlefefcakffepaa.Br
set_option linter.unusedVariables false
set_option linter.unusedSimpArgs false
open Go.RowKit Go.Proofs.Ytlefefcakffepaa.CellOf Go.Proofs.Ytlefefcakffepaa.CellP Go.Proofs.Ytlefefcakffepaa.Lat Go.Proofs.Ytlefefcakffepaa.Sep Go.Proofs.Ytlefefcakffepaa.Sram Go.Proofs.Ytlefefcakffepaa.Find Go.Proofs.Ytlefefcakffepaa.Sbuf Go.Proofs.Ytlefefcakffepaa.Ref05 Go.Proofs.Ytlefefcakffepaa.Bus Go.Proofs.Ytlefefcakffepaa.PBusPlays Go.Proofs.YtlefefcakffepaaW.PrintWords
section
variable {P0 : Nat → Prop} {w0 w w' : World} {F M : List Rg} {ws : List Int} {Ls : List (List W16)} {L : List W16} {cap : Nat}
theorem doB0 (cap : Nat) (ws : List Int) (Ls : List (List W16)) (core a z : Int) : doB cap ws Ls 0 core a z = ((storeB cap ws Ls core a z).1, (storeB cap ws Ls core a z).2.1, 0, (storeB cap ws Ls core a z).2.2) := rfl
theorem doB4 (cap : Nat) (ws : List Int) (Ls : List (List W16)) (core a z : Int) : doB cap ws Ls 4 core a z = ((swapB ws Ls core a z).1, (swapB ws Ls core a z).2.1, (swapB ws Ls core a z).2.2.1, (swapB ws Ls core a z).2.2.2) := rfl
set_option maxHeartbeats 8000000 in
set_option maxRecDepth 100000 in
theorem Do_0 {Ar Ab : Option Addr} {m cr n cb : Nat} (h : St P0 w0 w (rbus (.slice Ar m cr) (.slice Ab n cb) cap ws Ls :: F)) (hm : m = ws.length) (hn : n = Ls.length) (h8 : n ≤ 8) (hl : ∀ j, (Ls.getD j default).length ≤ cap) (hc : 1 ≤ cap ∧ cap ≤ 16) (hw : ws.length ≤ 65536) (h1 : 1 ≤ m) (core a z : Int) :
    Calls Try.prog 19 #[.agg #[.slice Ar m cr, .slice Ab n cb], .agg #[.int .i64 0, .int .i64 core, .int .i64 a, .int .i64 z]] w fun x w' => DrT P0 w0 F cap (doB cap ws Ls 0 core a z).1 (doB cap ws Ls 0 core a z).2.1 m n (.int .i64 (doB cap ws Ls 0 core a z).2.2.1) (.int .i64 (doB cap ws Ls 0 core a z).2.2.2) x w' := by
  have h2 := (((h.alloc #[.slice Ar m cr, .slice Ab n cb] 45).alloc #[.int .i64 0, .int .i64 core, .int .i64 a, .int .i64 z] 31).alloc #[.slice none 0 0, .slice none 0 0] 45).get 3
  rw [World.size_alloc, World.size_alloc] at h2
  have HD := Lib.hid (Store_b h2 hm hn h8 hl hc hw core a z)
  rw [doB0]
  generalize storeB cap ws Ls core a z = r at *
  obtain ⟨ws', Ls', f⟩ := r
  dsimp only at *
  clear h h2 hm hn hl hc hw
  go_enter Try.func19, Try.ntmps19
  go_wp2_with fail
  refine HD.out.mono ?_
  intro x w3 hd
  unfold DrP at hd
  obtain ⟨A2, c2, B2, d2, rfl, h3, -⟩ := hd
  have h4 := h3.alloc #[.slice A2 m c2, .slice B2 n d2] 45
  have n0 : (w3.alloc (.cells #[.slice A2 m c2, .slice B2 n d2] 45)).cell? ⟨w3.heap.size, 0, none⟩ = some (.slice A2 m c2) := cell_of_block (h4).bk_at 0
  have n1 : (w3.alloc (.cells #[.slice A2 m c2, .slice B2 n d2] 45)).cell? ⟨w3.heap.size, 1, none⟩ = some (.slice B2 n d2) := cell_of_block (h4).bk_at 1
  have r0 : (w3.alloc (.cells #[.slice A2 m c2, .slice B2 n d2] 45)).cell? ⟨(w.heap.size + 1 + 1), 0, none⟩ = some (.slice none 0 0) := cell_of_block (h4.get 2).bk_at 0
  have r1 : (w3.alloc (.cells #[.slice A2 m c2, .slice B2 n d2] 45)).cell? ⟨(w.heap.size + 1 + 1), 1, none⟩ = some (.slice none 0 0) := cell_of_block (h4.get 2).bk_at 1
  have fr0 : (w3.alloc (.cells #[.slice A2 m c2, .slice B2 n d2] 45)).frozen? ⟨(w.heap.size + 1 + 1), 0, none⟩ = false := free_of_block (h4.get 2).bk_at 0
  have fr1 : (w3.alloc (.cells #[.slice A2 m c2, .slice B2 n d2] 45)).frozen? ⟨(w.heap.size + 1 + 1), 1, none⟩ = false := free_of_block (h4.get 2).bk_at 1
  have HS := Lib.hid (h4.get 2)
  clear h3 h4 HD
  go_wp2_with fail
  (try simp only [Exit.inBlock, Exit.then])
  refine bodyPost_ret (v := .tuple #[.agg #[.slice A2 m c2, .slice B2 n d2], .int .i64 0, .int .i64 f]) ?_ rfl ?_
  · rw [results_ctt (fn := Try.f19) rfl]
    go_simp
  · unfold DrT
    exact ⟨_, _, _, _, rfl, ((((HS.out.set 0 (.slice A2 m c2)).set 1 (.slice B2 n d2)).drop).cut 0).cut 1 |>.cut 1⟩
set_option maxHeartbeats 8000000 in
set_option maxRecDepth 100000 in
theorem Do_4 {Ar Ab : Option Addr} {m cr n cb : Nat} (h : St P0 w0 w (rbus (.slice Ar m cr) (.slice Ab n cb) cap ws Ls :: F)) (hm : m = ws.length) (hn : n = Ls.length) (h8 : n ≤ 8) (hl : ∀ j, (Ls.getD j default).length ≤ cap) (hc : 1 ≤ cap ∧ cap ≤ 16) (hw : ws.length ≤ 65536) (h1 : 1 ≤ m) (core a z : Int) :
    Calls Try.prog 19 #[.agg #[.slice Ar m cr, .slice Ab n cb], .agg #[.int .i64 4, .int .i64 core, .int .i64 a, .int .i64 z]] w fun x w' => DrT P0 w0 F cap (doB cap ws Ls 4 core a z).1 (doB cap ws Ls 4 core a z).2.1 m n (.int .i64 (doB cap ws Ls 4 core a z).2.2.1) (.int .i64 (doB cap ws Ls 4 core a z).2.2.2) x w' := by
  have h2 := (((h.alloc #[.slice Ar m cr, .slice Ab n cb] 45).alloc #[.int .i64 4, .int .i64 core, .int .i64 a, .int .i64 z] 31).alloc #[.slice none 0 0, .slice none 0 0] 45).get 3
  rw [World.size_alloc, World.size_alloc] at h2
  have HD := Lib.hid (Swap_b h2 hm hn h8 hl hc hw core a z)
  rw [doB4]
  generalize swapB ws Ls core a z = r at *
  obtain ⟨ws', Ls', was, f⟩ := r
  dsimp only at *
  clear h h2 hm hn hl hc hw
  go_enter Try.func19, Try.ntmps19
  go_wp2_with fail
  refine HD.out.mono ?_
  intro x w3 hd
  unfold DrT at hd
  obtain ⟨A2, c2, B2, d2, rfl, h3⟩ := hd
  have r0 : w3.cell? ⟨(w.heap.size + 1 + 1), 0, none⟩ = some (.slice none 0 0) := cell_of_block (h3.get 1).bk_at 0
  have r1 : w3.cell? ⟨(w.heap.size + 1 + 1), 1, none⟩ = some (.slice none 0 0) := cell_of_block (h3.get 1).bk_at 1
  have fr0 : w3.frozen? ⟨(w.heap.size + 1 + 1), 0, none⟩ = false := free_of_block (h3.get 1).bk_at 0
  have fr1 : w3.frozen? ⟨(w.heap.size + 1 + 1), 1, none⟩ = false := free_of_block (h3.get 1).bk_at 1
  have HS := Lib.hid (h3.get 1)
  clear h3 HD
  go_wp2_with fail
  (try simp only [Exit.inBlock, Exit.then])
  refine bodyPost_ret (v := .tuple #[.agg #[.slice A2 m c2, .slice B2 n d2], .int .i64 was, .int .i64 f]) ?_ rfl ?_
  · rw [results_ctt (fn := Try.f19) rfl]
    go_simp
  · unfold DrT
    exact ⟨_, _, _, _, rfl, ((((HS.out.set 0 (.slice A2 m c2)).set 1 (.slice B2 n d2)).drop).cut 1).cut 1⟩
set_option maxHeartbeats 8000000 in
set_option maxRecDepth 100000 in
theorem Do_ld {Ar Ab : Option Addr} {m cr n cb : Nat} (h : St P0 w0 w (rbus (.slice Ar m cr) (.slice Ab n cb) cap ws Ls :: F)) (hm : m = ws.length) (hn : n = Ls.length) (h8 : n ≤ 8) (hl : ∀ j, (Ls.getD j default).length ≤ cap) (hc : 1 ≤ cap ∧ cap ≤ 16) (hw : ws.length ≤ 65536) (h1 : 1 ≤ m) (k core a z : Int) (k0 : k ≠ 0) (k2 : k ≠ 2) (k3 : k ≠ 3) (k4 : k ≠ 4) (k5 : k ≠ 5) :
    Calls Try.prog 19 #[.agg #[.slice Ar m cr, .slice Ab n cb], .agg #[.int .i64 k, .int .i64 core, .int .i64 a, .int .i64 z]] w fun x w' => DrT P0 w0 F cap (doB cap ws Ls k core a z).1 (doB cap ws Ls k core a z).2.1 m n (.int .i64 (doB cap ws Ls k core a z).2.2.1) (.int .i64 (doB cap ws Ls k core a z).2.2.2) x w' := by
  have h2 := (((h.alloc #[.slice Ar m cr, .slice Ab n cb] 45).alloc #[.int .i64 k, .int .i64 core, .int .i64 a, .int .i64 z] 31).alloc #[.slice none 0 0, .slice none 0 0] 45).get 3
  rw [World.size_alloc, World.size_alloc] at h2
  have ed : doB cap ws Ls k core a z = (ws, Ls, (loadB ws Ls core a).1, (loadB ws Ls core a).2) := by
    unfold Bus.doB
    rw [if_neg k0, if_neg k2, if_neg k3, if_neg k4, if_neg k5]
  rw [ed]
  have HD := Lib.hid (Load_b h2 hm hn (fun j => by have := hl j; omega) core a)
  generalize loadB ws Ls core a = r at *
  obtain ⟨was, f⟩ := r
  dsimp only at *
  have y0 : (k == 0) = false := beq_eq_false_iff_ne.2 k0
  have y2 : (k == 2) = false := beq_eq_false_iff_ne.2 k2
  have y3 : (k == 3) = false := beq_eq_false_iff_ne.2 k3
  have y4 : (k == 4) = false := beq_eq_false_iff_ne.2 k4
  have y5 : (k == 5) = false := beq_eq_false_iff_ne.2 k5
  have HS0 := Lib.hid h2
  clear h h2 hm hn hl hc hw ed k0 k2 k3 k4 k5
  go_enter Try.func19, Try.ntmps19
  go_wp2_with fail
  refine HD.out.mono ?_
  rintro x w3 ⟨rfl, hu⟩
  have h3 := HS0.out.more hu
  have b0 : w3.cell? ⟨w.heap.size, 0, none⟩ = some (.slice Ar m cr) := cell_of_block (h3.get 3).bk_at 0
  have b1 : w3.cell? ⟨w.heap.size, 1, none⟩ = some (.slice Ab n cb) := cell_of_block (h3.get 3).bk_at 1
  have r0 : w3.cell? ⟨(w.heap.size + 1 + 1), 0, none⟩ = some (.slice none 0 0) := cell_of_block (h3.get 1).bk_at 0
  have r1 : w3.cell? ⟨(w.heap.size + 1 + 1), 1, none⟩ = some (.slice none 0 0) := cell_of_block (h3.get 1).bk_at 1
  have fr0 : w3.frozen? ⟨(w.heap.size + 1 + 1), 0, none⟩ = false := free_of_block (h3.get 1).bk_at 0
  have fr1 : w3.frozen? ⟨(w.heap.size + 1 + 1), 1, none⟩ = false := free_of_block (h3.get 1).bk_at 1
  have HS := Lib.hid (h3.get 1)
  clear h3 hu HD HS0
  go_wp2_with fail
  (try simp only [Exit.inBlock, Exit.then])
  refine bodyPost_ret (v := .tuple #[.agg #[.slice Ar m cr, .slice Ab n cb], .int .i64 was, .int .i64 f]) ?_ rfl ?_
  · rw [results_ctt (fn := Try.f19) rfl]
    go_simp
  · unfold DrT
    exact ⟨_, _, _, _, rfl, ((((HS.out.set 0 (.slice Ar m cr)).set 1 (.slice Ab n cb)).drop).cut 1).cut 1⟩
set_option maxHeartbeats 8000000 in
set_option maxRecDepth 100000 in
theorem Do_2no {Ar Ab : Option Addr} {m cr n cb : Nat} (h : St P0 w0 w (rbus (.slice Ar m cr) (.slice Ab n cb) cap ws Ls :: F)) (hm : m = ws.length) (hn : n = Ls.length) (h8 : n ≤ 8) (hl : ∀ j, (Ls.getD j default).length ≤ cap) (hc : 1 ≤ cap ∧ cap ≤ 16) (hw : ws.length ≤ 65536) (h1 : 1 ≤ m) (core a z : Int) (hno : ¬ inC Ls core) :
    Calls Try.prog 19 #[.agg #[.slice Ar m cr, .slice Ab n cb], .agg #[.int .i64 2, .int .i64 core, .int .i64 a, .int .i64 z]] w fun x w' => DrT P0 w0 F cap (doB cap ws Ls 2 core a z).1 (doB cap ws Ls 2 core a z).2.1 m n (.int .i64 (doB cap ws Ls 2 core a z).2.2.1) (.int .i64 (doB cap ws Ls 2 core a z).2.2.2) x w' := by
  have h2 := (((h.alloc #[.slice Ar m cr, .slice Ab n cb] 45).alloc #[.int .i64 2, .int .i64 core, .int .i64 a, .int .i64 z] 31).alloc #[.slice none 0 0, .slice none 0 0] 45).get 3
  rw [World.size_alloc, World.size_alloc] at h2
  have ed : doB cap ws Ls 2 core a z = (ws, Ls, 0, 3) := by
    unfold Bus.doB drainB fenceB loseB
    simp [hno]
  rw [ed]
  have hwr : wrongC n m core 0 = 3 := by
    unfold wrongC
    rw [if_neg (by unfold inC at hno; omega)]
  have HWR := Lib.hid (fun wx => wrong_x Ar Ab m cr n cb core 0 wx)
  rw [hwr] at HWR
  have HS0 := Lib.hid h2
  clear h h2 hm hn hl hc hw ed hwr hno
  go_enter Try.func19, Try.ntmps19
  go_wp2_with fail
  refine (HWR.out _).mono ?_
  rintro x w3 ⟨rfl, hu⟩
  have h3 := HS0.out.more hu
  have b0 : w3.cell? ⟨w.heap.size, 0, none⟩ = some (.slice Ar m cr) := cell_of_block (h3.get 3).bk_at 0
  have b1 : w3.cell? ⟨w.heap.size, 1, none⟩ = some (.slice Ab n cb) := cell_of_block (h3.get 3).bk_at 1
  have r0 : w3.cell? ⟨(w.heap.size + 1 + 1), 0, none⟩ = some (.slice none 0 0) := cell_of_block (h3.get 1).bk_at 0
  have r1 : w3.cell? ⟨(w.heap.size + 1 + 1), 1, none⟩ = some (.slice none 0 0) := cell_of_block (h3.get 1).bk_at 1
  have fr0 : w3.frozen? ⟨(w.heap.size + 1 + 1), 0, none⟩ = false := free_of_block (h3.get 1).bk_at 0
  have fr1 : w3.frozen? ⟨(w.heap.size + 1 + 1), 1, none⟩ = false := free_of_block (h3.get 1).bk_at 1
  have HS := Lib.hid (h3.get 1)
  clear h3 hu HWR HS0
  go_wp2_with fail
  (try simp only [Exit.inBlock, Exit.then])
  refine bodyPost_ret (v := .tuple #[.agg #[.slice Ar m cr, .slice Ab n cb], .int .i64 0, .int .i64 3]) ?_ rfl ?_
  · rw [results_ctt (fn := Try.f19) rfl]
    go_simp
  · unfold DrT
    exact ⟨_, _, _, _, rfl, ((((HS.out.set 0 (.slice Ar m cr)).set 1 (.slice Ab n cb)).drop).cut 1).cut 1⟩
set_option maxHeartbeats 8000000 in
set_option maxRecDepth 100000 in
theorem Do_3no {Ar Ab : Option Addr} {m cr n cb : Nat} (h : St P0 w0 w (rbus (.slice Ar m cr) (.slice Ab n cb) cap ws Ls :: F)) (hm : m = ws.length) (hn : n = Ls.length) (h8 : n ≤ 8) (hl : ∀ j, (Ls.getD j default).length ≤ cap) (hc : 1 ≤ cap ∧ cap ≤ 16) (hw : ws.length ≤ 65536) (h1 : 1 ≤ m) (core a z : Int) (hno : ¬ inC Ls core) :
    Calls Try.prog 19 #[.agg #[.slice Ar m cr, .slice Ab n cb], .agg #[.int .i64 3, .int .i64 core, .int .i64 a, .int .i64 z]] w fun x w' => DrT P0 w0 F cap (doB cap ws Ls 3 core a z).1 (doB cap ws Ls 3 core a z).2.1 m n (.int .i64 (doB cap ws Ls 3 core a z).2.2.1) (.int .i64 (doB cap ws Ls 3 core a z).2.2.2) x w' := by
  have h2 := (((h.alloc #[.slice Ar m cr, .slice Ab n cb] 45).alloc #[.int .i64 3, .int .i64 core, .int .i64 a, .int .i64 z] 31).alloc #[.slice none 0 0, .slice none 0 0] 45).get 3
  rw [World.size_alloc, World.size_alloc] at h2
  have ed : doB cap ws Ls 3 core a z = (ws, Ls, 0, 3) := by
    unfold Bus.doB drainB fenceB loseB
    simp [hno]
  rw [ed]
  have hwr : wrongC n m core 0 = 3 := by
    unfold wrongC
    rw [if_neg (by unfold inC at hno; omega)]
  have HWR := Lib.hid (fun wx => wrong_x Ar Ab m cr n cb core 0 wx)
  rw [hwr] at HWR
  have HS0 := Lib.hid h2
  clear h h2 hm hn hl hc hw ed hwr hno
  go_enter Try.func19, Try.ntmps19
  go_wp2_with fail
  refine (HWR.out _).mono ?_
  rintro x w3 ⟨rfl, hu⟩
  have h3 := HS0.out.more hu
  have b0 : w3.cell? ⟨w.heap.size, 0, none⟩ = some (.slice Ar m cr) := cell_of_block (h3.get 3).bk_at 0
  have b1 : w3.cell? ⟨w.heap.size, 1, none⟩ = some (.slice Ab n cb) := cell_of_block (h3.get 3).bk_at 1
  have r0 : w3.cell? ⟨(w.heap.size + 1 + 1), 0, none⟩ = some (.slice none 0 0) := cell_of_block (h3.get 1).bk_at 0
  have r1 : w3.cell? ⟨(w.heap.size + 1 + 1), 1, none⟩ = some (.slice none 0 0) := cell_of_block (h3.get 1).bk_at 1
  have fr0 : w3.frozen? ⟨(w.heap.size + 1 + 1), 0, none⟩ = false := free_of_block (h3.get 1).bk_at 0
  have fr1 : w3.frozen? ⟨(w.heap.size + 1 + 1), 1, none⟩ = false := free_of_block (h3.get 1).bk_at 1
  have HS := Lib.hid (h3.get 1)
  clear h3 hu HWR HS0
  go_wp2_with fail
  (try simp only [Exit.inBlock, Exit.then])
  refine bodyPost_ret (v := .tuple #[.agg #[.slice Ar m cr, .slice Ab n cb], .int .i64 0, .int .i64 3]) ?_ rfl ?_
  · rw [results_ctt (fn := Try.f19) rfl]
    go_simp
  · unfold DrT
    exact ⟨_, _, _, _, rfl, ((((HS.out.set 0 (.slice Ar m cr)).set 1 (.slice Ab n cb)).drop).cut 1).cut 1⟩
set_option maxHeartbeats 8000000 in
set_option maxRecDepth 100000 in
theorem Do_5no {Ar Ab : Option Addr} {m cr n cb : Nat} (h : St P0 w0 w (rbus (.slice Ar m cr) (.slice Ab n cb) cap ws Ls :: F)) (hm : m = ws.length) (hn : n = Ls.length) (h8 : n ≤ 8) (hl : ∀ j, (Ls.getD j default).length ≤ cap) (hc : 1 ≤ cap ∧ cap ≤ 16) (hw : ws.length ≤ 65536) (h1 : 1 ≤ m) (core a z : Int) (hno : ¬ inC Ls core) :
    Calls Try.prog 19 #[.agg #[.slice Ar m cr, .slice Ab n cb], .agg #[.int .i64 5, .int .i64 core, .int .i64 a, .int .i64 z]] w fun x w' => DrT P0 w0 F cap (doB cap ws Ls 5 core a z).1 (doB cap ws Ls 5 core a z).2.1 m n (.int .i64 (doB cap ws Ls 5 core a z).2.2.1) (.int .i64 (doB cap ws Ls 5 core a z).2.2.2) x w' := by
  have h2 := (((h.alloc #[.slice Ar m cr, .slice Ab n cb] 45).alloc #[.int .i64 5, .int .i64 core, .int .i64 a, .int .i64 z] 31).alloc #[.slice none 0 0, .slice none 0 0] 45).get 3
  rw [World.size_alloc, World.size_alloc] at h2
  have ed : doB cap ws Ls 5 core a z = (ws, Ls, 0, 3) := by
    unfold Bus.doB drainB fenceB loseB
    simp [hno]
  rw [ed]
  have hwr : wrongC n m core 0 = 3 := by
    unfold wrongC
    rw [if_neg (by unfold inC at hno; omega)]
  have HWR := Lib.hid (fun wx => wrong_x Ar Ab m cr n cb core 0 wx)
  rw [hwr] at HWR
  have HS0 := Lib.hid h2
  clear h h2 hm hn hl hc hw ed hwr hno
  go_enter Try.func19, Try.ntmps19
  go_wp2_with fail
  refine (HWR.out _).mono ?_
  rintro x w3 ⟨rfl, hu⟩
  have h3 := HS0.out.more hu
  have b0 : w3.cell? ⟨w.heap.size, 0, none⟩ = some (.slice Ar m cr) := cell_of_block (h3.get 3).bk_at 0
  have b1 : w3.cell? ⟨w.heap.size, 1, none⟩ = some (.slice Ab n cb) := cell_of_block (h3.get 3).bk_at 1
  have r0 : w3.cell? ⟨(w.heap.size + 1 + 1), 0, none⟩ = some (.slice none 0 0) := cell_of_block (h3.get 1).bk_at 0
  have r1 : w3.cell? ⟨(w.heap.size + 1 + 1), 1, none⟩ = some (.slice none 0 0) := cell_of_block (h3.get 1).bk_at 1
  have fr0 : w3.frozen? ⟨(w.heap.size + 1 + 1), 0, none⟩ = false := free_of_block (h3.get 1).bk_at 0
  have fr1 : w3.frozen? ⟨(w.heap.size + 1 + 1), 1, none⟩ = false := free_of_block (h3.get 1).bk_at 1
  have HS := Lib.hid (h3.get 1)
  clear h3 hu HWR HS0
  go_wp2_with fail
  (try simp only [Exit.inBlock, Exit.then])
  refine bodyPost_ret (v := .tuple #[.agg #[.slice Ar m cr, .slice Ab n cb], .int .i64 0, .int .i64 3]) ?_ rfl ?_
  · rw [results_ctt (fn := Try.f19) rfl]
    go_simp
  · unfold DrT
    exact ⟨_, _, _, _, rfl, ((((HS.out.set 0 (.slice Ar m cr)).set 1 (.slice Ab n cb)).drop).cut 1).cut 1⟩
set_option maxHeartbeats 8000000 in
set_option maxRecDepth 100000 in
theorem Do_2ok {Ar Ab : Option Addr} {m cr n cb : Nat} (h : St P0 w0 w (rbus (.slice Ar m cr) (.slice Ab n cb) cap ws Ls :: F)) (hm : m = ws.length) (hn : n = Ls.length) (h8 : n ≤ 8) (hl : ∀ j, (Ls.getD j default).length ≤ cap) (hc : 1 ≤ cap ∧ cap ≤ 16) (hw : ws.length ≤ 65536) (h1 : 1 ≤ m) (i : Nat) (hi : i < n) (a z : Int) :
    Calls Try.prog 19 #[.agg #[.slice Ar m cr, .slice Ab n cb], .agg #[.int .i64 2, (.int .i64 (i : Int)), .int .i64 a, .int .i64 z]] w fun x w' => DrT P0 w0 F cap (doB cap ws Ls 2 (i : Int) a z).1 (doB cap ws Ls 2 (i : Int) a z).2.1 m n (.int .i64 (doB cap ws Ls 2 (i : Int) a z).2.2.1) (.int .i64 (doB cap ws Ls 2 (i : Int) a z).2.2.2) x w' := by
  have h2 := (((h.alloc #[.slice Ar m cr, .slice Ab n cb] 45).alloc #[.int .i64 2, .int .i64 (i : Int), .int .i64 a, .int .i64 z] 31).alloc #[.slice none 0 0, .slice none 0 0] 45).get 3
  rw [World.size_alloc, World.size_alloc] at h2
  have hin : inC Ls (i : Int) := by unfold inC; omega
  have ed : doB cap ws Ls 2 (i : Int) a z = ((drM ws (Ls.getD i default)).1, Ls.set i (drM ws (Ls.getD i default)).2, (if 0 < (Ls.getD i default).length then 1 else 0), 0) := by
    unfold Bus.doB drainB
    rw [if_neg (by decide), if_pos rfl, if_pos hin]
    have e3 : at_ Ls (i : Int) = Ls.getD i default := rfl
    simp only [e3, Int.toNat_natCast, decide_eq_true_eq]
  rw [ed]
  dsimp only
  have HDR := Lib.hid (fun (wx : World) (F' : List Rg) (h : St P0 w0 wx (rbus (.slice Ar m cr) (.slice Ab n cb) cap ws Ls :: F')) => Drain_b (i := i) h hm hn hi h8 (by have := hl i; omega) hw)
  obtain ⟨d, hd⟩ : ∃ d, decide (0 < (Ls.getD i default).length) = d := ⟨_, rfl⟩
  have eif : (if 0 < (Ls.getD i default).length then (1 : Int) else 0) = if d = true then 1 else 0 := by
    rw [← hd]
    simp
  rw [eif]
  rw [hd] at HDR
  generalize drM ws (Ls.getD i default) = r at *
  obtain ⟨ws', L'⟩ := r
  dsimp only at *
  have hwr : wrongC n m (i : Int) 0 = 0 := by
    unfold wrongC
    rw [if_pos (by omega), if_pos (by omega)]
  have HWR := Lib.hid (fun wx => wrong_x Ar Ab m cr n cb (i : Int) 0 wx)
  rw [hwr] at HWR
  have HS0 := Lib.hid h2
  clear h h2 hm hn hl hc hw ed hwr hin eif hd
  go_enter Try.func19, Try.ntmps19
  go_wp2_with fail
  refine (HWR.out _).mono ?_
  rintro x w3 ⟨rfl, hu⟩
  have h3 := HS0.out.more hu
  have b0 : w3.cell? ⟨w.heap.size, 0, none⟩ = some (.slice Ar m cr) := cell_of_block (h3.get 3).bk_at 0
  have b1 : w3.cell? ⟨w.heap.size, 1, none⟩ = some (.slice Ab n cb) := cell_of_block (h3.get 3).bk_at 1
  have o0 : w3.cell? ⟨(w.heap.size + 1), 0, none⟩ = some (.int .i64 2) := cell_of_block (h3.get 2).bk_at 0
  have o1 : w3.cell? ⟨(w.heap.size + 1), 1, none⟩ = some (.int .i64 (i : Int)) := cell_of_block (h3.get 2).bk_at 1
  have o2 : w3.cell? ⟨(w.heap.size + 1), 2, none⟩ = some (.int .i64 a) := cell_of_block (h3.get 2).bk_at 2
  have o3 : w3.cell? ⟨(w.heap.size + 1), 3, none⟩ = some (.int .i64 z) := cell_of_block (h3.get 2).bk_at 3
  have HD1 := Lib.hid (HDR.out w3 _ h3)
  clear h3 hu HWR HS0 HDR
  go_wp2_with fail
  refine HD1.out.mono ?_
  intro y w4 hd
  unfold DrP at hd
  obtain ⟨A2, c2, B2, d2, rfl, h4, -⟩ := hd
  have h5 := h4.alloc #[.slice A2 m c2, .slice B2 n d2] 45
  have n0 : (w4.alloc (.cells #[.slice A2 m c2, .slice B2 n d2] 45)).cell? ⟨w4.heap.size, 0, none⟩ = some (.slice A2 m c2) := cell_of_block (h5).bk_at 0
  have n1 : (w4.alloc (.cells #[.slice A2 m c2, .slice B2 n d2] 45)).cell? ⟨w4.heap.size, 1, none⟩ = some (.slice B2 n d2) := cell_of_block (h5).bk_at 1
  have r0 : (w4.alloc (.cells #[.slice A2 m c2, .slice B2 n d2] 45)).cell? ⟨(w.heap.size + 1 + 1), 0, none⟩ = some (.slice none 0 0) := cell_of_block (h5.get 2).bk_at 0
  have r1 : (w4.alloc (.cells #[.slice A2 m c2, .slice B2 n d2] 45)).cell? ⟨(w.heap.size + 1 + 1), 1, none⟩ = some (.slice none 0 0) := cell_of_block (h5.get 2).bk_at 1
  have fr0 : (w4.alloc (.cells #[.slice A2 m c2, .slice B2 n d2] 45)).frozen? ⟨(w.heap.size + 1 + 1), 0, none⟩ = false := free_of_block (h5.get 2).bk_at 0
  have fr1 : (w4.alloc (.cells #[.slice A2 m c2, .slice B2 n d2] 45)).frozen? ⟨(w.heap.size + 1 + 1), 1, none⟩ = false := free_of_block (h5.get 2).bk_at 1
  have HS := Lib.hid (h5.get 2)
  clear h4 h5 HD1
  cases d with
  | true =>
    go_wp2_with fail
    (try simp only [Exit.inBlock, Exit.then])
    refine bodyPost_ret (v := .tuple #[.agg #[.slice A2 m c2, .slice B2 n d2], .int .i64 1, .int .i64 0]) ?_ rfl ?_
    · rw [results_ctt (fn := Try.f19) rfl]
      go_simp
    · unfold DrT
      exact ⟨_, _, _, _, rfl, ((((HS.out.set 0 (.slice A2 m c2)).set 1 (.slice B2 n d2)).drop).cut 0).cut 1 |>.cut 1⟩
  | false =>
    go_wp2_with fail
    (try simp only [Exit.inBlock, Exit.then])
    refine bodyPost_ret (v := .tuple #[.agg #[.slice A2 m c2, .slice B2 n d2], .int .i64 0, .int .i64 0]) ?_ rfl ?_
    · rw [results_ctt (fn := Try.f19) rfl]
      go_simp
    · unfold DrT
      exact ⟨_, _, _, _, rfl, ((((HS.out.set 0 (.slice A2 m c2)).set 1 (.slice B2 n d2)).drop).cut 0).cut 1 |>.cut 1⟩
set_option maxHeartbeats 8000000 in
set_option maxRecDepth 100000 in
theorem Do_3ok {Ar Ab : Option Addr} {m cr n cb : Nat} (h : St P0 w0 w (rbus (.slice Ar m cr) (.slice Ab n cb) cap ws Ls :: F)) (hm : m = ws.length) (hn : n = Ls.length) (h8 : n ≤ 8) (hl : ∀ j, (Ls.getD j default).length ≤ cap) (hc : 1 ≤ cap ∧ cap ≤ 16) (hw : ws.length ≤ 65536) (h1 : 1 ≤ m) (i : Nat) (hi : i < n) (a z : Int) :
    Calls Try.prog 19 #[.agg #[.slice Ar m cr, .slice Ab n cb], .agg #[.int .i64 3, (.int .i64 (i : Int)), .int .i64 a, .int .i64 z]] w fun x w' => DrT P0 w0 F cap (doB cap ws Ls 3 (i : Int) a z).1 (doB cap ws Ls 3 (i : Int) a z).2.1 m n (.int .i64 (doB cap ws Ls 3 (i : Int) a z).2.2.1) (.int .i64 (doB cap ws Ls 3 (i : Int) a z).2.2.2) x w' := by
  have h2 := (((h.alloc #[.slice Ar m cr, .slice Ab n cb] 45).alloc #[.int .i64 3, .int .i64 (i : Int), .int .i64 a, .int .i64 z] 31).alloc #[.slice none 0 0, .slice none 0 0] 45).get 3
  rw [World.size_alloc, World.size_alloc] at h2
  have hin : inC Ls (i : Int) := by unfold inC; omega
  have ed : doB cap ws Ls 3 (i : Int) a z = (feM ws (Ls.getD i default), Ls.set i [], ((Ls.getD i default).length : Int), 0) := by
    unfold Bus.doB fenceB
    rw [if_neg (by decide), if_neg (by decide), if_pos rfl, if_pos hin]
    rfl
  rw [ed]
  dsimp only
  have HDR := Lib.hid (fun (wx : World) (F' : List Rg) (h : St P0 w0 wx (rbus (.slice Ar m cr) (.slice Ab n cb) cap ws Ls :: F')) => Fence_b (i := i) h hm hn hi h8 (by have := hl i; omega) hw)
  generalize feM ws (Ls.getD i default) = ws' at *
  generalize (Ls.getD i default).length = nl at *
  have hwr : wrongC n m (i : Int) 0 = 0 := by
    unfold wrongC
    rw [if_pos (by omega), if_pos (by omega)]
  have HWR := Lib.hid (fun wx => wrong_x Ar Ab m cr n cb (i : Int) 0 wx)
  rw [hwr] at HWR
  have HS0 := Lib.hid h2
  clear h h2 hm hn hl hc hw ed hwr hin
  go_enter Try.func19, Try.ntmps19
  go_wp2_with fail
  refine (HWR.out _).mono ?_
  rintro x w3 ⟨rfl, hu⟩
  have h3 := HS0.out.more hu
  have b0 : w3.cell? ⟨w.heap.size, 0, none⟩ = some (.slice Ar m cr) := cell_of_block (h3.get 3).bk_at 0
  have b1 : w3.cell? ⟨w.heap.size, 1, none⟩ = some (.slice Ab n cb) := cell_of_block (h3.get 3).bk_at 1
  have o0 : w3.cell? ⟨(w.heap.size + 1), 0, none⟩ = some (.int .i64 3) := cell_of_block (h3.get 2).bk_at 0
  have o1 : w3.cell? ⟨(w.heap.size + 1), 1, none⟩ = some (.int .i64 (i : Int)) := cell_of_block (h3.get 2).bk_at 1
  have o2 : w3.cell? ⟨(w.heap.size + 1), 2, none⟩ = some (.int .i64 a) := cell_of_block (h3.get 2).bk_at 2
  have o3 : w3.cell? ⟨(w.heap.size + 1), 3, none⟩ = some (.int .i64 z) := cell_of_block (h3.get 2).bk_at 3
  have HD1 := Lib.hid (HDR.out w3 _ h3)
  clear h3 hu HWR HS0 HDR
  go_wp2_with fail
  refine HD1.out.mono ?_
  intro y w4 hd
  unfold DrP at hd
  obtain ⟨A2, c2, B2, d2, rfl, h4, -⟩ := hd
  have h5 := h4.alloc #[.slice A2 m c2, .slice B2 n d2] 45
  have n0 : (w4.alloc (.cells #[.slice A2 m c2, .slice B2 n d2] 45)).cell? ⟨w4.heap.size, 0, none⟩ = some (.slice A2 m c2) := cell_of_block (h5).bk_at 0
  have n1 : (w4.alloc (.cells #[.slice A2 m c2, .slice B2 n d2] 45)).cell? ⟨w4.heap.size, 1, none⟩ = some (.slice B2 n d2) := cell_of_block (h5).bk_at 1
  have r0 : (w4.alloc (.cells #[.slice A2 m c2, .slice B2 n d2] 45)).cell? ⟨(w.heap.size + 1 + 1), 0, none⟩ = some (.slice none 0 0) := cell_of_block (h5.get 2).bk_at 0
  have r1 : (w4.alloc (.cells #[.slice A2 m c2, .slice B2 n d2] 45)).cell? ⟨(w.heap.size + 1 + 1), 1, none⟩ = some (.slice none 0 0) := cell_of_block (h5.get 2).bk_at 1
  have fr0 : (w4.alloc (.cells #[.slice A2 m c2, .slice B2 n d2] 45)).frozen? ⟨(w.heap.size + 1 + 1), 0, none⟩ = false := free_of_block (h5.get 2).bk_at 0
  have fr1 : (w4.alloc (.cells #[.slice A2 m c2, .slice B2 n d2] 45)).frozen? ⟨(w.heap.size + 1 + 1), 1, none⟩ = false := free_of_block (h5.get 2).bk_at 1
  have HS := Lib.hid (h5.get 2)
  clear h4 h5 HD1
  go_wp2_with fail
  (try simp only [Exit.inBlock, Exit.then])
  refine bodyPost_ret (v := .tuple #[.agg #[.slice A2 m c2, .slice B2 n d2], .int .i64 (nl : Int), .int .i64 0]) ?_ rfl ?_
  · rw [results_ctt (fn := Try.f19) rfl]
    go_simp
  · unfold DrT
    exact ⟨_, _, _, _, rfl, ((((HS.out.set 0 (.slice A2 m c2)).set 1 (.slice B2 n d2)).drop).cut 0).cut 1 |>.cut 1⟩
set_option maxHeartbeats 8000000 in
set_option maxRecDepth 100000 in
theorem Do_5ok {Ar Ab : Option Addr} {m cr n cb : Nat} (h : St P0 w0 w (rbus (.slice Ar m cr) (.slice Ab n cb) cap ws Ls :: F)) (hm : m = ws.length) (hn : n = Ls.length) (h8 : n ≤ 8) (hl : ∀ j, (Ls.getD j default).length ≤ cap) (hc : 1 ≤ cap ∧ cap ≤ 16) (hw : ws.length ≤ 65536) (h1 : 1 ≤ m) (i : Nat) (hi : i < n) (a z : Int) :
    Calls Try.prog 19 #[.agg #[.slice Ar m cr, .slice Ab n cb], .agg #[.int .i64 5, (.int .i64 (i : Int)), .int .i64 a, .int .i64 z]] w fun x w' => DrT P0 w0 F cap (doB cap ws Ls 5 (i : Int) a z).1 (doB cap ws Ls 5 (i : Int) a z).2.1 m n (.int .i64 (doB cap ws Ls 5 (i : Int) a z).2.2.1) (.int .i64 (doB cap ws Ls 5 (i : Int) a z).2.2.2) x w' := by
  have h2 := (((h.alloc #[.slice Ar m cr, .slice Ab n cb] 45).alloc #[.int .i64 5, .int .i64 (i : Int), .int .i64 a, .int .i64 z] 31).alloc #[.slice none 0 0, .slice none 0 0] 45).get 3
  rw [World.size_alloc, World.size_alloc] at h2
  have hin : inC Ls (i : Int) := by unfold inC; omega
  have ed : doB cap ws Ls 5 (i : Int) a z = (ws, Ls.set i [], ((Ls.getD i default).length : Int), 0) := by
    unfold Bus.doB loseB
    rw [if_neg (by decide), if_neg (by decide), if_neg (by decide), if_neg (by decide), if_pos rfl, if_pos hin]
    rfl
  rw [ed]
  dsimp only
  have hwr : wrongC n m (i : Int) 0 = 0 := by
    unfold wrongC
    rw [if_pos (by omega), if_pos (by omega)]
  have HWR := Lib.hid (fun wx => wrong_x Ar Ab m cr n cb (i : Int) 0 wx)
  rw [hwr] at HWR
  have HS0 := Lib.hid h2
  have hi2 : (i : Int) < (n : Int) := by omega
  have HN := Lib.hid hn
  clear h h2 hm hl hc hw ed hwr hin
  obtain ⟨nl, hnl⟩ : ∃ k, (Ls.getD i default).length = k := ⟨_, rfl⟩
  rw [hnl]
  have HNL := Lib.hid hnl
  clear hnl hn
  go_enter Try.func19, Try.ntmps19
  go_wp2_with fail
  refine (HWR.out _).mono ?_
  rintro x w3 ⟨rfl, hu⟩
  have h3 := HS0.out.more hu
  have h4 := h3.ro_add (B := rl (.slice none 0 0) []) (fun P hP => slc_nil _ _ _ _)
  obtain ⟨g, o, C, cC, eA, k0, k1, -⟩ := buf_at (i := i) h3 (.tail _ (.head _)) HN.out hi
  subst eA
  rw [HNL.out] at k1
  have HWT := Lib.hid (fun (wx : World) (hu : Up w3 wx) => with_x (L := []) (Ax := none) (cx := 0) (cap := cap) (Ar := Ar) (m := m) (cr := cr) (h4.more hu) (.tail _ (.tail _ (.head _))) HN.out (.head _) hi h8)
  have b0 : w3.cell? ⟨w.heap.size, 0, none⟩ = some (.slice Ar m cr) := cell_of_block (h3.get 3).bk_at 0
  have b1 : w3.cell? ⟨w.heap.size, 1, none⟩ = some (.slice (some ⟨g, o, none⟩) n cb) := cell_of_block (h3.get 3).bk_at 1
  have o0 : w3.cell? ⟨(w.heap.size + 1), 0, none⟩ = some (.int .i64 5) := cell_of_block (h3.get 2).bk_at 0
  have o1 : w3.cell? ⟨(w.heap.size + 1), 1, none⟩ = some (.int .i64 (i : Int)) := cell_of_block (h3.get 2).bk_at 1
  have o2 : w3.cell? ⟨(w.heap.size + 1), 2, none⟩ = some (.int .i64 a) := cell_of_block (h3.get 2).bk_at 2
  have o3 : w3.cell? ⟨(w.heap.size + 1), 3, none⟩ = some (.int .i64 z) := cell_of_block (h3.get 2).bk_at 3
  clear h3 h4 hu HWR HS0
  go_upto_region 21 with fail
  go_region_held3 (fun wx => wx.cell? ⟨w.heap.size, 0, none⟩ = some (.slice Ar m cr) ∧ wx.cell? ⟨w.heap.size, 1, none⟩ = some (.slice (some ⟨g, o, none⟩) n cb) ∧ wx.cell? ⟨w.heap.size + 1, 1, none⟩ = some (.int .i64 (i : Int)) ∧ wx.cell? ⟨g, o + i * 2, none⟩ = some (.int .i64 (cap : Int)))
    (first | exact ⟨b0, b1, o1, k0⟩ | exact ⟨d0, d1, p1, q0⟩ | exact ⟨s0, s1, s2, q3⟩ | go_keep)
    (first
      | (go_at_call 48; refine (HWT.out _ ((Up.refl _).drew)).mono ?_; rintro y w5 ⟨A5, c5, rfl, h5⟩; have d0 : w5.cell? ⟨w.heap.size, 0, none⟩ = some (.slice Ar m cr) := cell_of_block (h5.get 3).bk_at 0; have d1 : w5.cell? ⟨w.heap.size, 1, none⟩ = some (.slice (some ⟨g, o, none⟩) n cb) := cell_of_block (h5.get 3).bk_at 1; have p1 : w5.cell? ⟨w.heap.size + 1, 1, none⟩ = some (.int .i64 (i : Int)) := cell_of_block (h5.get 2).bk_at 1; obtain ⟨g', o', C', cC', eA', q0, q1, -⟩ := buf_at (i := i) h5 (.tail _ (.tail _ (.tail _ (.head _)))) HN.out hi; cases eA'; have r0 : w5.cell? ⟨w.heap.size + 1 + 1, 0, none⟩ = some (.slice none 0 0) := cell_of_block (h5.get 1).bk_at 0; have r1 : w5.cell? ⟨w.heap.size + 1 + 1, 1, none⟩ = some (.slice none 0 0) := cell_of_block (h5.get 1).bk_at 1; have fr0 : w5.frozen? ⟨w.heap.size + 1 + 1, 0, none⟩ = false := free_of_block (h5.get 1).bk_at 0; have fr1 : w5.frozen? ⟨w.heap.size + 1 + 1, 1, none⟩ = false := free_of_block (h5.get 1).bk_at 1; have HS := Lib.hid (h5.get 1); have h6 := ((h5.get 1).set 0 (.slice Ar m cr)).set 1 (.slice A5 n c5); have s0 : ((w5.setCell ⟨w.heap.size + 1 + 1, 0, none⟩ (.slice Ar m cr)).setCell ⟨w.heap.size + 1 + 1, 1, none⟩ (.slice A5 n c5)).cell? ⟨w.heap.size, 0, none⟩ = some (.slice Ar m cr) := cell_of_block (h6.get 3).bk_at 0; have s1 : ((w5.setCell ⟨w.heap.size + 1 + 1, 0, none⟩ (.slice Ar m cr)).setCell ⟨w.heap.size + 1 + 1, 1, none⟩ (.slice A5 n c5)).cell? ⟨w.heap.size, 1, none⟩ = some (.slice (some ⟨g, o, none⟩) n cb) := cell_of_block (h6.get 3).bk_at 1; have s2 : ((w5.setCell ⟨w.heap.size + 1 + 1, 0, none⟩ (.slice Ar m cr)).setCell ⟨w.heap.size + 1 + 1, 1, none⟩ (.slice A5 n c5)).cell? ⟨w.heap.size + 1, 1, none⟩ = some (.int .i64 (i : Int)) := cell_of_block (h6.get 2).bk_at 1; obtain ⟨g3, o3, C3, cC3, eA3, q3, q4, -⟩ := buf_at (i := i) (h6.get 1) (.tail _ (.tail _ (.tail _ (.head _)))) HN.out hi; cases eA3; clear h5 h6))
  all_goals
    go_wp2_with fail
    (try simp only [Exit.inBlock, Exit.then])
    refine bodyPost_ret (v := .tuple #[.agg #[.slice Ar m cr, .slice A5 n c5], .int .i64 (nl : Int), .int .i64 0]) ?_ rfl ?_
    · rw [results_ctt (fn := Try.f19) rfl]
      go_simp
    · unfold DrT
      exact ⟨_, _, _, _, rfl, (((((HS.out.set 0 (.slice Ar m cr)).set 1 (.slice A5 n c5)).drop).cut 1).cut 1).ro_sub fun E hE => by
        rcases List.mem_cons.1 hE with rfl | hE
        · exact .tail _ (.tail _ (.head _))
        · obtain rfl := List.mem_singleton.1 hE
          exact .head _⟩
/-- Do, whatever the call. -/
theorem Do_b {Ar Ab : Option Addr} {m cr n cb : Nat} (h : St P0 w0 w (rbus (.slice Ar m cr) (.slice Ab n cb) cap ws Ls :: F)) (hm : m = ws.length) (hn : n = Ls.length) (h8 : n ≤ 8) (hl : ∀ j, (Ls.getD j default).length ≤ cap) (hc : 1 ≤ cap ∧ cap ≤ 16) (hw : ws.length ≤ 65536) (h1 : 1 ≤ m) (k core a z : Int) :
    Calls Try.prog 19 #[.agg #[.slice Ar m cr, .slice Ab n cb], .agg #[.int .i64 k, .int .i64 core, .int .i64 a, .int .i64 z]] w fun x w' => DrT P0 w0 F cap (doB cap ws Ls k core a z).1 (doB cap ws Ls k core a z).2.1 m n (.int .i64 (doB cap ws Ls k core a z).2.2.1) (.int .i64 (doB cap ws Ls k core a z).2.2.2) x w' := by
  by_cases k0 : k = 0
  · subst k0
    exact Do_0 h hm hn h8 hl hc hw h1 core a z
  by_cases k4 : k = 4
  · subst k4
    exact Do_4 h hm hn h8 hl hc hw h1 core a z
  by_cases hin : inC Ls core
  · obtain ⟨i, rfl⟩ := Int.eq_ofNat_of_zero_le hin.1
    have hi : i < n := by have := hin.2; omega
    by_cases k2 : k = 2
    · subst k2
      exact Do_2ok h hm hn h8 hl hc hw h1 i hi a z
    by_cases k3 : k = 3
    · subst k3
      exact Do_3ok h hm hn h8 hl hc hw h1 i hi a z
    by_cases k5 : k = 5
    · subst k5
      exact Do_5ok h hm hn h8 hl hc hw h1 i hi a z
    exact Do_ld h hm hn h8 hl hc hw h1 k _ a z k0 k2 k3 k4 k5
  · by_cases k2 : k = 2
    · subst k2
      exact Do_2no h hm hn h8 hl hc hw h1 core a z hin
    by_cases k3 : k = 3
    · subst k3
      exact Do_3no h hm hn h8 hl hc hw h1 core a z hin
    by_cases k5 : k = 5
    · subst k5
      exact Do_5no h hm hn h8 hl hc hw h1 core a z hin
    exact Do_ld h hm hn h8 hl hc hw h1 k core a z k0 k2 k3 k4 k5
end
end Go.Proofs.Ytlefefcakffepaa.Br
