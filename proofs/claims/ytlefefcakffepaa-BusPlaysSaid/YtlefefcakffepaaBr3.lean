/- The reference of the bus: Drain, Fence. -/
import Derived.Test.YtlefefcakffepaaBr2
namespace Go.Proofs.Ytlefefcakffepaa.Br
set_option linter.unusedVariables false
set_option linter.unusedSimpArgs false
open Go.RowKit Go.Proofs.Ytlefefcakffepaa.Lat Go.Proofs.Ytlefefcakffepaa.Sep Go.Proofs.Ytlefefcakffepaa.Sram Go.Proofs.Ytlefefcakffepaa.Find Go.Proofs.Ytlefefcakffepaa.Sbuf Go.Proofs.Ytlefefcakffepaa.Ref05 Go.Proofs.Ytlefefcakffepaa.Bus Go.Proofs.Ytlefefcakffepaa.PBusPlays Go.Proofs.YtlefefcakffepaaW.PrintWords
section
variable {P0 : Nat → Prop} {w0 w w' : World} {F M : List Rg} {ws : List Int} {Ls : List (List W16)} {L : List W16} {cap : Nat}
/-- A buffer of the bus, read. -/
theorem buf_at {A : Option Addr} {n c i : Nat} (h : St P0 w0 w (alls M :: F)) (hV : bufsR cap (.slice A n c) Ls ∈ M) (hn : n = Ls.length) (hi : i < n) :
    ∃ g o B cB, A = some ⟨g, o, none⟩ ∧ w.cell? ⟨g, o + i * 2, none⟩ = some (.int .i64 (cap : Int)) ∧ w.cell? ⟨g, o + i * 2 + 1, none⟩ = some (.slice B (Ls.getD i default).length cB) ∧ St P0 w0 w (alls (rl (.slice B (Ls.getD i default).length cB) (Ls.getD i default) :: M) :: F) := by
  subst hn
  obtain ⟨g, o, c', b, e, hc, h1⟩ := rrow_at h hV (rcf_len cap) i hi
  cases e
  exact ⟨g, o, b.1, b.2, rfl, hc 0 (by omega) _ rfl, hc 1 (by omega) _ rfl, h1⟩
def DrP (P0 : Nat → Prop) (w0 : World) (F : List Rg) (cap : Nat) (ws' : List Int) (Ls' : List (List W16)) (m n : Nat) (v : Value) (E : Option Addr → Nat → Option Addr → Nat → Prop) (x : Ending) (w' : World) : Prop := ∃ Ar cr Ab cb, x = .returned (.tuple #[.agg #[.slice Ar m cr, .slice Ab n cb], v]) ∧ St P0 w0 w' (rbus (.slice Ar m cr) (.slice Ab n cb) cap ws' Ls' :: F) ∧ E Ar cr Ab cb
set_option maxHeartbeats 8000000 in
set_option maxRecDepth 100000 in
theorem Drain_b {Ar Ab : Option Addr} {m cr n cb i : Nat} (h : St P0 w0 w (rbus (.slice Ar m cr) (.slice Ab n cb) cap ws Ls :: F)) (hm : m = ws.length) (hn : n = Ls.length) (hi : i < n) (h8 : n ≤ 8) (hl : (Ls.getD i default).length ≤ 16) (hw : ws.length ≤ 65536) :
    Calls Try.prog 46 #[.agg #[.slice Ar m cr, .slice Ab n cb], .int .i64 (i : Int)] w fun x w' => DrP P0 w0 F cap (drM ws (Ls.getD i default)).1 (Ls.set i (drM ws (Ls.getD i default)).2) m n (.bool (decide (0 < (Ls.getD i default).length))) (fun a1 a2 a3 a4 => Ls.getD i default = [] → a1 = Ar ∧ a2 = cr ∧ a3 = Ab ∧ a4 = cb) x w' := by
  obtain ⟨g, o, B, cB, rfl, k0, k1, h1⟩ := buf_at (i := i) h (.tail _ (.head _)) hn hi
  have hset : ∀ L', L' = Ls.getD i default → Ls.set i L' = Ls := fun L' e => by
    rw [e]
    refine List.ext_getElem (by simp) fun j h1 h2 => ?_
    rw [List.getElem_set]
    split
    · rename_i e
      subst e
      simp [List.getD_eq_getElem?_getD, List.getElem?_eq_getElem h2]
    · rfl
  have h2 := (h1.alloc #[.slice Ar m cr, .slice (some ⟨g, o, none⟩) n cb] 45).alloc #[.slice none 0 0, .slice none 0 0] 45
  rw [World.size_alloc] at h2
  have hup := ((Up.refl w).alloc (.cells #[.slice Ar m cr, .slice (some ⟨g, o, none⟩) n cb] 45)).alloc (.cells #[.slice none 0 0, .slice none 0 0] 45)
  have k0' := cell_below hup k0
  have k1' := cell_below hup k1
  have HD := Lib.hid (Drain_x (h2.get 2) (.head _) cap (by omega))
  have HSET := Lib.hid hset
  have hi2 : (i : Int) < (n : Int) := by omega
  have HN := Lib.hid hn
  have HM := Lib.hid hm
  have HW := Lib.hid hw
  have HLM := Lib.hid (fun (x : W16) => stW_len ws (x.a : Int) (x.v : Int))
  generalize Ls.getD i default = L at *
  clear h h1 h2 hup k0 k1 hset hn hm hw
  obtain ⟨nl, hnl⟩ : ∃ k, L.length = k := ⟨_, rfl⟩
  rw [hnl] at HD k1'
  have HNL := Lib.hid hnl
  clear hnl
  cases L with
  | nil =>
    have e0 : nl = 0 := HNL.out.symm
    subst e0
    have ed : decide (0 < ([] : List W16).length) = false := rfl
    rw [ed]
    show Calls _ _ _ _ fun x w' => DrP P0 w0 F cap ws (Ls.set i []) m n _ _ x w'
    rw [HSET.out [] rfl]
    have edt : drainT [] = .agg #[.int .i64 0, .int .i64 0] := rfl
    have ed0 : decide (0 < 0) = false := rfl
    rw [edt, ed0] at HD
    clear ed edt ed0
    go_enter Try.func46, Try.ntmps46
    go_wp2_with fail
    refine HD.out.mono ?_
    rintro x w3 ⟨V', rfl, h3⟩
    obtain ⟨Av, cv, e3, -, -, -, -⟩ := rl_form (h3.ro_get (.head _))
    cases e3
    have h4 := (h3.alloc #[.int .i64 (cap : Int), .slice Av 0 cv] 90).alloc #[.int .i64 0, .int .i64 0] 55
    rw [World.size_alloc] at h4
    have b0 : ((w3.alloc (.cells #[.int .i64 (cap : Int), .slice Av 0 cv] 90)).alloc (.cells #[.int .i64 0, .int .i64 0] 55)).cell? ⟨w.heap.size, 0, none⟩ = some (.slice Ar m cr) := cell_of_block (h4.get 4).bk_at 0
    have b1 : ((w3.alloc (.cells #[.int .i64 (cap : Int), .slice Av 0 cv] 90)).alloc (.cells #[.int .i64 0, .int .i64 0] 55)).cell? ⟨w.heap.size, 1, none⟩ = some (.slice (some ⟨g, o, none⟩) n cb) := cell_of_block (h4.get 4).bk_at 1
    have r0 : ((w3.alloc (.cells #[.int .i64 (cap : Int), .slice Av 0 cv] 90)).alloc (.cells #[.int .i64 0, .int .i64 0] 55)).cell? ⟨(w.heap.size + 1), 0, none⟩ = some (.slice none 0 0) := cell_of_block (h4.get 3).bk_at 0
    have r1 : ((w3.alloc (.cells #[.int .i64 (cap : Int), .slice Av 0 cv] 90)).alloc (.cells #[.int .i64 0, .int .i64 0] 55)).cell? ⟨(w.heap.size + 1), 1, none⟩ = some (.slice none 0 0) := cell_of_block (h4.get 3).bk_at 1
    have fr0 : ((w3.alloc (.cells #[.int .i64 (cap : Int), .slice Av 0 cv] 90)).alloc (.cells #[.int .i64 0, .int .i64 0] 55)).frozen? ⟨(w.heap.size + 1), 0, none⟩ = false := free_of_block (h4.get 3).bk_at 0
    have fr1 : ((w3.alloc (.cells #[.int .i64 (cap : Int), .slice Av 0 cv] 90)).alloc (.cells #[.int .i64 0, .int .i64 0] 55)).frozen? ⟨(w.heap.size + 1), 1, none⟩ = false := free_of_block (h4.get 3).bk_at 1
    have HS := Lib.hid (h4.get 3)
    clear h3 h4 HD k0' k1'
    go_wp2_with fail
    (try simp only [Exit.inBlock, Exit.then])
    refine bodyPost_ret (v := .tuple #[.agg #[.slice Ar m cr, .slice (some ⟨g, o, none⟩) n cb], .bool false]) ?_ rfl ?_
    · rw [results_cell_tmp (fn := Try.f46) rfl]
      go_simp
    · unfold DrP
      exact ⟨_, _, _, _, rfl, (((((HS.out.set 0 (.slice Ar m cr)).set 1 (.slice (some ⟨g, o, none⟩) n cb)).drop).cut 0).cut 0 |>.cut 1).ro_sub fun B hB => .tail _ (.tail _ hB), fun _ => ⟨rfl, rfl, rfl, rfl⟩⟩
  | cons x L =>
    have ed : decide (0 < (x :: L).length) = true := by simp
    rw [ed]
    show Calls _ _ _ _ fun y w' => DrP P0 w0 F cap (stW ws x.a x.v) (Ls.set i L) m n _ _ y w'
    have edt : drainT (x :: L) = .agg #[.int .i64 (x.a : Int), .int .i64 (x.v : Int)] := rfl
    have etl : (x :: L).tail = L := rfl
    have hdl : decide (0 < nl) = true := by rw [← HNL.out]; exact ed
    rw [edt, hdl, etl] at HD
    clear ed edt etl hdl
    obtain ⟨nx, hnx⟩ : ∃ k, L.length = k := ⟨_, rfl⟩
    have HNX := Lib.hid hnx
    clear hnx
    go_enter Try.func46, Try.ntmps46
    go_wp2_with fail
    refine HD.out.mono ?_
    rintro x w3 ⟨V', rfl, h3⟩
    obtain ⟨Av, cv, e3, -, -, -, -⟩ := rl_form (h3.ro_get (.head _))
    subst e3
    have h4 := (h3.alloc #[.int .i64 (cap : Int), .slice Av L.length cv] 90).alloc #[.int .i64 (x.a : Int), .int .i64 (x.v : Int)] 55
    rw [World.size_alloc] at h4
    have HWT := Lib.hid (with_x (A := some ⟨g, o, none⟩) (Ar := Ar) (cr := cr) (m := m) (cap := cap) (L := L) (h4.get 2) (.tail _ (.tail _ (.tail _ (.head _)))) HN.out (.head _) hi h8)
    rw [HNX.out] at h4 HWT
    have b0 : ((w3.alloc (.cells #[.int .i64 (cap : Int), .slice Av nx cv] 90)).alloc (.cells #[.int .i64 (x.a : Int), .int .i64 (x.v : Int)] 55)).cell? ⟨w.heap.size, 0, none⟩ = some (.slice Ar m cr) := cell_of_block (h4.get 4).bk_at 0
    have b1 : ((w3.alloc (.cells #[.int .i64 (cap : Int), .slice Av nx cv] 90)).alloc (.cells #[.int .i64 (x.a : Int), .int .i64 (x.v : Int)] 55)).cell? ⟨w.heap.size, 1, none⟩ = some (.slice (some ⟨g, o, none⟩) n cb) := cell_of_block (h4.get 4).bk_at 1
    have fb0 : ((w3.alloc (.cells #[.int .i64 (cap : Int), .slice Av nx cv] 90)).alloc (.cells #[.int .i64 (x.a : Int), .int .i64 (x.v : Int)] 55)).frozen? ⟨w.heap.size, 0, none⟩ = false := free_of_block (h4.get 4).bk_at 0
    have fb1 : ((w3.alloc (.cells #[.int .i64 (cap : Int), .slice Av nx cv] 90)).alloc (.cells #[.int .i64 (x.a : Int), .int .i64 (x.v : Int)] 55)).frozen? ⟨w.heap.size, 1, none⟩ = false := free_of_block (h4.get 4).bk_at 1
    have x0 : ((w3.alloc (.cells #[.int .i64 (cap : Int), .slice Av nx cv] 90)).alloc (.cells #[.int .i64 (x.a : Int), .int .i64 (x.v : Int)] 55)).cell? ⟨w3.heap.size, 0, none⟩ = some (.int .i64 (cap : Int)) := cell_of_block (h4.get 1).bk_at 0
    have x1 : ((w3.alloc (.cells #[.int .i64 (cap : Int), .slice Av nx cv] 90)).alloc (.cells #[.int .i64 (x.a : Int), .int .i64 (x.v : Int)] 55)).cell? ⟨w3.heap.size, 1, none⟩ = some (.slice Av nx cv) := cell_of_block (h4.get 1).bk_at 1
    clear h3 HD k0' k1' h4
    rw [HNX.out]
    go_wp2_with fail
    refine HWT.out.mono ?_
    rintro y w5 ⟨A5, c5, rfl, h5⟩
    have b0 : w5.cell? ⟨w.heap.size, 0, none⟩ = some (.slice Ar m cr) := cell_of_block (h5.get 4).bk_at 0
    have b1 : w5.cell? ⟨w.heap.size, 1, none⟩ = some (.slice (some ⟨g, o, none⟩) n cb) := cell_of_block (h5.get 4).bk_at 1
    have fb0 : w5.frozen? ⟨w.heap.size, 0, none⟩ = false := free_of_block (h5.get 4).bk_at 0
    have fb1 : w5.frozen? ⟨w.heap.size, 1, none⟩ = false := free_of_block (h5.get 4).bk_at 1
    have h6 := ((h5.get 4).set 0 (.slice Ar m cr)).set 1 (.slice A5 n c5)
    have d0 : ((w5.setCell ⟨w.heap.size, 0, none⟩ (.slice Ar m cr)).setCell ⟨w.heap.size, 1, none⟩ (.slice A5 n c5)).cell? ⟨w.heap.size, 0, none⟩ = some (.slice Ar m cr) := cell_of_block (h6).bk_at 0
    have d1 : ((w5.setCell ⟨w.heap.size, 0, none⟩ (.slice Ar m cr)).setCell ⟨w.heap.size, 1, none⟩ (.slice A5 n c5)).cell? ⟨w.heap.size, 1, none⟩ = some (.slice A5 n c5) := cell_of_block (h6).bk_at 1
    have fd0 : ((w5.setCell ⟨w.heap.size, 0, none⟩ (.slice Ar m cr)).setCell ⟨w.heap.size, 1, none⟩ (.slice A5 n c5)).frozen? ⟨w.heap.size, 0, none⟩ = false := free_of_block (h6).bk_at 0
    have fd1 : ((w5.setCell ⟨w.heap.size, 0, none⟩ (.slice Ar m cr)).setCell ⟨w.heap.size, 1, none⟩ (.slice A5 n c5)).frozen? ⟨w.heap.size, 1, none⟩ = false := free_of_block (h6).bk_at 1
    have s0 : ((w5.setCell ⟨w.heap.size, 0, none⟩ (.slice Ar m cr)).setCell ⟨w.heap.size, 1, none⟩ (.slice A5 n c5)).cell? ⟨(w3.heap.size + 1), 0, none⟩ = some (.int .i64 (x.a : Int)) := cell_of_block (h6.get 2).bk_at 0
    have s1 : ((w5.setCell ⟨w.heap.size, 0, none⟩ (.slice Ar m cr)).setCell ⟨w.heap.size, 1, none⟩ (.slice A5 n c5)).cell? ⟨(w3.heap.size + 1), 1, none⟩ = some (.int .i64 (x.v : Int)) := cell_of_block (h6.get 2).bk_at 1
    have HRS := Lib.hid (RStore_x (ws := ws) (vr := .slice Ar m cr) (h6.get 1) (.tail _ (.tail _ (.tail _ (.head _)))) (x.a : Int) (x.v : Int) HW.out)
    generalize (fillI ws (x.a : Int) 1 (x.v : Int)).2 = fe at *
    clear h5 h6 HWT
    go_wp2_with fail
    refine HRS.out.mono ?_
    rintro y w6 ⟨vr', rfl, h7⟩
    obtain ⟨A6, c6, e6, -⟩ := lat_form h7 (.head _)
    rw [HLM.out, ← HM.out] at e6
    subst e6
    have h8' := (h7.get 1).set 0 (.slice A6 m c6)
    have hb8 : w6.cell? ⟨w.heap.size, 0, none⟩ = some (.slice Ar m cr) := cell_of_block (h7.get 1).bk_at 0
    have hf8 : w6.frozen? ⟨w.heap.size, 0, none⟩ = false := free_of_block (h7.get 1).bk_at 0
    have e0 : ((w6.setCell ⟨w.heap.size, 0, none⟩ (.slice A6 m c6))).cell? ⟨w.heap.size, 0, none⟩ = some (.slice A6 m c6) := cell_of_block (h8').bk_at 0
    have e1 : ((w6.setCell ⟨w.heap.size, 0, none⟩ (.slice A6 m c6))).cell? ⟨w.heap.size, 1, none⟩ = some (.slice A5 n c5) := cell_of_block (h8').bk_at 1
    have r0 : ((w6.setCell ⟨w.heap.size, 0, none⟩ (.slice A6 m c6))).cell? ⟨(w.heap.size + 1), 0, none⟩ = some (.slice none 0 0) := cell_of_block (h8'.get 4).bk_at 0
    have r1 : ((w6.setCell ⟨w.heap.size, 0, none⟩ (.slice A6 m c6))).cell? ⟨(w.heap.size + 1), 1, none⟩ = some (.slice none 0 0) := cell_of_block (h8'.get 4).bk_at 1
    have fr0 : ((w6.setCell ⟨w.heap.size, 0, none⟩ (.slice A6 m c6))).frozen? ⟨(w.heap.size + 1), 0, none⟩ = false := free_of_block (h8'.get 4).bk_at 0
    have fr1 : ((w6.setCell ⟨w.heap.size, 0, none⟩ (.slice A6 m c6))).frozen? ⟨(w.heap.size + 1), 1, none⟩ = false := free_of_block (h8'.get 4).bk_at 1
    have HS := Lib.hid (h8'.get 4)
    clear h7 h8' HRS
    go_wp2_with fail
    (try simp only [Exit.inBlock, Exit.then])
    refine bodyPost_ret (v := .tuple #[.agg #[.slice A6 m c6, .slice A5 n c5], .bool true]) ?_ rfl ?_
    · rw [results_cell_tmp (fn := Try.f46) rfl]
      go_simp
    · unfold DrP
      refine ⟨_, _, _, _, rfl, ((((HS.out.set 0 (.slice A6 m c6)).set 1 (.slice A5 n c5)).drop).cut 0 |>.cut 1 |>.cut 1).ro_sub fun B hB => ?_, fun e => by cases e⟩
      · rcases List.mem_cons.1 hB with rfl | hB
        · exact .head _
        · obtain rfl := List.mem_singleton.1 hB
          exact .tail _ (.head _)
set_option maxHeartbeats 8000000 in
set_option maxRecDepth 100000 in
theorem Fence_b {Ar Ab : Option Addr} {m cr n cb i : Nat} (h : St P0 w0 w (rbus (.slice Ar m cr) (.slice Ab n cb) cap ws Ls :: F)) (hm : m = ws.length) (hn : n = Ls.length) (hi : i < n) (h8 : n ≤ 8) (hl : (Ls.getD i default).length ≤ 16) (hw : ws.length ≤ 65536) :
    Calls Try.prog 47 #[.agg #[.slice Ar m cr, .slice Ab n cb], .int .i64 (i : Int)] w fun x w' => DrP P0 w0 F cap (feM ws (Ls.getD i default)) (Ls.set i []) m n (.int .i64 ((Ls.getD i default).length : Int)) (fun _ _ _ _ => True) x w' := by
  have hset : Ls.set i (Ls.getD i default) = Ls := by
    refine List.ext_getElem (by simp) fun j h1 h2 => ?_
    rw [List.getElem_set]
    split
    · rename_i e
      subst e
      simp [List.getD_eq_getElem?_getD, List.getElem?_eq_getElem h2]
    · rfl
  have h2 := ((h.alloc #[.slice Ar m cr, .slice Ab n cb] 45).alloc #[.slice none 0 0, .slice none 0 0] 45).get 1
  rw [World.size_alloc] at h2
  rw [← hset] at h2
  have HS0 := Lib.hid h2
  have HD := Lib.hid (fun (wx : World) (F' : List Rg) (A B : Option Addr) (c d : Nat) (wk : List Int) (Lk : List W16) (h : St P0 w0 wx (rbus (.slice A m c) (.slice B n d) cap wk (Ls.set i Lk) :: F')) (hwk : wk.length = ws.length) (hlk : Lk.length ≤ 16) => (show Calls Try.prog 46 #[.agg #[.slice A m c, .slice B n d], .int .i64 (i : Int)] wx fun x w' => DrP P0 w0 F' cap (drM wk Lk).1 (Ls.set i (drM wk Lk).2) m n (.bool (decide (0 < Lk.length))) (fun a1 a2 a3 a4 => Lk = [] → a1 = A ∧ a2 = c ∧ a3 = B ∧ a4 = d) x w' from by
    have e1 : (Ls.set i Lk).getD i default = Lk := by simp [List.getD_eq_getElem?_getD, List.getElem?_set_self (show i < Ls.length by omega)]
    have h9 := Drain_b (i := i) h (by omega) (by rw [List.length_set]; exact hn) hi h8 (by rw [e1]; exact hlk) (by omega)
    rw [e1, List.set_set] at h9
    exact h9))
  generalize Ls.getD i default = L at *
  have HM := Lib.hid hm
  clear h h2 hset hn hm hw
  obtain ⟨nl, hnl⟩ : ∃ k, L.length = k := ⟨_, rfl⟩
  have HNL := Lib.hid hnl
  have hl16 : nl ≤ 16 := by omega
  rw [hnl]
  clear hnl hl
  go_enter Try.func47, Try.ntmps47
  go_wp2_with fail
  go_loopg [6] nl (fun gk v6 wx => ∃ (k : Nat) (Lk : List W16) (wk : List Int) (A B : Option Addr) (c d : Nat), k ≤ nl ∧ Hid (k + gk = nl ∧ Lk.length = gk ∧ feM wk Lk = feM ws L ∧ wk.length = ws.length) ∧ v6 = .int .i64 k ∧ Hid (St P0 w0 wx (bk w.heap.size 45 #[.slice A m c, .slice B n d] :: bk (w.heap.size + 1) 45 #[.slice none 0 0, .slice none 0 0] :: rbus (.slice A m c) (.slice B n d) cap wk (Ls.set i Lk) :: F)))
  case atStart => exact ⟨0, L, ws, Ar, Ab, cr, cb, Nat.zero_le _, Lib.hid ⟨Nat.zero_add _, HNL.out, rfl, rfl⟩, rfl, HS0⟩
  case round =>
    clear HS0
    obtain ⟨k, Lk, wk, A, B, c, d, hk, HG, rfl, HS⟩ := hrel
    have HD1 := Lib.hid (HD.out wr _ A B c d wk Lk (HS.out.get 2) HG.out.2.2.2 (by have := HG.out.1; have := HG.out.2.1; omega))
    have b0 : wr.cell? ⟨w.heap.size, 0, none⟩ = some (.slice A m c) := cell_of_block (HS.out).bk_at 0
    have b1 : wr.cell? ⟨w.heap.size, 1, none⟩ = some (.slice B n d) := cell_of_block (HS.out).bk_at 1
    cases Lk with
    | nil =>
      have ed : decide (0 < ([] : List W16).length) = false := rfl
      rw [ed] at HD1
      have hk2 : k = nl := by have := HG.out.1; have := HG.out.2.1; simp at this; omega
      subst hk2
      go_wp2_with fail
      refine HD1.out.mono ?_
      intro x w3 hd
      unfold DrP at hd
      obtain ⟨A2, c2, B2, d2, rfl, h3, he⟩ := hd
      obtain ⟨ea, ec, eb, ed2⟩ := he (by first | trivial | rfl)
      subst ea ec eb ed2
      have h4 := h3.alloc #[.slice A2 m c2, .slice B2 n d2] 45
      have b0 : (w3.alloc (.cells #[.slice A2 m c2, .slice B2 n d2] 45)).cell? ⟨w.heap.size, 0, none⟩ = some (.slice A2 m c2) := cell_of_block (h4.get 2).bk_at 0
      have b1 : (w3.alloc (.cells #[.slice A2 m c2, .slice B2 n d2] 45)).cell? ⟨w.heap.size, 1, none⟩ = some (.slice B2 n d2) := cell_of_block (h4.get 2).bk_at 1
      have r0 : (w3.alloc (.cells #[.slice A2 m c2, .slice B2 n d2] 45)).cell? ⟨(w.heap.size + 1), 0, none⟩ = some (.slice none 0 0) := cell_of_block (h4.get 3).bk_at 0
      have r1 : (w3.alloc (.cells #[.slice A2 m c2, .slice B2 n d2] 45)).cell? ⟨(w.heap.size + 1), 1, none⟩ = some (.slice none 0 0) := cell_of_block (h4.get 3).bk_at 1
      have fr0 : (w3.alloc (.cells #[.slice A2 m c2, .slice B2 n d2] 45)).frozen? ⟨(w.heap.size + 1), 0, none⟩ = false := free_of_block (h4.get 3).bk_at 0
      have fr1 : (w3.alloc (.cells #[.slice A2 m c2, .slice B2 n d2] 45)).frozen? ⟨(w.heap.size + 1), 1, none⟩ = false := free_of_block (h4.get 3).bk_at 1
      have HS4 := Lib.hid (h4.get 3)
      have HE := Lib.hid (HG.out.2.2.1)
      clear h3 h4 HD1 HG
      go_wp2_with fail
      (try simp only [Exit.inBlock, Exit.then])
      refine bodyPost_ret (v := .tuple #[.agg #[.slice A2 m c2, .slice B2 n d2], .int .i64 (k : Int)]) ?_ rfl ?_
      · rw [results_cell_tmp (fn := Try.f47) rfl]
        go_simp
      · unfold DrP
        have h5 := (((HS4.out.set 0 (.slice A2 m c2)).set 1 (.slice B2 n d2)).drop).cut 0 |>.cut 1
        rw [← show wk = feM ws L from HE.out]
        exact ⟨_, _, _, _, rfl, h5, trivial⟩
    | cons x Lk =>
      have ed : decide (0 < (x :: Lk).length) = true := by simp
      rw [ed] at HD1
      go_wp2_with fail
      refine HD1.out.mono ?_
      intro y w3 hd
      unfold DrP at hd
      obtain ⟨A2, c2, B2, d2, rfl, h3, -⟩ := hd
      have h4 := h3.alloc #[.slice A2 m c2, .slice B2 n d2] 45
      have h5 := (h4.get 2).set 0 (.slice A2 m c2) |>.set 1 (.slice B2 n d2)
      have b0 : (w3.alloc (.cells #[.slice A2 m c2, .slice B2 n d2] 45)).cell? ⟨w.heap.size, 0, none⟩ = some (.slice A m c) := cell_of_block (h4.get 2).bk_at 0
      have b1 : (w3.alloc (.cells #[.slice A2 m c2, .slice B2 n d2] 45)).cell? ⟨w.heap.size, 1, none⟩ = some (.slice B n d) := cell_of_block (h4.get 2).bk_at 1
      have fb0 : (w3.alloc (.cells #[.slice A2 m c2, .slice B2 n d2] 45)).frozen? ⟨w.heap.size, 0, none⟩ = false := free_of_block (h4.get 2).bk_at 0
      have fb1 : (w3.alloc (.cells #[.slice A2 m c2, .slice B2 n d2] 45)).frozen? ⟨w.heap.size, 1, none⟩ = false := free_of_block (h4.get 2).bk_at 1
      have n0 : (w3.alloc (.cells #[.slice A2 m c2, .slice B2 n d2] 45)).cell? ⟨w3.heap.size, 0, none⟩ = some (.slice A2 m c2) := cell_of_block (h4).bk_at 0
      have n1 : (w3.alloc (.cells #[.slice A2 m c2, .slice B2 n d2] 45)).cell? ⟨w3.heap.size, 1, none⟩ = some (.slice B2 n d2) := cell_of_block (h4).bk_at 1
      have HS5 := Lib.hid h5
      have HG2 := Lib.hid (show k + 1 + (gk - 1) = nl ∧ Lk.length = gk - 1 ∧ feM (stW wk x.a x.v) Lk = feM ws L ∧ (stW wk x.a x.v).length = ws.length from ⟨by have := HG.out.1; have := HG.out.2.1; simp only [List.length_cons] at this; omega, by have := HG.out.2.1; simp only [List.length_cons] at this; omega, HG.out.2.2.1, by rw [stW_len]; exact HG.out.2.2.2⟩)
      have HK := Lib.hid (show k + 1 ≤ nl ∧ gk - 1 < gk from ⟨by have := HG2.out.1; omega, by have := HG.out.2.1; simp only [List.length_cons] at this; omega⟩)
      clear h3 h4 h5 HD1 HG
      go_wp2_with fail
      go_roundg (gk - 1)
      case measure => exact HK.out.2
      case rel => exact ⟨k + 1, Lk, stW wk x.a x.v, A2, B2, c2, d2, HK.out.1, HG2, by go_num, Lib.hid (((HS5.out.cut 1).get 2).get 1)⟩
end
end Go.Proofs.Ytlefefcakffepaa.Br
