/- bus.Same, on buses that have the same. -/
import Derived.Test.YtlefefcakffepaaBusClone
import Derived.Test.YtlefefcakffepaaCellSame
import Derived.Test.YtlefefcakffepaaMA
namespace Go.Proofs.Ytlefefcakffepaa.Bus
set_option linter.unusedVariables false
set_option linter.unusedSimpArgs false
open Go.RowKit Go.Proofs.Ytlefefcakffepaa.Sep Go.Proofs.Ytlefefcakffepaa.Sram Go.Proofs.Ytlefefcakffepaa.Find Go.Proofs.Ytlefefcakffepaa.Sbuf

theorem cw_self (L : List W16) : ∀ u ∈ L.map cw, Equal.Self u := by
  intro u hu
  obtain ⟨x, _, rfl⟩ := List.mem_map.1 hu
  exact ⟨_, _, rfl, CellP.eqself x.a x.ha, CellP.eqself x.v x.hv⟩
section
variable {P0 : Nat → Prop} {w0 w w' : World} {F : List Rg} {a b cap : Nat} {ws : List Int} {Ls : List (List W16)}
theorem cSame_u {u v : Value} {cs : List Value} {e f n : Nat} (h : St P0 w0 w (slc e 1 u n cs :: slc f 1 v n cs :: F)) (hs : ∀ u ∈ cs, Equal.Self u) (hl : n ≤ 1000000) :
    Calls Try.prog 59 #[u, v] w fun e' w' => e' = .returned (.bool true) ∧ Up w w' := by
  obtain ⟨P, ⟨Q, Q2, _, _, _, h1, R3, R2, _, _, _, h2, _⟩, _⟩ := St.step (L := [slc e 1 u n cs, slc f 1 v n cs]) h
  obtain ⟨A, c, rfl, _⟩ := slc_form h1
  obtain ⟨B, d, rfl, _⟩ := slc_form h2
  have hn : cs.length = n := by simpa using (slc_one h1).1
  have h3 := CellSame.cSame_walk cs A B c d w (CellSame.slc_cat h1) (CellSame.slc_cat h2) hs (by omega)
  rw [hn] at h3
  exact h3
theorem ramSame_u {r q : Nat} (h : St P0 w0 w (ram r ws :: ram q ws :: F)) : Calls Try.prog 55 #[.pointer (some ⟨r, 0, none⟩), .pointer (some ⟨q, 0, none⟩)] w fun e w' => e = .returned (.bool true) ∧ Up w w' := by
  obtain ⟨R, h1, -⟩ := ram_step h
  obtain ⟨R', h2, -⟩ := ram_step (h.get 1)
  refine (Sram.Same_walk2 r q R R' ws ws w h1 h2).mono ?_
  rintro e w' ⟨rfl, hd⟩
  exact ⟨by simp, hd.up⟩
theorem buf_le' {x : Nat} {L : List W16} (h : St P0 w0 w (buf x cap L :: F)) : L.length ≤ 16 := by
  obtain ⟨V, hm, h1⟩ := buf_open h
  omega
set_option maxHeartbeats 1000000 in
theorem same1_u {x y : Nat} {L : List W16} (h : St P0 w0 w (buf x cap L :: buf y cap L :: F)) : Calls Try.prog 57 #[.pointer (some ⟨x, 0, none⟩), .pointer (some ⟨y, 0, none⟩)] w fun e w' => e = .returned (.bool true) ∧ Up w w' := by
  have h16 := buf_le' h
  have HX := Lib.hid (Cap_q (P := No) w h)
  have HY := Lib.hid (Cap_q (P := No) w (h.get 1))
  have HA := Lib.hid (All_walk h)
  have HS := Lib.hid h
  clear h
  go_enter Try.func57, Try.ntmps57
  go_wp2_with (first
    | (go_at_call 58; (with_reducible refine HX.out.mono ?_); rintro e w' ⟨rfl, rfl⟩)
    | (go_at_call 58; (with_reducible refine HY.out.mono ?_); rintro e w' ⟨rfl, rfl⟩)
    | fail)
  refine HA.out.mono ?_
  rintro e w2 ⟨A1, c1, rfl, hs, hu⟩
  have HB := Lib.hid (All_walk (hs.get 2))
  have HU1 := Lib.hid hu
  clear hs hu HX HY HA HS
  go_wp2_with fail
  refine HB.out.mono ?_
  rintro e w3 ⟨A2, c2, rfl, hs, hu⟩
  have HE := Lib.hid (cSame_u ((hs.get 2)) (cw_self L) (by omega))
  have HU2 := Lib.hid (Up.trans HU1.out hu)
  clear hs hu HB HU1
  go_wp2_with fail
  refine HE.out.mono ?_
  rintro e w4 ⟨rfl, hu⟩
  have HU3 := Lib.hid (Up.trans HU2.out hu)
  clear hu HE HU2
  go_wp2
  go_ret
  exact ⟨rfl, HU3.out⟩
set_option maxHeartbeats 4000000 in
set_option maxRecDepth 100000 in
theorem equal_u {g o c g' o' c' n : Nat} (hn : Ls.length = n) (h8 : n ≤ 8) (h : St P0 w0 w (bufs cap (.slice (some ⟨g, o, none⟩) n c) Ls :: bufs cap (.slice (some ⟨g', o', none⟩) n c') Ls :: F)) :
    Calls Try.prog 56 #[.slice (some ⟨g, o, none⟩) n c, .slice (some ⟨g', o', none⟩) n c', .func (.func 57) #[] #[]] w fun e w' => e = .returned (.bool true) ∧ Up w w' := by
  have HS := Lib.hid h
  have HN := Lib.hid hn
  clear h hn
  go_enter Try.func56, Try.ntmps56
  go_wp2_with fail
  go_loopw [17] (fun v17 wx => ∃ i : Nat, i ≤ n ∧ v17 = .int .i64 i ∧ Hid (Up w wx)) (fun v17 _ => n - (intOf v17).toNat)
  case atStart => exact ⟨0, Nat.zero_le _, rfl, Lib.hid (Up.refl _)⟩
  case round =>
    obtain ⟨i, hi, rfl, HU⟩ := hrel
    by_cases hlt : i < n
    · have hs := HS.out.more HU.out
      obtain ⟨g1, o1, k1, x, e1, hx, _, h1⟩ := row_open hs pcf_len i (by rw [HN.out]; exact hlt)
      obtain ⟨g2, o2, k2, y, e2, hy, _, h2⟩ := row_open (h1.get 2) pcf_len i (by rw [HN.out]; exact hlt)
      obtain ⟨a1, -, a3⟩ := Value.slice.inj e1
      obtain ⟨rfl, rfl, -⟩ := Addr.mk.inj (Option.some.inj a1)
      obtain ⟨b1, -, b3⟩ := Value.slice.inj e2
      obtain ⟨rfl, rfl, -⟩ := Addr.mk.inj (Option.some.inj b1)
      have hx := hx 0 (by omega) _ rfl
      have hy := hy 0 (by omega) _ rfl
      rw [Nat.mul_one, Nat.add_zero] at hx hy
      have HC := Lib.hid (same1_u (F := _) ((h2.get 2 : St P0 w0 wr (buf x cap (Ls.getD i default) :: buf y cap (Ls.getD i default) :: _))))
      clear hs h1 h2 e1 e2 a1 a3 b1 b3
      go_wp2_with fail
      refine HC.out.mono ?_
      rintro e w2 ⟨rfl, hu⟩
      have HU2 := Lib.hid (Up.trans HU.out hu)
      clear hu HC HU hx hy
      go_wp2
      go_roundw
      case rel => exact ⟨i + 1, by omega, by go_num, HU2⟩
      case measure => simp [intOf]; omega
    · obtain rfl : i = n := by omega
      go_wp2
      go_ret
      exact ⟨rfl, HU.out⟩
set_option maxHeartbeats 4000000 in
theorem Same_st (h : St P0 w0 w (bus a cap ws Ls :: bus b cap ws Ls :: F)) : Calls Try.prog 27 #[.pointer (some ⟨a, 0, none⟩), .pointer (some ⟨b, 0, none⟩)] w fun e w' => e = .returned (.bool true) ∧ St P0 w0 w' (bus a cap ws Ls :: bus b cap ws Ls :: F) := by
  have HALL := Lib.hid h
  obtain ⟨r, g, o, c, hm, h1⟩ := bus_form h
  obtain ⟨q, g', o', c', -, h2⟩ := bus_form (h1.get 3)
  have h3 : St P0 w0 w (hb b q (.slice (some ⟨g', o', none⟩) Ls.length c') :: ram q ws :: bufs cap (.slice (some ⟨g', o', none⟩) Ls.length c') Ls :: hb a r (.slice (some ⟨g, o, none⟩) Ls.length c) :: ram r ws :: bufs cap (.slice (some ⟨g, o, none⟩) Ls.length c) Ls :: F) := h2
  have a0 : w.cell? ⟨a, 0, none⟩ = some (.pointer (some ⟨r, 0, none⟩)) := cell_of_block (h3.get 3).bk_at 0
  have a1 : w.cell? ⟨a, 1, none⟩ = some (.slice (some ⟨g, o, none⟩) Ls.length c) := cell_of_block (h3.get 3).bk_at 1
  have b0 : w.cell? ⟨b, 0, none⟩ = some (.pointer (some ⟨q, 0, none⟩)) := cell_of_block h3.bk_at 0
  have b1 : w.cell? ⟨b, 1, none⟩ = some (.slice (some ⟨g', o', none⟩) Ls.length c') := cell_of_block h3.bk_at 1
  have HR : Hid (St P0 w0 w (ram r ws :: ram q ws :: _)) := Lib.hid ((h3.get 1).get 4)
  have HB : Hid (St P0 w0 w (bufs cap (.slice (some ⟨g, o, none⟩) Ls.length c) Ls :: bufs cap (.slice (some ⟨g', o', none⟩) Ls.length c') Ls :: _)) := Lib.hid ((h3.get 2).get 5)
  have h8 := hm.1.2
  obtain ⟨n, hn⟩ : ∃ n, Ls.length = n := ⟨_, rfl⟩
  rw [hn] at a1 b1 HB h8
  have HN := Lib.hid hn
  clear h h1 h2 h3 hm hn
  go_enter Try.func27, Try.ntmps27
  go_upto_region 3 with fail
  go_region_held3 (fun wx => wx.cell? ⟨a, 0, none⟩ = some (.pointer (some ⟨r, 0, none⟩)) ∧ wx.cell? ⟨a, 1, none⟩ = some (.slice (some ⟨g, o, none⟩) n c) ∧ wx.cell? ⟨b, 0, none⟩ = some (.pointer (some ⟨q, 0, none⟩)) ∧ wx.cell? ⟨b, 1, none⟩ = some (.slice (some ⟨g', o', none⟩) n c') ∧ Hid (Up w wx))
    (first | exact ⟨a0, a1, b0, b1, Lib.hid (Up.drew (Up.refl _))⟩ | (go_split_ands; exact ⟨cell_up hu (by assumption), cell_up hu (by assumption), cell_up hu (by assumption), cell_up hu (by assumption), Lib.hid (Up.trans (Hid.out (by assumption)) hu)⟩))
    (first
      | (go_at_call 55; go_split_ands; refine (ramSame_u (HR.out.more (Hid.out (by assumption)))).mono ?_; rintro e w7 ⟨rfl, hu⟩)
      | (go_at_call 56; go_split_ands; refine (equal_u HN.out h8 (HB.out.more (Hid.out (by assumption)))).mono ?_; rintro e w8 ⟨rfl, hu⟩))
  go_split_ands
  have HF : Hid (Up w w8) := by assumption
  clear hu
  go_wp2
  go_ret
  exact ⟨rfl, HALL.out.more HF.out⟩
end
end Go.Proofs.Ytlefefcakffepaa.Bus
