/- The reference's Cells of chapter 05. -/
import Derived.Test.YtlefefcakffepaaPairs
namespace Go.Proofs.Ytlefefcakffepaa.Pairs
set_option linter.unusedVariables false
set_option linter.unusedSimpArgs false
open Go.RowKit Go.Proofs.Ytlefefcakffepaa.CellOf Go.Proofs.Ytlefefcakffepaa.CellP Go.Proofs.Ytlefefcakffepaa.Sep Go.Proofs.Ytlefefcakffepaa.Find Go.Proofs.Ytlefefcakffepaa.Sbuf Go.Proofs.Ytlefefcakffepaa.Ref05
attribute [local go_sem] run_store_float run_store_complex

theorem refOf_w (x : W16) (w : World) : Calls Try.prog 53 #[.int .i64 (x.a : Int), .int .i64 (x.v : Int)] w fun e w' => e = .returned (.tuple #[.agg #[.float .f64 (floatOfInt .f64 (x.a : Int)), .float .f64 (floatOfInt .f64 (x.v : Int))], .bool true]) ∧ Up w w' := by
  have h := refOf_walk (x.a : Int) (x.v : Int) w
  rw [show refV (x.a : Int) (x.v : Int) = .tuple #[.agg #[.float .f64 (floatOfInt .f64 (x.a : Int)), .float .f64 (floatOfInt .f64 (x.v : Int))], .bool true] from if_pos ⟨(inW_iff _).2 ⟨by omega, by have := x.ha; omega⟩, (inW_iff _).2 ⟨by omega, by have := x.hv; omega⟩⟩] at h
  exact h
set_option maxHeartbeats 8000000 in
set_option maxRecDepth 100000 in
theorem Cells_walk (L : List W16) (A : Option Addr) (c : Nat) (w : World) (h : Rd w 2 A L.length (L.flatMap sw)) (hl : L.length ≤ 100000) :
    Calls Try.prog 25 #[.slice A L.length c] w fun e w' => ∃ A' c', e = .returned (.slice A' L.length c') ∧ Rd w' 2 A' L.length (L.flatMap pw) ∧ Up w w' := by
  have HR := Lib.hid h
  clear h
  obtain ⟨t0, ht0, hz0, hz1, hz2⟩ := Clone.info_of info_cell
  go_enter Try.func25, Try.ntmps25
  go_wp2_with fail
  go_loopw [4, 3] (fun v8 v3 wx => ∃ i : Nat, i ≤ L.length ∧ v8 = .int .i64 i ∧ Hid (St No w wx [slc 103 2 v3 i ((L.take i).flatMap pw)])) (fun v8 _ _ => L.length - (intOf v8).toNat)
  case atStart => exact ⟨0, Nat.zero_le _, rfl, Lib.hid (St.fresh (M := [slc 103 2 (.slice none 0 0) 0 []]) (St.nil w) (Up.refl _) ⟨No, No, fun _ e => e.elim, fun _ e => e.elim, fun _ e => e.elim, slc_nil _ _ _ _, trivial⟩)⟩
  case round =>
    obtain ⟨i, hi, rfl, HS⟩ := hrel
    by_cases hlt : i < L.length
    · have hp := sw_at L i hlt
      obtain ⟨ad, rfl, a0⟩ := rd_at HR.out (by omega) _ _ hp.1
      obtain ⟨ad', e', a1⟩ := rd_at HR.out (by omega) _ _ hp.2
      cases e'
      have a0 := cell_below HS.out.up a0
      have a1 := cell_below HS.out.up a1
      rw [← Go.Deep.add_add] at a1
      replace a1 : wr.cell? ⟨(ad.add (i * 2)).block, (ad.add (i * 2)).off + 1, none⟩ = some (.int .i64 ((L.getD i default).v : Int)) := a1
      have EP := Lib.hid (pw_take L i hlt)
      have HO := Lib.hid (refOf_w (L.getD i default))
      have EW := Lib.hid (show pw (L.getD i default) = [.float .f64 (floatOfInt .f64 ((L.getD i default).a : Int)), .float .f64 (floatOfInt .f64 ((L.getD i default).v : Int))] from rfl)
      have i0 : (0 : Int) ≤ (i : Int) := by omega
      have i1 : (i : Int) < (L.length : Int) := by omega
      clear hp
      generalize floatOfInt .f64 ((L.getD i default).a : Int) = p at *
      generalize floatOfInt .f64 ((L.getD i default).v : Int) = q at *
      generalize ((L.getD i default).a : Int) = za at *
      generalize ((L.getD i default).v : Int) = zv at *
      go_upto_region 5 with fail
      have hnew := World.new_ne wr _ a0
      have hnew1 := World.new_ne wr _ a1
      have b0 := cell_below ((Up.refl wr).alloc (.cells #[.float .f64 0, .float .f64 0] 103)) a0
      have b1 := cell_below ((Up.refl wr).alloc (.cells #[.float .f64 0, .float .f64 0] 103)) a1
      go_region_with ((go_at_call 53; refine (HO.out _).mono ?_; rintro e w2 ⟨rfl, hu⟩; (first | (have HS2 : Hid (St No w w2 [bk wr.heap.size 103 #[.float .f64 0, .float .f64 0], slc 103 2 u3 i ((L.take i).flatMap pw)]) := Lib.hid (((HS.out.alloc #[.float .f64 0, .float .f64 0] 103).drew).more hu); have z0 : w2.cell? ⟨wr.heap.size, 0, none⟩ = some (.float .f64 0) := cell_of_block HS2.out.bk_at 0; have z1 : w2.cell? ⟨wr.heap.size, 1, none⟩ = some (.float .f64 0) := cell_of_block HS2.out.bk_at 1; have y0 : w2.frozen? ⟨wr.heap.size, 0, none⟩ = false := free_of_block HS2.out.bk_at 0; have y1 : w2.frozen? ⟨wr.heap.size, 1, none⟩ = false := free_of_block HS2.out.bk_at 1) | (have HS2 : Hid (St No w w2 [slc 103 2 u3 i ((L.take i).flatMap pw)]) := Lib.hid (HS.out.drew.more hu))); clear hu))
      all_goals
        clear a0 a1 b0 b1 hnew hnew1 HO
        first
          | (have H3 : Hid (St No w (w2.alloc (.cells #[.float .f64 p, .float .f64 q] 103)) [bk w2.heap.size 103 #[.float .f64 p, .float .f64 q], slc 103 2 u3 i ((L.take i).flatMap pw)]) := Lib.hid (HS2.out.alloc _ _); generalize w2.alloc (.cells #[.float .f64 p, .float .f64 q] 103) = w3 at *; generalize w2.heap.size = g at *)
          | (have H3 : Hid (St No w ((w2.setCell ⟨wr.heap.size, 0, none⟩ (.float .f64 p)).setCell ⟨wr.heap.size, 1, none⟩ (.float .f64 q)) [bk wr.heap.size 103 #[.float .f64 p, .float .f64 q], slc 103 2 u3 i ((L.take i).flatMap pw)]) := Lib.hid ((HS2.out.set 0 (.float .f64 p)).set 1 (.float .f64 q)); clear HS2 z0 z1 y0 y1; generalize (w2.setCell ⟨wr.heap.size, 0, none⟩ (.float .f64 p)).setCell ⟨wr.heap.size, 1, none⟩ (.float .f64 q) = w3 at *; generalize wr.heap.size = g at *)
        have z0 : w3.cell? ⟨g, 0, none⟩ = some (.float .f64 p) := cell_of_block H3.out.bk_at 0
        have z1 : w3.cell? ⟨g, 1, none⟩ = some (.float .f64 q) := cell_of_block H3.out.bk_at 1
        have hs4 : St No w (w3.alloc (.cells #[.float .f64 p, .float .f64 q] 103)) [slc 103 2 u3 i ((L.take i).flatMap pw), bk w3.heap.size 103 #[.float .f64 p, .float .f64 q], bk g 103 #[.float .f64 p, .float .f64 q]] := (H3.out.alloc #[.float .f64 p, .float .f64 q] 103).get 2
        have H4 := Lib.hid hs4
        have HRd := Lib.hid (Rd.of_block (sz := 2) (m := 1) (H3.out.alloc #[.float .f64 p, .float .f64 q] 103).bk_at rfl (by simp [Value.oneCell']))
        clear hs4
        go_wp2_with (at_builtin; refine St.append 103 t0 (.agg #[.float .f64 0, .float .f64 0]) 2 16 H4.out rfl (.tmp 27) (.tmp 29) 59 rfl Try.underlying59 ht0 hz0 hz1 hz2 rfl (by decide) rfl (some ⟨w3.heap.size, 0, none⟩) 1 1 [.float .f64 p, .float .f64 q] rfl HRd.out (by unfold maxLen; omega) (by omega) ?_; intro A2 c2 w5 hst hsz; have H5 := Lib.hid (show St No w w5 [slc 103 2 (.slice A2 (i + 1) c2) (i + 1) ((L.take i).flatMap pw ++ [.float .f64 p, .float .f64 q])] from (hst.cut 1).cut 1); clear hst hsz)
        go_roundw
        case rel => exact ⟨i + 1, by omega, by go_num, by rw [EP.out, EW.out]; exact H5⟩
        case measure => simp [intOf]; omega
    · obtain rfl : i = L.length := by omega
      have hs := HS.out
      rw [List.take_length] at hs
      obtain ⟨P, ⟨Q, Q2, _, _, _, h2, _⟩, _⟩ := St.step (L := [slc 103 2 _ _ _]) hs
      obtain ⟨A', c', rfl, _⟩ := slc_form h2
      have HD := Lib.hid (slc_rd h2 (pw_one L))
      clear h2
      go_wp2
      go_ret
      exact ⟨_, _, rfl, HD.out, HS.out.up⟩
end Go.Proofs.Ytlefefcakffepaa.Pairs
