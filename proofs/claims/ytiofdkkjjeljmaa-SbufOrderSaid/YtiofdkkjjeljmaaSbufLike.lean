/- The law's like of chapter 05: a buffer, and the same stores in the reference's. -/
import Derived.Test.YtiofdkkjjeljmaaSbufDo
import Derived.Test.YtiofdkkjjeljmaaCells05
namespace Go.Proofs.Ytiofdkkjjeljmaa.Sbuf
set_option linter.unusedVariables false
set_option linter.unusedSimpArgs false
open Go.RowKit Go.Proofs.Ytiofdkkjjeljmaa.CellOf Go.Proofs.Ytiofdkkjjeljmaa.CellP Go.Proofs.Ytiofdkkjjeljmaa.Sep Go.Proofs.Ytiofdkkjjeljmaa.Find Go.Proofs.Ytiofdkkjjeljmaa.Ref05 Go.Proofs.Ytiofdkkjjeljmaa.Pairs

section
variable {P0 : Nat → Prop} {w0 w w' : World} {F : List Rg} {b most : Nat} {L : List W16}
theorem Cap_u (h : St P0 w0 w (buf b most L :: F)) : Calls Try.prog 40 #[.pointer (some ⟨b, 0, none⟩)] w fun e w' => e = .returned (.int .i64 (most : Int)) ∧ Up w w' := (Cap_q (P := No) w h).mono fun _ _ hh => ⟨hh.1, by rw [hh.2]; exact Up.refl _⟩
theorem Len_u (h : St P0 w0 w (buf b most L :: F)) : Calls Try.prog 39 #[.pointer (some ⟨b, 0, none⟩)] w fun e w' => e = .returned (.int .i64 (L.length : Int)) ∧ Up w w' := (Len_q w h).mono fun _ _ hh => ⟨hh.1, by rw [hh.2]; exact Up.refl _⟩
theorem All_u (h : St P0 w0 w (buf b most L :: F)) : Calls Try.prog 44 #[.pointer (some ⟨b, 0, none⟩)] w fun e w' => ∃ A c, e = .returned (.slice A L.length c) ∧ Rd w' 1 A L.length (L.map cw) ∧ Up w w' := by
  refine (All_walk h).mono ?_
  rintro e w' ⟨A, c, rfl, hs, hu⟩
  obtain ⟨P, ⟨Q, Q2, _, _, _, h2, _⟩, _⟩ := St.step (L := [cl (.slice A L.length c) L]) hs
  exact ⟨A, c, rfl, slc_rd h2 (cw_one L), hu⟩
set_option maxHeartbeats 8000000 in
set_option maxRecDepth 100000 in
theorem like_u {V : Value} {F' : List Rg} (h : St P0 w0 w (buf b most L :: F)) (h2 : St P0 w0 w (rl V L :: F')) : Calls Try.prog 48 #[.pointer (some ⟨b, 0, none⟩), rv most V] w fun e w' => e = .returned (.bool true) ∧ Up w w' := by
  have hle := buf_le h
  obtain ⟨A, c, rfl, hc1, hc2, hrd, -⟩ := rl_form h2
  have hup := (Up.refl w).alloc (.cells #[.int .i64 (most : Int), .slice A L.length c] 96)
  have g0 : (w.alloc (.cells #[.int .i64 (most : Int), .slice A L.length c] 96)).cell? ⟨w.heap.size, 0, none⟩ = some (.int .i64 (most : Int)) := cell_of_block (block_new w _) 0
  have g1 : (w.alloc (.cells #[.int .i64 (most : Int), .slice A L.length c] 96)).cell? ⟨w.heap.size, 1, none⟩ = some (.slice A L.length c) := cell_of_block (block_new w _) 1
  have HS := Lib.hid (h.more hup)
  have HR := Lib.hid (hrd.up hup)
  have HUP := Lib.hid hup
  clear h h2 hrd hup
  go_enter Try.func48, Try.ntmps48
  go_upto_region 1 with fail
  obtain ⟨g, hg⟩ : ∃ g, w.heap.size = g := ⟨_, rfl⟩
  rw [hg] at g0 g1
  simp only [hg]
  clear hg
  generalize w.alloc (.cells #[.int .i64 (most : Int), .slice A L.length c] 96) = wb at *
  go_region_held3 (fun wx => wx.cell? ⟨g, 0, none⟩ = some (.int .i64 (most : Int)) ∧ wx.cell? ⟨g, 1, none⟩ = some (.slice A L.length c) ∧ Hid (Up wb wx))
    (first | exact ⟨g0, g1, Lib.hid (Up.drew (Up.refl _))⟩ | (go_split_ands; exact ⟨cell_below hu (by assumption), cell_below hu (by assumption), Lib.hid (Up.trans (Hid.out (by assumption)) hu)⟩))
    (first
      | (go_at_call 40; refine (Cap_u (HS.out.more ?_)).mono ?_; (go_split_ands; exact Hid.out (by assumption)); rintro e w8 ⟨rfl, hu⟩)
      | (go_at_call 39; refine (Len_u (HS.out.more ?_)).mono ?_; (go_split_ands; exact Hid.out (by assumption)); rintro e w8 ⟨rfl, hu⟩)
      | (go_at_call 44; refine (All_u (HS.out.more ?_)).mono ?_; (go_split_ands; exact Hid.out (by assumption)); rintro e w8 ⟨A8, c8, rfl, hr8, hu⟩)
      | (go_at_call 43; refine (Pairs_walk L A8 c8 _ hr8 (by omega)).mono ?_; rintro e w9 ⟨A9, c9, rfl, hr9, hu⟩)
      | (go_at_call 45; refine (Cells_walk L A c _ (HR.out.up ?_) (by omega)).mono ?_; (go_split_ands; exact Hid.out (by assumption)); rintro e w10 ⟨A10, c10, rfl, hr10, hu⟩; have hu10 := hu)
      | (go_at_call 42; refine (SameCells_walk L A9 A10 c9 c10 _ (hr9.up hu10) hr10 (by omega)).mono ?_; rintro e w11 ⟨rfl, hu⟩))
  go_split_ands
  have HF := Lib.hid (Up.trans HUP.out (Hid.out (by assumption : Hid (Up wb w11))))
  clear hr8 hr9 hr10 hu10 hu g0 g1
  go_wp2
  go_ret
  exact ⟨rfl, HF.out⟩
theorem like_st {V : Value} (h : St P0 w0 w (buf b most L :: rl V L :: F)) : Calls Try.prog 48 #[.pointer (some ⟨b, 0, none⟩), rv most V] w fun e w' => e = .returned (.bool true) ∧ St P0 w0 w' (buf b most L :: rl V L :: F) := by
  refine (like_u h (h.get 1)).mono ?_
  rintro e w' ⟨rfl, hu⟩
  exact ⟨rfl, h.more hu⟩
end
end Go.Proofs.Ytiofdkkjjeljmaa.Sbuf
