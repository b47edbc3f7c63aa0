/- bus's Clone. -/
import Derived.Test.YtlefefcakffepaaMD
namespace Go.Proofs.Ytlefefcakffepaa.Bus
set_option linter.unusedVariables false
set_option linter.unusedSimpArgs false
open Go.RowKit Go.Proofs.Ytlefefcakffepaa.Sep Go.Proofs.Ytlefefcakffepaa.Sram Go.Proofs.Ytlefefcakffepaa.Find Go.Proofs.Ytlefefcakffepaa.Sbuf

section
variable {P0 : Nat → Prop} {w0 w w' : World} {F : List Rg} {b cap : Nat} {ws : List Int} {Ls : List (List W16)}
theorem take_next (S : List (List W16)) (i : Nat) (hi : i < S.length) : S.take (i + 1) = S.take i ++ [S.getD i default] := by
  rw [List.take_add_one, List.getD_eq_getElem?_getD, List.getElem?_eq_getElem hi]
  rfl
theorem bufs_back {r i x : Nat} {V : Value} (hi : i < Ls.length) (h : St P0 w0 w (buf x cap (Ls.getD i default) :: ram r ws :: hb b r V :: bufx cap V Ls i x :: F)) : St P0 w0 w (hb b r V :: ram r ws :: bufs cap V Ls :: F) := by
  have h1 : St P0 w0 w (bufx cap V Ls i x :: hb b r V :: ram r ws :: buf x cap (Ls.getD i default) :: F) := ((h.get 1).get 2).get 3
  have h3 : St P0 w0 w (buf x cap (Ls.getD i default) :: bufx cap V Ls i x :: hb b r V :: ram r ws :: F) := h1.get 3
  have h2 := row_close (cf := pcf) (pf := fun L x => buf x cap L) (x := Ls.getD i default) hi rfl h3
  rw [set_self Ls i hi] at h2
  exact (h2.get 2).get 2
set_option maxHeartbeats 4000000 in
set_option maxRecDepth 100000 in
theorem Clone_st (h : St P0 w0 w (bus b cap ws Ls :: F)) : Calls Try.prog 26 #[.pointer (some ⟨b, 0, none⟩)] w fun e w' => ∃ b', e = .returned (.pointer (some ⟨b', 0, none⟩)) ∧ St P0 w0 w' (bus b' cap ws Ls :: bus b cap ws Ls :: F) := by
  obtain ⟨r, g, o, c, hm, h1⟩ := bus_form h
  have hbk : w.cell? ⟨b, 0, none⟩ = some (.pointer (some ⟨r, 0, none⟩)) := cell_of_block h1.bk_at 0
  have HC := Lib.hid (Sram.Clone_st (h1.get 1))
  obtain ⟨t0, ht0, hz0, hz1, hz2⟩ := info_of' info_pbuf
  have HM := Lib.hid hm
  have h8 := hm.1.2
  clear h h1 hm
  go_enter Try.func26, Try.ntmps26
  go_wp2_with fail
  refine HC.out.mono ?_
  rintro e w2 ⟨rN, rfl, hs⟩
  have HS : Hid (St P0 w0 (w2.alloc (.cells #[.pointer (some ⟨rN, 0, none⟩), .slice none 0 0] 79)) (hb w2.heap.size rN (.slice none 0 0) :: bufs cap (.slice none 0 0) (Ls.take 0) :: ram rN ws :: hb b r (.slice (some ⟨g, o, none⟩) Ls.length c) :: ram r ws :: bufs cap (.slice (some ⟨g, o, none⟩) Ls.length c) Ls :: F)) := Lib.hid (by
    have h5 := (row_nil (e := 75) (sz := 1) (cf := pcf) (pf := fun L x => buf x cap L) (hs.alloc #[.pointer (some ⟨rN, 0, none⟩), .slice none 0 0] 79))
    have h6 : St P0 w0 _ (bufs cap (.slice none 0 0) (Ls.take 0) :: hb w2.heap.size rN (.slice none 0 0) :: _) := h5
    first | exact ((((((h6).get 5).get 4).get 5).get 5).get 4).get 5)
  have b1 : (w2.alloc (.cells #[.pointer (some ⟨rN, 0, none⟩), .slice none 0 0] 79)).cell? ⟨b, 1, none⟩ = some (.slice (some ⟨g, o, none⟩) Ls.length c) := cell_of_block (HS.out.get 3).bk_at 1
  clear hs HC hbk
  go_wp2_with fail
  clear b1
  go_loopw [20] (fun v20 wx => ∃ (i : Nat) (V : Value), i ≤ Ls.length ∧ v20 = .int .i64 i ∧ Hid (St P0 w0 wx (hb w2.heap.size rN V :: bufs cap V (Ls.take i) :: ram rN ws :: hb b r (.slice (some ⟨g, o, none⟩) Ls.length c) :: ram r ws :: bufs cap (.slice (some ⟨g, o, none⟩) Ls.length c) Ls :: F))) (fun v20 _ => Ls.length - (intOf v20).toNat)
  case atStart => exact ⟨0, .slice none 0 0, Nat.zero_le _, rfl, HS⟩
  case round =>
    clear HS
    obtain ⟨i, V, hi, rfl, HS⟩ := hrel
    by_cases hlt : i < Ls.length
    · obtain ⟨bs, hbs, hs0⟩ := row_any (HS.out.get 1)
      have hti : (Ls.take i).length = i := by rw [List.length_take]; omega
      rw [hti] at hs0
      have hf : ∃ A c, V = .slice A i c ∧ i ≤ c ∧ c ≤ maxLen := by
        obtain ⟨P, ⟨Q, Q2, _, _, _, h2, _⟩, _⟩ := St.step (L := [slc 75 1 V i (rcs pcf (Ls.take i) bs)]) hs0
        exact slc_form h2
      obtain ⟨A, cA, rfl, hc⟩ := hf
      have hs0 : St P0 w0 wr (slc 75 1 (.slice A i cA) i (rcs pcf (Ls.take i) bs) :: big (rps (fun L x => buf x cap L) (Ls.take i) bs) :: hb w2.heap.size rN (.slice A i cA) :: ram rN ws :: hb b r (.slice (some ⟨g, o, none⟩) Ls.length c) :: ram r ws :: bufs cap (.slice (some ⟨g, o, none⟩) Ls.length c) Ls :: F) := hs0
      obtain ⟨x, hx, hs⟩ := bus_open (F := slc 75 1 (.slice A i cA) i (rcs pcf (Ls.take i) bs) :: big (rps (fun L x => buf x cap L) (Ls.take i) bs) :: hb w2.heap.size rN (.slice A i cA) :: ram rN ws :: F) ((((((((hs0).get 3).get 3).get 3).get 3).get 6).get 6).get 6) i hlt
      have HB := Lib.hid hbs
      have HT := Lib.hid (take_next Ls i hlt)
      have HTI := Lib.hid hti
      have HLT := Lib.hid hlt
      have q0 : wr.drew.cell? ⟨w2.heap.size, 1, none⟩ = some (.slice A i cA) := cell_of_block (hs.drew.get 6).bk_at 1
      have HC := Lib.hid (Sbuf.Clone_st hs.drew)
      clear hs0 hs HS hbs hti
      go_wp2_with fail
      go_region_law (first
        | (refine St.step_append 75 t0 (.pointer none) 1 8 HS2.out (by rfl) _ _ 77 (by rfl) Try.underlying77 ht0 hz0 hz1 hz2 (by rfl) (by decide) (by rfl) (some ⟨w3.heap.size, 0, none⟩) 1 1 [.pointer (some ⟨l, 0, none⟩)] (by rfl) HRD.out (by unfold maxLen; omega) (by omega) ?_; intro A4 c4 w4 hst hsz; have HS4 := Lib.hid hst; have q4 : w4.cell? ⟨w2.heap.size, 1, none⟩ = some (.slice A i cA) := cell_of_block (hst.get 8).bk_at 1; have f4 : w4.frozen? ⟨w2.heap.size, 1, none⟩ = false := free_of_block (hst.get 8).bk_at 1; clear hst hsz)
        | (go_simp; go_at_call 54; refine HC.out.mono ?_; rintro e w3 ⟨l, rfl, hs⟩; have HS2 := Lib.hid ((hs.alloc #[.pointer (some ⟨l, 0, none⟩)] 75).get 6); have q2 : w3.cell? ⟨w2.heap.size, 1, none⟩ = some (.slice A i cA) := cell_of_block (hs.get 7).bk_at 1; have hnn := World.new_ne w3 _ q2; have hl9 := World.block_lt_of_cell? w3 _ q2; have HRD := Lib.hid (Rd.of_block (sz := 1) (m := 1) ((hs.alloc #[.pointer (some ⟨l, 0, none⟩)] 75).bk_at) rfl (by simp [Value.oneCell'])); clear hs))
      all_goals
        have hs6 := ((HS4.out.get 8).set 1 (.slice A4 (i + 1) c4)).cut 2
        have hb := bufs_more (Ls := Ls.take i) (L := Ls.getD i default) (i := i) (x := l) (cap := cap) HB.out HTI.out.symm ((((((((((hs6).get 6).get 6).get 6).get 6).get 8).get 5).get 7).get 8).get 8)
        rw [← HT.out] at hb
        have hb2 := bufs_back HLT.out ((((((((hb).get 2).get 1).get 2).get 6).get 6).get 6).get 6)
        have HB2 := Lib.hid (((((((hb2).get 2).get 2).get 2).get 5).get 5).get 5)
        clear hs6 hb hb2 HS4 q4 f4 HS2 q2 HRD HC q0 hx
        go_wp2
        go_roundw
        case rel => exact ⟨i + 1, _, by omega, by go_num, HB2⟩
        case measure => simp [intOf]; omega
    · obtain rfl : i = Ls.length := by omega
      have hs := ((((((HS.out).get 5).get 5).get 5).get 4).get 5).get 5
      rw [List.take_length] at hs
      have h9 := bus_shut HM.out hs
      have HF := Lib.hid (bus_shut HM.out ((((h9).get 3).get 3).get 3))
      clear hs HS h9
      go_wp2
      go_ret
      exact ⟨_, rfl, HF.out.get 1⟩
end
end Go.Proofs.Ytlefefcakffepaa.Bus
