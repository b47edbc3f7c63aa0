/- mbox's Clone. -/
import Derived.Test.YtiofdkkjjeljmaaMbSame0
namespace Go.Proofs.Ytiofdkkjjeljmaa.Mb
set_option linter.unusedVariables false
set_option linter.unusedSimpArgs false
open Go.RowKit Go.Proofs.Ytiofdkkjjeljmaa.Sep Go.Proofs.Ytiofdkkjjeljmaa.Lane

section
variable {P0 : Nat → Prop} {w0 w w' : World} {F : List Rg} {b : Nat} {S : List MC}
theorem lnClone_st {l R : Nat} {q : List Int} (h : St P0 w0 w F) (hq : QAt w l R 16 q) : Calls Try.prog 90 #[.pointer (some ⟨l, 0, none⟩)] w fun e w' => ∃ l', e = .returned (.pointer (some ⟨l', 0, none⟩)) ∧ St P0 w0 w' (ln l' q :: F) ∧ Up w w' := by
  refine (Clone_q l R 16 q w hq).mono ?_
  rintro e w' ⟨l', R', rfl, h1, hu, h2, h3⟩
  exact ⟨l', rfl, ln_new h h1 hu h2 h3, hu⟩
theorem take_next (S : List MC) (i : Nat) (hi : i < S.length) : S.take (i + 1) = S.take i ++ [S.getD i default] := by
  rw [List.take_add_one, List.getD_eq_getElem?_getD, List.getElem?_eq_getElem hi]
  rfl
set_option maxHeartbeats 4000000 in
set_option maxRecDepth 100000 in
theorem Clone_st (h : St P0 w0 w (mb b S :: F)) : Calls Try.prog 52 #[.pointer (some ⟨b, 0, none⟩)] w fun e w' => ∃ b', e = .returned (.pointer (some ⟨b', 0, none⟩)) ∧ St P0 w0 w' (mb b' S :: mb b S :: F) := by
  obtain ⟨g, o, c, ls0, hm0, hc0, h⟩ := mb_form h
  have h3 : St P0 w0 (w.alloc (.cells #[.slice none 0 0] 128)) (bk w.heap.size 128 #[.slice none 0 0] :: slc 132 2 (.slice none 0 0) 0 (mcells (S.take 0) []) :: big (mlanes (S.take 0) []) :: bk b 128 #[.slice (some ⟨g, o, none⟩) S.length c] :: slc 132 2 (.slice (some ⟨g, o, none⟩) S.length c) S.length (mcells S ls0) :: big (mlanes S ls0) :: F) :=
    (St.fresh (M := [slc 132 2 (.slice none 0 0) 0 [], big []]) (h.alloc #[.slice none 0 0] 128) (Up.refl _) ⟨No, No, fun _ e => e.elim, fun _ e => e.elim, fun _ e => e.elim, slc_nil _ _ _ _, No, No, fun _ e => e.elim, fun _ e => e.elim, fun _ e => e.elim, trivial, trivial⟩).get 2
  have HM := Lib.hid hm0
  obtain ⟨t0, ht0, hz0, hz1, hz2⟩ := info_of' info_one
  have a1 : (w.alloc (.cells #[.slice none 0 0] 128)).cell? ⟨b, 0, none⟩ = some (.slice (some ⟨g, o, none⟩) S.length c) := cell_of_block (h3.get 3).bk_at 0
  have h8 := hm0.2.2
  have HS := Lib.hid h3
  clear h h3 hm0 hc0
  go_enter Try.func52, Try.ntmps52
  go_wp2_with fail
  go_loopw [15] (fun v15 wx => ∃ (i : Nat) (V : Value) (ls : List Nat), i ≤ S.length ∧ v15 = .int .i64 i ∧ Hid (ls.length = (S.take i).length) ∧ Hid (St P0 w0 wx (bk w.heap.size 128 #[V] :: slc 132 2 V i (mcells (S.take i) ls) :: big (mlanes (S.take i) ls) :: bk b 128 #[.slice (some ⟨g, o, none⟩) S.length c] :: slc 132 2 (.slice (some ⟨g, o, none⟩) S.length c) S.length (mcells S ls0) :: big (mlanes S ls0) :: F))) (fun v15 _ => S.length - (intOf v15).toNat)
  case atStart => exact ⟨0, .slice none 0 0, [], Nat.zero_le _, rfl, Lib.hid rfl, HS⟩
  case round =>
    clear HS a1
    obtain ⟨i, V, ls, hi, rfl, HL, HS⟩ := hrel
    by_cases hlt : i < S.length
    · have hs := HS.out
      have hf : ∃ A c, V = .slice A i c ∧ i ≤ c ∧ c ≤ maxLen := by
        obtain ⟨P, ⟨Q, Q2, _, _, _, h2, _⟩, _⟩ := St.step (L := [slc 132 2 V i (mcells (S.take i) ls)]) (hs.get 1)
        exact slc_form h2
      obtain ⟨AO, cO, rfl, hc⟩ := hf
      have hsB : St P0 w0 wr (slc 132 2 (.slice (some ⟨g, o, none⟩) S.length c) S.length (mcells S ls0) :: _) := hs.get 4
      obtain ⟨k0, k1, -⟩ := mb_cells (B := pu True) HM.out.1 hlt hsB
      have hlB : St P0 w0 wr (big (mlanes S ls0) :: _) := hs.get 5
      obtain ⟨R, k2⟩ : ∃ R, QAt wr (ls0.getD i 0) R 16 ((S.getD i default).q.map enc) := by
        obtain ⟨P, ⟨Q, Q2, _, _, _, h2, _⟩, _⟩ := St.step (L := [big (mlanes S ls0)]) hlB
        exact sep_lanes S ls0 HM.out.1 h2 i hlt
      have HT := Lib.hid (take_next S i hlt)
      clear hsB hlB
      generalize S.getD i default = D at *
      generalize ls0.getD i 0 = l at *
      have hup := ((Up.refl wr).alloc (.cells #[.int .i64 (D.m : Int), .pointer (some ⟨l, 0, none⟩)] 132)).drew
      have k2' := qat_up k2 hup
      have h1 : St P0 w0 ((wr.alloc (.cells #[.int .i64 (D.m : Int), .pointer (some ⟨l, 0, none⟩)] 132)).drew) (_ :: _ :: _) := (hs.alloc #[.int .i64 (D.m : Int), .pointer (some ⟨l, 0, none⟩)] 132).drew
      have q0 : ((wr.alloc (.cells #[.int .i64 (D.m : Int), .pointer (some ⟨l, 0, none⟩)] 132)).drew).cell? ⟨w.heap.size, 0, none⟩ = some (.slice AO i cO) := cell_of_block (h1.get 1).bk_at 0
      have z0 : ((wr.alloc (.cells #[.int .i64 (D.m : Int), .pointer (some ⟨l, 0, none⟩)] 132)).drew).cell? ⟨wr.heap.size, 0, none⟩ = some (.int .i64 (D.m : Int)) := cell_of_block h1.bk_at 0
      have z1 : ((wr.alloc (.cells #[.int .i64 (D.m : Int), .pointer (some ⟨l, 0, none⟩)] 132)).drew).cell? ⟨wr.heap.size, 1, none⟩ = some (.pointer (some ⟨l, 0, none⟩)) := cell_of_block h1.bk_at 1
      have HC := Lib.hid (lnClone_st h1 k2')
      clear hs HS k2 k2' h1 hup
      go_wp2_with fail
      go_region_law (first
        | (refine St.step_append 132 t0 (.agg #[.int .i64 0, .pointer none]) 2 16 HS2.out (by rfl) _ _ 126 (by rfl) Try.underlying126 ht0 hz0 hz1 hz2 (by rfl) (by decide) (by rfl) (some ⟨w2.heap.size, 0, none⟩) 1 1 [.int .i64 (D.m : Int), .pointer (some ⟨l', 0, none⟩)] (by rfl) HRD.out (by unfold maxLen; omega) (by omega) ?_; intro A4 c4 w4 hst hsz; have HS4 := Lib.hid hst; have q4 : w4.cell? ⟨w.heap.size, 0, none⟩ = some (.slice AO i cO) := cell_of_block (hst.get 4).bk_at 0; have f4 : w4.frozen? ⟨w.heap.size, 0, none⟩ = false := free_of_block (hst.get 4).bk_at 0; clear hst hsz)
        | (go_simp; go_at_call 90; refine HC.out.mono ?_; rintro e w2 ⟨l', rfl, hs, hu⟩; have HS2 := Lib.hid ((hs.alloc #[.int .i64 (D.m : Int), .pointer (some ⟨l', 0, none⟩)] 132).get 4); have q2 : w2.cell? ⟨w.heap.size, 0, none⟩ = some (.slice AO i cO) := cell_of_block (hs.get 2).bk_at 0; have y0 : w2.cell? ⟨wr.heap.size, 0, none⟩ = some (.int .i64 (D.m : Int)) := cell_of_block (hs.get 1).bk_at 0; have hnn := World.new_ne w2 _ q2; have hl9 := World.block_lt_of_cell? w2 _ q2; have hnm := World.new_ne w2 _ y0; have hl8 := World.block_lt_of_cell? w2 _ y0; have HRD := Lib.hid (Rd.of_block (sz := 2) (m := 1) ((hs.alloc #[.int .i64 (D.m : Int), .pointer (some ⟨l', 0, none⟩)] 132).bk_at) rfl (by simp [Value.oneCell'])); clear hs hu))
      all_goals
        have hb := mb_more (C := D) HL.out ((((((HS4.out.get 4).set 0 (.slice A4 (i + 1) c4)).cut 2).cut 3).get 1).get 2 |>.get 1)
        rw [← HT.out] at hb
        have HB := Lib.hid hb
        have HL2 : Hid ((ls ++ [l']).length = (S.take (i + 1)).length) := Lib.hid (by rw [HT.out, List.length_append, List.length_append, HL.out]; rfl)
        clear hb HS4 q4 f4 HS2 q2 HRD HC q0 z0 z1 y0
        go_wp2
        go_roundw
        case rel => exact ⟨i + 1, _, ls ++ [l'], by omega, by go_num, HL2, HB⟩
        case measure => simp [intOf]; omega
    · obtain rfl : i = S.length := by omega
      have hs := HS.out
      rw [List.take_length] at hs
      have HL2 := HL.out
      rw [List.take_length] at HL2
      have HF := Lib.hid (mb_shut_any (S := S) ⟨HL2, HM.out.2⟩ hs)
      clear hs HS HL2 HL
      go_wp2
      go_ret
      have h9 : St P0 w0 wr (bk b 128 #[.slice (some ⟨g, o, none⟩) S.length c] :: slc 132 2 (.slice (some ⟨g, o, none⟩) S.length c) S.length (mcells S ls0) :: big (mlanes S ls0) :: mb w.heap.size S :: F) := ((((HF.out.get 1).get 2).get 3).get 1).get 2
      exact ⟨_, rfl, (mb_shut_any HM.out h9).get 1⟩
end
end Go.Proofs.Ytiofdkkjjeljmaa.Mb
