/- mbox's Reset, Ack and Ring, whole. -/
import Derived.Test.YtiofdkkjjeljmaaMbOps2
namespace Go.Proofs.Ytiofdkkjjeljmaa.Mb
set_option linter.unusedVariables false
set_option linter.unusedSimpArgs false
open Go.RowKit Go.Proofs.Ytiofdkkjjeljmaa.Sep Go.Proofs.Ytiofdkkjjeljmaa.Lane Go.Proofs.Ytiofdkkjjeljmaa.CellOf

section
variable {P0 : Nat → Prop} {w0 w w' : World} {F : List Rg} {b : Nat} {S : List MC}
/-- What Reset does. -/
def resetM (S : List MC) (core : Int) : List MC × Int × Int :=
  if 0 ≤ core ∧ core < S.length then (S.set core.toNat ⟨0, [], by omega⟩, ((S.getD core.toNat default).q.length : Int), 0) else (S, 0, 3)
set_option maxHeartbeats 2000000 in
theorem Reset_st (h : St P0 w0 w (mb b S :: F)) (core : Int) : Calls Try.prog 72 #[.pointer (some ⟨b, 0, none⟩), .int .i64 core] w fun e w' => e = .returned (.tuple #[.int .i64 (resetM S core).2.1, .int .i64 (resetM S core).2.2]) ∧ St P0 w0 w' (mb b (resetM S core).1 :: F) := by
  obtain ⟨g, o, c, ls, hm, hc, h1⟩ := mb_form h
  have ha := h1.alloc #[.int .i64 0] 3
  have hb : (w.alloc (.cells #[.int .i64 0] 3)).cell? ⟨b, 0, none⟩ = some (.slice (some ⟨g, o, none⟩) S.length c) := cell_of_block (ha.get 1).bk_at 0
  by_cases hi : 0 ≤ core ∧ core < S.length
  · obtain ⟨i, rfl⟩ := Int.eq_ofNat_of_zero_le hi.1
    have hi' : i < S.length := by omega
    have E : resetM S i = (S.set i ⟨0, [], by omega⟩, ((S.getD i default).q.length : Int), 0) := by unfold resetM; rw [if_pos hi]; rfl
    rw [E]
    have hk := mb_cells (B := pu True) hm.1 hi' (ha.get 2)
    have ho := mb_open hm.1 hi' (((ha.get 3).get 3).get 3)
    have hgr : w.heap.size ≠ g := by
      obtain ⟨P, ⟨Q, Q2, hq1, _, _, h2, _⟩, _⟩ := St.step (L := [slc 132 2 (.slice (some ⟨g, o, none⟩) S.length c) S.length (mcells S ls)]) (h1.get 1)
      obtain ⟨g', o', e, _⟩ := slc_cells h2 (by omega)
      have hlt := World.block_lt_of_cell? w ⟨g, o + i * 2, none⟩ (mb_cells (B := pu True) hm.1 hi' (h1.get 1)).1
      exact Nat.ne_of_gt hlt
    have HK := Lib.hid (ask_Reset b g o S.length c i (.pointer (some ⟨w.heap.size, 0, none⟩)) _ hb hi' (reset_clo (F := [_, _] ++ F) g o S.length c i w.heap.size _ _ _ 3 132 _ (by omega) hgr hk.1 hk.2.1 (hk.2.2 _) (((ho.get 4).get 1).get 2)))
    have HM := Lib.hid hm
    have HI := Lib.hid hi'
    clear h h1 ha hb hk E hm hc hi hi' ho hgr
    rw [List.length_map] at HK
    generalize ((S.getD i default).q.length : Int) = m at *
    go_enter Try.func72, Try.ntmps72
    go_wp2_with (go_at_call 73; refine HK.out.mono ?_; rintro e w2 ⟨rfl, hs⟩; have HS := Lib.hid hs; have c0 := cell_of_block hs.bk_at 0; have f0 := free_of_block hs.bk_at 0; clear hs)
    refine bodyPost_ret (v := .tuple #[.int .i64 m, .int .i64 0]) ?_ rfl ⟨rfl, mb_close (C := ⟨0, [], by omega⟩) HM.out HI.out (HS.out.set 0 (.int .i64 m)).drop⟩
    simp [results, Try.results72, go_sem, *]
  · have E : resetM S core = (S, 0, 3) := if_neg hi
    rw [E]
    have HK := Lib.hid (fun k caps => ask_no b S.length c (some ⟨g, o, none⟩) core k caps _ hb (by omega))
    have HS := Lib.hid ha
    have c0 := cell_of_block ha.bk_at 0
    have f0 := free_of_block ha.bk_at 0
    have HM := Lib.hid hm
    clear h h1 ha hb E hm hc hi
    go_enter Try.func72, Try.ntmps72
    go_wp2_with (go_at_call 73; refine (HK.out _ _).mono ?_; rintro e w2 ⟨rfl, rfl⟩)
    refine bodyPost_ret (v := .tuple #[.int .i64 0, .int .i64 3]) ?_ rfl ⟨rfl, mb_shut_any HM.out HS.out.drop⟩
    simp [results, Try.results72, go_sem, *]
/-- What Ack does. -/
def ackM (S : List MC) (core k : Int) : List MC × Int :=
  if 0 ≤ core ∧ core < S.length then (S.set core.toNat ⟨ackN (S.getD core.toNat default).m k, (S.getD core.toNat default).q, ackN_lt _ k (S.getD core.toNat default).hm⟩, 0) else (S, 3)
set_option maxHeartbeats 2000000 in
theorem Ack_st (h : St P0 w0 w (mb b S :: F)) (core k : Int) : Calls Try.prog 66 #[.pointer (some ⟨b, 0, none⟩), .int .i64 core, .int .i64 k] w fun e w' => e = .returned (.int .i64 (ackM S core k).2) ∧ St P0 w0 w' (mb b (ackM S core k).1 :: F) := by
  obtain ⟨g, o, c, ls, hm, hc, h1⟩ := mb_form h
  have ha := h1.alloc #[.int .i64 k] 3
  have hb : (w.alloc (.cells #[.int .i64 k] 3)).cell? ⟨b, 0, none⟩ = some (.slice (some ⟨g, o, none⟩) S.length c) := cell_of_block (ha.get 1).bk_at 0
  by_cases hi : 0 ≤ core ∧ core < S.length
  · obtain ⟨i, rfl⟩ := Int.eq_ofNat_of_zero_le hi.1
    have hi' : i < S.length := by omega
    have E : ackM S i k = (S.set i ⟨ackN (S.getD i default).m k, (S.getD i default).q, ackN_lt _ k (S.getD i default).hm⟩, 0) := by unfold ackM; rw [if_pos hi]; rfl
    rw [E]
    have hk := mb_cells (B := pu True) hm.1 hi' (ha.get 2)
    have ho := mb_open hm.1 hi' (((ha.get 3).get 3).get 3)
    have HK := Lib.hid (ask_Ack b g o S.length c i (.pointer (some ⟨w.heap.size, 0, none⟩)) _ hb hi' (ack_clo (F := _ :: _ :: _ :: _ :: F) g o S.length c i w.heap.size _ _ 132 k (S.getD i default).hm (by omega) hk.1 (cell_of_block ha.bk_at 0) (hk.2.2 _) (ho.get 1)))
    have HM := Lib.hid hm
    have HI := Lib.hid hi'
    clear h h1 ha hb hk E hm hc hi hi' ho
    go_enter Try.func66, Try.ntmps66
    go_wp2_with (go_at_call 73; refine HK.out.mono ?_; rintro e w2 ⟨rfl, hs⟩; have HS := Lib.hid hs; clear hs)
    go_ret
    exact ⟨rfl, mb_close (C := ⟨ackN (S.getD i default).m k, (S.getD i default).q, ackN_lt _ k (S.getD i default).hm⟩) HM.out HI.out ((HS.out.get 1).cut 4)⟩
  · have E : ackM S core k = (S, 3) := if_neg hi
    rw [E]
    have HK := Lib.hid (fun k caps => ask_no b S.length c (some ⟨g, o, none⟩) core k caps _ hb (by omega))
    have HS := Lib.hid ha
    have HM := Lib.hid hm
    clear h h1 ha hb E hm hc hi
    go_enter Try.func66, Try.ntmps66
    go_wp2_with (go_at_call 73; refine (HK.out _ _).mono ?_; rintro e w2 ⟨rfl, rfl⟩)
    go_ret
    exact ⟨rfl, mb_shut_any HM.out HS.out.drop⟩
end
end Go.Proofs.Ytiofdkkjjeljmaa.Mb
