/- mbox.New. -/
import Derived.Test.YtiofdkkjjeljmaaMbRing
import Derived.Deep.AppendLies
import Derived.Deep.RegionLaw
namespace Go.Proofs.Ytiofdkkjjeljmaa.Mb
set_option linter.unusedVariables false
set_option linter.unusedSimpArgs false
open Go.RowKit Go.Proofs.Ytiofdkkjjeljmaa.Sep Go.Proofs.Ytiofdkkjjeljmaa.Lane

theorem info_one : (Try.prog.info? 132).map (fun i => (i.zero, i.size, i.bytes)) = some (some (.agg #[.int .i64 0, .pointer none]), 2, 16) := by kernel_rfl
theorem info_of' {P : Program} {t : TypeId} {z : Value} {n b : Nat} (h : (P.info? t).map (fun i => (i.zero, i.size, i.bytes)) = some (some z, n, b)) : ∃ i, P.info? t = some i ∧ i.zero = some z ∧ i.size = n ∧ i.bytes = b := by
  cases hi : P.info? t with
  | none => rw [hi] at h; cases h
  | some i =>
    rw [hi] at h
    simp at h
    exact ⟨i, rfl, h.1, h.2.1, h.2.2⟩
theorem mcells_snoc : ∀ (S : List MC) (ls : List Nat) (C : MC) (l : Nat), ls.length = S.length → mcells (S ++ [C]) (ls ++ [l]) = mcells S ls ++ [.int .i64 (C.m : Int), .pointer (some ⟨l, 0, none⟩)]
  | [], [], C, l, _ => rfl
  | D :: S, k :: ls, C, l, h => by simp [mcells, mcells_snoc S ls C l (by simpa using h)]
theorem mlanes_snoc : ∀ (S : List MC) (ls : List Nat) (C : MC) (l : Nat), ls.length = S.length → mlanes (S ++ [C]) (ls ++ [l]) = mlanes S ls ++ [ln l (C.q.map enc)]
  | [], [], C, l, _ => rfl
  | D :: S, k :: ls, C, l, h => by simp [mlanes, mlanes_snoc S ls C l (by simpa using h)]
theorem New_no (n : Int) (hn : n < 1 ∨ 8 < n) (w : World) : Calls Try.prog 29 #[.int .i64 n] w fun e w' => e = .returned (.pointer none) ∧ w' = w := by
  have hg : decide (n < 1) = true ∨ (decide (n < 1) = false ∧ n > 8) := by
    by_cases h : n < 1
    · exact .inl (decide_eq_true h)
    · exact .inr ⟨decide_eq_false h, by omega⟩
  clear hn
  rcases hg with hg | ⟨hg, hg'⟩
  all_goals
    go_enter Try.func29, Try.ntmps29
    go_wp2
    go_ret
    exact ⟨rfl, rfl⟩
section
variable {P0 : Nat → Prop} {w0 w w' : World} {F : List Rg} {b : Nat} {S : List MC}
theorem lnNew_st (h : St P0 w0 w F) : Calls Try.prog 67 #[.int .i64 16] w fun e w' => ∃ l, e = .returned (.pointer (some ⟨l, 0, none⟩)) ∧ St P0 w0 w' (ln l [] :: F) := by
  refine (New_ok 16 (by omega) (by omega) w).mono ?_
  rintro e w' ⟨l, R, rfl, h1, hu, h2, h3⟩
  exact ⟨l, rfl, ln_new h ⟨_, _, h1, by simp, rfl⟩ hu h2 h3⟩
/-- One more mailbox. -/
theorem mb_more {V : Value} {ls : List Nat} {l i : Nat} {C : MC} (hl : ls.length = S.length) (h : St P0 w0 w (slc 132 2 V i (mcells S ls ++ [.int .i64 (C.m : Int), .pointer (some ⟨l, 0, none⟩)]) :: ln l (C.q.map enc) :: bk b 128 #[V] :: big (mlanes S ls) :: F)) :
    St P0 w0 w (bk b 128 #[V] :: slc 132 2 V i (mcells (S ++ [C]) (ls ++ [l])) :: big (mlanes (S ++ [C]) (ls ++ [l])) :: F) := by
  rw [mcells_snoc S ls C l hl, mlanes_snoc S ls C l hl]
  have h1 : St P0 w0 w (big (mlanes S ls) :: _ :: _ :: _ :: F) := h.get 3
  have h2 := (h1.big_open)
  have h3 := h2.perm (M := (mlanes S ls ++ [ln l (C.q.map enc)]) ++ slc 132 2 V i (mcells S ls ++ [.int .i64 (C.m : Int), .pointer (some ⟨l, 0, none⟩)]) :: bk b 128 #[V] :: F) (by
    rw [List.append_assoc]
    exact List.Perm.append_left _ (List.Perm.swap _ _ _))
  exact ((St.big_shut h3).get 1).get 2
set_option maxHeartbeats 4000000 in
set_option maxRecDepth 100000 in
theorem New_st (h : St P0 w0 w F) (n : Nat) (h1 : 1 ≤ n) (h2 : n ≤ 8) : Calls Try.prog 29 #[.int .i64 n] w fun e w' => ∃ b, e = .returned (.pointer (some ⟨b, 0, none⟩)) ∧ St P0 w0 w' (mb b (List.replicate n ⟨0, [], by omega⟩) :: F) := by
  have d1 : decide ((n : Int) < 1) = false := decide_eq_false (by omega)
  have d2 : decide ((n : Int) > 8) = false := decide_eq_false (by omega)
  have h3 : St P0 w0 (w.alloc (.cells #[.slice none 0 0] 128)) (bk w.heap.size 128 #[.slice none 0 0] :: slc 132 2 (.slice none 0 0) 0 (mcells (List.replicate 0 ⟨0, [], by omega⟩) []) :: big (mlanes (List.replicate 0 ⟨0, [], by omega⟩) []) :: F) :=
    (St.fresh (M := [slc 132 2 (.slice none 0 0) 0 [], big []]) (h.alloc #[.slice none 0 0] 128) (Up.refl _) ⟨No, No, fun _ e => e.elim, fun _ e => e.elim, fun _ e => e.elim, slc_nil _ _ _ _, No, No, fun _ e => e.elim, fun _ e => e.elim, fun _ e => e.elim, trivial, trivial⟩).get 2
  have HS := Lib.hid h3
  obtain ⟨t0, ht0, hz0, hz1, hz2⟩ := info_of' info_one
  clear h h3
  go_enter Try.func29, Try.ntmps29
  go_wp2_with fail
  go_loopw [13] (fun v13 wx => ∃ (i : Nat) (V : Value) (ls : List Nat), i ≤ n ∧ v13 = .int .i64 i ∧ Hid (ls.length = (List.replicate i (⟨0, [], by omega⟩ : MC)).length) ∧ Hid (St P0 w0 wx (bk w.heap.size 128 #[V] :: slc 132 2 V i (mcells (List.replicate i ⟨0, [], by omega⟩) ls) :: big (mlanes (List.replicate i ⟨0, [], by omega⟩) ls) :: F))) (fun v13 _ => n - (intOf v13).toNat)
  case atStart => exact ⟨0, .slice none 0 0, [], Nat.zero_le _, rfl, Lib.hid rfl, HS⟩
  case round =>
    clear HS
    obtain ⟨i, V, ls, hi, rfl, HL, HS⟩ := hrel
    by_cases hlt : i < n
    · have hs := HS.out
      have hf : ∃ A c, V = .slice A i c ∧ i ≤ c ∧ c ≤ maxLen := by
        obtain ⟨P, ⟨Q, Q2, _, _, _, h2, _⟩, _⟩ := St.step (L := [slc 132 2 V i (mcells (List.replicate i ⟨0, [], by omega⟩) ls)]) (hs.get 1)
        exact slc_form h2
      obtain ⟨A, c, rfl, hc⟩ := hf
      have q0 : wr.drew.cell? ⟨w.heap.size, 0, none⟩ = some (.slice A i c) := cell_of_block hs.drew.bk_at 0
      have HS1 := Lib.hid hs.drew
      clear hs HS
      go_wp2_with fail
      go_region_law (first
        | (refine St.step_append 132 t0 (.agg #[.int .i64 0, .pointer none]) 2 16 HS2.out (by rfl) _ _ 126 (by rfl) Try.underlying126 ht0 hz0 hz1 hz2 (by rfl) (by decide) (by rfl) (some ⟨w2.heap.size, 0, none⟩) 1 1 [.int .i64 0, .pointer (some ⟨l, 0, none⟩)] (by rfl) HRD.out (by unfold maxLen; omega) (by omega) ?_; intro A4 c4 w4 hst hsz; have HS4 := Lib.hid hst; have q4 : w4.cell? ⟨w.heap.size, 0, none⟩ = some (.slice A i c) := cell_of_block (hst.get 3).bk_at 0; have f4 : w4.frozen? ⟨w.heap.size, 0, none⟩ = false := free_of_block (hst.get 3).bk_at 0; clear hst hsz)
        | (go_simp; go_at_call 67; refine (lnNew_st HS1.out).mono ?_; rintro e w2 ⟨l, rfl, hs⟩; have HS2 := Lib.hid ((hs.alloc #[.int .i64 0, .pointer (some ⟨l, 0, none⟩)] 132).get 3); have q2 : w2.cell? ⟨w.heap.size, 0, none⟩ = some (.slice A i c) := cell_of_block (hs.get 1).bk_at 0; have hnn := World.new_ne w2 _ q2; have hl9 := World.block_lt_of_cell? w2 _ q2; have HRD := Lib.hid (Rd.of_block (sz := 2) (m := 1) ((hs.alloc #[.int .i64 0, .pointer (some ⟨l, 0, none⟩)] 132).bk_at) rfl (by simp [Value.oneCell'])); clear hs))
      all_goals
        have hb := mb_more (C := ⟨0, [], by omega⟩) HL.out (((((HS4.out.get 3).set 0 (.slice A4 (i + 1) c4)).cut 2).get 2).get 2)
        rw [← List.replicate_succ'] at hb
        have HB := Lib.hid hb
        have HL2 : Hid ((ls ++ [l]).length = (List.replicate (i + 1) (⟨0, [], by omega⟩ : MC)).length) := Lib.hid (by have := HL.out; simp at this ⊢; exact this)
        clear hb HS4 q4 f4 HS2 q2 HRD HS1 q0
        go_wp2
        go_roundw
        case rel => exact ⟨i + 1, _, ls ++ [l], by omega, by go_num, HL2, HB⟩
        case measure => simp [intOf]; omega
    · obtain rfl : i = n := by omega
      have HN := Lib.hid (And.intro h1 h2)
      clear h1 h2
      go_wp2
      go_ret
      exact ⟨_, rfl, mb_shut_any (S := List.replicate i ⟨0, [], by omega⟩) ⟨HL.out, by rw [List.length_replicate]; exact HN.out⟩ (by rw [List.length_replicate]; exact HS.out)⟩
end
end Go.Proofs.Ytiofdkkjjeljmaa.Mb
