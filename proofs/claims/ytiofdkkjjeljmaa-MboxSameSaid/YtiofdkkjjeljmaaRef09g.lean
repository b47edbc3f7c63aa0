/- The reference of chapter 09: with. -/
import Derived.Test.YtiofdkkjjeljmaaRef09f
namespace Go.Proofs.Ytiofdkkjjeljmaa.Ref09
set_option linter.unusedVariables false
set_option linter.unusedSimpArgs false
open Go.RowKit Go.Proofs.Ytiofdkkjjeljmaa.Sep Go.Proofs.Ytiofdkkjjeljmaa.Mb

theorem info_core : (Try.prog.info? 72).map (fun i => (i.zero, i.size, i.bytes)) = some (some (.agg #[.bool false, .bool false, .bool false, .bool false, .bool false, .bool false, .bool false, .bool false, .slice none 0 0]), 9, 32) := by kernel_rfl
theorem rcells_one : ∀ (S : List MC) (Vs : List Value), (∀ V ∈ Vs, V.oneCell' = true) → ∀ u ∈ rcells S Vs, u.oneCell' = true
  | C :: S, V :: Vs, h, u, hu => by
    rw [rcells] at hu
    rcases List.mem_append.1 hu with hu | hu
    · obtain ⟨j, _, rfl⟩ := List.mem_map.1 hu
      rfl
    · rcases List.mem_cons.1 hu with rfl | hu
      · exact h _ (.head _)
      · exact rcells_one S Vs (fun V hV => h V (.tail _ hV)) u hu
  | [], _, _, u, hu => by simp [rcells] at hu
  | _ :: _, [], _, u, hu => by simp [rcells] at hu
theorem rd_up {w w' : World} {sz m : Nat} {A : Option Addr} {xs : List Value} (h : Rd w sz A m xs) (hu : Up w w') : Rd w' sz A m xs :=
  ⟨h.1, h.2.1, fun hm => by
    obtain ⟨ad, e, hc⟩ := h.2.2 hm
    exact ⟨ad, e, fun j u hj => by
      rw [← hc j u hj]
      exact Below.cell hu (World.block_lt_of_cell? _ _ (hc j u hj))⟩⟩
section
variable {P0 : Nat → Prop} {w0 w w' : World} {F : List Rg} {V Vx : Value} {S : List MC}
theorem slc_at {e sz n c : Nat} {A : Option Addr} {xs : List Value} (h : St P0 w0 w (slc e sz (.slice A n c) n xs :: F)) (hn : 0 < n) : ∃ g o, A = some ⟨g, o, none⟩ ∧ (∀ j, j < n * sz → ∃ u, w.cell? ⟨g, o + j, none⟩ = some u) ∧ (∀ j, w.frozen? ⟨g, j, none⟩ = false) := by
  obtain ⟨P, ⟨Q, Q2, _, _, _, h2, _⟩, _⟩ := St.step (L := [slc e sz (.slice A n c) n xs]) h
  obtain ⟨g, o, rfl, _, _, _, hc, hf⟩ := slc_cells h2 hn
  refine ⟨g, o, rfl, fun j hj => ?_, hf⟩
  rw [← (slc_one h2).1] at hj
  exact ⟨_, hc j _ (List.getElem?_eq_getElem hj)⟩
set_option maxHeartbeats 4000000 in
set_option maxRecDepth 100000 in
theorem with_raw {A Ax : Option Addr} {n c nx cx i : Nat} {xs : List Value} (hi : i < n) (hn : n ≤ 8) (hrd : Rd w 9 A n xs) (h : St P0 w0 w F) (b0 b1 b2 b3 b4 b5 b6 b7 : Bool) :
    Calls Try.prog 70 #[.slice A n c, .int .i64 (i : Int), .agg #[.bool b0, .bool b1, .bool b2, .bool b3, .bool b4, .bool b5, .bool b6, .bool b7, .slice Ax nx cx]] w fun e w' => ∃ A' c', e = .returned (.slice A' n c') ∧ St P0 w0 w' (slc 72 9 (.slice A' n c') n (putAt xs (i * 9) [.bool b0, .bool b1, .bool b2, .bool b3, .bool b4, .bool b5, .bool b6, .bool b7, .slice Ax nx cx]) :: F) := by
  have h1 := h.alloc #[.bool b0, .bool b1, .bool b2, .bool b3, .bool b4, .bool b5, .bool b6, .bool b7, .slice Ax nx cx] 72
  have h2 := St.fresh (M := [slc 72 9 (.slice none 0 0) 0 []]) h1 (Up.refl _) ⟨No, No, fun _ e => e.elim, fun _ e => e.elim, fun _ e => e.elim, slc_nil _ _ _ _, trivial⟩
  have HRD := Lib.hid (rd_up hrd ((Up.refl w).alloc (.cells #[.bool b0, .bool b1, .bool b2, .bool b3, .bool b4, .bool b5, .bool b6, .bool b7, .slice Ax nx cx] 72)))
  have HS := Lib.hid h2
  obtain ⟨t0, ht0, hz0, hz1, hz2⟩ := info_of' info_core
  clear h h1 h2 hrd
  go_enter Try.func70, Try.ntmps70
  go_wp2_with (at_builtin; refine St.append 72 t0 (.agg #[.bool false, .bool false, .bool false, .bool false, .bool false, .bool false, .bool false, .bool false, .slice none 0 0]) 9 32 HS.out rfl (.tmp 8) (.tmp 9) 60 rfl Try.underlying60 ht0 hz0 hz1 hz2 rfl (by decide) rfl A n c xs rfl HRD.out (by unfold maxLen; omega) (by omega) ?_; rw [Nat.zero_add, List.nil_append]; intro A1 c1 w3 hst hsz; have H3 := Lib.hid hst; have q0 : w3.cell? ⟨w.heap.size, 0, none⟩ = some (.bool b0) := cell_of_block (hst.get 1).bk_at 0; have q1 : w3.cell? ⟨w.heap.size, 1, none⟩ = some (.bool b1) := cell_of_block (hst.get 1).bk_at 1; have q2 : w3.cell? ⟨w.heap.size, 2, none⟩ = some (.bool b2) := cell_of_block (hst.get 1).bk_at 2; have q3 : w3.cell? ⟨w.heap.size, 3, none⟩ = some (.bool b3) := cell_of_block (hst.get 1).bk_at 3; have q4 : w3.cell? ⟨w.heap.size, 4, none⟩ = some (.bool b4) := cell_of_block (hst.get 1).bk_at 4; have q5 : w3.cell? ⟨w.heap.size, 5, none⟩ = some (.bool b5) := cell_of_block (hst.get 1).bk_at 5; have q6 : w3.cell? ⟨w.heap.size, 6, none⟩ = some (.bool b6) := cell_of_block (hst.get 1).bk_at 6; have q7 : w3.cell? ⟨w.heap.size, 7, none⟩ = some (.bool b7) := cell_of_block (hst.get 1).bk_at 7; have q8 : w3.cell? ⟨w.heap.size, 8, none⟩ = some (.slice Ax nx cx) := cell_of_block (hst.get 1).bk_at 8; obtain ⟨g, o, hA, hcs, hfs⟩ := slc_at hst (by omega); subst hA; obtain ⟨u0, y0⟩ := hcs (i * 9) (by omega); obtain ⟨u1, y1⟩ := hcs (i * 9 + 1) (by omega); rw [← Nat.add_assoc] at y1; obtain ⟨u2, y2⟩ := hcs (i * 9 + 2) (by omega); rw [← Nat.add_assoc] at y2; obtain ⟨u3, y3⟩ := hcs (i * 9 + 3) (by omega); rw [← Nat.add_assoc] at y3; obtain ⟨u4, y4⟩ := hcs (i * 9 + 4) (by omega); rw [← Nat.add_assoc] at y4; obtain ⟨u5, y5⟩ := hcs (i * 9 + 5) (by omega); rw [← Nat.add_assoc] at y5; obtain ⟨u6, y6⟩ := hcs (i * 9 + 6) (by omega); rw [← Nat.add_assoc] at y6; obtain ⟨u7, y7⟩ := hcs (i * 9 + 7) (by omega); rw [← Nat.add_assoc] at y7; obtain ⟨u8, y8⟩ := hcs (i * 9 + 8) (by omega); rw [← Nat.add_assoc] at y8; have f0 := hfs (o + i * 9); have f1 := hfs (o + i * 9 + 1); have f2 := hfs (o + i * 9 + 2); have f3 := hfs (o + i * 9 + 3); have f4 := hfs (o + i * 9 + 4); have f5 := hfs (o + i * 9 + 5); have f6 := hfs (o + i * 9 + 6); have f7 := hfs (o + i * 9 + 7); have f8 := hfs (o + i * 9 + 8); clear hst hsz hcs hfs)
  have s0 := H3.out.slc_set (i * 9) (.bool b0) (by omega)
  have s1 := s0.slc_set (i * 9 + 1) (.bool b1) (by omega)
  have s2 := s1.slc_set (i * 9 + 2) (.bool b2) (by omega)
  have s3 := s2.slc_set (i * 9 + 3) (.bool b3) (by omega)
  have s4 := s3.slc_set (i * 9 + 4) (.bool b4) (by omega)
  have s5 := s4.slc_set (i * 9 + 5) (.bool b5) (by omega)
  have s6 := s5.slc_set (i * 9 + 6) (.bool b6) (by omega)
  have s7 := s6.slc_set (i * 9 + 7) (.bool b7) (by omega)
  have s8 := s7.slc_set (i * 9 + 8) (.slice Ax nx cx) (by omega)
  rw [← Nat.add_assoc o (i * 9) 1, ← Nat.add_assoc o (i * 9) 2, ← Nat.add_assoc o (i * 9) 3, ← Nat.add_assoc o (i * 9) 4, ← Nat.add_assoc o (i * 9) 5, ← Nat.add_assoc o (i * 9) 6, ← Nat.add_assoc o (i * 9) 7, ← Nat.add_assoc o (i * 9) 8] at s8
  have HF := Lib.hid (s8.cut 1)
  go_ret
  exact ⟨_, _, rfl, HF.out⟩
end
end Go.Proofs.Ytiofdkkjjeljmaa.Ref09
