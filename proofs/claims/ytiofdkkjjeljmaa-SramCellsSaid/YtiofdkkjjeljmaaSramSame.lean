/- sram.Same, Clone and Cells on separate parts. -/
import Derived.Test.YtiofdkkjjeljmaaSramPlays
import Derived.Test.YtiofdkkjjeljmaaClone
import Derived.Test.YtiofdkkjjeljmaaCellP
namespace Go.Proofs.Ytiofdkkjjeljmaa.Sram
set_option linter.unusedVariables false
set_option linter.unusedSimpArgs false
open Go.RowKit Go.Proofs.Ytiofdkkjjeljmaa.Lat Go.Proofs.Ytiofdkkjjeljmaa.Sep Go.Proofs.Ytiofdkkjjeljmaa.CellOf Go.Proofs.Ytiofdkkjjeljmaa.CellP Go.Proofs.Ytiofdkkjjeljmaa.Equal Go.Proofs.Ytiofdkkjjeljmaa.Floats

/-- The words, as cells from the head of their block on. -/
theorem ram_cat {w : World} {b R : Nat} {ws : List Int} (h : RamAt w b R ws) : CAt w (some ⟨R, 0, none⟩) (ws.map (Value.int .i64)) := by
  intro j u hj
  obtain ⟨z, hz, rfl⟩ := by simpa using hj
  have hl := (List.getElem?_eq_some_iff.1 hz).1
  refine ⟨_, rfl, ?_⟩
  rw [Addr.add_mid, Nat.zero_add, h.cell j hl]
  simp [List.getD_eq_getElem?_getD, hz]
set_option maxHeartbeats 1000000 in
set_option maxRecDepth 100000 in
theorem Same_walk2 (a b R Q : Nat) (p q : List Int) (w : World) (ha : RamAt w a R p) (hb : RamAt w b Q q) :
    Calls Try.prog 26 #[.pointer (some ⟨a, 0, none⟩), .pointer (some ⟨b, 0, none⟩)] w fun e w' => e = .returned (.bool (decide (p = q))) ∧ Drawn w w' := by
  obtain ⟨c, -, c0⟩ := ha.b0
  obtain ⟨d, -, d0⟩ := hb.b0
  have HE := Lib.hid (fun n => Equal_i p q (some ⟨R, 0, none⟩) (some ⟨Q, 0, none⟩) c d (w.drewN n) ((ram_cat ha).up ((Up.refl _).drewN n)) ((ram_cat hb).up ((Up.refl _).drewN n)) (by have := ha.le; omega))
  clear ha hb
  go_enter Try.func26, Try.ntmps26
  go_wp2_with fail
  go_quiet ((go_at_call 62; exact Calls.quiet_of ((HE.out _).mono fun _ _ h => h)))
  go_wp2
  go_ret
  exact ⟨rfl, _, rfl⟩
section
variable {P0 : Nat → Prop} {w0 w w' : World} {L : List Rg}
theorem Same_pp {a b : Nat} {p q : List Int} (h : St P0 w0 w (ram a p :: ram b q :: L)) :
    Calls Try.prog 26 #[.pointer (some ⟨a, 0, none⟩), .pointer (some ⟨b, 0, none⟩)] w fun e w' => e = .returned (.bool (decide (p = q))) ∧ St P0 w0 w' (ram a p :: ram b q :: L) := by
  obtain ⟨P, ⟨Q, Q2, hq, _, _, ⟨R, _, _, h1⟩, R3, R2, _, _, _, ⟨R4, _, _, h2⟩, _⟩, hs⟩ := St.step (L := [ram a p, ram b q]) h
  refine (Same_walk2 a b R R4 p q w h1 h2).mono ?_
  rintro e w' ⟨rfl, hd⟩
  exact ⟨rfl, h.drawn hd⟩
theorem Same_self {a : Nat} {p : List Int} (h : St P0 w0 w (ram a p :: L)) :
    Calls Try.prog 26 #[.pointer (some ⟨a, 0, none⟩), .pointer (some ⟨a, 0, none⟩)] w fun e w' => e = .returned (.bool true) ∧ St P0 w0 w' (ram a p :: L) := by
  obtain ⟨R, h1, hs⟩ := ram_step h
  refine (Same_walk2 a a R R p p w h1 h1).mono ?_
  rintro e w' ⟨rfl, hd⟩
  exact ⟨by simp, h.drawn hd⟩
set_option maxHeartbeats 1000000 in
theorem Clone_st {b : Nat} {ws : List Int} (h : St P0 w0 w (ram b ws :: L)) :
    Calls Try.prog 27 #[.pointer (some ⟨b, 0, none⟩)] w fun e w' => ∃ b', e = .returned (.pointer (some ⟨b', 0, none⟩)) ∧ St P0 w0 w' (ram b' ws :: ram b ws :: L) := by
  obtain ⟨R, h1, hs⟩ := ram_step h
  obtain ⟨c, hc, c0⟩ := h1.b0
  have HC := Lib.hid (Clone.Clone_int (ws.map (Value.int .i64)) ⟨R, 0, none⟩ ws.length c w ⟨by simp, oInt ws, fun _ => ⟨_, rfl, fun j u hu => by
    obtain ⟨ad, e, h2⟩ := ram_cat h1 j u hu
    cases e
    exact h2⟩⟩ (by have := h1.le; omega))
  have HR := Lib.hid h1
  have HS := Lib.hid h
  clear h h1 hs hc
  go_enter Try.func27, Try.ntmps27
  go_wp2_with (go_at_call 63; refine HC.out.mono ?_; rintro e w1 ⟨A', c', rfl, ho, hu⟩; have HO := Lib.hid ho; have HU := Lib.hid hu; clear ho hu)
  go_ret
  refine ⟨_, rfl, St.fresh (M := [ram w1.heap.size ws]) HS.out (HU.out.alloc _) ⟨fun k => w.heap.size ≤ k, No, fun k hk => hk, fun _ e => e.elim, fun _ _ e => e.elim, ?_, trivial⟩⟩
  have hpos := HR.out.pos
  obtain ⟨h2, h3⟩ := HO.out
  rcases h3 with ⟨_, h0⟩ | ⟨g, cap, cur, hv, hg, hh, hn, hm, hs, ht⟩
  · omega
  · cases hv
    have hlt := heap_lt hh
    have hnew := block_up ((Up.refl w1).alloc (.cells #[.slice (some ⟨g, 0, none⟩) ws.length c'] 113)) hh
    refine ⟨g, HU.out.size, hg, ⟨c', ⟨hn, (by unfold maxLen at hm; omega)⟩, block_new w1 _⟩, ⟨cur, fun i hi => ?_, hnew⟩, hpos, HR.out.le, by omega, HR.out.ok⟩
    have h5 : (cur.toList.take (ws.length * 1))[i]? = (ws.map (Value.int .i64))[i]? := by rw [ht]
    rw [List.getElem?_take, if_pos (by omega)] at h5
    simp at h5
    rw [h5]
    simp [List.getD_eq_getElem?_getD, hi]
theorem Cells_st {b : Nat} {ws : List Int} (h : St P0 w0 w (ram b ws :: L)) :
    Calls Try.prog 25 #[.pointer (some ⟨b, 0, none⟩)] w fun e w' => ∃ v, e = .returned v ∧ St P0 w0 w' (slc 48 1 v (cellsL ws ws.length).length (cellsL ws ws.length) :: ram b ws :: L) := by
  obtain ⟨R, h1, hs⟩ := ram_step h
  refine (Cells_ok b R ws w h1).mono ?_
  rintro e w' ⟨v, rfl, ho, hu⟩
  exact ⟨v, rfl, h.fresh (M := [slc _ _ _ _ _]) hu ⟨fun k => w.heap.size ≤ k, No, fun k hk => hk, fun _ e => e.elim, fun _ _ e => e.elim, slc_of_own ho (fun k hk => (ho.lt k hk).1), trivial⟩⟩
theorem ram_ok {b : Nat} {ws : List Int} (h : St P0 w0 w (ram b ws :: L)) : ∀ z ∈ ws, 0 ≤ z ∧ z ≤ 65535 := by
  obtain ⟨R, hr, hs⟩ := ram_step h
  exact hr.ok
theorem slc_cat {e n : Nat} {A : Option Addr} {c : Nat} {xs : List Value} {P : Nat → Prop} (h : (slc e 1 (.slice A n c) n xs).X w P) : CAt w A xs := by
  intro j u hj
  have hl := (List.getElem?_eq_some_iff.1 hj).1
  have h1 := (slc_one h).1
  obtain ⟨g, o, rfl, _, _, _, hc, _⟩ := slc_cells h (by omega)
  exact ⟨_, rfl, by rw [Addr.add_mid]; exact hc j u hj⟩
theorem cSame_st {u v : Value} {cs : List Value} {e f n : Nat} (h : St P0 w0 w (slc e 1 u n cs :: slc f 1 v n cs :: L)) (hs : ∀ u ∈ cs, Self u) (hl : n ≤ 1000000) :
    Calls Try.prog 24 #[u, v] w fun e' w' => e' = .returned (.bool true) ∧ St P0 w0 w' (slc e 1 u n cs :: slc f 1 v n cs :: L) := by
  obtain ⟨P, ⟨Q, Q2, _, _, _, h1, R3, R2, _, _, _, h2, _⟩, _⟩ := St.step (L := [slc e 1 u n cs, slc f 1 v n cs]) h
  obtain ⟨A, c, rfl, _⟩ := slc_form h1
  obtain ⟨B, d, rfl, _⟩ := slc_form h2
  have hn : cs.length = n := by simpa using (slc_one h1).1
  have h3 := cSame_walk cs A B c d w (slc_cat h1) (slc_cat h2) hs (by omega)
  rw [hn] at h3
  refine h3.mono ?_
  rintro e w' ⟨rfl, hu⟩
  exact ⟨rfl, h.more hu⟩
theorem cellsL_self (ws : List Int) (hw : ∀ z ∈ ws, 0 ≤ z ∧ z ≤ 65535) (hl : ws.length ≤ 65536) : ∀ i, i ≤ ws.length → ∀ u ∈ cellsL ws i, Self u
  | 0, _, u, hu => by simp [cellsL] at hu
  | i + 1, hi, u, hu => by
    unfold cellsL at hu
    rcases List.mem_append.1 hu with hu | hu
    · exact cellsL_self ws hw hl i (by omega) u hu
    · split at hu
      · simp at hu
      · obtain rfl := by simpa using hu
        have hz := hw (ws.getD i 0) (by rw [List.getD_eq_getElem?_getD, List.getElem?_eq_getElem (by omega)]; exact List.getElem_mem _)
        obtain ⟨k, hk⟩ := Int.eq_ofNat_of_zero_le hz.1
        refine ⟨_, _, rfl, eqself i (by omega), ?_⟩
        rw [List.getD_eq_getElem?_getD] at hk hz
        rw [hk]
        exact eqself k (by omega)
end
end Go.Proofs.Ytiofdkkjjeljmaa.Sram
