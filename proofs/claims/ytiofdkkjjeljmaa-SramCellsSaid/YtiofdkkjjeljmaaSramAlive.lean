/- cell.Same, sram.Same with nil, Clone of nil, and the chapter's example. -/
import Derived.Test.YtiofdkkjjeljmaaSramCells
import Derived.Test.YtiofdkkjjeljmaaEqual
import Derived.Test.YtiofdkkjjeljmaaSame3
namespace Go.Proofs.Ytiofdkkjjeljmaa.Sram
set_option linter.unusedVariables false
set_option linter.unusedSimpArgs false
open Go.RowKit Go.Proofs.Ytiofdkkjjeljmaa.Lat Go.Proofs.Ytiofdkkjjeljmaa.CellOf Go.Proofs.Ytiofdkkjjeljmaa.Equal Go.Proofs.Ytiofdkkjjeljmaa.Same3

theorem cSame_walk (cs : List Value) (A B : Option Addr) (c d : Nat) (w : World) (hA : CAt w A cs) (hB : CAt w B cs) (hs : ∀ u ∈ cs, Self u) (hl : cs.length ≤ 1000000) :
    Calls Try.prog 24 #[.slice A cs.length c, .slice B cs.length d] w fun e w' => e = .returned (.bool true) ∧ Up w w' := by
  have HE := Lib.hid (Equal_c cs A B c d w hA hB hs hl)
  clear hA hB hs hl
  generalize cs.length = n at *
  go_enter Try.func24, Try.ntmps24
  go_wp2_with (go_at_call 60; refine HE.out.mono ?_; rintro e w' ⟨rfl, hu⟩; have HU := Lib.hid hu; clear hu)
  go_ret
  exact ⟨rfl, HU.out⟩
theorem Clone_nil (w : World) : Calls Try.prog 27 #[.pointer none] w fun e w' => e = .returned (.pointer none) ∧ Up w w' := by
  go_enter Try.func27, Try.ntmps27
  go_wp2
  go_ret
  exact ⟨rfl, Up.refl _⟩
theorem Same_nn (w : World) : Calls Try.prog 26 #[.pointer none, .pointer none] w fun e w' => e = .returned (.bool true) ∧ Up w w' := by
  go_enter Try.func26, Try.ntmps26
  go_wp2
  go_ret
  exact ⟨rfl, Up.refl _⟩
theorem run_eql_none_ptr {P : Program} (w : World) {tp te : TypeId} (a : Addr) (hp : P.underlying tp = some (.pointer te)) :
    (binOp .eql tp (.pointer none) (.pointer (some a))).run P w = .ok (.bool false) w := by
  have h : ∀ d : Nat, (Op.equalIn (d + 1) tp (.pointer none) (.pointer (some a))).run P w = .ok false w := fun d => by
    simp [Op.equalIn, run_underlying hp]
  simp only [binOp]
  simp [Op.equal, Op.maxDepth, h 9999]
theorem Same_np (b : Nat) (w : World) : Calls Try.prog 26 #[.pointer none, .pointer (some ⟨b, 0, none⟩)] w fun e w' => e = .returned (.bool false) ∧ Up w w' := by
  have hn := fun wx => run_eql_none_ptr (P := Try.prog) wx (⟨b, 0, none⟩ : Addr) Try.underlying25
  go_enter Try.func26, Try.ntmps26
  go_wp2
  go_ret
  exact ⟨rfl, Up.refl _⟩
set_option maxRecDepth 100000 in
theorem Same_pn (b : Nat) (w : World) : Calls Try.prog 26 #[.pointer (some ⟨b, 0, none⟩), .pointer none] w fun e w' => e = .returned (.bool false) ∧ Up w w' := by
  go_enter Try.func26, Try.ntmps26
  go_wp2
  go_ret
  exact ⟨rfl, Up.refl _⟩
theorem CAt.of_own {w : World} {base n : Nat} {A : Option Addr} {m c : Nat} {t : TypeId} {cs : List Value} (h : w.ownsRow base t 1 (.slice A m c) n cs) : CAt w A cs := by
  intro j u hj
  have h2 := h.2
  rcases h2 with ⟨hv, h0⟩ | ⟨g, cap, cur, hv, _⟩
  · have := (List.getElem?_eq_some_iff.1 hj).1
    have h3 := h.1
    simp [h0] at h3
    subst h3
    simp at this
  · cases hv
    exact ⟨_, rfl, h.cells rfl j u hj⟩
theorem own_len {w : World} {base n : Nat} {v : Value} {t : TypeId} {cs : List Value} (h : w.ownsRow base t 1 v n cs) : ∃ A c, v = .slice A n c := by
  have h2 := h.2
  rcases h2 with ⟨rfl, rfl⟩ | ⟨g, cap, cur, rfl, _⟩
  · exact ⟨_, _, rfl⟩
  · exact ⟨_, _, rfl⟩
theorem store_eg : fillI (List.replicate 4 0) 2 1 9 = ([0, 0, 9, 0], 0) := by decide +kernel
theorem span_eg : spanI [0, 0, 9, 0] 1 2 = ([0, 9], 0) := by decide +kernel
theorem cells_eg : cellsL [0, 0, 9, 0] 4 = [.complex .f64 4611686018427387904 4621256167635550208] := by
  have h1 : floatOfInt .f64 ((2 : Nat) : Int) = 4611686018427387904 := by decide +kernel
  have h2 : floatOfInt .f64 9 = 4621256167635550208 := by decide +kernel
  rw [← h1, ← h2]
  rfl
theorem Store_eg (b R : Nat) (w : World) (h : RamAt w b R (List.replicate 4 0)) : Calls Try.prog 18 #[.pointer (some ⟨b, 0, none⟩), .int .i64 2, .int .i64 9] w fun e w' => e = .returned (.int .i64 0) ∧ RamAt w' b R [0, 0, 9, 0] ∧ Off1 R w w' := by
  have h1 := Store_walk b R _ 2 9 w h
  rw [store_eg] at h1
  exact h1
theorem Span_eg (b R : Nat) (w : World) (h : RamAt w b R [0, 0, 9, 0]) : Calls Try.prog 53 #[.pointer (some ⟨b, 0, none⟩), .int .i64 1, .int .i64 2] w fun e w' => ∃ A n c, e = .returned (.tuple #[.slice A n c, .int .i64 0]) ∧ LAt w' (fun k => w.heap.size ≤ k) (.slice A n c) [0, 9] ∧ Up w w' := by
  have h1 := Span_walk b R _ 1 2 w h
  rw [span_eg] at h1
  refine h1.mono ?_
  rintro e w' ⟨v, rfl, hl, hu⟩
  obtain ⟨A, c, rfl⟩ := hl.len
  exact ⟨_, _, _, rfl, hl, hu⟩
theorem Cells_eg (b R : Nat) (w : World) (h : RamAt w b R [0, 0, 9, 0]) : Calls Try.prog 25 #[.pointer (some ⟨b, 0, none⟩)] w fun e w' => ∃ A c, e = .returned (.slice A 1 c) ∧ CAt w' A [.complex .f64 4611686018427387904 4621256167635550208] ∧ Up w w' := by
  have h1 := Cells_ok b R _ w h
  rw [show ([0, 0, 9, 0] : List Int).length = 4 from rfl, cells_eg] at h1
  refine h1.mono ?_
  rintro e w' ⟨v, rfl, hl, hu⟩
  obtain ⟨A, c, rfl⟩ := own_len hl
  exact ⟨A, c, rfl, CAt.of_own hl, hu⟩
theorem self_eg : ∀ u ∈ ([.complex .f64 4611686018427387904 4621256167635550208] : List Value), Self u := by
  intro u hu
  obtain rfl := by simpa using hu
  exact ⟨_, _, rfl, by decide +kernel, by decide +kernel⟩
theorem Same_09 (P : Nat → Prop) (A0 : Option Addr) (n0 c0 : Nat) (w : World) (h0 : LAt w P (.slice A0 n0 c0) [0, 9]) :
    Calls Try.prog 22 #[.slice A0 n0 c0, .slice (some ⟨w.heap.size, 0, none⟩) 2 2] (w.alloc (.cells #[.int .i64 0, .int .i64 9] 3)) fun e w' => e = .returned (.bool true) ∧ Up w w' := by
  have hu := (Up.refl w).alloc (.cells #[.int .i64 0, .int .i64 9] 3)
  have hm : LAt (w.alloc (.cells #[.int .i64 0, .int .i64 9] 3)) (fun _ => True) (.slice (some ⟨w.heap.size, 0, none⟩) 2 2) [0, 9] :=
    LAt.of_block (q := [0, 9]) (rest := []) (block_new w (.cells #[.int .i64 0, .int .i64 9] 3)) (by simp) trivial
  exact (Same_l _ _ _ _ _ _ _ _ _ _ _ (h0.up hu) hm (by simp) (by simp)).mono fun _ _ hh => ⟨hh.1, hu.trans hh.2⟩
theorem cSame_eg (A : Option Addr) (c : Nat) (w : World) (h : CAt w A [.complex .f64 4611686018427387904 4621256167635550208]) :
    Calls Try.prog 24 #[.slice A 1 c, .slice (some ⟨w.heap.size, 0, none⟩) 1 1] (w.alloc (.cells #[.complex .f64 4611686018427387904 4621256167635550208] 48)) fun e w' => e = .returned (.bool true) ∧ Up w w' := by
  have hu := (Up.refl w).alloc (.cells #[.complex .f64 4611686018427387904 4621256167635550208] 48)
  have hB : CAt (w.alloc (.cells #[.complex .f64 4611686018427387904 4621256167635550208] 48)) (some ⟨w.heap.size, 0, none⟩) [.complex .f64 4611686018427387904 4621256167635550208] := by
    intro j u hj
    match j, hj with
    | 0, hj =>
      obtain rfl : _ = u := by simpa using hj
      exact ⟨_, rfl, cell_of_block (block_new w _) 0⟩
    | j + 1, hj => simp at hj
  exact (cSame_walk _ A _ c 1 _ (h.up hu) hB self_eg (by simp)).mono fun _ _ hh => ⟨hh.1, hu.trans hh.2⟩
set_option maxHeartbeats 4000000 in
theorem alive_walk (w : World) : Calls Try.prog 14 #[] w fun e w' => e = .returned (.bool true) ∧ Up w w' := by
  go_enter Try.func14, Try.ntmps14
  go_wp2_with (first
    | (go_at_call 15; refine (new_ok 4 (by omega) (by omega) _).mono ?_; rintro e w1 ⟨b, R, rfl, hr, hu, hb, hR⟩; have HR := Lib.hid hr; have HU := Lib.hid hu; have HRb := Lib.hid hR; clear hr hu hb hR)
    | (go_at_call 18; refine (Store_eg b R _ HR.out).mono ?_; rintro e w2 ⟨rfl, hr, ho⟩; have HR2 := Lib.hid hr; have HU2 := Lib.hid (Up.of_off1 HU.out ho HRb.out); clear hr ho)
    | (go_at_call 53; refine (Span_eg b R _ HR2.out).mono ?_; rintro e w3 ⟨A, n, c, rfl, hl, hu⟩; have HL := Lib.hid hl; have HR3 := Lib.hid (HR2.out.up hu); have HU3 := Lib.hid (Up.trans HU2.out hu); clear hl hu)
    | (go_at_call 22; refine (Same_09 _ _ _ _ _ HL.out).mono ?_; rintro e w4 ⟨rfl, hu⟩; have HR4 := Lib.hid (HR3.out.up hu); have HU4 := Lib.hid (Up.trans HU3.out hu); clear hu)
    | (go_at_call 25; refine (Cells_eg b R _ HR4.out).mono ?_; rintro e w5 ⟨A5, c5, rfl, hc, hu⟩; have HC := Lib.hid hc; have HU5 := Lib.hid (Up.trans HU4.out hu); clear hc hu)
    | (go_at_call 24; refine (cSame_eg _ _ _ HC.out).mono ?_; rintro e w6 ⟨rfl, hu⟩; have HU6 := Lib.hid (Up.trans HU5.out hu); clear hu))
  go_ret
  exact ⟨rfl, HU6.out⟩
end Go.Proofs.Ytiofdkkjjeljmaa.Sram
