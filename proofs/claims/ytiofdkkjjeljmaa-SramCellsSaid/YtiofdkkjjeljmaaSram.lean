/- Contracts of the package sram: New, Size, wrong, Load, Fill, Store. -/
import Derived.Test.YtiofdkkjjeljmaaProg
import Derived.Test.YtiofdkkjjeljmaaBase
import Derived.Deep.QuietTactic
import Derived.BigQuiet
import Derived.Deep.RegionHeld3
import Derived.Laws.MakeOwn
namespace Go.Proofs.Ytiofdkkjjeljmaa.Sram
set_option linter.unusedVariables false
set_option linter.unusedSimpArgs false
open Go.RowKit

/-- A memory: block b holds its field, block R its words. -/
structure RamAt (w : World) (b R : Nat) (ws : List Int) : Prop where
  hb : ∃ c, (ws.length ≤ c ∧ c ≤ 9223372036854775807) ∧ w.heap[b]? = some (.cells #[.slice (some ⟨R, 0, none⟩) ws.length c] 113 (0, 0))
  hR : ∃ cur : Array Value, (∀ i, i < ws.length → cur[i]? = some (.int .i64 (ws.getD i 0))) ∧ w.heap[R]? = some (.cells cur 3 (0, 0))
  pos : 1 ≤ ws.length
  le : ws.length ≤ 65536
  ne : b ≠ R
  ok : ∀ z ∈ ws, 0 ≤ z ∧ z ≤ 65535
/-- Off one block nothing old has turned. -/
structure Off1 (R : Nat) (w w' : World) : Prop where
  os : w'.os = w.os
  tape : w'.tape = w.tape
  output : w'.output = w.output
  size : w.heap.size ≤ w'.heap.size
  block : ∀ k, k < w.heap.size → k ≠ R → w'.heap[k]? = w.heap[k]?
theorem Off1.refl (R : Nat) (w : World) : Off1 R w w := ⟨rfl, rfl, rfl, Nat.le_refl _, fun _ _ _ => rfl⟩
theorem Off1.trans {R : Nat} {a w w' : World} (h : Off1 R a w) (k : Off1 R w w') : Off1 R a w' :=
  ⟨k.os.trans h.os, k.tape.trans h.tape, k.output.trans h.output, Nat.le_trans h.size k.size, fun q hq hb => (k.block q (Nat.lt_of_lt_of_le hq h.size) hb).trans (h.block q hq hb)⟩
theorem Off1.of_up {R : Nat} {w w' : World} (h : Up w w') : Off1 R w w' := ⟨h.os, h.tape, h.output, h.size, fun k hk _ => h.block k hk⟩
theorem heap_other {w : World} {b i k : Nat} (v : Value) (h : k ≠ b) : (w.setCell ⟨b, i, none⟩ v).heap[k]? = w.heap[k]? := by
  simp only [World.setCell]
  rw [Array.getElem?_modify]
  simp [Ne.symm h]
theorem Off1.set {R : Nat} {a w : World} (h : Off1 R a w) (i : Nat) (v : Value) : Off1 R a (w.setCell ⟨R, i, none⟩ v) :=
  ⟨h.os, h.tape, h.output, by simpa [World.setCell] using h.size, fun k hk hR => (heap_other v hR).trans (h.block k hk hR)⟩
theorem Up.of_off1 {R : Nat} {a w w' : World} (h : Up a w) (ho : Off1 R w w') (hR : a.heap.size ≤ R) : Up a w' :=
  ⟨ho.os.trans h.os, ho.tape.trans h.tape, ho.output.trans h.output, Nat.le_trans h.size ho.size, fun k hk => (ho.block k (Nat.lt_of_lt_of_le hk h.size) (by omega)).trans (h.block k hk)⟩
theorem RamAt.up {w w' : World} {b R : Nat} {ws : List Int} (h : RamAt w b R ws) (hu : Up w w') : RamAt w' b R ws :=
  ⟨by obtain ⟨c, h1, h2⟩ := h.hb; exact ⟨c, h1, block_up hu h2⟩, by obtain ⟨c, h1, h2⟩ := h.hR; exact ⟨c, h1, block_up hu h2⟩, h.pos, h.le, h.ne, h.ok⟩
theorem RamAt.b0 {w : World} {b R : Nat} {ws : List Int} (h : RamAt w b R ws) : ∃ c, (ws.length ≤ c ∧ c ≤ 9223372036854775807) ∧ w.cell? ⟨b, 0, none⟩ = some (.slice (some ⟨R, 0, none⟩) ws.length c) := by
  obtain ⟨c, h1, h2⟩ := h.hb
  exact ⟨c, h1, cell_of_block h2 0⟩
theorem RamAt.free {w : World} {b R : Nat} {ws : List Int} (h : RamAt w b R ws) (i : Nat) : w.frozen? ⟨R, i, none⟩ = false := by
  obtain ⟨c, h1, h2⟩ := h.hR
  exact free_of_block h2 i
theorem RamAt.cell {w : World} {b R : Nat} {ws : List Int} (h : RamAt w b R ws) (i : Nat) (hi : i < ws.length) : w.cell? ⟨R, i, none⟩ = some (.int .i64 (ws.getD i 0)) := by
  obtain ⟨c, h1, h2⟩ := h.hR
  rw [cell_of_block h2, h1 i hi]
theorem RamAt.lt {w : World} {b R : Nat} {ws : List Int} (h : RamAt w b R ws) : b < w.heap.size ∧ R < w.heap.size := by
  have h0 := h.pos
  obtain ⟨c, h1, h2⟩ := h.hb
  exact ⟨World.block_lt_of_cell? w _ (cell_of_block h2 0), World.block_lt_of_cell? w _ (h.cell 0 (by omega))⟩
theorem RamAt.off {w w' : World} {b R R2 : Nat} {ws : List Int} (h : RamAt w b R ws) (ho : Off1 R2 w w') (h1 : b ≠ R2) (h2 : R ≠ R2) : RamAt w' b R ws :=
  ⟨by obtain ⟨c, h3, h4⟩ := h.hb; exact ⟨c, h3, (ho.block b h.lt.1 h1).trans h4⟩, by obtain ⟨c, h3, h4⟩ := h.hR; exact ⟨c, h3, (ho.block R h.lt.2 h2).trans h4⟩, h.pos, h.le, h.ne, h.ok⟩
theorem RamAt.set {w : World} {b R i : Nat} {ws : List Int} {z : Int} (h : RamAt w b R ws) (hz : 0 ≤ z ∧ z ≤ 65535) : RamAt (w.setCell ⟨R, i, none⟩ (.int .i64 z)) b R (ws.set i z) := by
  refine ⟨?_, ?_, by rw [List.length_set]; exact h.pos, by rw [List.length_set]; exact h.le, h.ne, fun x hx => ?_⟩
  · obtain ⟨c, h3, h4⟩ := h.hb
    exact ⟨c, by rw [List.length_set]; exact h3, by rw [heap_other _ h.ne, h4, List.length_set]⟩
  · obtain ⟨c, h3, h4⟩ := h.hR
    refine ⟨_, fun j hj => ?_, heap_setCell_same h4 _⟩
    rw [List.length_set] at hj
    have h5 := h3 j hj
    have hlt := (Array.getElem?_eq_some_iff.1 h5).1
    rw [Array.getElem?_setIfInBounds, List.getD_eq_getElem?_getD, List.getElem?_set]
    by_cases e : i = j
    · subst e
      simp [hj, hlt]
    · rw [if_neg e, if_neg e, h5, List.getD_eq_getElem?_getD]
  · rcases List.mem_or_eq_of_mem_set hx with hx | rfl
    · exact h.ok x hx
    · exact hz

theorem info_int : (Try.prog.info? 3).map (fun i => (i.zero, i.size, i.bytes)) = some (some (.int .i64 0), 1, 8) := by kernel_rfl
theorem made_ints (n : Nat) : madeCells (Value.cells (.int .i64 0)) (n * 1) = ((List.replicate n (0 : Int)).map (Value.int .i64)).toArray := by
  apply Array.ext
  · simp [madeCells]
  · intro i h1 h2
    simp [madeCells, Value.cells, Nat.mod_one]
theorem run_mk (n : Nat) (h2 : n ≤ 65536) (w : World) : (Instr.makeSlice 31 (.int .i64 n) (.int .i64 n)).run Try.prog w = .ok (.slice (some ⟨w.heap.size, 0, none⟩) n n) (w.alloc (.cells ((List.replicate n (0 : Int)).map (Value.int .i64)).toArray 3)) := by
  obtain ⟨i, hi, hz, hs, hb⟩ : ∃ i, Try.prog.info? 3 = some i ∧ i.zero = some (.int .i64 0) ∧ i.size = 1 ∧ i.bytes = 8 := by
    have h := info_int
    cases hi : Try.prog.info? 3 with
    | none => rw [hi] at h; cases h
    | some i =>
      rw [hi] at h
      simp at h
      exact ⟨i, rfl, h.1, h.2.1, h.2.2⟩
  have h := run_makeSlice w 31 3 i (.int .i64 0) Try.underlying31 hi hz .i64 .i64 n n (by omega) (Int.le_refl _) (by rw [hs]; simp; omega) (by rw [hb]; omega) (by omega)
  rw [hs, Int.toNat_natCast, made_ints] at h
  exact h
theorem new_no (n : Int) (hn : n < 1 ∨ 65536 < n) (w : World) : Calls Try.prog 15 #[.int .i64 n] w fun e w' => e = .returned (.tuple #[.pointer none, .int .i64 2]) ∧ Up w w' := by
  by_cases h1 : n < 1
  · go_enter Try.func15, Try.ntmps15
    go_wp2
    go_ret2
    exact ⟨rfl, Up.refl _⟩
  · have h0 : decide (n < 1) = false := decide_eq_false h1
    have h2 : n > 65536 := by omega
    go_enter Try.func15, Try.ntmps15
    go_wp2
    go_ret2
    exact ⟨rfl, Up.refl _⟩
set_option maxHeartbeats 1000000 in
theorem new_ok (n : Nat) (h1 : 1 ≤ n) (h2 : n ≤ 65536) (w : World) : Calls Try.prog 15 #[.int .i64 n] w fun e w' => ∃ b R, e = .returned (.tuple #[.pointer (some ⟨b, 0, none⟩), .int .i64 0]) ∧ RamAt w' b R (List.replicate n 0) ∧ Up w w' ∧ w.heap.size ≤ b ∧ w.heap.size ≤ R := by
  have d1 : decide ((n : Int) < 1) = false := decide_eq_false (by omega)
  have d2 : decide ((n : Int) > 65536) = false := decide_eq_false (by omega)
  go_enter Try.func15, Try.ntmps15
  have hm := fun wx => run_mk n h2 wx
  go_wp2
  go_ret2
  have hs : (w.alloc (.cells (Array.replicate n (Value.int .i64 0)) 3)).heap.size = w.heap.size + 1 := by simp
  have k1 := block_new (w.alloc (.cells (Array.replicate n (Value.int .i64 0)) 3)) (.cells #[.slice (some ⟨w.heap.size, 0, none⟩) n n] 113)
  rw [hs] at k1
  have k2 := block_up ((Up.refl (w.alloc (.cells (Array.replicate n (Value.int .i64 0)) 3))).alloc (.cells #[.slice (some ⟨w.heap.size, 0, none⟩) n n] 113)) (block_new w (.cells (Array.replicate n (Value.int .i64 0)) 3))
  refine ⟨w.heap.size + 1, w.heap.size, rfl, ⟨?_, ?_, by simpa using h1, by simpa using h2, by omega, fun z hz => by obtain rfl := (List.mem_replicate.1 hz).2; omega⟩, ((Up.refl w).alloc _).alloc _, by omega, by omega⟩
  · exact ⟨n, by simp; omega, by rw [List.length_replicate]; exact k1⟩
  · refine ⟨_, fun i hi => ?_, k2⟩
    rw [List.length_replicate] at hi
    simp [hi, List.getD_eq_getElem?_getD]
theorem size_walk (b R : Nat) (ws : List Int) (w : World) (h : RamAt w b R ws) : Calls Try.prog 20 #[.pointer (some ⟨b, 0, none⟩)] w fun e w' => e = .returned (.int .i64 ws.length) ∧ Up w w' := by
  obtain ⟨c, -, c0⟩ := h.b0
  clear h
  go_enter Try.func20, Try.ntmps20
  go_wp2
  go_ret
  exact ⟨rfl, Up.refl _⟩
theorem size_nil (w : World) : Calls Try.prog 20 #[.pointer none] w fun e w' => e = .returned (.int .i64 0) ∧ Up w w' := by
  go_enter Try.func20, Try.ntmps20
  go_wp2
  go_ret
  exact ⟨rfl, Up.refl _⟩
/-- Why a run of words can't be touched. -/
def wrongI (len : Nat) (a n : Int) : Int := if n < 0 then 2 else if a < 0 ∨ (len : Int) < a ∨ (len : Int) - a < n then 4 else 0
theorem wrong_nil (a n : Int) (w : World) : Calls Try.prog 55 #[.pointer none, .int .i64 a, .int .i64 n] w fun e w' => e = .returned (.int .i64 1) ∧ w' = w := by
  go_enter Try.func55, Try.ntmps55
  go_wp2
  go_ret
  exact ⟨rfl, rfl⟩
theorem wrong_walk (b R : Nat) (ws : List Int) (a n : Int) (w : World) (h : RamAt w b R ws) : Calls Try.prog 55 #[.pointer (some ⟨b, 0, none⟩), .int .i64 a, .int .i64 n] w fun e w' => e = .returned (.int .i64 (wrongI ws.length a n)) ∧ w' = w := by
  obtain ⟨c, -, c0⟩ := h.b0
  have hle := h.le
  clear h
  by_cases h1 : n < 0
  · have E : wrongI ws.length a n = 2 := if_pos h1
    rw [E]
    clear E
    go_enter Try.func55, Try.ntmps55
    go_wp2
    go_ret
    exact ⟨rfl, rfl⟩
  · have h1' : decide (n < 0) = false := decide_eq_false h1
    by_cases h2 : a < 0
    · have E : wrongI ws.length a n = 4 := by unfold wrongI; rw [if_neg h1, if_pos (.inl h2)]
      rw [E]
      clear E h1
      go_enter Try.func55, Try.ntmps55
      go_wp2
      go_ret
      exact ⟨rfl, rfl⟩
    · have h2' : decide (a < 0) = false := decide_eq_false h2
      by_cases h3 : a > (ws.length : Int)
      · have E : wrongI ws.length a n = 4 := by unfold wrongI; rw [if_neg h1, if_pos (.inr (.inl h3))]
        rw [E]
        clear E h1 h2
        go_enter Try.func55, Try.ntmps55
        go_wp2
        go_ret
        exact ⟨rfl, rfl⟩
      · have h3' : decide (a > (ws.length : Int)) = false := decide_eq_false h3
        have ew : wrap64 ((ws.length : Int) - a) = (ws.length : Int) - a := by unfold wrap64; omega
        by_cases h4 : n > (ws.length : Int) - a
        · have E : wrongI ws.length a n = 4 := by unfold wrongI; rw [if_neg h1, if_pos (.inr (.inr h4))]
          rw [E]
          clear E
          go_enter Try.func55, Try.ntmps55
          go_wp2
          go_ret
          exact ⟨rfl, rfl⟩
        · have E : wrongI ws.length a n = 0 := by unfold wrongI; rw [if_neg h1, if_neg (by omega)]
          have h4' : decide (n > (ws.length : Int) - a) = false := decide_eq_false h4
          rw [E]
          clear E
          go_enter Try.func55, Try.ntmps55
          go_wp2
          go_ret
          exact ⟨rfl, rfl⟩
/-- A word, and the error. -/
def loadI (ws : List Int) (a : Int) : Int × Int := if 0 ≤ a ∧ a < ws.length then (ws.getD a.toNat 0, 0) else (0, 4)
theorem wrongI_pos {len : Nat} {a : Int} (h : 0 ≤ a ∧ a < len) : wrongI len a 1 = 0 := by unfold wrongI; rw [if_neg (by omega), if_neg (by omega)]
theorem wrongI_neg {len : Nat} {a : Int} (h : ¬ (0 ≤ a ∧ a < len)) : wrongI len a 1 = 4 := by unfold wrongI; rw [if_neg (by omega), if_pos (by omega)]
theorem load_nil (a : Int) (w : World) : Calls Try.prog 17 #[.pointer none, .int .i64 a] w fun e w' => e = .returned (.tuple #[.int .i64 0, .int .i64 1]) ∧ Up w w' := by
  go_enter Try.func17, Try.ntmps17
  go_wp2_with (go_at_call 55; refine (wrong_nil _ _ _).mono ?_; rintro e w' ⟨rfl, rfl⟩)
  go_ret2
  exact ⟨rfl, Up.refl _⟩
theorem load_walk (b R : Nat) (ws : List Int) (a : Int) (w : World) (h : RamAt w b R ws) : Calls Try.prog 17 #[.pointer (some ⟨b, 0, none⟩), .int .i64 a] w fun e w' => e = .returned (.tuple #[.int .i64 (loadI ws a).1, .int .i64 (loadI ws a).2]) ∧ Up w w' := by
  have HW := wrong_walk b R ws a 1 w h
  by_cases ha : 0 ≤ a ∧ a < ws.length
  · have E : loadI ws a = (ws.getD a.toNat 0, 0) := if_pos ha
    rw [E]
    rw [wrongI_pos ha] at HW
    have HW := Lib.hid HW
    obtain ⟨i, rfl⟩ := Int.eq_ofNat_of_zero_le ha.1
    have hi : i < ws.length := by omega
    rw [Int.toNat_natCast]
    obtain ⟨c, -, c0⟩ := h.b0
    have cR := h.cell i hi
    have i0 : (0 : Int) ≤ (i : Int) := by omega
    have i1 : (i : Int) < (ws.length : Int) := by omega
    have hle := h.le
    clear h E
    generalize ws.getD i 0 = z at *
    go_enter Try.func17, Try.ntmps17
    go_wp2_with (go_at_call 55; refine HW.out.mono ?_; rintro e w' ⟨rfl, rfl⟩)
    go_ret2
    exact ⟨rfl, Up.refl _⟩
  · have E : loadI ws a = (0, 4) := if_neg ha
    rw [E]
    rw [wrongI_neg ha] at HW
    have HW := Lib.hid HW
    clear h E ha
    go_enter Try.func17, Try.ntmps17
    go_wp2_with (go_at_call 55; refine HW.out.mono ?_; rintro e w' ⟨rfl, rfl⟩)
    go_ret2
    exact ⟨rfl, Up.refl _⟩
end Go.Proofs.Ytiofdkkjjeljmaa.Sram
