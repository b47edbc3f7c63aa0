/- MB: the texts Sram, Sram2, Sram3, SramDo, SramCells, Same3, SramAlive, SramPure, SramSt, SramKeeps, SramPlays, SramSame in one (merge.py). -/
import Derived.Test.YtlefefcakffepaaProg
import Derived.Test.YtlefefcakffepaaBase
import Derived.Deep.QuietTactic
import Derived.BigQuiet
import Derived.Deep.RegionHeld3
import Derived.Laws.MakeOwn
import Derived.Test.YtlefefcakffepaaMA
import Derived.Laws.CopyOwn
import Derived.Deep.Cut
import Derived.Laws.AppendOwnNone
import Derived.Deep.AppendLies
import Derived.Test.YtlefefcakffepaaPBusPlaysx2
import Derived.Test.YtlefefcakffepaaWMore
import Derived.Test.YtlefefcakffepaaOpen
/- Contracts of the package sram: New, Size, wrong, Load, Fill, Store. -/
namespace Go.Proofs.Ytlefefcakffepaa.Sram
set_option linter.unusedVariables false
set_option linter.unusedSimpArgs false
open Go.RowKit

/-- A memory: block b holds its field, block R its words. -/
structure RamAt (w : World) (b R : Nat) (ws : List Int) : Prop where
  hb : ∃ c, (ws.length ≤ c ∧ c ≤ 9223372036854775807) ∧ w.heap[b]? = some (.cells #[.slice (some ⟨R, 0, none⟩) ws.length c] 118 (0, 0))
  hR : ∃ cur : Array Value, (∀ i, i < ws.length → cur[i]? = some (.int .i64 (ws.getD i 0))) ∧ w.heap[R]? = some (.cells cur 3 (0, 0))
  pos : 1 ≤ ws.length
  le : ws.length ≤ 65536
  ne : b ≠ R
  ok : ∀ z ∈ ws, 0 ≤ z ∧ z ≤ 65535
/-- Off one block nothing old has turned. -/
structure Off1 (R : Nat) (w w' : World) : Prop where
  os : w'.os = w.os
  tape : w'.tape = w.tape
  output : w'.output = w.output
  size : w.heap.size ≤ w'.heap.size
  block : ∀ k, k < w.heap.size → k ≠ R → w'.heap[k]? = w.heap[k]?
theorem Off1.refl (R : Nat) (w : World) : Off1 R w w := ⟨rfl, rfl, rfl, Nat.le_refl _, fun _ _ _ => rfl⟩
theorem Off1.trans {R : Nat} {a w w' : World} (h : Off1 R a w) (k : Off1 R w w') : Off1 R a w' :=
  ⟨k.os.trans h.os, k.tape.trans h.tape, k.output.trans h.output, Nat.le_trans h.size k.size, fun q hq hb => (k.block q (Nat.lt_of_lt_of_le hq h.size) hb).trans (h.block q hq hb)⟩
theorem Off1.of_up {R : Nat} {w w' : World} (h : Up w w') : Off1 R w w' := ⟨h.os, h.tape, h.output, h.size, fun k hk _ => h.block k hk⟩
theorem heap_other {w : World} {b i k : Nat} (v : Value) (h : k ≠ b) : (w.setCell ⟨b, i, none⟩ v).heap[k]? = w.heap[k]? := by
  simp only [World.setCell]
  rw [Array.getElem?_modify]
  simp [Ne.symm h]
theorem Off1.set {R : Nat} {a w : World} (h : Off1 R a w) (i : Nat) (v : Value) : Off1 R a (w.setCell ⟨R, i, none⟩ v) :=
  ⟨h.os, h.tape, h.output, by simpa [World.setCell] using h.size, fun k hk hR => (heap_other v hR).trans (h.block k hk hR)⟩
theorem Up.of_off1 {R : Nat} {a w w' : World} (h : Up a w) (ho : Off1 R w w') (hR : a.heap.size ≤ R) : Up a w' :=
  ⟨ho.os.trans h.os, ho.tape.trans h.tape, ho.output.trans h.output, Nat.le_trans h.size ho.size, fun k hk => (ho.block k (Nat.lt_of_lt_of_le hk h.size) (by omega)).trans (h.block k hk)⟩
theorem RamAt.up {w w' : World} {b R : Nat} {ws : List Int} (h : RamAt w b R ws) (hu : Up w w') : RamAt w' b R ws :=
  ⟨by obtain ⟨c, h1, h2⟩ := h.hb; exact ⟨c, h1, block_up hu h2⟩, by obtain ⟨c, h1, h2⟩ := h.hR; exact ⟨c, h1, block_up hu h2⟩, h.pos, h.le, h.ne, h.ok⟩
theorem RamAt.b0 {w : World} {b R : Nat} {ws : List Int} (h : RamAt w b R ws) : ∃ c, (ws.length ≤ c ∧ c ≤ 9223372036854775807) ∧ w.cell? ⟨b, 0, none⟩ = some (.slice (some ⟨R, 0, none⟩) ws.length c) := by
  obtain ⟨c, h1, h2⟩ := h.hb
  exact ⟨c, h1, cell_of_block h2 0⟩
theorem RamAt.free {w : World} {b R : Nat} {ws : List Int} (h : RamAt w b R ws) (i : Nat) : w.frozen? ⟨R, i, none⟩ = false := by
  obtain ⟨c, h1, h2⟩ := h.hR
  exact free_of_block h2 i
theorem RamAt.cell {w : World} {b R : Nat} {ws : List Int} (h : RamAt w b R ws) (i : Nat) (hi : i < ws.length) : w.cell? ⟨R, i, none⟩ = some (.int .i64 (ws.getD i 0)) := by
  obtain ⟨c, h1, h2⟩ := h.hR
  rw [cell_of_block h2, h1 i hi]
theorem RamAt.lt {w : World} {b R : Nat} {ws : List Int} (h : RamAt w b R ws) : b < w.heap.size ∧ R < w.heap.size := by
  have h0 := h.pos
  obtain ⟨c, h1, h2⟩ := h.hb
  exact ⟨World.block_lt_of_cell? w _ (cell_of_block h2 0), World.block_lt_of_cell? w _ (h.cell 0 (by omega))⟩
theorem RamAt.off {w w' : World} {b R R2 : Nat} {ws : List Int} (h : RamAt w b R ws) (ho : Off1 R2 w w') (h1 : b ≠ R2) (h2 : R ≠ R2) : RamAt w' b R ws :=
  ⟨by obtain ⟨c, h3, h4⟩ := h.hb; exact ⟨c, h3, (ho.block b h.lt.1 h1).trans h4⟩, by obtain ⟨c, h3, h4⟩ := h.hR; exact ⟨c, h3, (ho.block R h.lt.2 h2).trans h4⟩, h.pos, h.le, h.ne, h.ok⟩
theorem RamAt.set {w : World} {b R i : Nat} {ws : List Int} {z : Int} (h : RamAt w b R ws) (hz : 0 ≤ z ∧ z ≤ 65535) : RamAt (w.setCell ⟨R, i, none⟩ (.int .i64 z)) b R (ws.set i z) := by
  refine ⟨?_, ?_, by rw [List.length_set]; exact h.pos, by rw [List.length_set]; exact h.le, h.ne, fun x hx => ?_⟩
  · obtain ⟨c, h3, h4⟩ := h.hb
    exact ⟨c, by rw [List.length_set]; exact h3, by rw [heap_other _ h.ne, h4, List.length_set]⟩
  · obtain ⟨c, h3, h4⟩ := h.hR
    refine ⟨_, fun j hj => ?_, heap_setCell_same h4 _⟩
    rw [List.length_set] at hj
    have h5 := h3 j hj
    have hlt := (Array.getElem?_eq_some_iff.1 h5).1
    rw [Array.getElem?_setIfInBounds, List.getD_eq_getElem?_getD, List.getElem?_set]
    by_cases e : i = j
    · subst e
      simp [hj, hlt]
    · rw [if_neg e, if_neg e, h5, List.getD_eq_getElem?_getD]
  · rcases List.mem_or_eq_of_mem_set hx with hx | rfl
    · exact h.ok x hx
    · exact hz

theorem info_int : (Try.prog.info? 3).map (fun i => (i.zero, i.size, i.bytes)) = some (some (.int .i64 0), 1, 8) := by kernel_rfl
theorem made_ints (n : Nat) : madeCells (Value.cells (.int .i64 0)) (n * 1) = ((List.replicate n (0 : Int)).map (Value.int .i64)).toArray := by
  apply Array.ext
  · simp [madeCells]
  · intro i h1 h2
    simp [madeCells, Value.cells, Nat.mod_one]
theorem run_mk (n : Nat) (h2 : n ≤ 65536) (w : World) : (Instr.makeSlice 29 (.int .i64 n) (.int .i64 n)).run Try.prog w = .ok (.slice (some ⟨w.heap.size, 0, none⟩) n n) (w.alloc (.cells ((List.replicate n (0 : Int)).map (Value.int .i64)).toArray 3)) := by
  obtain ⟨i, hi, hz, hs, hb⟩ : ∃ i, Try.prog.info? 3 = some i ∧ i.zero = some (.int .i64 0) ∧ i.size = 1 ∧ i.bytes = 8 := by
    have h := info_int
    cases hi : Try.prog.info? 3 with
    | none => rw [hi] at h; cases h
    | some i =>
      rw [hi] at h
      simp at h
      exact ⟨i, rfl, h.1, h.2.1, h.2.2⟩
  have h := run_makeSlice w 29 3 i (.int .i64 0) Try.underlying29 hi hz .i64 .i64 n n (by omega) (Int.le_refl _) (by rw [hs]; simp; omega) (by rw [hb]; omega) (by omega)
  rw [hs, Int.toNat_natCast, made_ints] at h
  exact h
theorem new_no (n : Int) (hn : n < 1 ∨ 65536 < n) (w : World) : Calls Try.prog 30 #[.int .i64 n] w fun e w' => e = .returned (.tuple #[.pointer none, .int .i64 2]) ∧ Up w w' := by
  by_cases h1 : n < 1
  · go_enter Try.func30, Try.ntmps30
    go_wp2
    go_ret2
    exact ⟨rfl, Up.refl _⟩
  · have h0 : decide (n < 1) = false := decide_eq_false h1
    have h2 : n > 65536 := by omega
    go_enter Try.func30, Try.ntmps30
    go_wp2
    go_ret2
    exact ⟨rfl, Up.refl _⟩
set_option maxHeartbeats 1000000 in
theorem new_ok (n : Nat) (h1 : 1 ≤ n) (h2 : n ≤ 65536) (w : World) : Calls Try.prog 30 #[.int .i64 n] w fun e w' => ∃ b R, e = .returned (.tuple #[.pointer (some ⟨b, 0, none⟩), .int .i64 0]) ∧ RamAt w' b R (List.replicate n 0) ∧ Up w w' ∧ w.heap.size ≤ b ∧ w.heap.size ≤ R := by
  have d1 : decide ((n : Int) < 1) = false := decide_eq_false (by omega)
  have d2 : decide ((n : Int) > 65536) = false := decide_eq_false (by omega)
  go_enter Try.func30, Try.ntmps30
  have hm := fun wx => run_mk n h2 wx
  go_wp2
  go_ret2
  have hs : (w.alloc (.cells (Array.replicate n (Value.int .i64 0)) 3)).heap.size = w.heap.size + 1 := by simp
  have k1 := block_new (w.alloc (.cells (Array.replicate n (Value.int .i64 0)) 3)) (.cells #[.slice (some ⟨w.heap.size, 0, none⟩) n n] 118)
  rw [hs] at k1
  have k2 := block_up ((Up.refl (w.alloc (.cells (Array.replicate n (Value.int .i64 0)) 3))).alloc (.cells #[.slice (some ⟨w.heap.size, 0, none⟩) n n] 118)) (block_new w (.cells (Array.replicate n (Value.int .i64 0)) 3))
  refine ⟨w.heap.size + 1, w.heap.size, rfl, ⟨?_, ?_, by simpa using h1, by simpa using h2, by omega, fun z hz => by obtain rfl := (List.mem_replicate.1 hz).2; omega⟩, ((Up.refl w).alloc _).alloc _, by omega, by omega⟩
  · exact ⟨n, by simp; omega, by rw [List.length_replicate]; exact k1⟩
  · refine ⟨_, fun i hi => ?_, k2⟩
    rw [List.length_replicate] at hi
    simp [hi, List.getD_eq_getElem?_getD]
theorem size_walk (b R : Nat) (ws : List Int) (w : World) (h : RamAt w b R ws) : Calls Try.prog 39 #[.pointer (some ⟨b, 0, none⟩)] w fun e w' => e = .returned (.int .i64 ws.length) ∧ Up w w' := by
  obtain ⟨c, -, c0⟩ := h.b0
  clear h
  go_enter Try.func39, Try.ntmps39
  go_wp2
  go_ret
  exact ⟨rfl, Up.refl _⟩
theorem size_nil (w : World) : Calls Try.prog 39 #[.pointer none] w fun e w' => e = .returned (.int .i64 0) ∧ Up w w' := by
  go_enter Try.func39, Try.ntmps39
  go_wp2
  go_ret
  exact ⟨rfl, Up.refl _⟩
/-- Why a run of words can't be touched. -/
def wrongI (len : Nat) (a n : Int) : Int := if n < 0 then 2 else if a < 0 ∨ (len : Int) < a ∨ (len : Int) - a < n then 4 else 0
theorem wrong_nil (a n : Int) (w : World) : Calls Try.prog 73 #[.pointer none, .int .i64 a, .int .i64 n] w fun e w' => e = .returned (.int .i64 1) ∧ w' = w := by
  go_enter Try.func73, Try.ntmps73
  go_wp2
  go_ret
  exact ⟨rfl, rfl⟩
theorem wrong_walk (b R : Nat) (ws : List Int) (a n : Int) (w : World) (h : RamAt w b R ws) : Calls Try.prog 73 #[.pointer (some ⟨b, 0, none⟩), .int .i64 a, .int .i64 n] w fun e w' => e = .returned (.int .i64 (wrongI ws.length a n)) ∧ w' = w := by
  obtain ⟨c, -, c0⟩ := h.b0
  have hle := h.le
  clear h
  by_cases h1 : n < 0
  · have E : wrongI ws.length a n = 2 := if_pos h1
    rw [E]
    clear E
    go_enter Try.func73, Try.ntmps73
    go_wp2
    go_ret
    exact ⟨rfl, rfl⟩
  · have h1' : decide (n < 0) = false := decide_eq_false h1
    by_cases h2 : a < 0
    · have E : wrongI ws.length a n = 4 := by unfold wrongI; rw [if_neg h1, if_pos (.inl h2)]
      rw [E]
      clear E h1
      go_enter Try.func73, Try.ntmps73
      go_wp2
      go_ret
      exact ⟨rfl, rfl⟩
    · have h2' : decide (a < 0) = false := decide_eq_false h2
      by_cases h3 : a > (ws.length : Int)
      · have E : wrongI ws.length a n = 4 := by unfold wrongI; rw [if_neg h1, if_pos (.inr (.inl h3))]
        rw [E]
        clear E h1 h2
        go_enter Try.func73, Try.ntmps73
        go_wp2
        go_ret
        exact ⟨rfl, rfl⟩
      · have h3' : decide (a > (ws.length : Int)) = false := decide_eq_false h3
        have ew : wrap64 ((ws.length : Int) - a) = (ws.length : Int) - a := by unfold wrap64; omega
        by_cases h4 : n > (ws.length : Int) - a
        · have E : wrongI ws.length a n = 4 := by unfold wrongI; rw [if_neg h1, if_pos (.inr (.inr h4))]
          rw [E]
          clear E
          go_enter Try.func73, Try.ntmps73
          go_wp2
          go_ret
          exact ⟨rfl, rfl⟩
        · have E : wrongI ws.length a n = 0 := by unfold wrongI; rw [if_neg h1, if_neg (by omega)]
          have h4' : decide (n > (ws.length : Int) - a) = false := decide_eq_false h4
          rw [E]
          clear E
          go_enter Try.func73, Try.ntmps73
          go_wp2
          go_ret
          exact ⟨rfl, rfl⟩
/-- A word, and the error. -/
def loadI (ws : List Int) (a : Int) : Int × Int := if 0 ≤ a ∧ a < ws.length then (ws.getD a.toNat 0, 0) else (0, 4)
theorem wrongI_pos {len : Nat} {a : Int} (h : 0 ≤ a ∧ a < len) : wrongI len a 1 = 0 := by unfold wrongI; rw [if_neg (by omega), if_neg (by omega)]
theorem wrongI_neg {len : Nat} {a : Int} (h : ¬ (0 ≤ a ∧ a < len)) : wrongI len a 1 = 4 := by unfold wrongI; rw [if_neg (by omega), if_pos (by omega)]
theorem load_nil (a : Int) (w : World) : Calls Try.prog 61 #[.pointer none, .int .i64 a] w fun e w' => e = .returned (.tuple #[.int .i64 0, .int .i64 1]) ∧ Up w w' := by
  go_enter Try.func61, Try.ntmps61
  go_wp2_with (go_at_call 73; refine (wrong_nil _ _ _).mono ?_; rintro e w' ⟨rfl, rfl⟩)
  go_ret2
  exact ⟨rfl, Up.refl _⟩
theorem load_walk (b R : Nat) (ws : List Int) (a : Int) (w : World) (h : RamAt w b R ws) : Calls Try.prog 61 #[.pointer (some ⟨b, 0, none⟩), .int .i64 a] w fun e w' => e = .returned (.tuple #[.int .i64 (loadI ws a).1, .int .i64 (loadI ws a).2]) ∧ Up w w' := by
  have HW := wrong_walk b R ws a 1 w h
  by_cases ha : 0 ≤ a ∧ a < ws.length
  · have E : loadI ws a = (ws.getD a.toNat 0, 0) := if_pos ha
    rw [E]
    rw [wrongI_pos ha] at HW
    have HW := Lib.hid HW
    obtain ⟨i, rfl⟩ := Int.eq_ofNat_of_zero_le ha.1
    have hi : i < ws.length := by omega
    rw [Int.toNat_natCast]
    obtain ⟨c, -, c0⟩ := h.b0
    have cR := h.cell i hi
    have i0 : (0 : Int) ≤ (i : Int) := by omega
    have i1 : (i : Int) < (ws.length : Int) := by omega
    have hle := h.le
    clear h E
    generalize ws.getD i 0 = z at *
    go_enter Try.func61, Try.ntmps61
    go_wp2_with (go_at_call 73; refine HW.out.mono ?_; rintro e w' ⟨rfl, rfl⟩)
    go_ret2
    exact ⟨rfl, Up.refl _⟩
  · have E : loadI ws a = (0, 4) := if_neg ha
    rw [E]
    rw [wrongI_neg ha] at HW
    have HW := Lib.hid HW
    clear h E ha
    go_enter Try.func61, Try.ntmps61
    go_wp2_with (go_at_call 73; refine HW.out.mono ?_; rintro e w' ⟨rfl, rfl⟩)
    go_ret2
    exact ⟨rfl, Up.refl _⟩
end Go.Proofs.Ytlefefcakffepaa.Sram

/- Contracts of the package sram: Fill, Store, Span. -/
namespace Go.Proofs.Ytlefefcakffepaa.Sram
set_option linter.unusedVariables false
set_option linter.unusedSimpArgs false
open Go.RowKit Go.Proofs.Ytlefefcakffepaa.Lat

/-- The first i words of a run, filled. -/
def fillL (ws : List Int) (a : Nat) (z : Int) : Nat → List Int
  | 0 => ws
  | i + 1 => (fillL ws a z i).set (a + i) z
theorem fillL_len (ws : List Int) (a : Nat) (z : Int) : ∀ i, (fillL ws a z i).length = ws.length
  | 0 => rfl
  | i + 1 => by simp [fillL, fillL_len ws a z i]
theorem Fill_nil (a n z : Int) (w : World) : Calls Try.prog 86 #[.pointer none, .int .i64 a, .int .i64 n, .int .i64 z] w fun e w' => e = .returned (.int .i64 1) ∧ Up w w' := by
  go_enter Try.func86, Try.ntmps86
  go_wp2_with (go_at_call 73; refine (wrong_nil _ _ _).mono ?_; rintro e w' ⟨rfl, rfl⟩)
  go_ret
  exact ⟨rfl, Up.refl _⟩
theorem Fill_wrong (b R : Nat) (ws : List Int) (a n z : Int) (w : World) (h : RamAt w b R ws) (hw : wrongI ws.length a n ≠ 0) : Calls Try.prog 86 #[.pointer (some ⟨b, 0, none⟩), .int .i64 a, .int .i64 n, .int .i64 z] w fun e w' => e = .returned (.int .i64 (wrongI ws.length a n)) ∧ Up w w' := by
  have HW := Lib.hid (wrong_walk b R ws a n w h)
  have hne : (wrongI ws.length a n == 0) = false := beq_eq_false_iff_ne.2 hw
  have hne' : (wrongI ws.length a n != 0) = true := by simp [bne, hne]
  clear h hw
  generalize wrongI ws.length a n = k at *
  go_enter Try.func86, Try.ntmps86
  go_wp2_with (go_at_call 73; refine HW.out.mono ?_; rintro e w' ⟨rfl, rfl⟩)
  go_ret
  exact ⟨rfl, Up.refl _⟩
theorem Fill_arg (b R : Nat) (ws : List Int) (a n z : Int) (w : World) (h : RamAt w b R ws) (hw : wrongI ws.length a n = 0) (hz : z < 0 ∨ 65535 < z) : Calls Try.prog 86 #[.pointer (some ⟨b, 0, none⟩), .int .i64 a, .int .i64 n, .int .i64 z] w fun e w' => e = .returned (.int .i64 2) ∧ Up w w' := by
  have HW := wrong_walk b R ws a n w h
  rw [hw] at HW
  have HW := Lib.hid HW
  clear h hw
  by_cases h0 : z < 0
  · go_enter Try.func86, Try.ntmps86
    go_wp2_with (go_at_call 73; refine HW.out.mono ?_; rintro e w' ⟨rfl, rfl⟩)
    go_ret
    exact ⟨rfl, Up.refl _⟩
  · have h0' : decide (z < 0) = false := decide_eq_false h0
    have h1 : z > 65535 := by omega
    go_enter Try.func86, Try.ntmps86
    go_wp2_with (go_at_call 73; refine HW.out.mono ?_; rintro e w' ⟨rfl, rfl⟩)
    go_ret
    exact ⟨rfl, Up.refl _⟩
set_option maxHeartbeats 4000000 in
theorem Fill_ok (b R : Nat) (ws : List Int) (a n : Nat) (z : Int) (w : World) (h : RamAt w b R ws) (hn : a + n ≤ ws.length) (hz : 0 ≤ z ∧ z ≤ 65535) : Calls Try.prog 86 #[.pointer (some ⟨b, 0, none⟩), .int .i64 a, .int .i64 n, .int .i64 z] w fun e w' => e = .returned (.int .i64 0) ∧ RamAt w' b R (fillL ws a z n) ∧ Off1 R w w' := by
  have hw : wrongI ws.length a n = 0 := by unfold wrongI; rw [if_neg (by omega), if_neg (by omega)]
  have HW := wrong_walk b R ws a n w h
  rw [hw] at HW
  have HW := Lib.hid HW
  have HR := Lib.hid h
  have hle := h.le
  have z0 : decide (z < 0) = false := decide_eq_false (by omega)
  have z1 : decide (z > 65535) = false := decide_eq_false (by omega)
  have HZ := Lib.hid hz
  clear h hw hz
  go_enter Try.func86, Try.ntmps86
  go_wp2_with (go_at_call 73; refine HW.out.mono ?_; rintro e w' ⟨rfl, rfl⟩)
  go_loopw [25] (fun v25 wx => ∃ i : Nat, i ≤ n ∧ v25 = .int .i64 i ∧ Hid (RamAt wx b R (fillL ws a z i)) ∧ Hid (Off1 R w' wx)) (fun v25 _ => n - (intOf v25).toNat)
  case atStart => exact ⟨0, Nat.zero_le _, rfl, HR, Lib.hid (Off1.refl _ _)⟩
  case round =>
    obtain ⟨i, hi, rfl, HA, HO⟩ := hrel
    by_cases hlt : i < n
    · have hl := fillL_len ws a z i
      obtain ⟨cc, -, c0⟩ := HA.out.b0
      rw [hl] at c0
      have cR := HA.out.cell (a + i) (by rw [hl]; omega)
      have gR : wr.frozen? ⟨R, a + i, none⟩ = false := HA.out.free _
      have i0 : (0 : Int) ≤ (a : Int) + (i : Int) := by omega
      have i1 : (a : Int) + (i : Int) < (ws.length : Int) := by omega
      have HA2 : Hid (RamAt (wr.setCell ⟨R, a + i, none⟩ (.int .i64 z)) b R (fillL ws a z (i + 1))) := Lib.hid (HA.out.set HZ.out)
      have HO2 := Lib.hid (HO.out.set (a + i) (.int .i64 z))
      generalize (fillL ws a z i).getD (a + i) 0 = y at *
      clear hl
      go_wp2
      go_roundw
      case rel => exact ⟨i + 1, by omega, by go_num, HA2, HO2⟩
      case measure => simp [intOf]; omega
    · obtain rfl : i = n := by omega
      go_wp2
      go_ret
      exact ⟨rfl, HA.out, HO.out⟩
theorem Store_of {p : Value} {a z : Int} {w : World} {R : Ending → World → Prop} (h : Calls Try.prog 86 #[p, .int .i64 a, .int .i64 1, .int .i64 z] w fun e w' => ∃ k, e = .returned (.int .i64 k) ∧ R e w') : Calls Try.prog 70 #[p, .int .i64 a, .int .i64 z] w R := by
  have H := Lib.hid h
  clear h
  go_enter Try.func70, Try.ntmps70
  go_wp2_with (go_at_call 86; refine H.out.mono ?_; rintro e w' ⟨k, rfl, hr⟩; have HRR := Lib.hid hr; clear hr)
  exact HRR.out
/-- The words then, and the error. -/
def fillI (ws : List Int) (a n z : Int) : List Int × Int :=
  if wrongI ws.length a n ≠ 0 then (ws, wrongI ws.length a n) else if z < 0 ∨ 65535 < z then (ws, 2) else (fillL ws a.toNat z n.toNat, 0)
theorem Fill_walk (b R : Nat) (ws : List Int) (a n z : Int) (w : World) (h : RamAt w b R ws) : Calls Try.prog 86 #[.pointer (some ⟨b, 0, none⟩), .int .i64 a, .int .i64 n, .int .i64 z] w fun e w' => e = .returned (.int .i64 (fillI ws a n z).2) ∧ RamAt w' b R (fillI ws a n z).1 ∧ Off1 R w w' := by
  by_cases h1 : wrongI ws.length a n ≠ 0
  · have E : fillI ws a n z = (ws, wrongI ws.length a n) := if_pos h1
    rw [E]
    exact (Fill_wrong b R ws a n z w h h1).mono fun _ _ hh => ⟨hh.1, h.up hh.2, Off1.of_up hh.2⟩
  · have h1' : wrongI ws.length a n = 0 := by omega
    by_cases h2 : z < 0 ∨ 65535 < z
    · have E : fillI ws a n z = (ws, 2) := by unfold fillI; rw [if_neg h1, if_pos h2]
      rw [E]
      exact (Fill_arg b R ws a n z w h h1' h2).mono fun _ _ hh => ⟨hh.1, h.up hh.2, Off1.of_up hh.2⟩
    · have E : fillI ws a n z = (fillL ws a.toNat z n.toNat, 0) := by unfold fillI; rw [if_neg h1, if_neg h2]
      rw [E]
      have hb : 0 ≤ n ∧ 0 ≤ a ∧ a + n ≤ ws.length := by
        unfold wrongI at h1'
        split at h1'
        · omega
        · split at h1' <;> omega
      obtain ⟨i, rfl⟩ := Int.eq_ofNat_of_zero_le hb.1
      obtain ⟨j, rfl⟩ := Int.eq_ofNat_of_zero_le hb.2.1
      exact Fill_ok b R ws j i z w h (by omega) (by omega)
theorem Store_walk (b R : Nat) (ws : List Int) (a z : Int) (w : World) (h : RamAt w b R ws) : Calls Try.prog 70 #[.pointer (some ⟨b, 0, none⟩), .int .i64 a, .int .i64 z] w fun e w' => e = .returned (.int .i64 (fillI ws a 1 z).2) ∧ RamAt w' b R (fillI ws a 1 z).1 ∧ Off1 R w w' :=
  Store_of ((Fill_walk b R ws a 1 z w h).mono fun _ _ hh => ⟨_, hh.1, hh⟩)
theorem Store_nil (a z : Int) (w : World) : Calls Try.prog 70 #[.pointer none, .int .i64 a, .int .i64 z] w fun e w' => e = .returned (.int .i64 1) ∧ Up w w' :=
  Store_of ((Fill_nil a 1 z w).mono fun _ _ hh => ⟨_, hh.1, hh⟩)
end Go.Proofs.Ytlefefcakffepaa.Sram

/- Contracts of the package sram: Span. -/
namespace Go.Proofs.Ytlefefcakffepaa.Sram
set_option linter.unusedVariables false
set_option linter.unusedSimpArgs false
open Go.RowKit Go.Proofs.Ytlefefcakffepaa.Lat Go.Proofs.Ytlefefcakffepaa.Copy

theorem add_off (R a j : Nat) : (⟨R, a, none⟩ : Addr).add j = ⟨R, a + j, none⟩ := by
  by_cases hj0 : j = 0
  · subst hj0; rfl
  · simp [Addr.add, hj0]
theorem of_splice {w : World} {P : Nat → Prop} {g n : Nat} {q : List Int} {t : TypeId} (h : w.heap[g]? = some (.cells (splice (List.replicate n (Value.int .i64 0)) 0 (q.map (Value.int .i64))).toArray t (0, 0))) (hq : q.length = n) (hP : P g) : LAt w P (.slice (some ⟨g, 0, none⟩) n n) q := by
  subst hq
  have e : splice (List.replicate q.length (Value.int .i64 0)) 0 (q.map (Value.int .i64)) = (q ++ []).map (Value.int .i64) := by simp [splice]
  rw [e] at h
  exact LAt.of_block h (Nat.le_refl _) hP
/-- The slice of a memory's words from a on. -/
theorem drop_cells {w : World} {b R : Nat} {ws : List Int} (h : RamAt w b R ws) (a n : Nat) (hp : 0 < (((ws.drop a).take n).map (Value.int .i64)).length) :
    a < ws.length ∧ ∀ (j : Nat) (v : Value), (((ws.drop a).take n).map (Value.int .i64))[j]? = some v → w.cell? ((⟨R, a, none⟩ : Addr).add j) = some v := by
  have ha : a < ws.length := by
    simp only [List.length_map, List.length_take, List.length_drop] at hp
    omega
  refine ⟨ha, fun j v hj => ?_⟩
  obtain ⟨z, hz, rfl⟩ := by simpa only [List.getElem?_map, Option.map_eq_some_iff] using hj
  have e : (⟨R, a, none⟩ : Addr).add j = ⟨R, a + j, none⟩ := by
    by_cases hj0 : j = 0
    · subst hj0; rfl
    · simp [Addr.add, hj0]
  rw [List.getElem?_take] at hz
  split at hz
  · rw [List.getElem?_drop] at hz
    obtain ⟨hl, hz2⟩ := List.getElem?_eq_some_iff.1 hz
    rw [e, h.cell _ hl, List.getD_eq_getElem?_getD, hz]
    rfl
  · cases hz
theorem Span_nil (a n : Int) (w : World) : Calls Try.prog 38 #[.pointer none, .int .i64 a, .int .i64 n] w fun e w' => e = .returned (.tuple #[.slice none 0 0, .int .i64 1]) ∧ Up w w' := by
  go_enter Try.func38, Try.ntmps38
  go_wp2_with (go_at_call 73; refine (wrong_nil _ _ _).mono ?_; rintro e w' ⟨rfl, rfl⟩)
  go_ret2
  exact ⟨rfl, Up.refl _⟩
theorem Span_wrong (b R : Nat) (ws : List Int) (a n : Int) (w : World) (h : RamAt w b R ws) (hw : wrongI ws.length a n ≠ 0) : Calls Try.prog 38 #[.pointer (some ⟨b, 0, none⟩), .int .i64 a, .int .i64 n] w fun e w' => e = .returned (.tuple #[.slice none 0 0, .int .i64 (wrongI ws.length a n)]) ∧ Up w w' := by
  have HW := Lib.hid (wrong_walk b R ws a n w h)
  have hne : (wrongI ws.length a n == 0) = false := beq_eq_false_iff_ne.2 hw
  have hne' : (wrongI ws.length a n != 0) = true := by simp [bne, hne]
  clear h hw
  generalize wrongI ws.length a n = k at *
  go_enter Try.func38, Try.ntmps38
  go_wp2_with (go_at_call 73; refine HW.out.mono ?_; rintro e w' ⟨rfl, rfl⟩)
  go_ret2
  exact ⟨rfl, Up.refl _⟩
set_option maxHeartbeats 4000000 in
set_option maxRecDepth 100000 in
theorem Span_ok (b R : Nat) (ws : List Int) (a n : Nat) (w : World) (h : RamAt w b R ws) (hn : a + n ≤ ws.length) : Calls Try.prog 38 #[.pointer (some ⟨b, 0, none⟩), .int .i64 a, .int .i64 n] w fun e w' => e = .returned (.tuple #[.slice (some ⟨w.heap.size, 0, none⟩) n n, .int .i64 0]) ∧ LAt w' (fun k => w.heap.size ≤ k) (.slice (some ⟨w.heap.size, 0, none⟩) n n) ((ws.drop a).take n) ∧ Up w w' := by
  have hw : wrongI ws.length a n = 0 := by unfold wrongI; rw [if_neg (by omega), if_neg (by omega)]
  have HW := wrong_walk b R ws a n w h
  rw [hw] at HW
  have HW := Lib.hid HW
  have HR := Lib.hid h
  have hle := h.le
  obtain ⟨cc, hcc, c0⟩ := h.b0
  have hne0 := World.new_ne w _ c0
  have hm := fun wx => run_mk n (by omega) wx
  have i1 : (a : Int) ≤ (ws.length : Int) := by omega
  clear h hw
  go_enter Try.func38, Try.ntmps38
  go_upto_region 5 with (go_at_call 73; refine HW.out.mono ?_; rintro e w' ⟨rfl, rfl⟩)
  obtain ⟨cd, hcd, c1⟩ := (HR.out.up ((Up.refl w').alloc (.cells (Array.replicate n (Value.int .i64 0)) 3))).b0
  have hcd1 := hcd.1
  have hcd2 := hcd.2
  have i2 : (a : Int) ≤ (cd : Int) := by omega
  clear hcd
  have HA := Lib.hid (HR.out.up ((Up.refl w').alloc (.cells (Array.replicate n (Value.int .i64 0)) 3)))
  have HU := Lib.hid ((Up.refl w').alloc (.cells (Array.replicate n (Value.int .i64 0)) 3))
  have HG := Lib.hid (block_new w' (.cells (Array.replicate n (Value.int .i64 0)) 3))
  clear hm hne0 c0
  generalize w'.alloc (.cells (Array.replicate n (Value.int .i64 0)) 3) = w1 at *
  have HREP := Lib.hid (show (List.replicate n (Value.int .i64 0)).toArray = Array.replicate n (Value.int .i64 0) from by simp)
  have HL := Lib.hid (show (((ws.drop a).take n).map (Value.int .i64)).length = n from by simp; omega)
  have HD := Lib.hid (drop_cells HA.out a n)
  generalize hcs : ((ws.drop a).take n).map (Value.int .i64) = cs at *
  have HCS := Lib.hid hcs
  clear hcs
  have HO := Lib.hid (show ∀ u ∈ cs, u.oneCell' = true from by rw [← HCS.out]; exact oInt _)
  go_wp2_with (refine wpList_copy_splice rfl (.tmp 19) (.tmp 25) 29 29 rfl 3 Try.underlying29 int_size _ _ _ _ _ _ rfl rfl w'.heap.size 0 (List.replicate n (.int .i64 0)) 3 ?hg cs ?hn ?hpos ?hfit HO.out w'.heap.size w' HU.out (Nat.le_refl _) ?go; rotate_left 4; intro w4 hg4 hb4)
  case hg => rw [HREP.out]; exact HG.out
  case hn => rw [HL.out]; exact (Nat.min_eq_right (by omega)).symm
  case hpos.inl => exact fun hp => absurd (HD.out hp).1 (by omega)
  case hpos.inr => exact fun hp j v hj => by have := (HD.out hp).2 j v hj; rwa [add_off] at this
  case hfit => rw [HL.out]; simp
  all_goals
    go_ret2
    have hg5 := hg4.out
    rw [← HCS.out] at hg5
    exact ⟨rfl, of_splice hg5 (by simp; omega) (Nat.le_refl _), hb4⟩
/-- What Span tells. -/
def spanI (ws : List Int) (a n : Int) : List Int × Int :=
  if wrongI ws.length a n ≠ 0 then ([], wrongI ws.length a n) else ((ws.drop a.toNat).take n.toNat, 0)
theorem wrongI_zero {len : Nat} {a n : Int} (h : wrongI len a n = 0) : 0 ≤ n ∧ 0 ≤ a ∧ a + n ≤ len := by
  unfold wrongI at h
  split at h
  · omega
  · split at h <;> omega
theorem Span_walk (b R : Nat) (ws : List Int) (a n : Int) (w : World) (h : RamAt w b R ws) : Calls Try.prog 38 #[.pointer (some ⟨b, 0, none⟩), .int .i64 a, .int .i64 n] w fun e w' => ∃ v, e = .returned (.tuple #[v, .int .i64 (spanI ws a n).2]) ∧ LAt w' (fun k => w.heap.size ≤ k) v (spanI ws a n).1 ∧ Up w w' := by
  by_cases h1 : wrongI ws.length a n ≠ 0
  · have E : spanI ws a n = ([], wrongI ws.length a n) := if_pos h1
    rw [E]
    exact (Span_wrong b R ws a n w h h1).mono fun _ _ hh => ⟨_, hh.1, .inl ⟨rfl, rfl⟩, hh.2⟩
  · have E : spanI ws a n = ((ws.drop a.toNat).take n.toNat, 0) := if_neg h1
    rw [E]
    have hb := wrongI_zero (Decidable.of_not_not h1)
    obtain ⟨i, rfl⟩ := Int.eq_ofNat_of_zero_le hb.1
    obtain ⟨j, rfl⟩ := Int.eq_ofNat_of_zero_le hb.2.1
    exact (Span_ok b R ws j i w h (by omega)).mono fun _ _ hh => ⟨_, hh.1, hh.2⟩
theorem span_len (ws : List Int) (a n : Int) : (spanI ws a n).1.length ≤ ws.length := by
  unfold spanI
  split
  · exact Nat.zero_le _
  · simp; omega
end Go.Proofs.Ytlefefcakffepaa.Sram

/- The contract of the law's 'do' on a memory. -/
namespace Go.Proofs.Ytlefefcakffepaa.Sram
set_option linter.unusedVariables false
set_option linter.unusedSimpArgs false
open Go.RowKit Go.Proofs.Ytlefefcakffepaa.Lat

/-- What a call does: the words then, the list told, the error. -/
def doM (ws : List Int) (k a n z : Int) : List Int × List Int × Int :=
  if k = 0 then ((fillI ws a 1 z).1, [], (fillI ws a 1 z).2) else if k = 2 then (ws, (spanI ws a n).1, (spanI ws a n).2) else if k = 3 then ((fillI ws a n z).1, [], (fillI ws a n z).2) else (ws, [(loadI ws a).1], (loadI ws a).2)
theorem lat_one {w : World} {B : Nat} (h : B ≤ w.heap.size) (z : Int) : LAt (w.alloc (.cells #[.int .i64 z] 3)) (fun k => B ≤ k) (.slice (some ⟨w.heap.size, 0, none⟩) 1 1) [z] :=
  LAt.of_block (q := [z]) (rest := []) (block_new w (.cells #[.int .i64 z] 3)) (by simp) h
end Go.Proofs.Ytlefefcakffepaa.Sram

/- Contracts of the package sram: Cells. -/
namespace Go.Proofs.Ytlefefcakffepaa.Sram
set_option linter.unusedVariables false
set_option linter.unusedSimpArgs false
open Go.RowKit Go.Proofs.Ytlefefcakffepaa.Lat Go.Proofs.Ytlefefcakffepaa.CellOf

/-- append onto a row of the call's own: the new row written out. -/
theorem wpList_append_out {P : Program} (w : World) {ops : Array Oper} {rest : List Oper} {o : Oper} {a : Act} {Q : Exit → Act → World → Prop} (hgd : o.guard = none) (s x : Operand) (t : TypeId)
    (ho : o.op = .call { callee := .builtin .append, args := #[s, x], argTypes := #[t, t] })
    (base : Nat) (e : TypeId) (i : TypeInfo) (z : Value) (size bytes : Nat) (ht : P.underlying t = some (.slice e)) (hi : P.info? e = some i) (hz : i.zero = some z)
    (hsize : i.size = size) (hby : i.bytes = bytes) (hzs : z.cells.size = size) (hsz : 0 < size)
    (v : Value) (n : Nat) (xs : List Value) (hs : a.eval s = v) (hown : w.ownsRow base e size v n xs)
    (ad : Addr) (m c : Nat) (news : List Value) (hx : a.eval x = .slice (some ad) m c) (hl : news.length = m * size) (hnews : ∀ j u, news[j]? = some u → w.cell? (ad.add j) = some u) (h1 : ∀ u ∈ news, u.oneCell' = true)
    (h63 : n + m ≤ maxLen) (hbytes : (n + m) * bytes ≤ 140737488355328) (hbase : base ≤ w.heap.size)
    (h : ∀ A c w', w'.ownsRow base e size (.slice A (n + m) c) (n + m) (xs ++ news) → w.grownBy w' v.ownBlock → wpList P ops Q rest (a.put o.dst (.slice A (n + m) c)) w') : wpList P ops Q (o :: rest) a w :=
  wpList_append_own w hgd s x t ho base e i z size bytes ht hi hz hsize hby hzs hsz v n xs hs hown ad m c news hx hl hnews h1 h63 hbytes hbase fun v' w' h2 h3 _ => by
    obtain ⟨hl2, hh⟩ := h2
    rcases hh with ⟨rfl, h0⟩ | ⟨g, cap, cur, rfl, hr⟩
    · have := h none 0 w'
      rw [h0] at this
      exact this ⟨by rw [h0] at hl2; exact hl2, .inl ⟨rfl, rfl⟩⟩ h3
    · exact h _ _ w' ⟨hl2, .inr ⟨g, cap, cur, rfl, hr⟩⟩ h3
/-- The cells of the first words. -/
def cellsL (ws : List Int) : Nat → List Value
  | 0 => []
  | i + 1 => cellsL ws i ++ if ws.getD i 0 = 0 then [] else [.complex .f64 (floatOfInt .f64 i) (floatOfInt .f64 (ws.getD i 0))]
theorem cellsL_len (ws : List Int) : ∀ i, (cellsL ws i).length ≤ i
  | 0 => Nat.le_refl _
  | i + 1 => by
    have := cellsL_len ws i
    unfold cellsL
    split <;> simp <;> omega
theorem info_complex : (Try.prog.info? 104).map (fun i => (i.zero, i.size, i.bytes)) = some (some (.complex .f64 0 0), 1, 16) := by kernel_rfl
theorem complex_info : ∃ t0, Try.prog.info? 104 = some t0 ∧ t0.zero = some (.complex .f64 0 0) ∧ t0.size = 1 ∧ t0.bytes = 16 := by
  have h := info_complex
  cases hi : Try.prog.info? 104 with
  | none => rw [hi] at h; cases h
  | some i =>
    rw [hi] at h
    simp at h
    exact ⟨i, rfl, h.1, h.2.1, h.2.2⟩
end Go.Proofs.Ytlefefcakffepaa.Sram

/- Whether two lists of numbers are the same (the reference's Same), out of the printed walk. -/
namespace Go.Proofs.Ytlefefcakffepaa.Same3
set_option linter.unusedVariables false
set_option linter.unusedSimpArgs false
open Go.RowKit Go.Proofs.Ytlefefcakffepaa.PBusPlays Go.Proofs.YtlefefcakffepaaW.PrintWords Go.Proofs.Ytlefefcakffepaa.Lat

theorem w64' {n : Int} (h0 : -4294967296 ≤ n) (h1 : n ≤ 4294967296) : wrap64 n = n := by unfold wrap64; omega
theorem step64 {i : Nat} (h : i ≤ 1000000) : wrap64 ((i : Int) + 1) = ((i + 1 : Nat) : Int) := by rw [w64' (by omega) (by omega)]; omega
theorem drop_step {l m : List Int} {i : Nat} (h : i < l.length) (h' : i < m.length) : decide (l.drop i = m.drop i) = (decide (rd l i = rd m i) && decide (l.drop (i + 1) = m.drop (i + 1))) := by
  have e1 : rd l i = l[i] := by simp [rd, List.getD_eq_getElem?_getD, List.getElem?_eq_getElem h]
  have e2 : rd m i = m[i] := by simp [rd, List.getD_eq_getElem?_getD, List.getElem?_eq_getElem h']
  rw [e1, e2, Bool.eq_iff_iff]
  rw [List.drop_eq_getElem_cons h, List.drop_eq_getElem_cons h']
  simp only [Bool.and_eq_true, decide_eq_true_eq, List.cons.injEq]
theorem s03_l (l m : List Int) (hl : l.length = m.length) (hb : l.length ≤ 1000) : ∀ (d i k : Nat), i + d = l.length → d < k → switchyardref03_Same.l0 k l m i = some (decide (l.drop i = m.drop i))
  | 0, i, k, hi, hk => by
    obtain ⟨k, rfl⟩ : ∃ q, k = q + 1 := ⟨k - 1, by omega⟩
    simp only [switchyardref03_Same.l0]
    rw [if_neg (by omega), List.drop_eq_nil_of_le (by omega), List.drop_eq_nil_of_le (by omega)]
    simp
  | d + 1, i, k, hi, hk => by
    obtain ⟨k, rfl⟩ : ∃ q, k = q + 1 := ⟨k - 1, by omega⟩
    simp only [switchyardref03_Same.l0]
    rw [if_pos (by omega), if_pos (by omega), if_pos (by omega), step64 (by omega), drop_step (by omega) (by omega)]
    by_cases h : rd l i = rd m i
    · rw [if_pos h, s03_l l m hl hb d (i + 1) k (by omega) (by omega)]
      simp [h]
    · rw [if_neg h]
      simp [h]
theorem s03 (l m : List Int) (hb : l.length ≤ 1000) (k : Nat) (hk : l.length < k) : switchyardref03_Same.f k l m = some (decide (l = m)) := by
  unfold switchyardref03_Same.f
  by_cases h : l.length = m.length
  · rw [if_pos (by omega)]
    exact s03_l l m h hb l.length 0 k (by omega) hk
  · rw [if_neg (by omega)]
    have : l ≠ m := fun e => h (by rw [e])
    simp [this]
theorem Same_walk (l m : List Int) (A0 A1 : Option Addr) (c0 c1 : Nat) (w : World) (hr0 : Kd.C (Kd.int .i64) w A0 l.length l) (hc0 : l.length ≤ c0) (hr1 : Kd.C (Kd.int .i64) w A1 m.length m) (hc1 : m.length ≤ c1) (hb : l.length ≤ 1000) :
    Calls Try.prog 14 #[.slice A0 l.length c0, .slice A1 m.length c1] w fun e w' => e = .returned (.bool (decide (l = m))) ∧ Drawn w w' := by
  refine (switchyardref03_Same.calls 2000 A0 c0 l A1 c1 m _ w hr0 hc0 hr1 hc1 (s03 l m hb 2000 (by omega))).mono ?_
  rintro e w' ⟨rfl, hd⟩
  exact ⟨rfl, hd.out⟩
theorem Same_l (l m : List Int) (P Q : Nat → Prop) (A0 A1 : Option Addr) (n0 n1 c0 c1 : Nat) (w : World) (h0 : LAt w P (.slice A0 n0 c0) l) (h1 : LAt w Q (.slice A1 n1 c1) m) (hl : l.length ≤ 1000) (hm : m.length ≤ 1000000) :
    Calls Try.prog 14 #[.slice A0 n0 c0, .slice A1 n1 c1] w fun e w' => e = .returned (.bool (decide (l = m))) ∧ Up w w' := by
  obtain ⟨A, c, e0, k0, r0⟩ := h0.c (by omega)
  obtain ⟨B, d, e1, k1, r1⟩ := h1.c hm
  cases e0
  cases e1
  refine (Same_walk l m _ _ _ _ w r0 k0 r1 k1 hl).mono ?_
  rintro e w' ⟨rfl, n, rfl⟩
  exact ⟨rfl, Up.drewN (Up.refl _) _⟩
end Go.Proofs.Ytlefefcakffepaa.Same3

/- cell.Same, sram.Same with nil, Clone of nil, and the chapter's example. -/
namespace Go.Proofs.Ytlefefcakffepaa.Sram
set_option linter.unusedVariables false
set_option linter.unusedSimpArgs false
open Go.RowKit Go.Proofs.Ytlefefcakffepaa.Lat Go.Proofs.Ytlefefcakffepaa.CellOf Go.Proofs.Ytlefefcakffepaa.Equal Go.Proofs.Ytlefefcakffepaa.Same3

theorem cSame_walk (cs : List Value) (A B : Option Addr) (c d : Nat) (w : World) (hA : CAt w A cs) (hB : CAt w B cs) (hs : ∀ u ∈ cs, Self u) (hl : cs.length ≤ 1000000) :
    Calls Try.prog 59 #[.slice A cs.length c, .slice B cs.length d] w fun e w' => e = .returned (.bool true) ∧ Up w w' := by
  have HE := Lib.hid (Equal_c cs A B c d w hA hB hs hl)
  clear hA hB hs hl
  generalize cs.length = n at *
  go_enter Try.func59, Try.ntmps59
  go_wp2_with (go_at_call 82; refine HE.out.mono ?_; rintro e w' ⟨rfl, hu⟩; have HU := Lib.hid hu; clear hu)
  go_ret
  exact ⟨rfl, HU.out⟩
theorem Clone_nil (w : World) : Calls Try.prog 40 #[.pointer none] w fun e w' => e = .returned (.pointer none) ∧ Up w w' := by
  go_enter Try.func40, Try.ntmps40
  go_wp2
  go_ret
  exact ⟨rfl, Up.refl _⟩
theorem Same_nn (w : World) : Calls Try.prog 55 #[.pointer none, .pointer none] w fun e w' => e = .returned (.bool true) ∧ Up w w' := by
  go_enter Try.func55, Try.ntmps55
  go_wp2
  go_ret
  exact ⟨rfl, Up.refl _⟩
theorem run_eql_none_ptr {P : Program} (w : World) {tp te : TypeId} (a : Addr) (hp : P.underlying tp = some (.pointer te)) :
    (binOp .eql tp (.pointer none) (.pointer (some a))).run P w = .ok (.bool false) w := by
  have h : ∀ d : Nat, (Op.equalIn (d + 1) tp (.pointer none) (.pointer (some a))).run P w = .ok false w := fun d => by
    simp [Op.equalIn, run_underlying hp]
  simp only [binOp]
  simp [Op.equal, Op.maxDepth, h 9999]
theorem Same_np (b : Nat) (w : World) : Calls Try.prog 55 #[.pointer none, .pointer (some ⟨b, 0, none⟩)] w fun e w' => e = .returned (.bool false) ∧ Up w w' := by
  have hn := fun wx => run_eql_none_ptr (P := Try.prog) wx (⟨b, 0, none⟩ : Addr) Try.underlying38
  go_enter Try.func55, Try.ntmps55
  go_wp2
  go_ret
  exact ⟨rfl, Up.refl _⟩
set_option maxRecDepth 100000 in
theorem Same_pn (b : Nat) (w : World) : Calls Try.prog 55 #[.pointer (some ⟨b, 0, none⟩), .pointer none] w fun e w' => e = .returned (.bool false) ∧ Up w w' := by
  go_enter Try.func55, Try.ntmps55
  go_wp2
  go_ret
  exact ⟨rfl, Up.refl _⟩
theorem CAt.of_own {w : World} {base n : Nat} {A : Option Addr} {m c : Nat} {t : TypeId} {cs : List Value} (h : w.ownsRow base t 1 (.slice A m c) n cs) : CAt w A cs := by
  intro j u hj
  have h2 := h.2
  rcases h2 with ⟨hv, h0⟩ | ⟨g, cap, cur, hv, _⟩
  · have := (List.getElem?_eq_some_iff.1 hj).1
    have h3 := h.1
    simp [h0] at h3
    subst h3
    simp at this
  · cases hv
    exact ⟨_, rfl, h.cells rfl j u hj⟩
theorem own_len {w : World} {base n : Nat} {v : Value} {t : TypeId} {cs : List Value} (h : w.ownsRow base t 1 v n cs) : ∃ A c, v = .slice A n c := by
  have h2 := h.2
  rcases h2 with ⟨rfl, rfl⟩ | ⟨g, cap, cur, rfl, _⟩
  · exact ⟨_, _, rfl⟩
  · exact ⟨_, _, rfl⟩
theorem store_eg : fillI (List.replicate 4 0) 2 1 9 = ([0, 0, 9, 0], 0) := by decide +kernel
theorem span_eg : spanI [0, 0, 9, 0] 1 2 = ([0, 9], 0) := by decide +kernel
theorem cells_eg : cellsL [0, 0, 9, 0] 4 = [.complex .f64 4611686018427387904 4621256167635550208] := by
  have h1 : floatOfInt .f64 ((2 : Nat) : Int) = 4611686018427387904 := by decide +kernel
  have h2 : floatOfInt .f64 9 = 4621256167635550208 := by decide +kernel
  rw [← h1, ← h2]
  rfl
theorem Store_eg (b R : Nat) (w : World) (h : RamAt w b R (List.replicate 4 0)) : Calls Try.prog 70 #[.pointer (some ⟨b, 0, none⟩), .int .i64 2, .int .i64 9] w fun e w' => e = .returned (.int .i64 0) ∧ RamAt w' b R [0, 0, 9, 0] ∧ Off1 R w w' := by
  have h1 := Store_walk b R _ 2 9 w h
  rw [store_eg] at h1
  exact h1
theorem Span_eg (b R : Nat) (w : World) (h : RamAt w b R [0, 0, 9, 0]) : Calls Try.prog 38 #[.pointer (some ⟨b, 0, none⟩), .int .i64 1, .int .i64 2] w fun e w' => ∃ A n c, e = .returned (.tuple #[.slice A n c, .int .i64 0]) ∧ LAt w' (fun k => w.heap.size ≤ k) (.slice A n c) [0, 9] ∧ Up w w' := by
  have h1 := Span_walk b R _ 1 2 w h
  rw [span_eg] at h1
  refine h1.mono ?_
  rintro e w' ⟨v, rfl, hl, hu⟩
  obtain ⟨A, c, rfl⟩ := hl.len
  exact ⟨_, _, _, rfl, hl, hu⟩
theorem self_eg : ∀ u ∈ ([.complex .f64 4611686018427387904 4621256167635550208] : List Value), Self u := by
  intro u hu
  obtain rfl := by simpa using hu
  exact ⟨_, _, rfl, by decide +kernel, by decide +kernel⟩
theorem Same_09 (P : Nat → Prop) (A0 : Option Addr) (n0 c0 : Nat) (w : World) (h0 : LAt w P (.slice A0 n0 c0) [0, 9]) :
    Calls Try.prog 14 #[.slice A0 n0 c0, .slice (some ⟨w.heap.size, 0, none⟩) 2 2] (w.alloc (.cells #[.int .i64 0, .int .i64 9] 3)) fun e w' => e = .returned (.bool true) ∧ Up w w' := by
  have hu := (Up.refl w).alloc (.cells #[.int .i64 0, .int .i64 9] 3)
  have hm : LAt (w.alloc (.cells #[.int .i64 0, .int .i64 9] 3)) (fun _ => True) (.slice (some ⟨w.heap.size, 0, none⟩) 2 2) [0, 9] :=
    LAt.of_block (q := [0, 9]) (rest := []) (block_new w (.cells #[.int .i64 0, .int .i64 9] 3)) (by simp) trivial
  exact (Same_l _ _ _ _ _ _ _ _ _ _ _ (h0.up hu) hm (by simp) (by simp)).mono fun _ _ hh => ⟨hh.1, hu.trans hh.2⟩
theorem cSame_eg (A : Option Addr) (c : Nat) (w : World) (h : CAt w A [.complex .f64 4611686018427387904 4621256167635550208]) :
    Calls Try.prog 59 #[.slice A 1 c, .slice (some ⟨w.heap.size, 0, none⟩) 1 1] (w.alloc (.cells #[.complex .f64 4611686018427387904 4621256167635550208] 104)) fun e w' => e = .returned (.bool true) ∧ Up w w' := by
  have hu := (Up.refl w).alloc (.cells #[.complex .f64 4611686018427387904 4621256167635550208] 104)
  have hB : CAt (w.alloc (.cells #[.complex .f64 4611686018427387904 4621256167635550208] 104)) (some ⟨w.heap.size, 0, none⟩) [.complex .f64 4611686018427387904 4621256167635550208] := by
    intro j u hj
    match j, hj with
    | 0, hj =>
      obtain rfl : _ = u := by simpa using hj
      exact ⟨_, rfl, cell_of_block (block_new w _) 0⟩
    | j + 1, hj => simp at hj
  exact (cSame_walk _ A _ c 1 _ (h.up hu) hB self_eg (by simp)).mono fun _ _ hh => ⟨hh.1, hu.trans hh.2⟩
end Go.Proofs.Ytlefefcakffepaa.Sram

/- What the reference of chapter 03 answers, in the letters of the walk. -/
namespace Go.Proofs.Ytlefefcakffepaa.Sram
set_option linter.unusedVariables false
set_option linter.unusedSimpArgs false
open Go.RowKit Go.Proofs.Ytlefefcakffepaa.PBusPlays Go.Proofs.YtlefefcakffepaaW.PrintWords

theorem word_eq (z : Int) : switchyardref03_word.f z = some (decide (0 ≤ z ∧ z ≤ 65535)) := by
  unfold switchyardref03_word.f
  by_cases h : z ≥ 0
  · rw [if_pos h]
    simp [show 0 ≤ z from h]
  · rw [if_neg h, decide_eq_false (by omega)]
theorem fillI_wrong {ws : List Int} {a n z : Int} (h : wrongI ws.length a n ≠ 0) : fillI ws a n z = (ws, wrongI ws.length a n) := if_pos h
theorem fillI_arg {ws : List Int} {a n z : Int} (h : wrongI ws.length a n = 0) (hz : ¬ (0 ≤ z ∧ z ≤ 65535)) : fillI ws a n z = (ws, 2) := by
  unfold fillI
  rw [if_neg (fun e => e h), if_pos (by omega)]
theorem fillI_ok {ws : List Int} {a n z : Int} (h : wrongI ws.length a n = 0) (hz : 0 ≤ z ∧ z ≤ 65535) : fillI ws a n z = (fillL ws a.toNat z n.toNat, 0) := by
  unfold fillI
  rw [if_neg (fun e => e h), if_neg (by omega)]
theorem store_eq (ws : List Int) (a z : Int) (k : Nat) (h : ws.length ≤ 65536) : switchyardref03_Store.f (k + 1) ws a z = some (fillI ws a 1 z) := by
  unfold switchyardref03_Store.f
  by_cases h1 : 0 ≤ a ∧ a < ws.length
  · rw [if_neg (by omega), decide_eq_false (show ¬ (a ≥ (ws.length : Int)) by omega)]
    simp only [switchyardref03_Store.j0, word_eq, Option.bind_some, List.nil_append, List.length_nil]
    by_cases h2 : 0 ≤ z ∧ z ≤ 65535
    · rw [fillI_ok (wrongI_pos h1) h2]
      simp [h2, h1, show ws.length < 17592186044416 by omega]
      rfl
    · rw [fillI_arg (wrongI_pos h1) h2]
      simp [h2]
  · rw [fillI_wrong (by rw [wrongI_neg h1]; decide), wrongI_neg h1]
    by_cases h2 : a < 0
    · rw [if_pos h2]
      rfl
    · rw [if_neg h2, decide_eq_true (show a ≥ (ws.length : Int) by omega)]
      rfl
theorem take_snoc (l : List Int) (i : Nat) (h : i < l.length) : l.take (i + 1) = l.take i ++ [l.getD i 0] := by
  rw [List.take_add_one, List.getElem?_eq_getElem h]
  simp [List.getD_eq_getElem?_getD, h]
end Go.Proofs.Ytlefefcakffepaa.Sram

/- The memory (sram), lists of ints and the reference's list as separate parts. -/
namespace Go.Proofs.Ytlefefcakffepaa.Sram
set_option linter.unusedVariables false
set_option linter.unusedSimpArgs false
open Go.RowKit Go.Proofs.Ytlefefcakffepaa.Lat Go.Proofs.Ytlefefcakffepaa.Sep Go.Proofs.Ytlefefcakffepaa.Same3 Go.Proofs.YtlefefcakffepaaW.PrintWords Go.Proofs.Ytlefefcakffepaa.PBusPlays

/-- A memory. -/
def ram (b : Nat) (ws : List Int) : Rg where
  X w P := ∃ R, P b ∧ P R ∧ RamAt w b R ws
  move h hm := by
    obtain ⟨R, h1, h2, h3⟩ := h
    exact ⟨R, h1, h2, by obtain ⟨c, h4, h5⟩ := h3.hb; exact ⟨c, h4, (hm b h1 h3.lt.1).trans h5⟩, by obtain ⟨c, h4, h5⟩ := h3.hR; exact ⟨c, h4, (hm R h2 h3.lt.2).trans h5⟩, h3.pos, h3.le, h3.ne, h3.ok⟩
  bound h := by
    obtain ⟨R, h1, h2, h3⟩ := h
    exact ⟨R, ⟨h1, h3.lt.1⟩, ⟨h2, h3.lt.2⟩, h3⟩
  mono h hP := by
    obtain ⟨R, h1, h2, h3⟩ := h
    exact ⟨R, hP _ h1, hP _ h2, h3⟩
/-- A slice of ints. -/
def lat (v : Value) (q : List Int) : Rg where
  X w P := LAt w P v q
  move h hm := LAt.move h hm
  bound h := LAt.bound h
  mono h hP := LAt.mono h hP
/-- A list of the reference's. -/
def lst (base : Nat) (v : Value) (xs : List Int) : Rg where
  X w P := Kd.R (Kd.int .i64) 3 w base P v xs
  move h hm := Kd.R_step h hm
  bound h := Kd.R_mono (Kd.R_bound h) (fun k hk => ⟨hk.1, hk.2.2.1⟩)
  mono h hP := Kd.R_mono h hP
theorem lat_of_R {w : World} {base : Nat} {P : Nat → Prop} {v : Value} {xs : List Int} (h : Kd.R (Kd.int .i64) 3 w base P v xs) : LAt w P v xs := by
  have ho := Kd.own_of_R h
  have hl := LAt.of_own (q := xs) ho
  rcases hl with hl | ⟨ad, c, rfl, hc, hh⟩
  · exact .inl hl
  · exact .inr ⟨ad, c, rfl, hc, fun j hj => ⟨h.1 _ rfl, (hh j hj).2⟩⟩
section
variable {P0 : Nat → Prop} {w0 w w' : World} {L : List Rg}
/-- A contract on a memory, as a step. -/
theorem ram_step {b : Nat} {ws : List Int} (h : St P0 w0 w (ram b ws :: L)) : ∃ R, RamAt w b R ws ∧ ∀ {w' ws'}, RamAt w' b R ws' → Off1 R w w' → St P0 w0 w' (ram b ws' :: L) := by
  obtain ⟨P, ⟨Q, Q2, hq, _, _, ⟨R, h1, h2, h3⟩, _⟩, hs⟩ := St.step (L := [ram b ws]) h
  refine ⟨R, h3, fun {w' ws'} h4 ho => hs (M := [ram b ws']) ⟨⟨ho.os, ho.tape, ho.output, ho.size, fun k hk hn => ho.block k hk (fun e => hn (by rw [e]; exact hq R h2))⟩, fun k => k = b ∨ k = R, No, ?_, fun _ e => e.elim, fun _ _ e => e.elim, ⟨R, .inl rfl, .inr rfl, h4⟩, trivial⟩⟩
  rintro k (rfl | rfl)
  · exact ⟨.inl (hq _ h1), h4.lt.1⟩
  · exact ⟨.inl (hq _ h2), h4.lt.2⟩
theorem ram_new {b R : Nat} {ws : List Int} (h : St P0 w0 w L) (hr : RamAt w' b R ws) (hu : Up w w') (hb : w.heap.size ≤ b) (hR : w.heap.size ≤ R) : St P0 w0 w' (ram b ws :: L) :=
  h.fresh (M := [ram b ws]) hu ⟨fun k => w.heap.size ≤ k, No, fun k hk => hk, fun _ e => e.elim, fun _ _ e => e.elim, ⟨R, hb, hR, hr⟩, trivial⟩
theorem lat_new {v : Value} {q : List Int} (h : St P0 w0 w L) (hr : LAt w' (fun k => w.heap.size ≤ k) v q) (hu : Up w w') : St P0 w0 w' (lat v q :: L) :=
  h.fresh (M := [lat v q]) hu ⟨fun k => w.heap.size ≤ k, No, fun k hk => hk, fun _ e => e.elim, fun _ _ e => e.elim, hr, trivial⟩
theorem New_st (h : St P0 w0 w L) (n : Nat) (h1 : 1 ≤ n) (h2 : n ≤ 65536) : Calls Try.prog 30 #[.int .i64 n] w fun e w' => ∃ b, e = .returned (.tuple #[.pointer (some ⟨b, 0, none⟩), .int .i64 0]) ∧ St P0 w0 w' (ram b (List.replicate n 0) :: L) := by
  refine (new_ok n h1 h2 w).mono ?_
  rintro e w' ⟨b, R, rfl, hr, hu, hb, hR⟩
  exact ⟨b, rfl, ram_new h hr hu hb hR⟩
theorem Size_st {b : Nat} {ws : List Int} (h : St P0 w0 w (ram b ws :: L)) : Calls Try.prog 39 #[.pointer (some ⟨b, 0, none⟩)] w fun e w' => e = .returned (.int .i64 ws.length) ∧ St P0 w0 w' (ram b ws :: L) := by
  obtain ⟨R, hr, hs⟩ := ram_step h
  refine (size_walk b R ws w hr).mono ?_
  rintro e w' ⟨rfl, hu⟩
  exact ⟨rfl, h.more hu⟩
theorem ram_le {b : Nat} {ws : List Int} (h : St P0 w0 w (ram b ws :: L)) : 1 ≤ ws.length ∧ ws.length ≤ 65536 := by
  obtain ⟨R, hr, hs⟩ := ram_step h
  exact ⟨hr.pos, hr.le⟩
theorem Load_st {b : Nat} {ws : List Int} (h : St P0 w0 w (ram b ws :: L)) (a : Int) : Calls Try.prog 61 #[.pointer (some ⟨b, 0, none⟩), .int .i64 a] w fun e w' => e = .returned (.tuple #[.int .i64 (loadI ws a).1, .int .i64 (loadI ws a).2]) ∧ St P0 w0 w' (ram b ws :: L) := by
  obtain ⟨R, hr, hs⟩ := ram_step h
  refine (load_walk b R ws a w hr).mono ?_
  rintro e w' ⟨rfl, hu⟩
  exact ⟨rfl, h.more hu⟩
theorem Store_st {b : Nat} {ws : List Int} (h : St P0 w0 w (ram b ws :: L)) (a z : Int) : Calls Try.prog 70 #[.pointer (some ⟨b, 0, none⟩), .int .i64 a, .int .i64 z] w fun e w' => e = .returned (.int .i64 (fillI ws a 1 z).2) ∧ St P0 w0 w' (ram b (fillI ws a 1 z).1 :: L) := by
  obtain ⟨R, hr, hs⟩ := ram_step h
  refine (Store_walk b R ws a z w hr).mono ?_
  rintro e w' ⟨rfl, h2, ho⟩
  exact ⟨rfl, hs h2 ho⟩
theorem Span_st {b : Nat} {ws : List Int} (h : St P0 w0 w (ram b ws :: L)) (a n : Int) : Calls Try.prog 38 #[.pointer (some ⟨b, 0, none⟩), .int .i64 a, .int .i64 n] w fun e w' => ∃ v, e = .returned (.tuple #[v, .int .i64 (spanI ws a n).2]) ∧ St P0 w0 w' (lat v (spanI ws a n).1 :: ram b ws :: L) := by
  obtain ⟨R, hr, hs⟩ := ram_step h
  refine (Span_walk b R ws a n w hr).mono ?_
  rintro e w' ⟨v, rfl, hl, hu⟩
  exact ⟨v, rfl, lat_new h hl hu⟩
theorem Same_st {u v : Value} {l m : List Int} (h : St P0 w0 w (lat u l :: lat v m :: L)) (hl : l.length ≤ 1000) (hm : m.length ≤ 1000000) :
    Calls Try.prog 14 #[u, v] w fun e w' => e = .returned (.bool (decide (l = m))) ∧ St P0 w0 w' (lat u l :: lat v m :: L) := by
  obtain ⟨P, ⟨Q, Q2, hq, _, _, h1, R, R2, _, _, _, h2, _⟩, hs⟩ := St.step (L := [lat u l, lat v m]) h
  obtain ⟨A0, c0, rfl⟩ := LAt.len h1
  obtain ⟨A1, c1, rfl⟩ := LAt.len h2
  refine (Same_l l m _ _ _ _ _ _ _ _ w h1 h2 hl hm).mono ?_
  rintro e w' ⟨rfl, hu⟩
  exact ⟨rfl, h.more hu⟩
theorem spanI_all {ws : List Int} (h : ws.length ≤ 65536) : spanI ws 0 ws.length = (ws, 0) := by
  have hw : wrongI ws.length 0 ws.length = 0 := by unfold wrongI; rw [if_neg (by omega), if_neg (by omega)]
  unfold spanI
  rw [if_neg (fun e => e hw)]
  simp
theorem Words_st {b : Nat} {ws : List Int} (h : St P0 w0 w (ram b ws :: L)) : Calls Try.prog 15 #[.pointer (some ⟨b, 0, none⟩)] w fun e w' => ∃ v, e = .returned v ∧ St P0 w0 w' (lat v ws :: ram b ws :: L) := by
  have HI := Lib.hid h
  have HL := Lib.hid (spanI_all (ram_le h).2)
  clear h
  go_enter Try.func15, Try.ntmps15
  go_wp2_with fail
  refine (Size_st HI.out).mono ?_
  rintro e w1 ⟨rfl, h1⟩
  have HI1 := Lib.hid h1
  clear h1 HI
  go_wp2_with fail
  refine (Span_st HI1.out 0 ws.length).mono ?_
  rw [HL.out]
  rintro e w2 ⟨v, rfl, h2⟩
  have HI2 := Lib.hid h2
  clear h2 HI1
  go_wp2
  go_ret
  exact ⟨_, rfl, HI2.out⟩
end
end Go.Proofs.Ytlefefcakffepaa.Sram

/- SramKeeps, walked. -/
namespace Go.Proofs.Ytlefefcakffepaa.Sram
set_option linter.unusedVariables false
set_option linter.unusedSimpArgs false
open Go.RowKit Go.Proofs.Ytlefefcakffepaa.Lat Go.Proofs.Ytlefefcakffepaa.CellOf Go.Proofs.Ytlefefcakffepaa.Equal Go.Proofs.Ytlefefcakffepaa.Same3 Go.Proofs.Ytlefefcakffepaa.Open Go.Proofs.YtlefefcakffepaaW.PrintWords

theorem fill1 (ws : List Int) (x y : Int) : (fillI ws x 1 y).2 = 0 → 0 ≤ x ∧ x < ws.length ∧ fillI ws x 1 y = (ws.set x.toNat y, 0) := by
  intro h
  unfold fillI at h ⊢
  split at h
  · next h1 => exact absurd h h1
  · next h1 =>
    split at h
    · simp at h
    · next h2 =>
      have hb := wrongI_zero (Decidable.of_not_not h1)
      refine ⟨hb.2.1, by omega, ?_⟩
      rw [if_neg h1, if_neg h2]
      rfl
theorem fill1_ne (ws : List Int) (x y : Int) : (fillI ws x 1 y).2 ≠ 0 → (fillI ws x 1 y).1 = ws := by
  intro h
  unfold fillI at h ⊢
  split
  · rfl
  · next h1 =>
    split
    · rfl
    · next h2 =>
      rw [if_neg h1, if_neg h2] at h
      exact absurd rfl h
theorem keeps_pure (ws : List Int) (x y z : Int) :
    ((fillI ws x 1 y).2 = 0 ∧ loadI (fillI ws x 1 y).1 x = (y, 0) ∧ (x = z ∨ (loadI (fillI ws x 1 y).1 z).1 = (loadI ws z).1)) ∨ ((fillI ws x 1 y).2 ≠ 0 ∧ (loadI (fillI ws x 1 y).1 z).1 = (loadI ws z).1) := by
  by_cases h : (fillI ws x 1 y).2 = 0
  · obtain ⟨h0, h1, e⟩ := fill1 ws x y h
    refine .inl ⟨h, ?_, ?_⟩
    · rw [e]
      unfold loadI
      rw [if_pos (by simpa using ⟨h0, h1⟩)]
      simp [List.getD_eq_getElem?_getD, List.getElem?_set, show x.toNat < ws.length by omega]
    · by_cases hxz : x = z
      · exact .inl hxz
      · refine .inr ?_
        rw [e]
        unfold loadI
        rw [List.length_set]
        split
        · next hz =>
          have : x.toNat ≠ z.toNat := by omega
          simp [List.getD_eq_getElem?_getD, List.getElem?_set, this]
        · rfl
  · exact .inr ⟨h, by rw [fill1_ne ws x y h]⟩
theorem row_cells {w : World} {A : Option Addr} {rows : List (List Int)} (h : Recs 4 w A rows) (i : Nat) (hi : i < rows.length) :
    ∃ ad, A = some ad ∧ ∃ k a n z : Int, w.cell? (ad.add (i * 4)) = some (.int .i64 k) ∧ w.cell? ⟨(ad.add (i * 4)).block, (ad.add (i * 4)).off + 1, none⟩ = some (.int .i64 a) ∧ w.cell? ⟨(ad.add (i * 4)).block, (ad.add (i * 4)).off + 2, none⟩ = some (.int .i64 n) ∧ w.cell? ⟨(ad.add (i * 4)).block, (ad.add (i * 4)).off + 3, none⟩ = some (.int .i64 z) ∧
      k = (rows.getD i []).getD 0 0 ∧ a = (rows.getD i []).getD 1 0 ∧ n = (rows.getD i []).getD 2 0 ∧ z = (rows.getD i []).getD 3 0 := by
  obtain ⟨ad, rfl, hc⟩ := h i hi
  have h0 := hc 0 (by omega)
  have h1 := hc 1 (by omega)
  have h2 := hc 2 (by omega)
  have h3 := hc 3 (by omega)
  rw [← Go.Deep.add_add] at h1 h2 h3
  exact ⟨ad, rfl, _, _, _, _, h0, h1, h2, h3, rfl, rfl, rfl, rfl⟩
theorem post (b R : Nat) (ws : List Int) (x y z : Int) : ∃ (fe was wae now noe ld le : Int) (ws3 : List Int),
    (∀ w0, RamAt w0 b R ws → Calls Try.prog 61 #[.pointer (some ⟨b, 0, none⟩), .int .i64 z] w0 fun e w' => e = .returned (.tuple #[.int .i64 was, .int .i64 wae]) ∧ Up w0 w') ∧
    (∀ w0, RamAt w0 b R ws → Calls Try.prog 70 #[.pointer (some ⟨b, 0, none⟩), .int .i64 x, .int .i64 y] w0 fun e w' => e = .returned (.int .i64 fe) ∧ RamAt w' b R ws3 ∧ Off1 R w0 w') ∧
    (∀ w0, RamAt w0 b R ws3 → Calls Try.prog 61 #[.pointer (some ⟨b, 0, none⟩), .int .i64 x] w0 fun e w' => e = .returned (.tuple #[.int .i64 ld, .int .i64 le]) ∧ Up w0 w') ∧
    (∀ w0, RamAt w0 b R ws3 → Calls Try.prog 61 #[.pointer (some ⟨b, 0, none⟩), .int .i64 z] w0 fun e w' => e = .returned (.tuple #[.int .i64 now, .int .i64 noe]) ∧ Up w0 w') ∧
    (((fe == 0) = true ∧ (le != 0) = false ∧ (ld != y) = false ∧ (now == was) = true) ∨ ((fe == 0) = true ∧ (le != 0) = false ∧ (ld != y) = false ∧ (now == was) = false ∧ (x == z) = true) ∨ ((fe == 0) = false ∧ (now == was) = true)) := by
  refine ⟨(fillI ws x 1 y).2, (loadI ws z).1, (loadI ws z).2, (loadI (fillI ws x 1 y).1 z).1, (loadI (fillI ws x 1 y).1 z).2, (loadI (fillI ws x 1 y).1 x).1, (loadI (fillI ws x 1 y).1 x).2, (fillI ws x 1 y).1,
    fun w0 hh => load_walk b R ws z w0 hh, fun w0 hh => Store_walk b R ws x y w0 hh, fun w0 hh => load_walk b R _ x w0 hh, fun w0 hh => load_walk b R _ z w0 hh, ?_⟩
  rcases keeps_pure ws x y z with ⟨q0, q1, q2⟩ | ⟨q0, q1⟩
  · rw [q0, q1]
    by_cases e : (loadI (fillI ws x 1 y).1 z).1 = (loadI ws z).1
    · exact .inl ⟨rfl, rfl, bne_self_eq_false _, beq_iff_eq.2 e⟩
    · exact .inr (.inl ⟨rfl, rfl, bne_self_eq_false _, beq_eq_false_iff_ne.2 e, beq_iff_eq.2 (q2.resolve_right e)⟩)
  · exact .inr (.inr ⟨beq_eq_false_iff_ne.2 q0, beq_iff_eq.2 q1⟩)
end Go.Proofs.Ytlefefcakffepaa.Sram

/- SramPlays, walked. -/
namespace Go.Proofs.Ytlefefcakffepaa.Sram
set_option linter.unusedVariables false
set_option linter.unusedSimpArgs false
open Go.RowKit Go.Proofs.Ytlefefcakffepaa.Lat Go.Proofs.Ytlefefcakffepaa.Sep Go.Proofs.Ytlefefcakffepaa.Same3 Go.Proofs.Ytlefefcakffepaa.Open Go.Proofs.YtlefefcakffepaaW.PrintWords Go.Proofs.Ytlefefcakffepaa.PBusPlays

theorem run_mkR (n : Nat) (h2 : n ≤ 65536) (w : World) : (Instr.makeSlice 42 (.int .i64 n) (.int .i64 n)).run Try.prog w = .ok (.slice (some ⟨w.heap.size, 0, none⟩) n n) (w.alloc (.cells ((List.replicate n (0 : Int)).map (Value.int .i64)).toArray 3)) := by
  obtain ⟨i, hi, hz, hs, hb⟩ : ∃ i, Try.prog.info? 3 = some i ∧ i.zero = some (.int .i64 0) ∧ i.size = 1 ∧ i.bytes = 8 := by
    have h := info_int
    cases hi : Try.prog.info? 3 with
    | none => rw [hi] at h; cases h
    | some i =>
      rw [hi] at h
      simp at h
      exact ⟨i, rfl, h.1, h.2.1, h.2.2⟩
  have h := run_makeSlice w 42 3 i (.int .i64 0) Try.underlying42 hi hz .i64 .i64 n n (by omega) (Int.le_refl _) (by rw [hs]; simp; omega) (by rw [hb]; omega) (by omega)
  rw [hs, Int.toNat_natCast, made_ints] at h
  exact h
theorem doM_len (ws : List Int) (k a n z : Int) : (doM ws k a n z).1.length = ws.length ∧ (doM ws k a n z).2.1.length ≤ ws.length + 1 := by
  have hf : ∀ a n z, (fillI ws a n z).1.length = ws.length := by
    intro a n z
    unfold fillI
    split
    · rfl
    · split
      · rfl
      · exact fillL_len _ _ _ _
  have hs := span_len ws a n
  unfold doM
  split
  · exact ⟨hf _ _ _, by simp⟩
  · split
    · exact ⟨rfl, by simp; omega⟩
    · split
      · exact ⟨hf _ _ _, by simp⟩
      · exact ⟨rfl, by simp⟩
theorem lst_of_bk {w0 w : World} {L : List Rg} {g n : Nat} (h : St No w0 w (bk g 3 ((List.replicate n (0 : Int)).map (Value.int .i64)).toArray :: L)) (hn : n ≤ 65536) : St No w0 w (lst w0.heap.size (.slice (some ⟨g, 0, none⟩) n n) (List.replicate n 0) :: L) := by
  have hg := h.bk_in.1
  refine h.imp fun P hP => Kd.R_of_own ⟨by simp [encs], .inr ⟨g, n, _, by simp, by rcases hg with e | e; exact e.elim; exact e, hP.2, by simp, by unfold maxLen; omega, by simp, by simp [encs]⟩⟩ (fun k hk => by
    have : g = k := by simpa [Value.ownBlock] using hk
    rw [← this]
    exact hP.1)
theorem Same_lst {w0 w : World} {P0 : Nat → Prop} {L : List Rg} {base : Nat} {u v : Value} {l m : List Int} (h : St P0 w0 w (lat u l :: lst base v m :: L)) (hl : l.length ≤ 1000) (hm : m.length ≤ 1000000) :
    Calls Try.prog 14 #[u, v] w fun e w' => e = .returned (.bool (decide (l = m))) ∧ St P0 w0 w' (lat u l :: lst base v m :: L) := by
  obtain ⟨P, ⟨Q, Q2, hq, _, _, h1, R, R2, _, _, _, h2, _⟩, hs⟩ := St.step (L := [lat u l, lst base v m]) h
  have h2' := lat_of_R h2
  obtain ⟨A0, c0, rfl⟩ := LAt.len h1
  obtain ⟨A1, c1, rfl⟩ := LAt.len h2'
  refine (Same_l l m _ _ _ _ _ _ _ _ w h1 h2' hl hm).mono ?_
  rintro e w' ⟨rfl, hu⟩
  exact ⟨rfl, h.more hu⟩
theorem ref_is (n : Int) (w : World) : Calls Try.prog 41 #[.int .i64 n] w fun e w' => e = .returned (.bool (decide (1 ≤ n ∧ n ≤ 65536))) ∧ Up w w' := by
  refine (switchyardref03_Is.calls n (decide (1 ≤ n ∧ n ≤ 65536)) w ?_).mono ?_
  · unfold switchyardref03_Is.f
    by_cases h : n ≥ 1
    · rw [if_pos h]
      simp [show 1 ≤ n from h]
    · rw [if_neg h, decide_eq_false (by omega)]
  · rintro e w' ⟨rfl, h⟩
    exact ⟨rfl, by obtain ⟨k, rfl⟩ := h.out; exact (Up.refl _).drewN _⟩
end Go.Proofs.Ytlefefcakffepaa.Sram

/- sram.Same, Clone and Cells on separate parts. -/
namespace Go.Proofs.Ytlefefcakffepaa.Sram
set_option linter.unusedVariables false
set_option linter.unusedSimpArgs false
open Go.RowKit Go.Proofs.Ytlefefcakffepaa.Lat Go.Proofs.Ytlefefcakffepaa.Sep Go.Proofs.Ytlefefcakffepaa.CellOf Go.Proofs.Ytlefefcakffepaa.CellP Go.Proofs.Ytlefefcakffepaa.Equal Go.Proofs.Ytlefefcakffepaa.Floats

/-- The words, as cells from the head of their block on. -/
theorem ram_cat {w : World} {b R : Nat} {ws : List Int} (h : RamAt w b R ws) : CAt w (some ⟨R, 0, none⟩) (ws.map (Value.int .i64)) := by
  intro j u hj
  obtain ⟨z, hz, rfl⟩ := by simpa using hj
  have hl := (List.getElem?_eq_some_iff.1 hz).1
  refine ⟨_, rfl, ?_⟩
  rw [Addr.add_mid, Nat.zero_add, h.cell j hl]
  simp [List.getD_eq_getElem?_getD, hz]
set_option maxHeartbeats 1000000 in
set_option maxRecDepth 100000 in
theorem Same_walk2 (a b R Q : Nat) (p q : List Int) (w : World) (ha : RamAt w a R p) (hb : RamAt w b Q q) :
    Calls Try.prog 55 #[.pointer (some ⟨a, 0, none⟩), .pointer (some ⟨b, 0, none⟩)] w fun e w' => e = .returned (.bool (decide (p = q))) ∧ Drawn w w' := by
  obtain ⟨c, -, c0⟩ := ha.b0
  obtain ⟨d, -, d0⟩ := hb.b0
  have HE := Lib.hid (fun n => Equal_i p q (some ⟨R, 0, none⟩) (some ⟨Q, 0, none⟩) c d (w.drewN n) ((ram_cat ha).up ((Up.refl _).drewN n)) ((ram_cat hb).up ((Up.refl _).drewN n)) (by have := ha.le; omega))
  clear ha hb
  go_enter Try.func55, Try.ntmps55
  go_wp2_with fail
  go_quiet ((go_at_call 81; exact Calls.quiet_of ((HE.out _).mono fun _ _ h => h)))
  go_wp2
  go_ret
  exact ⟨rfl, _, rfl⟩
section
variable {P0 : Nat → Prop} {w0 w w' : World} {L : List Rg}
theorem Same_pp {a b : Nat} {p q : List Int} (h : St P0 w0 w (ram a p :: ram b q :: L)) :
    Calls Try.prog 55 #[.pointer (some ⟨a, 0, none⟩), .pointer (some ⟨b, 0, none⟩)] w fun e w' => e = .returned (.bool (decide (p = q))) ∧ St P0 w0 w' (ram a p :: ram b q :: L) := by
  obtain ⟨P, ⟨Q, Q2, hq, _, _, ⟨R, _, _, h1⟩, R3, R2, _, _, _, ⟨R4, _, _, h2⟩, _⟩, hs⟩ := St.step (L := [ram a p, ram b q]) h
  refine (Same_walk2 a b R R4 p q w h1 h2).mono ?_
  rintro e w' ⟨rfl, hd⟩
  exact ⟨rfl, h.drawn hd⟩
theorem Same_self {a : Nat} {p : List Int} (h : St P0 w0 w (ram a p :: L)) :
    Calls Try.prog 55 #[.pointer (some ⟨a, 0, none⟩), .pointer (some ⟨a, 0, none⟩)] w fun e w' => e = .returned (.bool true) ∧ St P0 w0 w' (ram a p :: L) := by
  obtain ⟨R, h1, hs⟩ := ram_step h
  refine (Same_walk2 a a R R p p w h1 h1).mono ?_
  rintro e w' ⟨rfl, hd⟩
  exact ⟨by simp, h.drawn hd⟩
set_option maxHeartbeats 1000000 in
theorem Clone_st {b : Nat} {ws : List Int} (h : St P0 w0 w (ram b ws :: L)) :
    Calls Try.prog 40 #[.pointer (some ⟨b, 0, none⟩)] w fun e w' => ∃ b', e = .returned (.pointer (some ⟨b', 0, none⟩)) ∧ St P0 w0 w' (ram b' ws :: ram b ws :: L) := by
  obtain ⟨R, h1, hs⟩ := ram_step h
  obtain ⟨c, hc, c0⟩ := h1.b0
  have HC := Lib.hid (Clone.Clone_int (ws.map (Value.int .i64)) ⟨R, 0, none⟩ ws.length c w ⟨by simp, oInt ws, fun _ => ⟨_, rfl, fun j u hu => by
    obtain ⟨ad, e, h2⟩ := ram_cat h1 j u hu
    cases e
    exact h2⟩⟩ (by have := h1.le; omega))
  have HR := Lib.hid h1
  have HS := Lib.hid h
  clear h h1 hs hc
  go_enter Try.func40, Try.ntmps40
  go_wp2_with (go_at_call 74; refine HC.out.mono ?_; rintro e w1 ⟨A', c', rfl, ho, hu⟩; have HO := Lib.hid ho; have HU := Lib.hid hu; clear ho hu)
  go_ret
  refine ⟨_, rfl, St.fresh (M := [ram w1.heap.size ws]) HS.out (HU.out.alloc _) ⟨fun k => w.heap.size ≤ k, No, fun k hk => hk, fun _ e => e.elim, fun _ _ e => e.elim, ?_, trivial⟩⟩
  have hpos := HR.out.pos
  obtain ⟨h2, h3⟩ := HO.out
  rcases h3 with ⟨_, h0⟩ | ⟨g, cap, cur, hv, hg, hh, hn, hm, hs, ht⟩
  · omega
  · cases hv
    have hlt := heap_lt hh
    have hnew := block_up ((Up.refl w1).alloc (.cells #[.slice (some ⟨g, 0, none⟩) ws.length c'] 118)) hh
    refine ⟨g, HU.out.size, hg, ⟨c', ⟨hn, (by unfold maxLen at hm; omega)⟩, block_new w1 _⟩, ⟨cur, fun i hi => ?_, hnew⟩, hpos, HR.out.le, by omega, HR.out.ok⟩
    have h5 : (cur.toList.take (ws.length * 1))[i]? = (ws.map (Value.int .i64))[i]? := by rw [ht]
    rw [List.getElem?_take, if_pos (by omega)] at h5
    simp at h5
    rw [h5]
    simp [List.getD_eq_getElem?_getD, hi]
theorem ram_ok {b : Nat} {ws : List Int} (h : St P0 w0 w (ram b ws :: L)) : ∀ z ∈ ws, 0 ≤ z ∧ z ≤ 65535 := by
  obtain ⟨R, hr, hs⟩ := ram_step h
  exact hr.ok
theorem slc_cat {e n : Nat} {A : Option Addr} {c : Nat} {xs : List Value} {P : Nat → Prop} (h : (slc e 1 (.slice A n c) n xs).X w P) : CAt w A xs := by
  intro j u hj
  have hl := (List.getElem?_eq_some_iff.1 hj).1
  have h1 := (slc_one h).1
  obtain ⟨g, o, rfl, _, _, _, hc, _⟩ := slc_cells h (by omega)
  exact ⟨_, rfl, by rw [Addr.add_mid]; exact hc j u hj⟩
theorem cSame_st {u v : Value} {cs : List Value} {e f n : Nat} (h : St P0 w0 w (slc e 1 u n cs :: slc f 1 v n cs :: L)) (hs : ∀ u ∈ cs, Self u) (hl : n ≤ 1000000) :
    Calls Try.prog 59 #[u, v] w fun e' w' => e' = .returned (.bool true) ∧ St P0 w0 w' (slc e 1 u n cs :: slc f 1 v n cs :: L) := by
  obtain ⟨P, ⟨Q, Q2, _, _, _, h1, R3, R2, _, _, _, h2, _⟩, _⟩ := St.step (L := [slc e 1 u n cs, slc f 1 v n cs]) h
  obtain ⟨A, c, rfl, _⟩ := slc_form h1
  obtain ⟨B, d, rfl, _⟩ := slc_form h2
  have hn : cs.length = n := by simpa using (slc_one h1).1
  have h3 := cSame_walk cs A B c d w (slc_cat h1) (slc_cat h2) hs (by omega)
  rw [hn] at h3
  refine h3.mono ?_
  rintro e w' ⟨rfl, hu⟩
  exact ⟨rfl, h.more hu⟩
theorem cellsL_self (ws : List Int) (hw : ∀ z ∈ ws, 0 ≤ z ∧ z ≤ 65535) (hl : ws.length ≤ 65536) : ∀ i, i ≤ ws.length → ∀ u ∈ cellsL ws i, Self u
  | 0, _, u, hu => by simp [cellsL] at hu
  | i + 1, hi, u, hu => by
    unfold cellsL at hu
    rcases List.mem_append.1 hu with hu | hu
    · exact cellsL_self ws hw hl i (by omega) u hu
    · split at hu
      · simp at hu
      · obtain rfl := by simpa using hu
        have hz := hw (ws.getD i 0) (by rw [List.getD_eq_getElem?_getD, List.getElem?_eq_getElem (by omega)]; exact List.getElem_mem _)
        obtain ⟨k, hk⟩ := Int.eq_ofNat_of_zero_le hz.1
        refine ⟨_, _, rfl, eqself i (by omega), ?_⟩
        rw [List.getD_eq_getElem?_getD] at hk hz
        rw [hk]
        exact eqself k (by omega)
end
end Go.Proofs.Ytlefefcakffepaa.Sram
