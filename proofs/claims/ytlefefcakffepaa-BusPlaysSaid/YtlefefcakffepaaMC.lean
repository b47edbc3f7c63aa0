/- MC: the texts Find, Sbuf, Sbuf2, Ref05, Ref05Do in one (merge.py). -/
import Derived.RangeFuncNested
import Derived.RangeFuncBound
import Derived.RangeFuncCalls
import Derived.RangeFuncBox
import Derived.RangeFuncLeaves
import Derived.Shelf.Abstract
import Derived.Shelf.RegionOpen
import Derived.OwnWalkIn
import Derived.TacticsInMore
import Derived.LoopNIn
import Derived.LoopIn
import Derived.Test.YtlefefcakffepaaMA
import Derived.BigQuiet
import Derived.Deep.RegionHeld3
import Derived.Deep.RegionWith
import Derived.RegionTactic
import Derived.ChangeAlike
import Derived.Laws.ResultCell
/- cell.Find over slices.Backward: the word of the last cell with an address. Condition: the cells are those of numbers from 0 to 65535. -/
namespace Go.Proofs.Ytlefefcakffepaa.Find
set_option linter.unusedVariables false
set_option linter.unusedSimpArgs false
open Go.RowKit Go.Shelf Go.Proofs.Ytlefefcakffepaa.CellOf Go.Proofs.Ytlefefcakffepaa.CellP Go.Proofs.Ytlefefcakffepaa.Sep

/-- An address and a word. -/
structure W16 where
  a : Nat
  v : Nat
  ha : a ≤ 65535
  hv : v ≤ 65535
theorem W16.ext' {x y : W16} (h1 : x.a = y.a) (h2 : x.v = y.v) : x = y := by
  cases x
  cases y
  simp at h1 h2
  subst h1 h2
  rfl
instance : Inhabited W16 := ⟨⟨0, 0, by omega, by omega⟩⟩
/-- Its cell. -/
def cw (x : W16) : Value := .complex .f64 (floatOfInt .f64 (x.a : Int)) (floatOfInt .f64 (x.v : Int))
def upto {α : Type} (f : Nat → α) (k : Nat) : List α := (List.range k).map f
theorem upto_succ {α : Type} (f : Nat → α) (k : Nat) : upto f (k + 1) = upto f k ++ [f k] := by simp [upto, List.range_succ]
theorem upto_length {α : Type} (f : Nat → α) (k : Nat) : (upto f k).length = k := by simp [upto]
/-- What comes in round k: the index and the cell, from behind. -/
def fb' (L : List W16) (k : Nat) : Int × W16 := (((L.length - 1 - k : Nat) : Int), L.getD (L.length - 1 - k) default)
attribute [local go_sem] Oper.semAt_some
set_option maxRecDepth 100000 in
set_option maxHeartbeats 4000000 in
theorem back1_in (F : Fence) (n : Nat) (hf : F.fn 91) (hro : F.round = none) (hn : 1 ≤ n) (l Bs n₀ b off cap : Nat) (L : List W16) (hlen : L.length ≤ 1000000) (hb : b < n₀) (J Jx : List (Int × W16) → World → Prop)
    (hY : ∀ pre x W, J pre W → pre.length < L.length → YieldAt F (n - 1) Try.prog l #[.int .i64 x.1, cw x.2] W fun e W' =>
      (e = .returned (.bool true) ∧ J (pre ++ [x]) W' ∧ Below n₀ W W') ∨ (e = .returned (.bool false) ∧ Jx (pre ++ [x]) W'))
    (W : World) (hBs : W.cell? ⟨Bs, 0, none⟩ = some (.slice (some ⟨b, off, none⟩) L.length cap)) (hBn : Bs < n₀) (hc : ∀ j, j < L.length → W.cell? ⟨b, off + j, none⟩ = some (cw (L.getD j default))) (h0 : J [] W) :
    CallsIn F n Try.prog 91 #[.func (.yield l) #[] #[], .pointer (some ⟨Bs, 0, none⟩)] W fun e W' => (∃ v, e = .returned v) ∧
      ((∃ ys, ys = upto (fb' L) L.length ∧ J ys W') ∨ (∃ pre, (∃ k, k ≤ L.length ∧ pre = upto (fb' L) k) ∧ Jx pre W')) := by
  refine callsIn_of_wp Try.func91 rfl hf ?_ hro
  simp only [Try.ntmps91, List.size_toArray, List.length_cons, List.length_nil, Nat.reduceAdd, Nat.reduceSub, Array.replicate_succ, Array.replicate_zero, List.push_toArray, List.append_toArray, List.nil_append, List.cons_append]
  gi_wp2
  gi_loopw [3] (fun i wr => ∃ j : Int, -1 ≤ j ∧ j < L.length ∧ i = .int .i64 j ∧ J (upto (fb' L) (L.length - (j + 1).toNat)) wr ∧ Below n₀ W wr)
    (fun i _ => (intOf i + 1).toNat)
  case atStart => exact ⟨(L.length : Int) - 1, by omega, by omega, by first | rfl | simp, by rw [show L.length - ((L.length : Int) - 1 + 1).toNat = 0 by omega]; exact h0, Below.refl _ _⟩
  case round =>
    obtain ⟨j, hj0, hj1, rfl, hJs, hnx⟩ := hrel
    by_cases hlt : 0 ≤ j
    · obtain ⟨p, rfl⟩ := Int.eq_ofNat_of_zero_le hlt
      have e1 : L.length - (((p : Nat) : Int) + 1).toNat = L.length - 1 - p := by omega
      rw [e1] at hJs
      have e2 : fb' L (L.length - 1 - p) = ((p : Int), L.getD p default) := by
        unfold fb'
        rw [show L.length - 1 - (L.length - 1 - p) = p by omega]
      have hp : p < L.length := by omega
      have hc1 : wr.cell? ⟨b, off + p, none⟩ = some (cw (L.getD p default)) := (hnx.cell (p := ⟨b, off + p, none⟩) hb).trans (hc p hp)
      have hb1 : wr.cell? ⟨Bs, 0, none⟩ = some (.slice (some ⟨b, off, none⟩) L.length cap) := (hnx.cell (p := ⟨Bs, 0, none⟩) hBn).trans hBs
      obtain ⟨fn, tmps, assign, body, hy, hR⟩ := hY _ ((p : Int), L.getD p default) wr hJs (by rw [upto_length]; omega)
      dsimp only at hy
      have hR := Lib.hid hR
      have E2 := Lib.hid e2
      clear e1 e2 hlt
      generalize L.getD p default = x at *
      unfold cw at hc1 hy
      gi_wp2
      refine hR.out.mono ?_
      rintro e W3 (⟨rfl, hJ3, hk3⟩ | ⟨rfl, hJx3⟩)
      · gi_wp2
        go_roundw
        case rel => exact ⟨(p : Int) - 1, by omega, by omega, by first | rfl | simp, by rw [show L.length - ((p : Int) - 1 + 1).toNat = L.length - 1 - p + 1 by omega, upto_succ, E2.out]; exact hJ3, hnx.trans hk3⟩
        case measure => simp [intOf]
      · gi_wp2
        refine bodyPost_ret (results_none rfl _ _ _) rfl ?_
        exact ⟨⟨_, rfl⟩, .inr ⟨_, ⟨L.length - 1 - p + 1, by omega, by rw [upto_succ, E2.out]⟩, hJx3⟩⟩
    · obtain rfl : j = -1 := by omega
      rw [show L.length - ((-1 : Int) + 1).toNat = L.length by omega] at hJs
      have HJ := Lib.hid hJs
      clear hJs hlt
      gi_wp2
      go_end0
      exact ⟨⟨_, rfl⟩, .inl ⟨_, rfl, HJ.out⟩⟩
set_option maxRecDepth 100000 in
set_option maxHeartbeats 1000000 in
theorem back1_nil (F : Fence) (n : Nat) (hf : F.fn 91) (hro : F.round = none) (l Bs : Nat) (J : List (Int × W16) → World → Prop) (W : World) (hBs : W.cell? ⟨Bs, 0, none⟩ = some (.slice none 0 0)) (h0 : J [] W) :
    CallsIn F n Try.prog 91 #[.func (.yield l) #[] #[], .pointer (some ⟨Bs, 0, none⟩)] W fun e W' => (∃ v, e = .returned v) ∧ J [] W' := by
  refine callsIn_of_wp Try.func91 rfl hf ?_ hro
  simp only [Try.ntmps91, List.size_toArray, List.length_cons, List.length_nil, Nat.reduceAdd, Nat.reduceSub, Array.replicate_succ, Array.replicate_zero, List.push_toArray, List.append_toArray, List.nil_append, List.cons_append]
  gi_wp2
  gi_loopw [3] (fun i wr => i = .int .i64 (-1) ∧ J [] wr) (fun _ _ => 0)
  case atStart => exact ⟨rfl, h0⟩
  case round =>
    obtain ⟨rfl, hJs⟩ := hrel
    gi_wp2
    go_end0
    exact ⟨⟨_, rfl⟩, hJs⟩
set_option maxHeartbeats 1000000 in
theorem back_in (F : Fence) (n : Nat) (hf : F.fn 88) (hro : F.round = none) (a : Option Addr) (len cap : Nat) (w : World) :
    CallsIn F n Try.prog 88 #[.slice a len cap] w fun e w' => e = .returned (.func (.func 91) #[] #[.pointer (some ⟨w.heap.size, 0, none⟩)]) ∧ w' = w.alloc (.cells #[.slice a len cap] 56) := by
  refine callsIn_of_wp Try.func88 rfl hf ?_ hro
  simp only [Try.ntmps88, List.size_toArray, List.length_cons, List.length_nil, Nat.reduceAdd, Nat.reduceSub, Array.replicate_succ, Array.replicate_zero, List.push_toArray, List.append_toArray, List.nil_append, List.cons_append]
  gi_wp2
  go_ret
  exact ⟨rfl, rfl⟩
/-- Cells of a slice, below a block. -/
def Cs (n₀ : Nat) (W : World) (sv : Value) (L : List W16) : Prop :=
  (sv = .slice none 0 0 ∧ L = []) ∨ ∃ b off cap, sv = .slice (some ⟨b, off, none⟩) L.length cap ∧ b < n₀ ∧ ∀ j, j < L.length → W.cell? ⟨b, off + j, none⟩ = some (cw (L.getD j default))
theorem Cs.below {n₀ : Nat} {A B : World} (h : Below n₀ A B) {sv : Value} {L : List W16} : Cs n₀ A sv L → Cs n₀ B sv L
  | .inl e => .inl e
  | .inr ⟨b, off, cap, e, hb, hc⟩ => .inr ⟨b, off, cap, e, hb, fun j hj => (h.cell (p := ⟨b, off + j, none⟩) hb).trans (hc j hj)⟩
theorem back_stops (F : Fence) (n : Nat) (hf : F.fn 91) (hro : F.round = none) (hn : 1 ≤ n) (Bs n₀ : Nat) (sv : Value) (L : List W16) (hlen : L.length ≤ 1000000) (w : World) (hBs : Bs < w.heap.size) (hBn : Bs < n₀) (hn₀ : n₀ ≤ w.heap.size)
    (hc : w.cell? ⟨Bs, 0, none⟩ = some sv) (hI : Cs n₀ w sv L) :
    SeqStopsK F n Try.prog 91 #[.pointer (some ⟨Bs, 0, none⟩)] (fun x : Int × W16 => #[Value.int .i64 x.1, cw x.2]) (Below n₀) (fun ys => ys = upto (fb' L) L.length)
      (fun pre => ∃ k, k ≤ L.length ∧ pre = upto (fb' L) k) L.length w := fun l J Jx W hW _ _ hY h0 => by
  have hc' := (hW.cell (p := ⟨Bs, 0, none⟩) hBs).trans hc
  rcases hI.below (hW.mono hn₀) with ⟨rfl, rfl⟩ | ⟨b, off, cap, rfl, hb, hcs⟩
  · exact (back1_nil F n hf hro l Bs J W hc' h0).mono fun e W' ⟨he, hj⟩ => ⟨he, .inl ⟨_, rfl, hj⟩⟩
  · exact back1_in F n hf hro hn l Bs n₀ b off cap L hlen hb J Jx hY W hc' hBn hcs h0
/-- The word of the last one with an address. -/
def findL (L : List W16) (a : Int) : Option Nat := (L.reverse.find? fun x => (x.a : Int) == a).map (·.v)
def findV (L : List W16) (a : Int) : Value := match findL L a with
  | some v => .tuple #[.int .i64 (v : Int), .bool true]
  | none => .tuple #[.int .i64 0, .bool false]
theorem findV_none {L : List W16} {a : Int} (h : ∀ x ∈ L, (x.a : Int) ≠ a) : findV L a = .tuple #[.int .i64 0, .bool false] := by
  have : findL L a = none := by
    unfold findL
    rw [List.find?_eq_none.2]
    · rfl
    · intro x hx
      simpa using h x (by simpa using hx)
  unfold findV
  rw [this]
theorem mem_upto {L : List W16} {x : W16} (h : x ∈ L) : ∃ p ∈ upto (fb' L) L.length, p.2 = x := by
  obtain ⟨i, hi, rfl⟩ := List.getElem_of_mem h
  refine ⟨fb' L (L.length - 1 - i), List.mem_map.2 ⟨_, List.mem_range.2 (by omega), rfl⟩, ?_⟩
  unfold fb'
  simp only []
  rw [show L.length - 1 - (L.length - 1 - i) = i by omega, List.getD_eq_getElem?_getD, List.getElem?_eq_getElem hi]
  rfl
theorem rev_get {L : List W16} {k : Nat} (hk : k < L.length) : L.reverse[k]? = some (L.getD (L.length - 1 - k) default) := by
  rw [List.getElem?_reverse hk, List.getD_eq_getElem?_getD, List.getElem?_eq_getElem (by omega)]
  rfl
theorem findV_some {L : List W16} {a : Int} {k : Nat} (hk : k < L.length) (h : ∀ p ∈ upto (fb' L) k, (p.2.a : Int) ≠ a) (he : ((fb' L k).2.a : Int) = a) : findV L a = .tuple #[.int .i64 ((fb' L k).2.v : Int), .bool true] := by
  have h1 : L.reverse.find? (fun x => (x.a : Int) == a) = some (fb' L k).2 := by
    rw [List.find?_eq_some_iff_getElem]
    refine ⟨by simpa using he, k, by simpa using hk, ?_, fun j hj => ?_⟩
    · have h2 := rev_get hk
      rw [List.getElem?_eq_getElem (by simpa using hk)] at h2
      simpa [fb'] using h2
    · have h2 := rev_get (L := L) (k := j) (by omega)
      rw [List.getElem?_eq_getElem (by simp; omega)] at h2
      have h3 := h (fb' L j) (List.mem_map.2 ⟨j, List.mem_range.2 hj, rfl⟩)
      have h4 : L.reverse[j]'(by simp; omega) = (fb' L j).2 := by simpa [fb'] using h2
      rw [h4]
      simpa using h3
  unfold findV findL
  rw [h1]
  rfl
theorem Parts_cw (x : W16) (w : World) : Calls Try.prog 89 #[cw x] w fun e w' => e = .returned (.tuple #[.int .i64 (x.a : Int), .int .i64 (x.v : Int), .bool true]) ∧ w = w' := (Parts_walk x.a x.v x.ha x.hv w).mono fun _ _ h => ⟨h.1, h.2.symm⟩
set_option maxRecDepth 100000 in
set_option maxHeartbeats 8000000 in
theorem Find_walk (A : Option Addr) (c : Nat) (L : List W16) (a : Int) (hlen : L.length ≤ 1000000) (w : World) (hI : Cs w.heap.size w (.slice A L.length c) L) :
    Calls Try.prog 83 #[.slice A L.length c, .int .i64 a] w fun e W' => e = .returned (findV L a) ∧ Below w.heap.size w W' := by
  refine (callsIn_wide (n := 4)).1 ?_
  have h1 : (1 : Nat) ≤ 4 := by omega
  refine callsIn_of_wp_marks Try.func83 rfl trivial ?_ rfl
  simp only [Try.ntmps83, List.size_toArray, List.length_cons, List.length_nil, Nat.reduceAdd, Nat.reduceSub, Array.replicate_succ, Array.replicate_zero, List.push_toArray, List.append_toArray, List.nil_append, List.cons_append]
  gi_wp2_with (refine ⟨trivial, ?_⟩; gi_at_call 88; refine (back_in Fence.wide 3 trivial rfl _ _ _ _).mono ?_; rintro e w' ⟨rfl, rfl⟩)
  have bA := Boxed.new w 3 (.int .i64 a)
  have bR := Boxed.new (w.alloc (.cells #[.int .i64 a] 3)) 3 (.int .i64 0)
  have bO := Boxed.new ((w.alloc (.cells #[.int .i64 a] 3)).alloc (.cells #[.int .i64 0] 3)) 4 (.bool false)
  have bN := Boxed.new (((w.alloc (.cells #[.int .i64 a] 3)).alloc (.cells #[.int .i64 0] 3)).alloc (.cells #[.bool false] 4)) 56 (.slice A L.length c)
  rw [World.size_alloc] at bR
  rw [World.size_alloc, World.size_alloc] at bO
  rw [World.size_alloc, World.size_alloc, World.size_alloc] at bN
  have hB0 : Below w.heap.size w ((((w.alloc (.cells #[.int .i64 a] 3)).alloc (.cells #[.int .i64 0] 3)).alloc (.cells #[.bool false] 4)).alloc (.cells #[.slice A L.length c] 56)) :=
    ((((Below.refl _ w).alloc (Nat.le_refl _) _).alloc (by simp) _).alloc (by simp; omega) _).alloc (by simp; omega) _
  refine wpIn_rangeFunc_ownG rfl h1 (gf := 91) (lb := #[.pointer (some ⟨w.heap.size + 1 + 1 + 1, 0, none⟩)]) rfl trivial (enters_of Try.func91 (by kernel_rfl) rfl)
    (back_stops Fence.wide 3 trivial rfl (by omega) (w.heap.size + 1 + 1 + 1) (w.heap.size + 4) _ L hlen _ (by simp) (by omega) (by simp) bN.cell ?cs) belowK_t (belowK_b (by simp)) (Below.refl _ _) (fun _ => rfl)
    (fun pre W => ((∀ p ∈ pre, (p.2.a : Int) ≠ a) ∧ W.cell? ⟨w.heap.size, 0, none⟩ = some (.int .i64 a) ∧ (W.cell? ⟨w.heap.size + 1, 0, none⟩ = some (.int .i64 0) ∧ W.frozen? ⟨w.heap.size + 1, 0, none⟩ = false) ∧ (W.cell? ⟨w.heap.size + 1 + 1, 0, none⟩ = some (.bool false) ∧ W.frozen? ⟨w.heap.size + 1 + 1, 0, none⟩ = false)) ∧ Below w.heap.size w W)
    (fun c pre W => (c = .ret ∧ ∃ ini last, pre = ini ++ [last] ∧ (∀ p ∈ ini, (p.2.a : Int) ≠ a) ∧ (last.2.a : Int) = a ∧ W.cell? ⟨w.heap.size + 1, 0, none⟩ = some (.int .i64 (last.2.v : Int)) ∧ W.cell? ⟨w.heap.size + 1 + 1, 0, none⟩ = some (.bool true)) ∧ Below w.heap.size w W)
    (OwnFrom.and (Own.from (fun s A B row hs hg hr => ⟨hs.1, cell_kept hs.2.1 hg hr, ⟨cell_kept hs.2.2.1.1 hg hr, (frozen_kept hs.2.2.1.1 hg hr).trans hs.2.2.1.2⟩, ⟨cell_kept hs.2.2.2.1 hg hr, (frozen_kept hs.2.2.2.1 hg hr).trans hs.2.2.2.2⟩⟩) _) (ownFrom_below (Nat.le_refl _) (by simp; omega)))
    (fun c => OwnFrom.and (Own.from (fun s A B row hs hg hr => by obtain ⟨hc, ini, last, e1, e2, e3, e4, e5⟩ := hs; exact ⟨hc, ini, last, e1, e2, e3, cell_kept e4 hg hr, cell_kept e5 hg hr⟩) _) (ownFrom_below (Nat.le_refl _) (by simp; omega)))
    ⟨⟨by simp, (((bA.alloc _).alloc _).alloc _).cell, ⟨((bR.alloc _).alloc _).cell, ((bR.alloc _).alloc _).frozen⟩, ⟨(bO.alloc _).cell, (bO.alloc _).frozen⟩⟩, hB0⟩
    (fun x => { tmps := #[.slice A L.length c, .int .i64 a, undef, .pointer (some ⟨w.heap.size, 0, none⟩), .pointer (some ⟨w.heap.size + 1, 0, none⟩), .pointer (some ⟨w.heap.size + 1 + 1, 0, none⟩), undef, cw x.2, undef, undef, undef, .slice A L.length c, .func (.func 91) #[] #[.pointer (some ⟨w.heap.size + 1 + 1 + 1, 0, none⟩)], .int .i64 x.1, cw x.2, undef, undef, undef, undef, undef, undef, undef, undef, undef, undef, undef, undef, undef], defers := [] }) ?assign ?body ?done ?stop
  case cs =>
    rcases hI.below hB0 with h | ⟨b, off, cap, e, hb, hc⟩
    · exact .inl h
    · exact .inr ⟨b, off, cap, e, by omega, hc⟩
  case assign =>
    intro l x W K hK
    gi_wp2
    exact hK
  case body =>
    rintro l pre x W ⟨⟨hp, hca, ⟨hc1, hf1⟩, ⟨hc2, hf2⟩⟩, hB⟩ _
    obtain ⟨xi, x⟩ := x
    have HPw := Lib.hid (Parts_cw x)
    have HP := Lib.hid hp
    have HB := Lib.hid hB
    have hd : (1 : Nat) ≤ 4 - 1 - 1 := by omega
    dsimp only
    generalize cw x = cx at *
    clear hp hB
    by_cases hx : (x.a : Int) = a
    · have hx1 : ((x.a : Int) == a) = true := beq_iff_eq.2 hx
      have HX := Lib.hid hx
      clear hx
      gi_wp2_with (refine ⟨trivial, ?_⟩; gi_at_call 89; refine (CallsIn.inRound l (callsIn_wide.2 (HPw.out _))).mono ?_; rintro e w' ⟨rfl, rfl⟩)
      have q1 := World.cell?_setCell_same' W ⟨w.heap.size + 1, 0, none⟩ (.int .i64 (x.v : Int)) (by rw [hc1]; rfl)
      have q2 : ((W.setCell ⟨w.heap.size + 1, 0, none⟩ (.int .i64 (x.v : Int))).setCell ⟨w.heap.size + 1 + 1, 0, none⟩ (.bool true)).cell? ⟨w.heap.size + 1, 0, none⟩ = some (.int .i64 (x.v : Int)) := (World.cell?_setCell_other _ _ _ _ (by simp)).trans q1
      have q3 : (W.setCell ⟨w.heap.size + 1, 0, none⟩ (.int .i64 (x.v : Int))).cell? ⟨w.heap.size + 1 + 1, 0, none⟩ = some (.bool false) := (World.cell?_setCell_other _ _ _ _ (by simp)).trans hc2
      have q4 := World.cell?_setCell_same' (W.setCell ⟨w.heap.size + 1, 0, none⟩ (.int .i64 (x.v : Int))) ⟨w.heap.size + 1 + 1, 0, none⟩ (.bool true) (by rw [q3]; rfl)
      exact ⟨((KeepsOthers.setCell _ _ _).trans (KeepsOthers.setCell _ _ _)).from _, ⟨rfl, pre, (xi, x), rfl, HP.out, HX.out, q2, q4⟩, (HB.out.setCell (p := ⟨w.heap.size + 1, 0, none⟩) (by simp) _).setCell (p := ⟨w.heap.size + 1 + 1, 0, none⟩) (by simp; omega) _⟩
    · have hx1 : ((x.a : Int) == a) = false := beq_eq_false_iff_ne.2 hx
      have HX := Lib.hid hx
      clear hx
      gi_wp2_with (refine ⟨trivial, ?_⟩; gi_at_call 89; refine (CallsIn.inRound l (callsIn_wide.2 (HPw.out _))).mono ?_; rintro e w' ⟨rfl, rfl⟩)
      exact ⟨KeepsFrom.refl _ _, Below.refl _ _, ⟨fun p hp' => (List.mem_append.1 hp').elim (HP.out p) (fun e => by simp at e; subst e; exact HX.out), hca, ⟨hc1, hf1⟩, ⟨hc2, hf2⟩⟩, HB.out⟩
  case done =>
    rintro D ys W hD rfl ⟨⟨hp, hca, ⟨hc1, hf1⟩, ⟨hc2, hf2⟩⟩, hB⟩ hK
    have HE := Lib.hid (findV_none (L := L) (a := a) (fun x hx => by
      obtain ⟨p, hp1, rfl⟩ := mem_upto hx
      exact hp p hp1))
    have HB := Lib.hid hB
    clear hp hB
    gi_wp2
    have q1 := World.cell?_setCell_same' W ⟨w.heap.size + 1, 0, none⟩ (.int .i64 0) (by rw [hc1]; rfl)
    have q2 : ((W.setCell ⟨w.heap.size + 1, 0, none⟩ (.int .i64 0)).setCell ⟨w.heap.size + 1 + 1, 0, none⟩ (.bool false)).cell? ⟨w.heap.size + 1, 0, none⟩ = some (.int .i64 0) := (World.cell?_setCell_other _ _ _ _ (by simp)).trans q1
    have q3 : (W.setCell ⟨w.heap.size + 1, 0, none⟩ (.int .i64 0)).cell? ⟨w.heap.size + 1 + 1, 0, none⟩ = some (.bool false) := (World.cell?_setCell_other _ _ _ _ (by simp)).trans hc2
    have q4 := World.cell?_setCell_same' (W.setCell ⟨w.heap.size + 1, 0, none⟩ (.int .i64 0)) ⟨w.heap.size + 1 + 1, 0, none⟩ (.bool false) (by rw [q3]; rfl)
    have hK' := ((KeepsOthers.setCell W ⟨w.heap.size + 1, 0, none⟩ (.int .i64 0)).trans (KeepsOthers.setCell _ ⟨w.heap.size + 1 + 1, 0, none⟩ (.bool false))).same D _ hK rfl
    refine ⟨by simp, .inl ⟨_, _, rfl, run_takeDeferred hK', ?_⟩⟩
    have hc5 := cell_kept q2 (grownBy_putObj' _ D (.deferred none)) (fun r e => by cases e; exact ⟨_, hK', rfl⟩)
    have hc6 := cell_kept q4 (grownBy_putObj' _ D (.deferred none)) (fun r e => by cases e; exact ⟨_, hK', rfl⟩)
    refine ⟨.tuple #[.int .i64 0, .bool false], ?_, by rw [HE.out], ((HB.out.setCell (p := ⟨w.heap.size + 1, 0, none⟩) (by simp) _).setCell (p := ⟨w.heap.size + 1 + 1, 0, none⟩) (by simp; omega) _).trans (belowK_b (w := w) (Nat.le_refl _) _ D _ _ (by simp at hD; omega) hK' rfl rfl)⟩
    simp [results, Try.f83, go_sem, hc5, hc6]
  case stop =>
    rintro D c pre W hD ⟨k, hk, rfl⟩ ⟨⟨rfl, ini, last, e1, e2, e3, hcr, hcs⟩, hB⟩ hK
    obtain ⟨k', rfl⟩ : ∃ k', k = k' + 1 := by
      cases k with
      | zero => simp [upto] at e1
      | succ k' => exact ⟨k', rfl⟩
    rw [upto_succ] at e1
    obtain ⟨rfl, e5⟩ := List.append_inj' e1 rfl
    obtain rfl : fb' L k' = last := by simpa using e5
    have HE := Lib.hid (findV_some (by omega) e2 e3)
    have HB := Lib.hid hB
    clear e1 e5 e2 e3 hB
    generalize (fb' L k').2.v = v at *
    gi_wp2
    refine ⟨by simp, .inl ⟨_, _, rfl, run_takeDeferred hK, ?_⟩⟩
    have hc5 := cell_kept hcr (grownBy_putObj' _ D (.deferred none)) (fun r e => by cases e; exact ⟨_, hK, rfl⟩)
    have hc6 := cell_kept hcs (grownBy_putObj' _ D (.deferred none)) (fun r e => by cases e; exact ⟨_, hK, rfl⟩)
    refine ⟨.tuple #[.int .i64 (v : Int), .bool true], ?_, by rw [HE.out], HB.out.trans (belowK_b (w := w) (Nat.le_refl _) W D _ _ (by simp at hD; omega) hK rfl rfl)⟩
    simp [results, Try.f83, go_sem, hc5, hc6]
end Go.Proofs.Ytlefefcakffepaa.Find

/- Contracts of the package sbuf, over parts of memory. -/
namespace Go.Proofs.Ytlefefcakffepaa.Sbuf
set_option linter.unusedVariables false
set_option linter.unusedSimpArgs false
open Go.RowKit Go.Proofs.Ytlefefcakffepaa.CellOf Go.Proofs.Ytlefefcakffepaa.CellP Go.Proofs.Ytlefefcakffepaa.Sep Go.Proofs.Ytlefefcakffepaa.Find

/-- A buffer's header. -/
abbrev hd (b most : Nat) (V : Value) : Rg := bk b 120 #[.int .i64 (most : Int), V]
/-- A slice of cells. -/
abbrev cl (V : Value) (L : List W16) : Rg := slc 104 1 V L.length (L.map cw)
/-- A buffer: its room, and the stores that wait. -/
def buf (b most : Nat) (L : List W16) : Rg := ex fun V => big [hd b most V, cl V L, pu (1 ≤ most ∧ most ≤ 16 ∧ L.length ≤ most)]
theorem cw_one (L : List W16) : ∀ u ∈ L.map cw, u.oneCell' = true := by
  intro u hu
  obtain ⟨x, _, rfl⟩ := List.mem_map.1 hu
  rfl
section
variable {P0 : Nat → Prop} {w0 w w' : World} {F : List Rg} {b most : Nat} {L : List W16}
theorem buf_open (h : St P0 w0 w (buf b most L :: F)) : ∃ V, (1 ≤ most ∧ most ≤ 16 ∧ L.length ≤ most) ∧ St P0 w0 w (hd b most V :: cl V L :: F) := by
  obtain ⟨V, h1⟩ := h.ex_open
  have h2 : St P0 w0 w (pu (1 ≤ most ∧ most ≤ 16 ∧ L.length ≤ most) :: hd b most V :: cl V L :: F) := (h1.big_open).get 2
  exact ⟨V, h2.pu_open⟩
theorem buf_shut {V : Value} (hm : 1 ≤ most ∧ most ≤ 16 ∧ L.length ≤ most) (h : St P0 w0 w (hd b most V :: cl V L :: F)) : St P0 w0 w (buf b most L :: F) := by
  have h1 : St P0 w0 w (hd b most V :: cl V L :: pu (1 ≤ most ∧ most ≤ 16 ∧ L.length ≤ most) :: F) := (St.pu_shut hm h).put 2
  exact St.ex_shut V (St.big_shut (M := [hd b most V, cl V L, pu _]) h1)
theorem buf_le (h : St P0 w0 w (buf b most L :: F)) : 1 ≤ most ∧ most ≤ 16 ∧ L.length ≤ most := by
  obtain ⟨V, hm, _⟩ := buf_open h
  exact hm
/-- The form of the cells' slice. -/
theorem cl_form {V : Value} (h : St P0 w0 w (hd b most V :: cl V L :: F)) : ∃ A c, V = .slice A L.length c ∧ (0 < L.length → ∃ g o, A = some ⟨g, o, none⟩) ∧ (∀ j, j < L.length → ∃ ad, A = some ad ∧ w.cell? (ad.add j) = some (cw (L.getD j default))) := by
  have h1 : St P0 w0 w (cl V L :: hd b most V :: F) := h.get 1
  obtain ⟨P, ⟨Q, Q2, _, _, _, h2, _⟩, _⟩ := St.step (L := [cl V L]) h1
  obtain ⟨A, c, rfl, _⟩ := slc_form h2
  refine ⟨A, c, rfl, fun hn => ?_, fun j hj => ?_⟩
  · obtain ⟨g, o, e, _⟩ := slc_cells h2 hn
    exact ⟨g, o, e⟩
  · obtain ⟨g, o, rfl, _, _, _, hc, _⟩ := slc_cells h2 (by omega)
    refine ⟨_, rfl, ?_⟩
    rw [Addr.add_mid]
    refine hc j _ ?_
    simp [List.getD_eq_getElem?_getD, hj]

theorem New_no (n : Int) (hn : n < 1 ∨ 16 < n) (w : World) : Calls Try.prog 31 #[.int .i64 n] w fun e w' => e = .returned (.pointer none) ∧ w' = w := by
  by_cases h1 : n < 1
  · go_enter Try.func31, Try.ntmps31
    go_wp2
    go_ret
    exact ⟨rfl, rfl⟩
  · have h0 : decide (n < 1) = false := decide_eq_false h1
    have h2 : n > 16 := by omega
    go_enter Try.func31, Try.ntmps31
    go_wp2
    go_ret
    exact ⟨rfl, rfl⟩
theorem New_st (h : St P0 w0 w F) (n : Nat) (h1 : 1 ≤ n) (h2 : n ≤ 16) : Calls Try.prog 31 #[.int .i64 n] w fun e w' => ∃ b, e = .returned (.pointer (some ⟨b, 0, none⟩)) ∧ St P0 w0 w' (buf b n [] :: F) := by
  have d1 : decide ((n : Int) < 1) = false := decide_eq_false (by omega)
  have d2 : decide ((n : Int) > 16) = false := decide_eq_false (by omega)
  have HS := Lib.hid h
  have HM := Lib.hid (show 1 ≤ n ∧ n ≤ 16 ∧ ([] : List W16).length ≤ n from ⟨h1, h2, Nat.zero_le _⟩)
  clear h h1 h2
  go_enter Try.func31, Try.ntmps31
  go_wp2
  go_ret
  refine ⟨_, rfl, buf_shut (V := .slice none 0 0) HM.out ?_⟩
  exact (St.fresh (M := [cl (.slice none 0 0) []]) (HS.out.alloc #[.int .i64 (n : Int), .slice none 0 0] 120) (Up.refl _) ⟨No, No, fun _ e => e.elim, fun _ e => e.elim, fun _ e => e.elim, slc_nil _ _ _ _, trivial⟩).get 1
theorem Cap_q (w : World) {P : Nat → Prop} (h : St P0 w0 w (buf b most L :: F)) : Calls Try.prog 58 #[.pointer (some ⟨b, 0, none⟩)] w fun e w' => e = .returned (.int .i64 (most : Int)) ∧ w' = w := by
  obtain ⟨V, hm, h1⟩ := buf_open h
  have c0 : w.cell? ⟨b, 0, none⟩ = some (.int .i64 (most : Int)) := cell_of_block h1.bk_at 0
  clear h h1 hm
  go_enter Try.func58, Try.ntmps58
  go_wp2
  go_ret
  exact ⟨rfl, rfl⟩
theorem Len_q (w : World) (h : St P0 w0 w (buf b most L :: F)) : Calls Try.prog 65 #[.pointer (some ⟨b, 0, none⟩)] w fun e w' => e = .returned (.int .i64 (L.length : Int)) ∧ w' = w := by
  obtain ⟨V, hm, h1⟩ := buf_open h
  obtain ⟨A, c, rfl, _⟩ := cl_form h1
  have c1 : w.cell? ⟨b, 1, none⟩ = some (.slice A L.length c) := cell_of_block h1.bk_at 1
  clear h h1 hm
  go_enter Try.func65, Try.ntmps65
  go_wp2
  go_ret
  exact ⟨rfl, rfl⟩
theorem Cap_st (h : St P0 w0 w (buf b most L :: F)) : Calls Try.prog 58 #[.pointer (some ⟨b, 0, none⟩)] w fun e w' => e = .returned (.int .i64 (most : Int)) ∧ St P0 w0 w' (buf b most L :: F) :=
  (Cap_q (P := No) w h).mono fun _ _ hh => ⟨hh.1, by rw [hh.2]; exact h⟩
theorem Len_st (h : St P0 w0 w (buf b most L :: F)) : Calls Try.prog 65 #[.pointer (some ⟨b, 0, none⟩)] w fun e w' => e = .returned (.int .i64 (L.length : Int)) ∧ St P0 w0 w' (buf b most L :: F) :=
  (Len_q w h).mono fun _ _ hh => ⟨hh.1, by rw [hh.2]; exact h⟩
/-- A store, if its address and word are words. -/
def mkW (a v : Int) : Option W16 := if h : (0 ≤ a ∧ a ≤ 65535) ∧ (0 ≤ v ∧ v ≤ 65535) then some ⟨a.toNat, v.toNat, by omega, by omega⟩ else none
theorem mkW_some {a v : Int} {x : W16} (h : mkW a v = some x) : a = (x.a : Int) ∧ v = (x.v : Int) := by
  unfold mkW at h
  split at h
  · cases h
    simp
    omega
  · cases h
theorem cellV_mkW (a v : Int) : cellV a v = match mkW a v with
    | some x => .tuple #[cw x, .bool true]
    | none => .tuple #[.complex .f64 0 0, .bool false] := by
  unfold cellV mkW
  by_cases h : (0 ≤ a ∧ a ≤ 65535) ∧ (0 ≤ v ∧ v ≤ 65535)
  · rw [dif_pos h, if_pos ⟨(inW_iff a).2 h.1, (inW_iff v).2 h.2⟩]
    simp only [cw]
    rw [show ((a.toNat : Nat) : Int) = a by omega, show ((v.toNat : Nat) : Int) = v by omega]
  · rw [dif_neg h, if_neg (fun e => h ⟨(inW_iff a).1 e.1, (inW_iff v).1 e.2⟩)]
/-- What Put does. -/
def putB (most : Nat) (L : List W16) (a v : Int) : List W16 × Int := match mkW a v with
  | some x => if most ≤ L.length then (L, 5) else (L ++ [x], 0)
  | none => (L, 2)
theorem info_complex : (Try.prog.info? 104).map (fun i => (i.zero, i.size, i.bytes)) = some (some (.complex .f64 0 0), 1, 16) := by kernel_rfl
theorem Put_nil (a v : Int) (w : World) : Calls Try.prog 67 #[.pointer none, .int .i64 a, .int .i64 v] w fun e w' => e = .returned (.int .i64 1) ∧ w' = w := by
  have HO := Lib.hid (fun w => Of_walk a v w)
  have hE := cellV_mkW a v
  have H2 : ∃ x y, cellV a v = .tuple #[x, y] := by
    rw [hE]
    split <;> exact ⟨_, _, rfl⟩
  obtain ⟨x, y, h2⟩ := H2
  rw [h2] at HO
  clear hE h2
  go_enter Try.func67, Try.ntmps67
  go_wp2_with (go_at_call 85; refine (HO.out _).mono ?_; rintro e w' ⟨rfl, rfl⟩)
  go_ret
  exact ⟨rfl, rfl⟩
set_option maxHeartbeats 2000000 in
theorem Put_st (h : St P0 w0 w (buf b most L :: F)) (a v : Int) : Calls Try.prog 67 #[.pointer (some ⟨b, 0, none⟩), .int .i64 a, .int .i64 v] w fun e w' => e = .returned (.int .i64 (putB most L a v).2) ∧ St P0 w0 w' (buf b most (putB most L a v).1 :: F) := by
  have HO := Lib.hid (fun w => Of_walk a v w)
  obtain ⟨V, hm, h1⟩ := buf_open h
  obtain ⟨A, c, rfl, _⟩ := cl_form h1
  have hE := cellV_mkW a v
  have c0 : w.cell? ⟨b, 0, none⟩ = some (.int .i64 (most : Int)) := cell_of_block h1.bk_at 0
  have c1 : w.cell? ⟨b, 1, none⟩ = some (.slice A L.length c) := cell_of_block h1.bk_at 1
  have HB := Lib.hid h
  have HS := Lib.hid h1
  have HM := Lib.hid hm
  clear h h1
  cases hx : mkW a v with
  | none =>
    rw [hx] at hE
    rw [hE] at HO
    have E : putB most L a v = (L, 2) := by unfold putB; rw [hx]
    rw [E]
    clear hE hx E
    go_enter Try.func67, Try.ntmps67
    go_wp2_with (go_at_call 85; refine (HO.out _).mono ?_; rintro e w' ⟨rfl, rfl⟩)
    go_ret
    exact ⟨rfl, HB.out⟩
  | some x =>
    rw [hx] at hE
    replace hE : cellV a v = .tuple #[cw x, .bool true] := hE
    rw [hE] at HO
    by_cases hf : most ≤ L.length
    · have E : putB most L a v = (L, 5) := by unfold putB; rw [hx]; exact if_pos hf
      rw [E]
      have d1 : decide ((L.length : Int) ≥ (most : Int)) = true := decide_eq_true (by omega)
      have d2 : decide (most ≤ L.length) = true := decide_eq_true hf
      clear hE hx E hm
      go_enter Try.func67, Try.ntmps67
      go_wp2_with (go_at_call 85; refine (HO.out _).mono ?_; rintro e w' ⟨rfl, rfl⟩)
      go_quiet (fail)
      go_wp2
      go_ret
      exact ⟨rfl, HB.out.drewN _⟩
    · have E : putB most L a v = (L ++ [x], 0) := by unfold putB; rw [hx]; exact if_neg hf
      rw [E]
      have d1 : decide (most ≤ L.length) = false := decide_eq_false hf
      have HF := Lib.hid hf
      clear hE hx E hf hm
      obtain ⟨t0, ht0, hz0, hz1, hz2⟩ := Clone.info_of info_complex
      obtain ⟨p, q, hpq⟩ : ∃ p q, cw x = .complex .f64 p q := ⟨_, _, rfl⟩
      rw [hpq] at HO
      have HPQ := Lib.hid hpq
      clear hpq
      go_enter Try.func67, Try.ntmps67
      go_wp2_with (go_at_call 85; refine (HO.out _).mono ?_; rintro e w' ⟨rfl, rfl⟩)
      go_quiet (fail)
      have HS2 := Lib.hid (HS.out.drewN nq)
      clear HS HB
      have c1 : (w'.drewN nq).cell? ⟨b, 1, none⟩ = some (.slice A L.length c) := cell_of_block HS2.out.bk_at 1
      generalize w'.drewN nq = w1 at *
      have hs4 : St P0 w0 (w1.alloc (.cells #[.complex .f64 p q] 104)) (cl (.slice A L.length c) L :: bk w1.heap.size 104 #[.complex .f64 p q] :: hd b most (.slice A L.length c) :: F) := (HS2.out.alloc _ _).get 2
      have HS4 := Lib.hid hs4
      have HRd := Lib.hid (Rd.of_block (sz := 1) (m := 1) (((HS2.out.alloc #[.complex .f64 p q] 104)).bk_at) rfl (by simp [Value.oneCell']))
      clear hs4 HS2
      go_wp2_with (at_builtin; refine St.append 104 t0 (.complex .f64 0 0) 1 16 HS4.out rfl (.tmp 36) (.tmp 38) 56 rfl Try.underlying56 ht0 hz0 hz1 hz2 rfl (by decide) rfl (some ⟨w1.heap.size, 0, none⟩) 1 1 [.complex .f64 p q] rfl HRd.out (by have := HM.out; unfold maxLen; omega) (by have := HM.out; omega) ?_; intro A1 c1 w3 hst hsz; have hs5 : St P0 w0 w3 (hd b most (.slice A L.length c) :: slc 104 1 (.slice A1 (L.length + 1) c1) (L.length + 1) (L.map cw ++ [.complex .f64 p q]) :: F) := (hst.get 1).drop.get 1; have HS5 := Lib.hid hs5; have k1 : w3.cell? ⟨b, 1, none⟩ = some (.slice A L.length c) := cell_of_block HS5.out.bk_at 1; have k2 : w3.frozen? ⟨b, 1, none⟩ = false := free_of_block HS5.out.bk_at 1; clear hst hs5 hsz)
      go_ret
      refine ⟨rfl, buf_shut (V := .slice A1 (L.length + 1) c1) (by have := HM.out; have := HF.out; simp; omega) ?_⟩
      have h6 := HS5.out.set 1 (.slice A1 (L.length + 1) c1)
      rw [← HPQ.out] at h6
      have e1 : L.map cw ++ [cw x] = (L ++ [x]).map cw := by simp
      have e2 : (L ++ [x]).length = L.length + 1 := by simp
      unfold cl
      rw [e2, ← e1]
      exact h6
end
end Go.Proofs.Ytlefefcakffepaa.Sbuf

/- Contracts of the package sbuf: Drain, Clear, All, Clone, Find. -/
namespace Go.Proofs.Ytlefefcakffepaa.Sbuf
set_option linter.unusedVariables false
set_option linter.unusedSimpArgs false
open Go.RowKit Go.Proofs.Ytlefefcakffepaa.CellOf Go.Proofs.Ytlefefcakffepaa.CellP Go.Proofs.Ytlefefcakffepaa.Sep Go.Proofs.Ytlefefcakffepaa.Find

/-- A slice without its first element, with its own end as its bound. -/
theorem slc_tail {P : Program} {t e : TypeId} {i : TypeInfo} (ht : P.underlying t = some (.slice e)) (hi : P.info? e = some i) (hsz : i.size = 1) {A : Option Addr} {m c : Nat} {xs : List Value} {w : World} {Q : Nat → Prop} (h : (slc e 1 (.slice A m c) m xs).X w Q) (hm : 1 ≤ m) :
    ∃ A', (∀ W : World, (Instr.slice t (.slice A m c) (some (.int .i64 1)) (some (.int .i64 (m : Int))) (some (.int .i64 (m : Int)))).run P W = .ok (.slice A' (m - 1) (m - 1)) W) ∧ (slc e 1 (.slice A' (m - 1) (m - 1)) (m - 1) xs.tail).X w Q := by
  rcases h with ⟨_, rfl, _⟩ | ⟨g, o, c', cur, hv, h2, h3, h4, h5, h6, h7, h8⟩
  · omega
  · cases hv
    refine ⟨if m = 1 then some ⟨g, o, none⟩ else some ⟨g, o + 1, none⟩, fun W => ?_, .inr ⟨g, if m = 1 then o else o + 1, m - 1, cur, ?_, Nat.le_refl _, by omega, by simp; omega, h5, h6, ?_, ?_⟩⟩
    · have hel : P.elem t = e := by simp [Program.elem, ht]
      have hu : P.underlying t = some (.slice (P.elem t)) := by rw [hel]; exact ht
      rw [run_slice_lhm W t (some ⟨g, o, none⟩) m c hu .i64 .i64 .i64 1 m m (by omega) (by omega) (Int.le_refl _) (by omega), hel]
      simp [sizeOf, typeInfo, hi, hsz, sliced, Result.andThen]
      by_cases e1 : m = 1
      · simp [e1]
      · simp [e1, Addr.add_mid]
    · split <;> rfl
    · split <;> omega
    · intro j hj
      rw [List.length_tail] at hj
      rw [List.getElem?_tail]
      have := h8 (j + 1) (by omega)
      split
      · omega
      · rw [← this]
        congr 1
        omega
theorem cell_below {w w' : World} {p : Addr} {v : Value} (h : Up w w') (hc : w.cell? p = some v) : w'.cell? p = some v := by
  rw [← hc]
  exact Below.cell h (World.block_lt_of_cell? w _ hc)
section
variable {P0 : Nat → Prop} {w0 w w' : World} {F : List Rg} {b most : Nat} {L : List W16}
theorem Len_nil (w : World) : Calls Try.prog 65 #[.pointer none] w fun e w' => e = .returned (.int .i64 0) ∧ w' = w := by
  go_enter Try.func65, Try.ntmps65
  go_wp2
  go_ret
  exact ⟨rfl, rfl⟩
theorem Cap_nil (w : World) : Calls Try.prog 58 #[.pointer none] w fun e w' => e = .returned (.int .i64 0) ∧ w' = w := by
  go_enter Try.func58, Try.ntmps58
  go_wp2
  go_ret
  exact ⟨rfl, rfl⟩
theorem Drain_nil (w : World) : Calls Try.prog 84 #[.pointer none] w fun e w' => e = .returned (.tuple #[.int .i64 0, .int .i64 0, .bool false]) ∧ w' = w := by
  go_enter Try.func84, Try.ntmps84
  go_wp2_with (go_at_call 65; refine (Len_nil _).mono ?_; rintro e w' ⟨rfl, rfl⟩)
  go_ret3
  exact ⟨rfl, rfl⟩
theorem Clear_nil (w : World) : Calls Try.prog 72 #[.pointer none] w fun e w' => e = .returned (.int .i64 0) ∧ w' = w := by
  go_enter Try.func72, Try.ntmps72
  go_wp2_with (go_at_call 65; refine (Len_nil _).mono ?_; rintro e w' ⟨rfl, rfl⟩)
  go_ret
  exact ⟨rfl, rfl⟩
theorem All_nil (w : World) : Calls Try.prog 51 #[.pointer none] w fun e w' => e = .returned (.slice none 0 0) ∧ w' = w := by
  go_enter Try.func51, Try.ntmps51
  go_wp2
  go_ret
  exact ⟨rfl, rfl⟩
theorem Clone_nil (w : World) : Calls Try.prog 54 #[.pointer none] w fun e w' => e = .returned (.pointer none) ∧ w' = w := by
  go_enter Try.func54, Try.ntmps54
  go_wp2
  go_ret
  exact ⟨rfl, rfl⟩
theorem Find_nil (a : Int) (w : World) : Calls Try.prog 62 #[.pointer none, .int .i64 a] w fun e w' => e = .returned (.tuple #[.int .i64 0, .bool false]) ∧ w' = w := by
  go_enter Try.func62, Try.ntmps62
  go_wp2
  go_ret2
  exact ⟨rfl, rfl⟩
/-- What Drain does. -/
def drainV : List W16 → Value
  | [] => .tuple #[.int .i64 0, .int .i64 0, .bool false]
  | x :: _ => .tuple #[.int .i64 (x.a : Int), .int .i64 (x.v : Int), .bool true]
set_option maxHeartbeats 2000000 in
theorem Drain_st (h : St P0 w0 w (buf b most L :: F)) : Calls Try.prog 84 #[.pointer (some ⟨b, 0, none⟩)] w fun e w' => e = .returned (drainV L) ∧ St P0 w0 w' (buf b most L.tail :: F) := by
  have HL := Lib.hid (Len_q w h)
  obtain ⟨V, hm, h1⟩ := buf_open h
  obtain ⟨A, c, rfl, _, hc⟩ := cl_form h1
  have c1 : w.cell? ⟨b, 1, none⟩ = some (.slice A L.length c) := cell_of_block h1.bk_at 1
  have HB := Lib.hid h
  cases L with
  | nil =>
    clear h h1 hc
    go_enter Try.func84, Try.ntmps84
    go_wp2_with (go_at_call 65; refine HL.out.mono ?_; rintro e w' ⟨rfl, rfl⟩)
    go_ret3
    exact ⟨rfl, HB.out⟩
  | cons x L =>
    obtain ⟨ad, rfl, hc0⟩ := hc 0 (by simp)
    have HPt := Lib.hid (Parts_cw x)
    have hc0' : w.cell? ad = some (cw x) := hc0
    obtain ⟨t0, ht0, hz0, hz1, hz2⟩ := Clone.info_of info_complex
    have h2 : St P0 w0 w (cl (.slice (some ad) (x :: L).length c) (x :: L) :: hd b most (.slice (some ad) (x :: L).length c) :: F) := h1.get 1
    obtain ⟨A', hsl, h3⟩ : ∃ A', (∀ W : World, (Instr.slice 56 (.slice (some ad) (x :: L).length c) (some (.int .i64 1)) (some (.int .i64 ((x :: L).length : Int))) (some (.int .i64 ((x :: L).length : Int)))).run Try.prog W = .ok (.slice A' ((x :: L).length - 1) ((x :: L).length - 1)) W) ∧ St P0 w0 w (slc 104 1 (.slice A' ((x :: L).length - 1) ((x :: L).length - 1)) ((x :: L).length - 1) (((x :: L).map cw).tail) :: hd b most (.slice (some ad) (x :: L).length c) :: F) := by
      obtain ⟨hf, Q, R, hq, hr, hd, hA, hL⟩ := h2
      obtain ⟨A', q1, q2⟩ := slc_tail (P := Try.prog) Try.underlying56 ht0 hz1 hA (by simp)
      exact ⟨A', q1, hf, Q, R, hq, hr, hd, q2, hL⟩
    have h4 : St P0 w0 w (hd b most (.slice (some ad) (x :: L).length c) :: slc 104 1 (.slice A' ((x :: L).length - 1) ((x :: L).length - 1)) ((x :: L).length - 1) (((x :: L).map cw).tail) :: F) := h3.get 1
    have HS := Lib.hid h4
    have HM := Lib.hid hm
    have k2 : w.frozen? ⟨b, 1, none⟩ = false := free_of_block h4.bk_at 1
    have hlen1 : (((x :: L).length : Int) == 0) = false := beq_eq_false_iff_ne.2 (by simp; omega)
    have hpos : 0 < (x :: L).length := by simp
    have HN := Lib.hid (show (x :: L).length - 1 = L.length from by simp)
    clear h h1 h2 h3 h4 hc hc0 hm
    generalize cw x = cx at *
    have EX := Lib.hid (show drainV (x :: L) = .tuple #[.int .i64 (x.a : Int), .int .i64 (x.v : Int), .bool true] from rfl)
    generalize (x :: L).length = m at *
    go_enter Try.func84, Try.ntmps84
    go_wp2_with (go_at_call 65; refine HL.out.mono ?_; rintro e w' ⟨rfl, rfl⟩)
    go_region
    have HS2 := Lib.hid ((HS.out.set 1 (.slice A' (m - 1) (m - 1))).drew)
    clear HS
    generalize (w'.setCell ⟨b, 1, none⟩ (.slice A' (m - 1) (m - 1))).drew = w2 at *
    go_wp2_with (go_at_call 89; refine (HPt.out _).mono ?_; rintro e w3 ⟨rfl, rfl⟩)
    go_ret3
    refine ⟨by rw [EX.out]; rfl, buf_shut (V := .slice A' (m - 1) (m - 1)) (by have := HM.out; have := HN.out; simp; omega) ?_⟩
    have h5 := HS2.out
    rw [HN.out] at h5 ⊢
    simpa using h5
set_option maxHeartbeats 1000000 in
theorem Clear_st (h : St P0 w0 w (buf b most L :: F)) : Calls Try.prog 72 #[.pointer (some ⟨b, 0, none⟩)] w fun e w' => e = .returned (.int .i64 (L.length : Int)) ∧ St P0 w0 w' (buf b most [] :: F) := by
  have HL := Lib.hid (Len_q w h)
  obtain ⟨V, hm, h1⟩ := buf_open h
  obtain ⟨A, c, rfl, _, hc⟩ := cl_form h1
  have c1 : w.cell? ⟨b, 1, none⟩ = some (.slice A L.length c) := cell_of_block h1.bk_at 1
  have k2 : w.frozen? ⟨b, 1, none⟩ = false := free_of_block h1.bk_at 1
  have HB := Lib.hid h
  have HS := Lib.hid h1
  have HM := Lib.hid hm
  clear h h1 hc hm
  by_cases hp : 0 < L.length
  · go_enter Try.func72, Try.ntmps72
    go_wp2_with (go_at_call 65; refine HL.out.mono ?_; rintro e w' ⟨rfl, rfl⟩)
    go_ret
    have h5 := ((HS.out.set 1 (.slice none 0 0)).get 1).drop
    exact ⟨rfl, buf_shut (V := .slice none 0 0) ⟨HM.out.1, HM.out.2.1, Nat.zero_le _⟩ ((St.fresh (M := [cl (.slice none 0 0) []]) h5 (Up.refl _) ⟨No, No, fun _ e => e.elim, fun _ e => e.elim, fun _ e => e.elim, slc_nil _ _ _ _, trivial⟩).get 1)⟩
  · have hn : decide ((L.length : Int) > 0) = false := decide_eq_false (by omega)
    have hn2 : decide (0 < L.length) = false := decide_eq_false hp
    have hl := List.eq_nil_of_length_eq_zero (show L.length = 0 by omega)
    have HLn := Lib.hid hl
    clear hl hp
    go_enter Try.func72, Try.ntmps72
    go_wp2_with (go_at_call 65; refine HL.out.mono ?_; rintro e w' ⟨rfl, rfl⟩)
    go_ret
    have h5 := HB.out
    rw [HLn.out] at h5
    exact ⟨rfl, h5⟩
theorem cl_rd {A : Option Addr} {c : Nat} (h : St P0 w0 w (hd b most (.slice A L.length c) :: cl (.slice A L.length c) L :: F)) : Rd w 1 A L.length (L.map cw) := by
  have h1 : St P0 w0 w (cl (.slice A L.length c) L :: hd b most (.slice A L.length c) :: F) := h.get 1
  obtain ⟨P, ⟨Q, Q2, _, _, _, h2, _⟩, _⟩ := St.step (L := [cl (.slice A L.length c) L]) h1
  exact slc_rd h2 (cw_one L)
theorem cl_nil {c : Nat} (h : St P0 w0 w (hd b most (.slice none L.length c) :: cl (.slice none L.length c) L :: F)) : c = 0 ∧ L = [] := by
  have h1 : St P0 w0 w (cl (.slice none L.length c) L :: hd b most (.slice none L.length c) :: F) := h.get 1
  obtain ⟨P, ⟨Q, Q2, _, _, _, h2, _⟩, _⟩ := St.step (L := [cl (.slice none L.length c) L]) h1
  rcases h2 with ⟨e, h0, _⟩ | ⟨g, o, c', cur, e, _⟩
  · injection e with _ _ e
    exact ⟨e, List.eq_nil_of_length_eq_zero h0⟩
  · cases e
set_option maxHeartbeats 1000000 in
theorem All_walk (h : St P0 w0 w (buf b most L :: F)) : Calls Try.prog 51 #[.pointer (some ⟨b, 0, none⟩)] w fun e w' => ∃ A c, e = .returned (.slice A L.length c) ∧ St P0 w0 w' (cl (.slice A L.length c) L :: buf b most L :: F) ∧ Up w w' := by
  obtain ⟨V, hm, h1⟩ := buf_open h
  obtain ⟨A, c, rfl, _, hc⟩ := cl_form h1
  have c1 : w.cell? ⟨b, 1, none⟩ = some (.slice A L.length c) := cell_of_block h1.bk_at 1
  have HB := Lib.hid h
  cases A with
  | none =>
    obtain ⟨rfl, rfl⟩ := cl_nil h1
    clear h h1 hc hm
    have HC := Lib.hid (Clone.Clone_complex_nil w)
    simp only [List.length_nil] at c1
    go_enter Try.func51, Try.ntmps51
    go_wp2_with (go_at_call 80; refine HC.out.mono ?_; rintro e w' ⟨rfl, rfl⟩)
    go_ret
    exact ⟨_, _, rfl, St.fresh (M := [cl (.slice none 0 0) []]) HB.out (Up.refl _) ⟨No, No, fun _ e => e.elim, fun _ e => e.elim, fun _ e => e.elim, slc_nil _ _ _ _, trivial⟩, Up.refl _⟩
  | some ad =>
    have HC := Lib.hid (Clone.Clone_complex (L.map cw) ad L.length c w (cl_rd h1) (by omega))
    clear h h1 hc hm
    go_enter Try.func51, Try.ntmps51
    go_wp2_with (go_at_call 80; refine HC.out.mono ?_; rintro e w2 ⟨A2, c2, rfl, ho, hu⟩; have HO := Lib.hid ho; have HU := Lib.hid hu; clear ho hu)
    go_ret
    exact ⟨_, _, rfl, St.fresh (M := [cl (.slice A2 L.length c2) L]) HB.out HU.out ⟨fun k => w.heap.size ≤ k, No, fun k hk => hk, fun _ e => e.elim, fun _ _ e => e.elim, slc_of_own HO.out (fun k hk => (HO.out.lt k hk).1), trivial⟩, HU.out⟩
theorem All_st (h : St P0 w0 w (buf b most L :: F)) : Calls Try.prog 51 #[.pointer (some ⟨b, 0, none⟩)] w fun e w' => ∃ A c, e = .returned (.slice A L.length c) ∧ St P0 w0 w' (cl (.slice A L.length c) L :: buf b most L :: F) :=
  (All_walk h).mono fun _ _ ⟨A, c, h1, h2, _⟩ => ⟨A, c, h1, h2⟩
theorem cs_of {A : Option Addr} {c : Nat} (h : St P0 w0 w (hd b most (.slice A L.length c) :: cl (.slice A L.length c) L :: F)) : Cs w.heap.size w (.slice A L.length c) L := by
  have h1 : St P0 w0 w (cl (.slice A L.length c) L :: hd b most (.slice A L.length c) :: F) := h.get 1
  obtain ⟨P, ⟨Q, Q2, _, _, _, h2, _⟩, _⟩ := St.step (L := [cl (.slice A L.length c) L]) h1
  rcases h2 with ⟨e, h0, h3⟩ | ⟨g, o, c', cur, e, h2, h3, h4, h5, h6, h7, h8⟩
  · obtain rfl : L = [] := by simpa using h3
    exact .inl ⟨e, rfl⟩
  · refine .inr ⟨g, o, c', e, heap_lt h6, fun j hj => ?_⟩
    rw [cell_of_block h6, h8 j (by simpa using hj)]
    simp [List.getD_eq_getElem?_getD, hj]
set_option maxHeartbeats 1000000 in
theorem Find_st (h : St P0 w0 w (buf b most L :: F)) (a : Int) : Calls Try.prog 62 #[.pointer (some ⟨b, 0, none⟩), .int .i64 a] w fun e w' => e = .returned (findV L a) ∧ St P0 w0 w' (buf b most L :: F) := by
  obtain ⟨V, hm, h1⟩ := buf_open h
  obtain ⟨A, c, rfl, _, hc⟩ := cl_form h1
  have c1 : w.cell? ⟨b, 1, none⟩ = some (.slice A L.length c) := cell_of_block h1.bk_at 1
  have HF := Lib.hid (Find_walk A c L a (by omega) w (cs_of h1))
  have HB := Lib.hid h
  have H2 : ∃ x y, findV L a = .tuple #[x, y] := by
    unfold findV
    split <;> exact ⟨_, _, rfl⟩
  obtain ⟨x, y, h2⟩ := H2
  rw [h2] at HF
  have E := Lib.hid h2
  clear h h1 hc hm h2
  go_enter Try.func62, Try.ntmps62
  go_wp2_with (go_at_call 83; refine HF.out.mono ?_; rintro e w2 ⟨rfl, hu⟩; have HU := Lib.hid hu; clear hu)
  go_ret2
  exact ⟨by rw [E.out]; rfl, HB.out.more HU.out⟩
set_option maxHeartbeats 1000000 in
theorem Clone_st (h : St P0 w0 w (buf b most L :: F)) : Calls Try.prog 54 #[.pointer (some ⟨b, 0, none⟩)] w fun e w' => ∃ b', e = .returned (.pointer (some ⟨b', 0, none⟩)) ∧ St P0 w0 w' (buf b' most L :: buf b most L :: F) := by
  obtain ⟨V, hm, h1⟩ := buf_open h
  have c0 : w.cell? ⟨b, 0, none⟩ = some (.int .i64 (most : Int)) := cell_of_block h1.bk_at 0
  have HB := Lib.hid h
  have HM := Lib.hid hm
  clear h h1 hm
  go_enter Try.func54, Try.ntmps54
  go_wp2_with fail
  have c0d : w.drew.cell? ⟨b, 0, none⟩ = some (.int .i64 (most : Int)) := c0
  go_region_with ((go_at_call 51; refine (All_walk HB.out.drew).mono ?_; rintro e w3 ⟨A3, c3, rfl, hs3, hu3⟩; have HS3 := Lib.hid hs3; have c03 := cell_below hu3 c0d; clear hs3 hu3))
  all_goals go_wp2
  all_goals go_ret
  all_goals
    have h5 := (HS3.out.alloc #[.int .i64 (most : Int), .slice A3 L.length c3] 120)
    exact ⟨_, rfl, buf_shut HM.out h5⟩
end
end Go.Proofs.Ytlefefcakffepaa.Sbuf

/- The reference's buffer (a list of stores), over parts of memory: Put, Drain, Find. -/
namespace Go.Proofs.Ytlefefcakffepaa.Ref05
set_option linter.unusedVariables false
set_option linter.unusedSimpArgs false
open Go.RowKit Go.Proofs.Ytlefefcakffepaa.CellOf Go.Proofs.Ytlefefcakffepaa.CellP Go.Proofs.Ytlefefcakffepaa.Sep Go.Proofs.Ytlefefcakffepaa.Find Go.Proofs.Ytlefefcakffepaa.Sbuf

/-- A store's cells. -/
def sw (x : W16) : List Value := [.int .i64 (x.a : Int), .int .i64 (x.v : Int)]
/-- A slice of stores. -/
abbrev rl (V : Value) (L : List W16) : Rg := slc 55 2 V L.length (L.flatMap sw)
theorem sw_len : ∀ L : List W16, (L.flatMap sw).length = L.length * 2
  | [] => rfl
  | x :: L => by
    rw [List.flatMap_cons, List.length_append, sw_len L]
    simp [sw]
    omega
theorem sw_at : ∀ (L : List W16) (j : Nat), j < L.length → (L.flatMap sw)[j * 2]? = some (.int .i64 ((L.getD j default).a : Int)) ∧ (L.flatMap sw)[j * 2 + 1]? = some (.int .i64 ((L.getD j default).v : Int))
  | [], j, h => absurd h (by simp)
  | x :: L, 0, _ => by simp [sw]
  | x :: L, j + 1, h => by
    have h1 := sw_at L j (by simpa using h)
    rw [List.flatMap_cons]
    have e : (sw x).length = 2 := rfl
    constructor
    · rw [List.getElem?_append_right (by rw [e]; omega), e, show (j + 1) * 2 - 2 = j * 2 by omega, h1.1]
      simp
    · rw [List.getElem?_append_right (by rw [e]; omega), e, show (j + 1) * 2 + 1 - 2 = j * 2 + 1 by omega, h1.2]
      simp
theorem sw_one (L : List W16) : ∀ u ∈ L.flatMap sw, u.oneCell' = true := by
  intro u hu
  obtain ⟨x, _, hx⟩ := List.mem_flatMap.1 hu
  simp [sw] at hx
  rcases hx with rfl | rfl <;> rfl
theorem sw_snoc (L : List W16) (x : W16) : (L ++ [x]).flatMap sw = L.flatMap sw ++ sw x := by simp
section
variable {P0 : Nat → Prop} {w0 w w' : World} {F : List Rg} {V : Value} {L : List W16}
theorem rl_form (h : St P0 w0 w (rl V L :: F)) : ∃ A c, V = .slice A L.length c ∧ L.length ≤ c ∧ c ≤ maxLen ∧ Rd w 2 A L.length (L.flatMap sw) ∧ (∀ j, j < L.length → ∃ g o, A = some ⟨g, o, none⟩ ∧ w.cell? ⟨g, o + j * 2, none⟩ = some (.int .i64 ((L.getD j default).a : Int)) ∧ w.cell? ⟨g, o + j * 2 + 1, none⟩ = some (.int .i64 ((L.getD j default).v : Int))) := by
  obtain ⟨P, ⟨Q, Q2, _, _, _, h2, _⟩, _⟩ := St.step (L := [rl V L]) h
  obtain ⟨A, c, rfl, h3, h4⟩ := slc_form h2
  refine ⟨A, c, rfl, h3, h4, slc_rd h2 (sw_one L), fun j hj => ?_⟩
  obtain ⟨g, o, rfl, _, _, _, hc, _⟩ := slc_cells h2 (by omega)
  have h5 := sw_at L j hj
  exact ⟨g, o, rfl, hc _ _ h5.1, by rw [Nat.add_assoc]; exact hc _ _ h5.2⟩
theorem _root_.Go.Proofs.Ytlefefcakffepaa.Sep.Rd.up {w w' : World} {sz m : Nat} {A : Option Addr} {xs : List Value} (h : Rd w sz A m xs) (hu : Up w w') : Rd w' sz A m xs :=
  ⟨h.1, h.2.1, fun hm => by
    obtain ⟨ad, e, hc⟩ := h.2.2 hm
    exact ⟨ad, e, fun j u hj => cell_below hu (hc j u hj)⟩⟩
theorem info_store : (Try.prog.info? 55).map (fun i => (i.zero, i.size, i.bytes)) = some (some (.agg #[.int .i64 0, .int .i64 0]), 2, 16) := by kernel_rfl
/-- The reference's buffer as a value. -/
abbrev rv (cap : Nat) (V : Value) : Value := .agg #[.int .i64 (cap : Int), V]
theorem inW_mkW (a v : Int) : mkW a v = none ↔ ¬ (inW a = true ∧ inW v = true) := by
  unfold mkW
  rw [inW_iff, inW_iff]
  split <;> simp_all
theorem mkW_in {a v : Int} {x : W16} (h : mkW a v = some x) : inW a = true ∧ inW v = true := by
  have : ¬ mkW a v = none := by rw [h]; simp
  rw [inW_mkW] at this
  exact Decidable.of_not_not this
theorem sw_eq (x : W16) : sw x = [.int .i64 (x.a : Int), .int .i64 (x.v : Int)] := rfl
set_option maxHeartbeats 4000000 in
set_option maxRecDepth 100000 in
theorem Put_st (h : St P0 w0 w (rl V L :: F)) (cap : Nat) (a v : Int) (hl : L.length ≤ 100000) :
    Calls Try.prog 76 #[rv cap V, .agg #[.int .i64 a, .int .i64 v]] w fun e w' => ∃ V', e = .returned (.tuple #[rv cap V', .int .i64 (putB cap L a v).2]) ∧ St P0 w0 w' (both (rl V L) (rl V' (putB cap L a v).1) :: F) := by
  obtain ⟨A, c, rfl, hc1, hc2, hrd, -⟩ := rl_form h
  have HA := Lib.hid (refIs_walk a)
  have HV := Lib.hid (refIs_walk v)
  have hb := ((h.alloc #[.int .i64 (cap : Int), .slice A L.length c] 90).alloc #[.int .i64 a, .int .i64 v] 55).alloc #[.int .i64 0, .slice none 0 0] 90
  rw [World.size_alloc, World.size_alloc] at hb
  have HS := Lib.hid hb
  have HRD := Lib.hid hrd
  have H0 := Lib.hid h
  clear h hb hrd
  cases hx : mkW a v with
  | none =>
    have E : putB cap L a v = (L, 2) := by unfold putB; rw [hx]
    rw [E]
    have h0 := (inW_mkW a v).1 hx
    clear hx E
    have hab : inW a = false ∨ (inW a = true ∧ inW v = false) := by
      cases ha : inW a with
      | false => exact .inl rfl
      | true =>
        cases hv : inW v with
        | false => exact .inr ⟨rfl, rfl⟩
        | true => exact absurd ⟨ha, hv⟩ h0
    clear h0
    rcases hab with ha | ⟨ha, hv⟩
    all_goals
      have Ha := Lib.hid ha
      (try have Hv := Lib.hid hv)
      clear ha
      (try clear hv)
      go_enter Try.func76, Try.ntmps76
      go_wp2_with (first
        | (go_at_call 75; (with_reducible refine (HA.out _).mono ?_); rw [Ha.out]; rintro e w' ⟨rfl, rfl⟩)
        | (go_at_call 75; (with_reducible refine (HV.out _).mono ?_); rw [Hv.out]; rintro e w' ⟨rfl, rfl⟩))
      refine bodyPost_ret (v := .tuple #[rv cap (.slice A L.length c), .int .i64 2]) ?_ rfl ⟨_, rfl, ((((H0.out.allocU _).allocU _).allocU _).twice)⟩
      rw [results_cell_tmp (fn := Try.f76) rfl]
      go_simp
  | some x =>
    have hab := mkW_in hx
    have Ha := Lib.hid hab.1
    have Hv := Lib.hid hab.2
    obtain ⟨ea, ev⟩ := mkW_some hx
    by_cases hf : cap ≤ L.length
    · have E : putB cap L a v = (L, 5) := by unfold putB; rw [hx]; exact if_pos hf
      rw [E]
      have d2 : decide (cap ≤ L.length) = true := decide_eq_true hf
      clear E hx hab ea ev
      go_enter Try.func76, Try.ntmps76
      go_wp2_with (first
        | (go_at_call 75; (with_reducible refine (HA.out _).mono ?_); rw [Ha.out]; rintro e w' ⟨rfl, rfl⟩)
        | (go_at_call 75; (with_reducible refine (HV.out _).mono ?_); rw [Hv.out]; rintro e w' ⟨rfl, rfl⟩))
      refine bodyPost_ret (v := .tuple #[rv cap (.slice A L.length c), .int .i64 5]) ?_ rfl ⟨_, rfl, ((((H0.out.allocU _).allocU _).allocU _).twice)⟩
      rw [results_cell_tmp (fn := Try.f76) rfl]
      go_simp
    · have E : putB cap L a v = (L ++ [x], 0) := by unfold putB; rw [hx]; exact if_neg hf
      rw [E]
      have d2 : decide (cap ≤ L.length) = false := decide_eq_false hf
      have EX := Lib.hid (show sw x = [.int .i64 a, .int .i64 v] by rw [ea, ev]; rfl)
      clear E hx hab ea ev hf
      obtain ⟨t0, ht0, hz0, hz1, hz2⟩ := Clone.info_of info_store
      have h1 := St.fresh (M := [slc 55 2 (.slice none 0 0) 0 []]) HS.out (Up.refl _) ⟨No, No, fun _ e => e.elim, fun _ e => e.elim, fun _ e => e.elim, slc_nil _ _ _ _, trivial⟩
      have HRD1 := Lib.hid (HRD.out.up ((((Up.refl w).alloc (.cells #[.int .i64 (cap : Int), .slice A L.length c] 90)).alloc (.cells #[.int .i64 a, .int .i64 v] 55)).alloc (.cells #[.int .i64 0, .slice none 0 0] 90)))
      have H1 := Lib.hid h1
      clear h1
      go_enter Try.func76, Try.ntmps76
      go_wp2_with (first
        | (go_at_call 75; (with_reducible refine (HA.out _).mono ?_); rw [Ha.out]; rintro e w' ⟨rfl, rfl⟩)
        | (go_at_call 75; (with_reducible refine (HV.out _).mono ?_); rw [Hv.out]; rintro e w' ⟨rfl, rfl⟩)
        | (at_builtin; refine St.append 55 t0 (.agg #[.int .i64 0, .int .i64 0]) 2 16 H1.out rfl (.tmp 25) (.tmp 27) 53 rfl Try.underlying53 ht0 hz0 hz1 hz2 rfl (by decide) rfl A L.length c (L.flatMap sw) rfl HRD1.out (by unfold maxLen; omega) (by omega) ?_; rw [Nat.zero_add, List.nil_append]; intro A1 c1 w3 hst hsz; have H3 := Lib.hid hst; have q3 : St P0 w0 w3 (bk (w.heap.size + 1) 55 #[.int .i64 a, .int .i64 v] :: _) := hst.get 2; have k0 : w3.cell? ⟨w.heap.size + 1, 0, none⟩ = some (.int .i64 a) := cell_of_block q3.bk_at 0; have k1 : w3.cell? ⟨w.heap.size + 1, 1, none⟩ = some (.int .i64 v) := cell_of_block q3.bk_at 1; have h4 : St P0 w0 (w3.alloc (.cells #[.int .i64 a, .int .i64 v] 55)) (slc 55 2 (.slice A1 L.length c1) L.length (L.flatMap sw) :: _) := (hst.alloc #[.int .i64 a, .int .i64 v] 55).get 1; have H4 := Lib.hid h4; have HRD4 := Lib.hid (Rd.of_block (sz := 2) (m := 1) ((hst.alloc #[.int .i64 a, .int .i64 v] 55).bk_at) rfl (by simp [Value.oneCell'])); clear hst hsz q3 h4)
        | (at_builtin; refine St.append 55 t0 (.agg #[.int .i64 0, .int .i64 0]) 2 16 H4.out rfl (.tmp 29) (.tmp 31) 53 rfl Try.underlying53 ht0 hz0 hz1 hz2 rfl (by decide) rfl (some ⟨w3.heap.size, 0, none⟩) 1 1 [.int .i64 a, .int .i64 v] rfl HRD4.out (by unfold maxLen; omega) (by omega) ?_; intro A2 c2 w5 hst hsz; have H5 := Lib.hid hst; have p4 : St P0 w0 w5 (bk (w.heap.size + 1 + 1) 90 #[.int .i64 0, .slice none 0 0] :: _) := hst.get 2; have p2 : St P0 w0 w5 (bk w.heap.size 90 #[.int .i64 (cap : Int), .slice A L.length c] :: _) := hst.get 4; have x20 : w5.cell? ⟨w.heap.size, 0, none⟩ = some (.int .i64 (cap : Int)) := cell_of_block p2.bk_at 0; have x21 : w5.cell? ⟨w.heap.size, 1, none⟩ = some (.slice A L.length c) := cell_of_block p2.bk_at 1; have f21 : w5.frozen? ⟨w.heap.size, 1, none⟩ = false := free_of_block p2.bk_at 1; have x40 : w5.cell? ⟨w.heap.size + 1 + 1, 0, none⟩ = some (.int .i64 0) := cell_of_block p4.bk_at 0; have x41 : w5.cell? ⟨w.heap.size + 1 + 1, 1, none⟩ = some (.slice none 0 0) := cell_of_block p4.bk_at 1; have f40 : w5.frozen? ⟨w.heap.size + 1 + 1, 0, none⟩ = false := free_of_block p4.bk_at 0; have f41 : w5.frozen? ⟨w.heap.size + 1 + 1, 1, none⟩ = false := free_of_block p4.bk_at 1; clear hst hsz p2 p4))
      have s2 : St P0 w0 (((w5.setCell ⟨w.heap.size, 1, none⟩ (.slice A2 (L.length + 1) c2)).setCell ⟨w.heap.size + 1 + 1, 0, none⟩ (.int .i64 (cap : Int))).setCell ⟨w.heap.size + 1 + 1, 1, none⟩ (.slice A2 (L.length + 1) c2)) (rl (.slice A L.length c) L :: slc 55 2 (.slice A2 (L.length + 1) c2) (L.length + 1) (L.flatMap sw ++ [.int .i64 a, .int .i64 v]) :: F) :=
        (((((((((H5.out.get 4).set 1 (.slice A2 (L.length + 1) c2)).get 3).set 0 (.int .i64 (cap : Int))).set 1 (.slice A2 (L.length + 1) c2)).get 5).cut 1).cut 1).cut 2).cut 2
      have e2 : (L ++ [x]).length = L.length + 1 := by simp
      refine bodyPost_ret (v := .tuple #[rv cap (.slice A2 (L.length + 1) c2), .int .i64 0]) ?_ rfl ⟨_, rfl, ?_⟩
      · rw [results_cell_tmp (fn := Try.f76) rfl]
        go_simp
      · unfold rl
        rw [e2, sw_snoc, EX.out]
        exact s2.join
/-- What Drain hands back, with the list. -/
def drainT (L : List W16) : Value := match L with
  | [] => .agg #[.int .i64 0, .int .i64 0]
  | x :: _ => .agg #[.int .i64 (x.a : Int), .int .i64 (x.v : Int)]
theorem slc_drop {P : Program} {t e : TypeId} {i : TypeInfo} (ht : P.underlying t = some (.slice e)) (hi : P.info? e = some i) {sz : Nat} (hsz : i.size = sz) {A : Option Addr} {m c : Nat} {xs : List Value} {w : World} {Q : Nat → Prop} (h : (slc e sz (.slice A m c) m xs).X w Q) (k : Nat) (hk : k ≤ m) (hm : m ≤ 1000000) :
    ∃ A', (∀ W : World, (Instr.slice t (.slice A m c) (some (.int .i64 (k : Int))) none none).run P W = .ok (.slice A' (m - k) (c - k)) W) ∧ (slc e sz (.slice A' (m - k) (c - k)) (m - k) (xs.drop (k * sz))).X w Q := by
  have hel : P.elem t = e := by simp [Program.elem, ht]
  have hu : P.underlying t = some (.slice (P.elem t)) := by rw [hel]; exact ht
  have hrun : ∀ W : World, (Instr.slice t (.slice A m c) (some (.int .i64 (k : Int))) none none).run P W = .ok (.slice (if c = k then A else A.map (·.add (k * sz))) (m - k) (c - k)) W := by
    intro W
    rw [run_slice_l W t A m c hu .i64 k (by omega) (by omega), hel]
    simp [sizeOf, typeInfo, hi, hsz, sliced, Result.andThen]
  refine ⟨_, hrun, ?_⟩
  rcases h with ⟨hv, rfl, rfl⟩ | ⟨g, o, c', cur, hv, h2, h3, h4, h5, h6, h7, h8⟩
  · cases hv
    obtain rfl : k = 0 := by omega
    exact .inl ⟨by simp, by omega, by simp⟩
  · cases hv
    refine .inr ⟨g, if c = k then o else o + k * sz, c - k, cur, ?_, by omega, by omega, by rw [List.length_drop, h4, Nat.sub_mul], h5, h6, ?_, ?_⟩
    · split
      · rfl
      · simp [Addr.add_mid]
    · split
      · next e => rw [e]; simp; omega
      · rw [Nat.sub_mul]
        have := Nat.mul_le_mul_right sz (show k ≤ c by omega)
        omega
    · intro j hj
      rw [List.length_drop] at hj
      rw [List.getElem?_drop]
      split
      · next e =>
        have : m = k := by omega
        subst this
        rw [h4] at hj
        omega
      · rw [← h8 (k * sz + j) (by omega)]
        congr 1
        omega
set_option maxHeartbeats 4000000 in
set_option maxRecDepth 100000 in
theorem Drain_st (h : St P0 w0 w (rl V L :: F)) (cap : Nat) (hl : L.length ≤ 100000) :
    Calls Try.prog 78 #[rv cap V] w fun e w' => ∃ V', e = .returned (.tuple #[rv cap V', drainT L, .bool (decide (0 < L.length))]) ∧ St P0 w0 w' (both (rl V L) (rl V' L.tail) :: F) := by
  obtain ⟨A, c, rfl, hc1, hc2, hrd, hcells⟩ := rl_form h
  have H0 := Lib.hid h
  cases L with
  | nil =>
    clear h hrd hcells
    go_enter Try.func78, Try.ntmps78
    go_wp2
    refine bodyPost_ret (v := .tuple #[rv cap (.slice A 0 c), .agg #[.int .i64 0, .int .i64 0], .bool false]) ?_ rfl ⟨_, rfl, ((((H0.out.allocU _).allocU _).allocU _).twice)⟩
    simp [results, Try.results78, go_sem]
  | cons x L =>
    obtain ⟨g, o, rfl, k0, k1⟩ := hcells 0 (by simp)
    have hup := (((Up.refl w).alloc (.cells #[.int .i64 (cap : Int), .slice (some ⟨g, o, none⟩) (x :: L).length c] 90)).alloc (.cells #[.int .i64 0, .slice none 0 0] 90)).alloc (.cells #[.int .i64 0, .int .i64 0] 55)
    have k0' := cell_below hup (show w.cell? ⟨g, o, none⟩ = some (.int .i64 (x.a : Int)) by simpa using k0)
    have k1' := cell_below hup (show w.cell? ⟨g, o + 1, none⟩ = some (.int .i64 (x.v : Int)) by simpa using k1)
    have ed : decide (0 < (x :: L).length) = true := by simp
    have EX := Lib.hid (show drainT (x :: L) = .agg #[.int .i64 (x.a : Int), .int .i64 (x.v : Int)] from rfl)
    obtain ⟨t0, ht0, hz0, hz1, hz2⟩ := Clone.info_of info_store
    obtain ⟨A', hsl, h3⟩ : ∃ A', (∀ W : World, (Instr.slice 53 (.slice (some ⟨g, o, none⟩) (x :: L).length c) (some (.int .i64 1)) none none).run Try.prog W = .ok (.slice A' ((x :: L).length - 1) (c - 1)) W) ∧ St P0 w0 w (both (rl (.slice (some ⟨g, o, none⟩) (x :: L).length c) (x :: L)) (slc 55 2 (.slice A' ((x :: L).length - 1) (c - 1)) ((x :: L).length - 1) (((x :: L).flatMap sw).drop 2)) :: F) := by
      obtain ⟨hf, Q, R, hq, hr, hd, hA, hL⟩ := h
      obtain ⟨A', q1, q2⟩ := slc_drop (P := Try.prog) Try.underlying53 ht0 hz1 hA 1 (by simp) (by omega)
      exact ⟨A', q1, hf, Q, R, hq, hr, hd, ⟨hA, q2⟩, hL⟩
    have HS := Lib.hid h3
    have HN := Lib.hid (show (x :: L).length - 1 = L.length from by simp)
    have hne : (((x :: L).length : Int) == 0) = false := beq_eq_false_iff_ne.2 (by simp; omega)
    have hp1 : 0 < (x :: L).length := by simp
    rw [ed]
    have HV := Lib.hid (rfl : rl (.slice (some ⟨g, o, none⟩) (x :: L).length c) (x :: L) = rl (.slice (some ⟨g, o, none⟩) (x :: L).length c) (x :: L))
    clear h hrd hcells k0 k1 h3 HV hup
    generalize hm : (x :: L).length = m at *
    have HM := Lib.hid hm
    clear hm
    go_enter Try.func78, Try.ntmps78
    go_wp2_with fail
    go_region
    go_wp2
    refine bodyPost_ret (v := .tuple #[rv cap (.slice A' (m - 1) (c - 1)), .agg #[.int .i64 (x.a : Int), .int .i64 (x.v : Int)], .bool true]) ?_ rfl ⟨_, by rw [EX.out], ?_⟩
    · simp [results, Try.results78, go_sem]
    · have hm := HM.out
      subst hm
      have h5 := (((((HS.out.allocU (.cells #[.int .i64 (cap : Int), .slice A' ((x :: L).length - 1) (c - 1)] 90)).allocU (.cells #[.int .i64 (cap : Int), .slice A' ((x :: L).length - 1) (c - 1)] 90)).allocU (.cells #[.int .i64 (x.a : Int), .int .i64 (x.v : Int)] 55)).allocU (.cells #[.int .i64 (x.a : Int), .int .i64 (x.v : Int)] 55)).drew)
      have e1 : ((x :: L).flatMap sw).drop 2 = L.flatMap sw := by simp [sw]
      rw [e1, HN.out] at h5
      rw [HN.out]
      exact h5
theorem findV_snoc (L : List W16) (x : W16) (a : Int) : findV (L ++ [x]) a = if (x.a : Int) = a then .tuple #[.int .i64 (x.v : Int), .bool true] else findV L a := by
  unfold findV findL
  rw [List.reverse_append]
  simp only [List.reverse_cons, List.reverse_nil, List.nil_append, List.cons_append, List.find?_cons]
  by_cases h : (x.a : Int) = a
  · rw [if_pos h]
    simp [h]
  · rw [if_neg h]
    have : ((x.a : Int) == a) = false := beq_eq_false_iff_ne.2 h
    simp [this]
theorem take_succ' (L : List W16) (i : Nat) (h : i < L.length) : L.take (i + 1) = L.take i ++ [L.getD i default] := by
  rw [List.take_add_one, List.getElem?_eq_getElem h]
  simp [List.getD_eq_getElem?_getD, h]
set_option maxHeartbeats 4000000 in
set_option maxRecDepth 100000 in
theorem Find_st (h : St P0 w0 w (rl V L :: F)) (cap : Nat) (a : Int) (hl : L.length ≤ 100000) :
    Calls Try.prog 79 #[rv cap V, .int .i64 a] w fun e w' => e = .returned (findV L a) ∧ St P0 w0 w' (rl V L :: F) := by
  obtain ⟨A, c, rfl, hc1, hc2, hrd, hcells⟩ := rl_form h
  have H0 := Lib.hid h
  have HC := Lib.hid hcells
  clear h hrd hcells
  go_enter Try.func79, Try.ntmps79
  go_wp2_with fail
  go_loop [8, 6, 7] (fun v8 v6 v7 => ∃ i : Nat, i ≤ L.length ∧ v8 = .int .i64 i ∧ Hid (findV (L.take i) a = .tuple #[v6, v7])) (fun v8 _ _ => L.length - (intOf v8).toNat)
  case atStart => exact ⟨0, Nat.zero_le _, rfl, Lib.hid (by simp [findV, findL])⟩
  case round =>
    obtain ⟨i, hi, rfl, HV⟩ := hrel
    by_cases hlt : i < L.length
    · obtain ⟨g, o, rfl, k0, k1⟩ := HC.out i hlt
      have hup := (Up.refl w).alloc (.cells #[.int .i64 (cap : Int), .slice (some ⟨g, o, none⟩) L.length c] 90)
      have k0' := cell_below hup k0
      have k1' := cell_below hup k1
      have HT := Lib.hid (take_succ' L i hlt)
      have HV2 := Lib.hid (findV_snoc (L.take i) (L.getD i default) a)
      rw [← HT.out] at HV2
      clear k0 k1 hup HC
      generalize L.getD i default = x at *
      by_cases e : (x.a : Int) = a
      · have e1 : ((x.a : Int) == a) = true := beq_iff_eq.2 e
        have HE := Lib.hid e
        clear e
        go_wp2
        go_round
        case rel => exact ⟨i + 1, by omega, by go_num, Lib.hid (by rw [HV2.out, if_pos HE.out])⟩
        case measure => simp [intOf]; omega
      · have e1 : ((x.a : Int) == a) = false := beq_eq_false_iff_ne.2 e
        have HE := Lib.hid e
        clear e
        go_wp2
        go_round
        case rel => exact ⟨i + 1, by omega, by go_num, Lib.hid (by rw [HV2.out, if_neg HE.out, HV.out])⟩
        case measure => simp [intOf]; omega
    · obtain rfl : i = L.length := by omega
      have HT := Lib.hid (List.take_length (l := L))
      go_wp2
      go_ret2
      have h5 := HV.out
      rw [HT.out] at h5
      exact ⟨by rw [h5]; rfl, H0.out.allocU _⟩
end
end Go.Proofs.Ytlefefcakffepaa.Ref05

/- The reference's Do of chapter 05. -/
namespace Go.Proofs.Ytlefefcakffepaa.Ref05
set_option linter.unusedVariables false
set_option linter.unusedSimpArgs false
open Go.RowKit Go.Proofs.Ytlefefcakffepaa.CellOf Go.Proofs.Ytlefefcakffepaa.CellP Go.Proofs.Ytlefefcakffepaa.Sep Go.Proofs.Ytlefefcakffepaa.Find Go.Proofs.Ytlefefcakffepaa.Sbuf

def drainP : List W16 → Int × Int
  | [] => (0, 0)
  | x :: _ => ((x.a : Int), (x.v : Int))
def findW (L : List W16) (a : Int) : Int := match findL L a with
  | some u => (u : Int)
  | none => 0
def findB (L : List W16) (a : Int) : Bool := (findL L a).isSome
theorem findV_eq (L : List W16) (a : Int) : findV L a = .tuple #[.int .i64 (findW L a), .bool (findB L a)] := by
  unfold findV findW findB
  cases findL L a <;> rfl
theorem drainV_eq (L : List W16) : drainV L = .tuple #[.int .i64 (drainP L).1, .int .i64 (drainP L).2, .bool (decide (0 < L.length))] := by
  cases L with
  | nil => rfl
  | cons x L => simp [drainV, drainP]
theorem drainT_eq (L : List W16) : drainT L = .agg #[.int .i64 (drainP L).1, .int .i64 (drainP L).2] := by
  cases L <;> rfl
/-- What a call does: the stores then, the store told, and the error (or 1). -/
def doB (cap : Nat) (L : List W16) (k a v : Int) : List W16 × (Int × Int) × Int :=
  if k = 0 then ((putB cap L a v).1, (0, 0), (putB cap L a v).2)
  else if k = 1 then (L.tail, drainP L, (if decide (0 < L.length) = true then 1 else 0))
  else if k = 2 then ([], (0, 0), (L.length : Int))
  else (L, (0, findW L a), (if findB L a = true then 1 else 0))
section
variable {P0 : Nat → Prop} {w0 w w' : World} {F : List Rg} {V : Value} {L : List W16}
end
end Go.Proofs.Ytlefefcakffepaa.Ref05
