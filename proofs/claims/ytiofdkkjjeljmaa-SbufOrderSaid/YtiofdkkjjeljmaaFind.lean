/- cell.Find over slices.Backward: the word of the last cell with an address. Condition: the cells are those of numbers from 0 to 65535. -/
import Derived.RangeFuncNested
import Derived.RangeFuncBound
import Derived.RangeFuncCalls
import Derived.RangeFuncBox
import Derived.RangeFuncLeaves
import Derived.Shelf.Abstract
import Derived.Shelf.RegionOpen
import Derived.OwnWalkIn
import Derived.TacticsInMore
import Derived.LoopNIn
import Derived.LoopIn
import Derived.Test.YtiofdkkjjeljmaaCellP
import Derived.Test.YtiofdkkjjeljmaaSepApp
namespace Go.Proofs.Ytiofdkkjjeljmaa.Find
set_option linter.unusedVariables false
set_option linter.unusedSimpArgs false
open Go.RowKit Go.Shelf Go.Proofs.Ytiofdkkjjeljmaa.CellOf Go.Proofs.Ytiofdkkjjeljmaa.CellP Go.Proofs.Ytiofdkkjjeljmaa.Sep

/-- An address and a word. -/
structure W16 where
  a : Nat
  v : Nat
  ha : a ≤ 65535
  hv : v ≤ 65535
theorem W16.ext' {x y : W16} (h1 : x.a = y.a) (h2 : x.v = y.v) : x = y := by
  cases x
  cases y
  simp at h1 h2
  subst h1 h2
  rfl
instance : Inhabited W16 := ⟨⟨0, 0, by omega, by omega⟩⟩
/-- Its cell. -/
def cw (x : W16) : Value := .complex .f64 (floatOfInt .f64 (x.a : Int)) (floatOfInt .f64 (x.v : Int))
def upto {α : Type} (f : Nat → α) (k : Nat) : List α := (List.range k).map f
theorem upto_succ {α : Type} (f : Nat → α) (k : Nat) : upto f (k + 1) = upto f k ++ [f k] := by simp [upto, List.range_succ]
theorem upto_length {α : Type} (f : Nat → α) (k : Nat) : (upto f k).length = k := by simp [upto]
/-- What comes in round k: the index and the cell, from behind. -/
def fb' (L : List W16) (k : Nat) : Int × W16 := (((L.length - 1 - k : Nat) : Int), L.getD (L.length - 1 - k) default)
attribute [local go_sem] Oper.semAt_some
set_option maxRecDepth 100000 in
set_option maxHeartbeats 4000000 in
theorem back1_in (F : Fence) (n : Nat) (hf : F.fn 108) (hro : F.round = none) (hn : 1 ≤ n) (l Bs n₀ b off cap : Nat) (L : List W16) (hlen : L.length ≤ 1000000) (hb : b < n₀) (J Jx : List (Int × W16) → World → Prop)
    (hY : ∀ pre x W, J pre W → pre.length < L.length → YieldAt F (n - 1) Try.prog l #[.int .i64 x.1, cw x.2] W fun e W' =>
      (e = .returned (.bool true) ∧ J (pre ++ [x]) W' ∧ Below n₀ W W') ∨ (e = .returned (.bool false) ∧ Jx (pre ++ [x]) W'))
    (W : World) (hBs : W.cell? ⟨Bs, 0, none⟩ = some (.slice (some ⟨b, off, none⟩) L.length cap)) (hBn : Bs < n₀) (hc : ∀ j, j < L.length → W.cell? ⟨b, off + j, none⟩ = some (cw (L.getD j default))) (h0 : J [] W) :
    CallsIn F n Try.prog 108 #[.func (.yield l) #[] #[], .pointer (some ⟨Bs, 0, none⟩)] W fun e W' => (∃ v, e = .returned v) ∧
      ((∃ ys, ys = upto (fb' L) L.length ∧ J ys W') ∨ (∃ pre, (∃ k, k ≤ L.length ∧ pre = upto (fb' L) k) ∧ Jx pre W')) := by
  refine callsIn_of_wp Try.func108 rfl hf ?_ hro
  simp only [Try.ntmps108, List.size_toArray, List.length_cons, List.length_nil, Nat.reduceAdd, Nat.reduceSub, Array.replicate_succ, Array.replicate_zero, List.push_toArray, List.append_toArray, List.nil_append, List.cons_append]
  gi_wp2
  gi_loopw [3] (fun i wr => ∃ j : Int, -1 ≤ j ∧ j < L.length ∧ i = .int .i64 j ∧ J (upto (fb' L) (L.length - (j + 1).toNat)) wr ∧ Below n₀ W wr)
    (fun i _ => (intOf i + 1).toNat)
  case atStart => exact ⟨(L.length : Int) - 1, by omega, by omega, by first | rfl | simp, by rw [show L.length - ((L.length : Int) - 1 + 1).toNat = 0 by omega]; exact h0, Below.refl _ _⟩
  case round =>
    obtain ⟨j, hj0, hj1, rfl, hJs, hnx⟩ := hrel
    by_cases hlt : 0 ≤ j
    · obtain ⟨p, rfl⟩ := Int.eq_ofNat_of_zero_le hlt
      have e1 : L.length - (((p : Nat) : Int) + 1).toNat = L.length - 1 - p := by omega
      rw [e1] at hJs
      have e2 : fb' L (L.length - 1 - p) = ((p : Int), L.getD p default) := by
        unfold fb'
        rw [show L.length - 1 - (L.length - 1 - p) = p by omega]
      have hp : p < L.length := by omega
      have hc1 : wr.cell? ⟨b, off + p, none⟩ = some (cw (L.getD p default)) := (hnx.cell (p := ⟨b, off + p, none⟩) hb).trans (hc p hp)
      have hb1 : wr.cell? ⟨Bs, 0, none⟩ = some (.slice (some ⟨b, off, none⟩) L.length cap) := (hnx.cell (p := ⟨Bs, 0, none⟩) hBn).trans hBs
      obtain ⟨fn, tmps, assign, body, hy, hR⟩ := hY _ ((p : Int), L.getD p default) wr hJs (by rw [upto_length]; omega)
      dsimp only at hy
      have hR := Lib.hid hR
      have E2 := Lib.hid e2
      clear e1 e2 hlt
      generalize L.getD p default = x at *
      unfold cw at hc1 hy
      gi_wp2
      refine hR.out.mono ?_
      rintro e W3 (⟨rfl, hJ3, hk3⟩ | ⟨rfl, hJx3⟩)
      · gi_wp2
        go_roundw
        case rel => exact ⟨(p : Int) - 1, by omega, by omega, by first | rfl | simp, by rw [show L.length - ((p : Int) - 1 + 1).toNat = L.length - 1 - p + 1 by omega, upto_succ, E2.out]; exact hJ3, hnx.trans hk3⟩
        case measure => simp [intOf]
      · gi_wp2
        refine bodyPost_ret (results_none rfl _ _ _) rfl ?_
        exact ⟨⟨_, rfl⟩, .inr ⟨_, ⟨L.length - 1 - p + 1, by omega, by rw [upto_succ, E2.out]⟩, hJx3⟩⟩
    · obtain rfl : j = -1 := by omega
      rw [show L.length - ((-1 : Int) + 1).toNat = L.length by omega] at hJs
      have HJ := Lib.hid hJs
      clear hJs hlt
      gi_wp2
      go_end0
      exact ⟨⟨_, rfl⟩, .inl ⟨_, rfl, HJ.out⟩⟩
set_option maxRecDepth 100000 in
set_option maxHeartbeats 1000000 in
theorem back1_nil (F : Fence) (n : Nat) (hf : F.fn 108) (hro : F.round = none) (l Bs : Nat) (J : List (Int × W16) → World → Prop) (W : World) (hBs : W.cell? ⟨Bs, 0, none⟩ = some (.slice none 0 0)) (h0 : J [] W) :
    CallsIn F n Try.prog 108 #[.func (.yield l) #[] #[], .pointer (some ⟨Bs, 0, none⟩)] W fun e W' => (∃ v, e = .returned v) ∧ J [] W' := by
  refine callsIn_of_wp Try.func108 rfl hf ?_ hro
  simp only [Try.ntmps108, List.size_toArray, List.length_cons, List.length_nil, Nat.reduceAdd, Nat.reduceSub, Array.replicate_succ, Array.replicate_zero, List.push_toArray, List.append_toArray, List.nil_append, List.cons_append]
  gi_wp2
  gi_loopw [3] (fun i wr => i = .int .i64 (-1) ∧ J [] wr) (fun _ _ => 0)
  case atStart => exact ⟨rfl, h0⟩
  case round =>
    obtain ⟨rfl, hJs⟩ := hrel
    gi_wp2
    go_end0
    exact ⟨⟨_, rfl⟩, hJs⟩
set_option maxHeartbeats 1000000 in
theorem back_in (F : Fence) (n : Nat) (hf : F.fn 104) (hro : F.round = none) (a : Option Addr) (len cap : Nat) (w : World) :
    CallsIn F n Try.prog 104 #[.slice a len cap] w fun e w' => e = .returned (.func (.func 108) #[] #[.pointer (some ⟨w.heap.size, 0, none⟩)]) ∧ w' = w.alloc (.cells #[.slice a len cap] 47) := by
  refine callsIn_of_wp Try.func104 rfl hf ?_ hro
  simp only [Try.ntmps104, List.size_toArray, List.length_cons, List.length_nil, Nat.reduceAdd, Nat.reduceSub, Array.replicate_succ, Array.replicate_zero, List.push_toArray, List.append_toArray, List.nil_append, List.cons_append]
  gi_wp2
  go_ret
  exact ⟨rfl, rfl⟩
/-- Cells of a slice, below a block. -/
def Cs (n₀ : Nat) (W : World) (sv : Value) (L : List W16) : Prop :=
  (sv = .slice none 0 0 ∧ L = []) ∨ ∃ b off cap, sv = .slice (some ⟨b, off, none⟩) L.length cap ∧ b < n₀ ∧ ∀ j, j < L.length → W.cell? ⟨b, off + j, none⟩ = some (cw (L.getD j default))
theorem Cs.below {n₀ : Nat} {A B : World} (h : Below n₀ A B) {sv : Value} {L : List W16} : Cs n₀ A sv L → Cs n₀ B sv L
  | .inl e => .inl e
  | .inr ⟨b, off, cap, e, hb, hc⟩ => .inr ⟨b, off, cap, e, hb, fun j hj => (h.cell (p := ⟨b, off + j, none⟩) hb).trans (hc j hj)⟩
theorem back_stops (F : Fence) (n : Nat) (hf : F.fn 108) (hro : F.round = none) (hn : 1 ≤ n) (Bs n₀ : Nat) (sv : Value) (L : List W16) (hlen : L.length ≤ 1000000) (w : World) (hBs : Bs < w.heap.size) (hBn : Bs < n₀) (hn₀ : n₀ ≤ w.heap.size)
    (hc : w.cell? ⟨Bs, 0, none⟩ = some sv) (hI : Cs n₀ w sv L) :
    SeqStopsK F n Try.prog 108 #[.pointer (some ⟨Bs, 0, none⟩)] (fun x : Int × W16 => #[Value.int .i64 x.1, cw x.2]) (Below n₀) (fun ys => ys = upto (fb' L) L.length)
      (fun pre => ∃ k, k ≤ L.length ∧ pre = upto (fb' L) k) L.length w := fun l J Jx W hW _ _ hY h0 => by
  have hc' := (hW.cell (p := ⟨Bs, 0, none⟩) hBs).trans hc
  rcases hI.below (hW.mono hn₀) with ⟨rfl, rfl⟩ | ⟨b, off, cap, rfl, hb, hcs⟩
  · exact (back1_nil F n hf hro l Bs J W hc' h0).mono fun e W' ⟨he, hj⟩ => ⟨he, .inl ⟨_, rfl, hj⟩⟩
  · exact back1_in F n hf hro hn l Bs n₀ b off cap L hlen hb J Jx hY W hc' hBn hcs h0
/-- The word of the last one with an address. -/
def findL (L : List W16) (a : Int) : Option Nat := (L.reverse.find? fun x => (x.a : Int) == a).map (·.v)
def findV (L : List W16) (a : Int) : Value := match findL L a with
  | some v => .tuple #[.int .i64 (v : Int), .bool true]
  | none => .tuple #[.int .i64 0, .bool false]
theorem findV_none {L : List W16} {a : Int} (h : ∀ x ∈ L, (x.a : Int) ≠ a) : findV L a = .tuple #[.int .i64 0, .bool false] := by
  have : findL L a = none := by
    unfold findL
    rw [List.find?_eq_none.2]
    · rfl
    · intro x hx
      simpa using h x (by simpa using hx)
  unfold findV
  rw [this]
theorem mem_upto {L : List W16} {x : W16} (h : x ∈ L) : ∃ p ∈ upto (fb' L) L.length, p.2 = x := by
  obtain ⟨i, hi, rfl⟩ := List.getElem_of_mem h
  refine ⟨fb' L (L.length - 1 - i), List.mem_map.2 ⟨_, List.mem_range.2 (by omega), rfl⟩, ?_⟩
  unfold fb'
  simp only []
  rw [show L.length - 1 - (L.length - 1 - i) = i by omega, List.getD_eq_getElem?_getD, List.getElem?_eq_getElem hi]
  rfl
theorem rev_get {L : List W16} {k : Nat} (hk : k < L.length) : L.reverse[k]? = some (L.getD (L.length - 1 - k) default) := by
  rw [List.getElem?_reverse hk, List.getD_eq_getElem?_getD, List.getElem?_eq_getElem (by omega)]
  rfl
theorem findV_some {L : List W16} {a : Int} {k : Nat} (hk : k < L.length) (h : ∀ p ∈ upto (fb' L) k, (p.2.a : Int) ≠ a) (he : ((fb' L k).2.a : Int) = a) : findV L a = .tuple #[.int .i64 ((fb' L k).2.v : Int), .bool true] := by
  have h1 : L.reverse.find? (fun x => (x.a : Int) == a) = some (fb' L k).2 := by
    rw [List.find?_eq_some_iff_getElem]
    refine ⟨by simpa using he, k, by simpa using hk, ?_, fun j hj => ?_⟩
    · have h2 := rev_get hk
      rw [List.getElem?_eq_getElem (by simpa using hk)] at h2
      simpa [fb'] using h2
    · have h2 := rev_get (L := L) (k := j) (by omega)
      rw [List.getElem?_eq_getElem (by simp; omega)] at h2
      have h3 := h (fb' L j) (List.mem_map.2 ⟨j, List.mem_range.2 hj, rfl⟩)
      have h4 : L.reverse[j]'(by simp; omega) = (fb' L j).2 := by simpa [fb'] using h2
      rw [h4]
      simpa using h3
  unfold findV findL
  rw [h1]
  rfl
theorem Parts_cw (x : W16) (w : World) : Calls Try.prog 103 #[cw x] w fun e w' => e = .returned (.tuple #[.int .i64 (x.a : Int), .int .i64 (x.v : Int), .bool true]) ∧ w = w' := (Parts_walk x.a x.v x.ha x.hv w).mono fun _ _ h => ⟨h.1, h.2.symm⟩
set_option maxRecDepth 100000 in
set_option maxHeartbeats 8000000 in
theorem Find_walk (A : Option Addr) (c : Nat) (L : List W16) (a : Int) (hlen : L.length ≤ 1000000) (w : World) (hI : Cs w.heap.size w (.slice A L.length c) L) :
    Calls Try.prog 80 #[.slice A L.length c, .int .i64 a] w fun e W' => e = .returned (findV L a) ∧ Below w.heap.size w W' := by
  refine (callsIn_wide (n := 4)).1 ?_
  have h1 : (1 : Nat) ≤ 4 := by omega
  refine callsIn_of_wp_marks Try.func80 rfl trivial ?_ rfl
  simp only [Try.ntmps80, List.size_toArray, List.length_cons, List.length_nil, Nat.reduceAdd, Nat.reduceSub, Array.replicate_succ, Array.replicate_zero, List.push_toArray, List.append_toArray, List.nil_append, List.cons_append]
  gi_wp2_with (refine ⟨trivial, ?_⟩; gi_at_call 104; refine (back_in Fence.wide 3 trivial rfl _ _ _ _).mono ?_; rintro e w' ⟨rfl, rfl⟩)
  have bA := Boxed.new w 3 (.int .i64 a)
  have bR := Boxed.new (w.alloc (.cells #[.int .i64 a] 3)) 3 (.int .i64 0)
  have bO := Boxed.new ((w.alloc (.cells #[.int .i64 a] 3)).alloc (.cells #[.int .i64 0] 3)) 4 (.bool false)
  have bN := Boxed.new (((w.alloc (.cells #[.int .i64 a] 3)).alloc (.cells #[.int .i64 0] 3)).alloc (.cells #[.bool false] 4)) 47 (.slice A L.length c)
  rw [World.size_alloc] at bR
  rw [World.size_alloc, World.size_alloc] at bO
  rw [World.size_alloc, World.size_alloc, World.size_alloc] at bN
  have hB0 : Below w.heap.size w ((((w.alloc (.cells #[.int .i64 a] 3)).alloc (.cells #[.int .i64 0] 3)).alloc (.cells #[.bool false] 4)).alloc (.cells #[.slice A L.length c] 47)) :=
    ((((Below.refl _ w).alloc (Nat.le_refl _) _).alloc (by simp) _).alloc (by simp; omega) _).alloc (by simp; omega) _
  refine wpIn_rangeFunc_ownG rfl h1 (gf := 108) (lb := #[.pointer (some ⟨w.heap.size + 1 + 1 + 1, 0, none⟩)]) rfl trivial (enters_of Try.func108 (by kernel_rfl) rfl)
    (back_stops Fence.wide 3 trivial rfl (by omega) (w.heap.size + 1 + 1 + 1) (w.heap.size + 4) _ L hlen _ (by simp) (by omega) (by simp) bN.cell ?cs) belowK_t (belowK_b (by simp)) (Below.refl _ _) (fun _ => rfl)
    (fun pre W => ((∀ p ∈ pre, (p.2.a : Int) ≠ a) ∧ W.cell? ⟨w.heap.size, 0, none⟩ = some (.int .i64 a) ∧ (W.cell? ⟨w.heap.size + 1, 0, none⟩ = some (.int .i64 0) ∧ W.frozen? ⟨w.heap.size + 1, 0, none⟩ = false) ∧ (W.cell? ⟨w.heap.size + 1 + 1, 0, none⟩ = some (.bool false) ∧ W.frozen? ⟨w.heap.size + 1 + 1, 0, none⟩ = false)) ∧ Below w.heap.size w W)
    (fun c pre W => (c = .ret ∧ ∃ ini last, pre = ini ++ [last] ∧ (∀ p ∈ ini, (p.2.a : Int) ≠ a) ∧ (last.2.a : Int) = a ∧ W.cell? ⟨w.heap.size + 1, 0, none⟩ = some (.int .i64 (last.2.v : Int)) ∧ W.cell? ⟨w.heap.size + 1 + 1, 0, none⟩ = some (.bool true)) ∧ Below w.heap.size w W)
    (OwnFrom.and (Own.from (fun s A B row hs hg hr => ⟨hs.1, cell_kept hs.2.1 hg hr, ⟨cell_kept hs.2.2.1.1 hg hr, (frozen_kept hs.2.2.1.1 hg hr).trans hs.2.2.1.2⟩, ⟨cell_kept hs.2.2.2.1 hg hr, (frozen_kept hs.2.2.2.1 hg hr).trans hs.2.2.2.2⟩⟩) _) (ownFrom_below (Nat.le_refl _) (by simp; omega)))
    (fun c => OwnFrom.and (Own.from (fun s A B row hs hg hr => by obtain ⟨hc, ini, last, e1, e2, e3, e4, e5⟩ := hs; exact ⟨hc, ini, last, e1, e2, e3, cell_kept e4 hg hr, cell_kept e5 hg hr⟩) _) (ownFrom_below (Nat.le_refl _) (by simp; omega)))
    ⟨⟨by simp, (((bA.alloc _).alloc _).alloc _).cell, ⟨((bR.alloc _).alloc _).cell, ((bR.alloc _).alloc _).frozen⟩, ⟨(bO.alloc _).cell, (bO.alloc _).frozen⟩⟩, hB0⟩
    (fun x => { tmps := #[.slice A L.length c, .int .i64 a, undef, .pointer (some ⟨w.heap.size, 0, none⟩), .pointer (some ⟨w.heap.size + 1, 0, none⟩), .pointer (some ⟨w.heap.size + 1 + 1, 0, none⟩), undef, cw x.2, undef, undef, undef, .slice A L.length c, .func (.func 108) #[] #[.pointer (some ⟨w.heap.size + 1 + 1 + 1, 0, none⟩)], .int .i64 x.1, cw x.2, undef, undef, undef, undef, undef, undef, undef, undef, undef, undef, undef, undef, undef], defers := [] }) ?assign ?body ?done ?stop
  case cs =>
    rcases hI.below hB0 with h | ⟨b, off, cap, e, hb, hc⟩
    · exact .inl h
    · exact .inr ⟨b, off, cap, e, by omega, hc⟩
  case assign =>
    intro l x W K hK
    gi_wp2
    exact hK
  case body =>
    rintro l pre x W ⟨⟨hp, hca, ⟨hc1, hf1⟩, ⟨hc2, hf2⟩⟩, hB⟩ _
    obtain ⟨xi, x⟩ := x
    have HPw := Lib.hid (Parts_cw x)
    have HP := Lib.hid hp
    have HB := Lib.hid hB
    have hd : (1 : Nat) ≤ 4 - 1 - 1 := by omega
    dsimp only
    generalize cw x = cx at *
    clear hp hB
    by_cases hx : (x.a : Int) = a
    · have hx1 : ((x.a : Int) == a) = true := beq_iff_eq.2 hx
      have HX := Lib.hid hx
      clear hx
      gi_wp2_with (refine ⟨trivial, ?_⟩; gi_at_call 103; refine (CallsIn.inRound l (callsIn_wide.2 (HPw.out _))).mono ?_; rintro e w' ⟨rfl, rfl⟩)
      have q1 := World.cell?_setCell_same' W ⟨w.heap.size + 1, 0, none⟩ (.int .i64 (x.v : Int)) (by rw [hc1]; rfl)
      have q2 : ((W.setCell ⟨w.heap.size + 1, 0, none⟩ (.int .i64 (x.v : Int))).setCell ⟨w.heap.size + 1 + 1, 0, none⟩ (.bool true)).cell? ⟨w.heap.size + 1, 0, none⟩ = some (.int .i64 (x.v : Int)) := (World.cell?_setCell_other _ _ _ _ (by simp)).trans q1
      have q3 : (W.setCell ⟨w.heap.size + 1, 0, none⟩ (.int .i64 (x.v : Int))).cell? ⟨w.heap.size + 1 + 1, 0, none⟩ = some (.bool false) := (World.cell?_setCell_other _ _ _ _ (by simp)).trans hc2
      have q4 := World.cell?_setCell_same' (W.setCell ⟨w.heap.size + 1, 0, none⟩ (.int .i64 (x.v : Int))) ⟨w.heap.size + 1 + 1, 0, none⟩ (.bool true) (by rw [q3]; rfl)
      exact ⟨((KeepsOthers.setCell _ _ _).trans (KeepsOthers.setCell _ _ _)).from _, ⟨rfl, pre, (xi, x), rfl, HP.out, HX.out, q2, q4⟩, (HB.out.setCell (p := ⟨w.heap.size + 1, 0, none⟩) (by simp) _).setCell (p := ⟨w.heap.size + 1 + 1, 0, none⟩) (by simp; omega) _⟩
    · have hx1 : ((x.a : Int) == a) = false := beq_eq_false_iff_ne.2 hx
      have HX := Lib.hid hx
      clear hx
      gi_wp2_with (refine ⟨trivial, ?_⟩; gi_at_call 103; refine (CallsIn.inRound l (callsIn_wide.2 (HPw.out _))).mono ?_; rintro e w' ⟨rfl, rfl⟩)
      exact ⟨KeepsFrom.refl _ _, Below.refl _ _, ⟨fun p hp' => (List.mem_append.1 hp').elim (HP.out p) (fun e => by simp at e; subst e; exact HX.out), hca, ⟨hc1, hf1⟩, ⟨hc2, hf2⟩⟩, HB.out⟩
  case done =>
    rintro D ys W hD rfl ⟨⟨hp, hca, ⟨hc1, hf1⟩, ⟨hc2, hf2⟩⟩, hB⟩ hK
    have HE := Lib.hid (findV_none (L := L) (a := a) (fun x hx => by
      obtain ⟨p, hp1, rfl⟩ := mem_upto hx
      exact hp p hp1))
    have HB := Lib.hid hB
    clear hp hB
    gi_wp2
    have q1 := World.cell?_setCell_same' W ⟨w.heap.size + 1, 0, none⟩ (.int .i64 0) (by rw [hc1]; rfl)
    have q2 : ((W.setCell ⟨w.heap.size + 1, 0, none⟩ (.int .i64 0)).setCell ⟨w.heap.size + 1 + 1, 0, none⟩ (.bool false)).cell? ⟨w.heap.size + 1, 0, none⟩ = some (.int .i64 0) := (World.cell?_setCell_other _ _ _ _ (by simp)).trans q1
    have q3 : (W.setCell ⟨w.heap.size + 1, 0, none⟩ (.int .i64 0)).cell? ⟨w.heap.size + 1 + 1, 0, none⟩ = some (.bool false) := (World.cell?_setCell_other _ _ _ _ (by simp)).trans hc2
    have q4 := World.cell?_setCell_same' (W.setCell ⟨w.heap.size + 1, 0, none⟩ (.int .i64 0)) ⟨w.heap.size + 1 + 1, 0, none⟩ (.bool false) (by rw [q3]; rfl)
    have hK' := ((KeepsOthers.setCell W ⟨w.heap.size + 1, 0, none⟩ (.int .i64 0)).trans (KeepsOthers.setCell _ ⟨w.heap.size + 1 + 1, 0, none⟩ (.bool false))).same D _ hK rfl
    refine ⟨by simp, .inl ⟨_, _, rfl, run_takeDeferred hK', ?_⟩⟩
    have hc5 := cell_kept q2 (grownBy_putObj' _ D (.deferred none)) (fun r e => by cases e; exact ⟨_, hK', rfl⟩)
    have hc6 := cell_kept q4 (grownBy_putObj' _ D (.deferred none)) (fun r e => by cases e; exact ⟨_, hK', rfl⟩)
    refine ⟨.tuple #[.int .i64 0, .bool false], ?_, by rw [HE.out], ((HB.out.setCell (p := ⟨w.heap.size + 1, 0, none⟩) (by simp) _).setCell (p := ⟨w.heap.size + 1 + 1, 0, none⟩) (by simp; omega) _).trans (belowK_b (w := w) (Nat.le_refl _) _ D _ _ (by simp at hD; omega) hK' rfl rfl)⟩
    simp [results, Try.f80, go_sem, hc5, hc6]
  case stop =>
    rintro D c pre W hD ⟨k, hk, rfl⟩ ⟨⟨rfl, ini, last, e1, e2, e3, hcr, hcs⟩, hB⟩ hK
    obtain ⟨k', rfl⟩ : ∃ k', k = k' + 1 := by
      cases k with
      | zero => simp [upto] at e1
      | succ k' => exact ⟨k', rfl⟩
    rw [upto_succ] at e1
    obtain ⟨rfl, e5⟩ := List.append_inj' e1 rfl
    obtain rfl : fb' L k' = last := by simpa using e5
    have HE := Lib.hid (findV_some (by omega) e2 e3)
    have HB := Lib.hid hB
    clear e1 e5 e2 e3 hB
    generalize (fb' L k').2.v = v at *
    gi_wp2
    refine ⟨by simp, .inl ⟨_, _, rfl, run_takeDeferred hK, ?_⟩⟩
    have hc5 := cell_kept hcr (grownBy_putObj' _ D (.deferred none)) (fun r e => by cases e; exact ⟨_, hK, rfl⟩)
    have hc6 := cell_kept hcs (grownBy_putObj' _ D (.deferred none)) (fun r e => by cases e; exact ⟨_, hK, rfl⟩)
    refine ⟨.tuple #[.int .i64 (v : Int), .bool true], ?_, by rw [HE.out], HB.out.trans (belowK_b (w := w) (Nat.le_refl _) W D _ _ (by simp at hD; omega) hK rfl rfl)⟩
    simp [results, Try.f80, go_sem, hc5, hc6]
end Go.Proofs.Ytiofdkkjjeljmaa.Find
