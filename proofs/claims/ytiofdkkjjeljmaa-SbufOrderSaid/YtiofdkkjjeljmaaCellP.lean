/- Contracts of the package cell (Parts) and of the reference's Of, for numbers from 0 to 65535. -/
import Derived.Test.YtiofdkkjjeljmaaProg
import Derived.Test.YtiofdkkjjeljmaaBase
import Derived.Test.YtiofdkkjjeljmaaCellOf
import Derived.Test.YtiofdkkjjeljmaaFloats
import Derived.Laws.ComplexArith
import Derived.Laws.ResultCell
import Derived.BigQuiet
namespace Go.Proofs.Ytiofdkkjjeljmaa.CellP
set_option linter.unusedVariables false
set_option linter.unusedSimpArgs false
open Go.RowKit Go.Proofs.Ytiofdkkjjeljmaa.CellOf Go.Proofs.Ytiofdkkjjeljmaa.Floats

theorem run_store_float (P : Program) (w : World) (a : Addr) (k : FloatKind) (b : Nat) (m : Mode) : (store a (.float k b) m).run P w = stored P w a (.float k b) m := run_store P w a _ m rfl
theorem run_store_complex (P : Program) (w : World) (a : Addr) (k : FloatKind) (b c : Nat) (m : Mode) : (store a (.complex k b c) m).run P w = stored P w a (.complex k b c) m := run_store P w a _ m rfl
attribute [local go_sem] run_store_float run_store_complex
theorem p51 : (2 : Nat) ^ 51 = 2251799813685248 := by decide
theorem f0 : floatOfInt .f64 0 = 0 := by decide +kernel
theorem f65535 : floatOfInt .f64 65535 = 4679239875398991872 := by decide +kernel
theorem ge0 (n : Nat) (h : n ≤ 65535) : (FloatKind.f64.format.order (floatOfInt .f64 n) 0 == some .gt || FloatKind.f64.format.order (floatOfInt .f64 n) 0 == some .eq) = true := by
  have h1 := order_fb n 0 (by omega) (by omega)
  rw [show fb ((0 : Nat) : Int) = 0 from f0] at h1
  rw [show floatOfInt .f64 n = fb n from rfl, h1]
  rcases Nat.eq_zero_or_pos n with rfl | hn
  · decide
  · rw [Int.compare_eq_gt.2 (by omega)]; rfl
theorem le65535 (n : Nat) (h : n ≤ 65535) : (FloatKind.f64.format.order (floatOfInt .f64 n) 4679239875398991872 == some .lt || FloatKind.f64.format.order (floatOfInt .f64 n) 4679239875398991872 == some .eq) = true := by
  have h1 := order_fb n 65535 (by omega) (by omega)
  rw [show fb ((65535 : Nat) : Int) = 4679239875398991872 from f65535] at h1
  rw [show floatOfInt .f64 n = fb n from rfl, h1]
  by_cases hn : n = 65535
  · subst hn; decide
  · rw [Int.compare_eq_lt.2 (by omega)]; rfl
theorem eqself (n : Nat) (h : n ≤ 65535) : (FloatKind.f64.format.order (floatOfInt .f64 n) (floatOfInt .f64 n) == some .eq) = true := by
  have h1 := order_fb n n (by omega) (by omega)
  rw [show floatOfInt .f64 n = fb n from rfl, h1, Int.compare_eq_eq.2 rfl]
  rfl
theorem part_walk (n : Nat) (h : n ≤ 65535) (w : World) : Calls Try.prog 107 #[.float .f64 (floatOfInt .f64 n)] w fun e w' => e = .returned (.int .i64 n) ∧ w' = w := by
  have h1 := ge0 n h
  have h2 := le65535 n h
  have h3 := eqself n h
  have hc := fun wx => run_convert_float_int (P := Try.prog) wx 49 3 .f64 .i64 (floatOfInt .f64 n) n (by kernel_rfl) Try.underlying3 (back_fb n (by omega))
  go_enter Try.func107, Try.ntmps107
  go_wp2
  go_ret
  exact ⟨rfl, rfl⟩
theorem Parts_of (x y a b : Nat) (w : World) (hx : Calls Try.prog 107 #[.float .f64 x] w fun e w' => e = .returned (.int .i64 a) ∧ w' = w) (hy : Calls Try.prog 107 #[.float .f64 y] w fun e w' => e = .returned (.int .i64 b) ∧ w' = w) :
    Calls Try.prog 103 #[.complex .f64 x y] w fun e w' => e = .returned (.tuple #[.int .i64 a, .int .i64 b, .bool true]) ∧ w' = w := by
  have HX := Lib.hid hx
  have HY := Lib.hid hy
  clear hx hy
  go_enter Try.func103, Try.ntmps103
  go_wp2_with (go_at_call 107; (first | (with_reducible refine HX.out.mono ?_) | (with_reducible refine HY.out.mono ?_)); rintro e w' ⟨rfl, rfl⟩)
  go_ret3
  exact ⟨rfl, rfl⟩
theorem Parts_walk (a b : Nat) (ha : a ≤ 65535) (hb : b ≤ 65535) (w : World) : Calls Try.prog 103 #[.complex .f64 (floatOfInt .f64 a) (floatOfInt .f64 b)] w fun e w' => e = .returned (.tuple #[.int .i64 a, .int .i64 b, .bool true]) ∧ w' = w :=
  Parts_of _ _ a b w (part_walk a ha w) (part_walk b hb w)
theorem refIs_walk (a : Int) (w : World) : Calls Try.prog 105 #[.int .i64 a] w fun e w' => e = .returned (.bool (inW a)) ∧ w' = w := by
  cases h : inW a with
  | true =>
    have := (inW_iff a).1 h
    go_enter Try.func105, Try.ntmps105
    go_wp2
    go_ret
    exact ⟨rfl, rfl⟩
  | false =>
    have h' : ¬ (0 ≤ a ∧ a ≤ 65535) := fun k => by rw [(inW_iff a).2 k] at h; cases h
    by_cases h0 : 0 ≤ a
    · have hd : decide (a ≤ 65535) = false := decide_eq_false (by omega)
      go_enter Try.func105, Try.ntmps105
      go_wp2
      go_ret
      exact ⟨rfl, rfl⟩
    · go_enter Try.func105, Try.ntmps105
      go_wp2
      go_ret
      exact ⟨rfl, rfl⟩
/-- The document's cell, or none. -/
def refV (a b : Int) : Value := if inW a = true ∧ inW b = true then .tuple #[.agg #[.float .f64 (floatOfInt .f64 a), .float .f64 (floatOfInt .f64 b)], .bool true] else .tuple #[.agg #[.float .f64 0, .float .f64 0], .bool false]
theorem refOf_walk (a b : Int) (w : World) : Calls Try.prog 83 #[.int .i64 a, .int .i64 b] w fun e w' => e = .returned (refV a b) ∧ Up w w' := by
  cases ha : inW a with
  | false =>
    have E := Lib.hid (show refV a b = .tuple #[.agg #[.float .f64 0, .float .f64 0], .bool false] from if_neg (fun h => by have := h.1; rw [ha] at this; cases this))
    have Ha := Lib.hid ha
    clear ha
    go_enter Try.func83, Try.ntmps83
    go_wp2_with (go_at_call 105; refine (refIs_walk _ _).mono ?_; rintro e w' ⟨rfl, rfl⟩; have ha := Ha.out)
    refine bodyPost_ret (v := .tuple #[.agg #[.float .f64 0, .float .f64 0], .bool false]) ?_ rfl ⟨by rw [E.out], (Up.refl _).alloc _⟩
    rw [results_cell_tmp (fn := Try.f83) rfl]
    go_simp
  | true =>
    cases hb : inW b with
    | false =>
      have E := Lib.hid (show refV a b = .tuple #[.agg #[.float .f64 0, .float .f64 0], .bool false] from if_neg (fun h => by have := h.2; rw [hb] at this; cases this))
      have Ha := Lib.hid ha
      have Hb := Lib.hid hb
      clear ha hb
      go_enter Try.func83, Try.ntmps83
      go_wp2_with (go_at_call 105; refine (refIs_walk _ _).mono ?_; rintro e w' ⟨rfl, rfl⟩; have ha := Ha.out; have hb := Hb.out)
      refine bodyPost_ret (v := .tuple #[.agg #[.float .f64 0, .float .f64 0], .bool false]) ?_ rfl ⟨by rw [E.out], (Up.refl _).alloc _⟩
      rw [results_cell_tmp (fn := Try.f83) rfl]
      go_simp
    | true =>
      have E := Lib.hid (show refV a b = .tuple #[.agg #[.float .f64 (floatOfInt .f64 a), .float .f64 (floatOfInt .f64 b)], .bool true] from if_pos ⟨ha, hb⟩)
      have Ha := Lib.hid ha
      have Hb := Lib.hid hb
      clear ha hb
      go_enter Try.func83, Try.ntmps83
      go_wp2_with (go_at_call 105; refine (refIs_walk _ _).mono ?_; rintro e w' ⟨rfl, rfl⟩; have ha := Ha.out; have hb := Hb.out)
      refine bodyPost_ret (v := .tuple #[.agg #[.float .f64 (floatOfInt .f64 a), .float .f64 (floatOfInt .f64 b)], .bool true]) ?_ rfl ⟨by rw [E.out], (Up.refl _).alloc _⟩
      rw [results_cell_tmp (fn := Try.f83) rfl]
      go_simp
end Go.Proofs.Ytiofdkkjjeljmaa.CellP
