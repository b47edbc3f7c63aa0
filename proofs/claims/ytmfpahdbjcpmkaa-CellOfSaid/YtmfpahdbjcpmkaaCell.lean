/- Contracts of the package cell, as far as CellOf reaches, and of the reference's Of; for numbers from 0 to 65535. -/
import Derived.Test.YtmfpahdbjcpmkaaProg
import Derived.Test.YtmfpahdbjcpmkaaBase
import Derived.Test.YtmfpahdbjcpmkaaGivenHex
import Derived.Test.YtmfpahdbjcpmkaaFloats
import Derived.Laws.ComplexArith
import Derived.Laws.ResultCell
namespace Go.Proofs.Ytmfpahdbjcpmkaa.Cell
set_option linter.unusedVariables false
set_option linter.unusedSimpArgs false
open Go.RowKit Go.Proofs.Ytmfpahdbjcpmkaa.Given Go.Proofs.Ytmfpahdbjcpmkaa.Floats

theorem run_store_float (P : Program) (w : World) (a : Addr) (k : FloatKind) (b : Nat) (m : Mode) : (store a (.float k b) m).run P w = stored P w a (.float k b) m := run_store P w a _ m rfl
theorem run_store_complex (P : Program) (w : World) (a : Addr) (k : FloatKind) (b c : Nat) (m : Mode) : (store a (.complex k b c) m).run P w = stored P w a (.complex k b c) m := run_store P w a _ m rfl
attribute [local go_sem] run_store_float run_store_complex
theorem may_walk (a : Int) (w : World) : Calls Try.prog 21 #[.int .i64 a] w fun e w' => e = .returned (.bool (a == wd a)) ∧ w' = w := by
  go_enter Try.func21, Try.ntmps21
  go_wp2_with (go_at_call 34; refine (Word_walk _ _).mono ?_; rintro e w' ⟨rfl, rfl⟩)
  go_ret
  exact ⟨rfl, rfl⟩
def inW (a : Int) : Bool := a == wd a
theorem inW_iff (a : Int) : inW a = true ↔ 0 ≤ a ∧ a ≤ 65535 := by
  unfold inW wd
  rw [beq_iff_eq]
  omega
/-- A cell, or none. -/
def cellV (a b : Int) : Value := if inW a = true ∧ inW b = true then .tuple #[.complex .f64 (floatOfInt .f64 a) (floatOfInt .f64 b), .bool true] else .tuple #[.complex .f64 0 0, .bool false]
theorem Of_walk (a b : Int) (w : World) : Calls Try.prog 7 #[.int .i64 a, .int .i64 b] w fun e w' => e = .returned (cellV a b) ∧ w' = w := by
  cases ha : (a == wd a) with
  | false =>
    have E := Lib.hid (show cellV a b = .tuple #[.complex .f64 0 0, .bool false] from if_neg (fun h => by have := h.1; unfold inW at this; rw [ha] at this; cases this))
    have Ha := Lib.hid ha
    clear ha
    go_enter Try.func7, Try.ntmps7
    go_wp2_with (go_at_call 21; refine (may_walk _ _).mono ?_; rintro e w' ⟨rfl, rfl⟩; have ha := Ha.out)
    go_ret2
    exact ⟨by rw [E.out]; rfl, rfl⟩
  | true =>
    cases hb : (b == wd b) with
    | false =>
      have E := Lib.hid (show cellV a b = .tuple #[.complex .f64 0 0, .bool false] from if_neg (fun h => by have := h.2; unfold inW at this; rw [hb] at this; cases this))
      have Ha := Lib.hid ha
      have Hb := Lib.hid hb
      clear ha hb
      go_enter Try.func7, Try.ntmps7
      go_wp2_with (go_at_call 21; refine (may_walk _ _).mono ?_; rintro e w' ⟨rfl, rfl⟩; have ha := Ha.out; have hb := Hb.out)
      go_ret2
      exact ⟨by rw [E.out]; rfl, rfl⟩
    | true =>
      have E := Lib.hid (show cellV a b = .tuple #[.complex .f64 (floatOfInt .f64 a) (floatOfInt .f64 b), .bool true] from if_pos ⟨ha, hb⟩)
      have Ha := Lib.hid ha
      have Hb := Lib.hid hb
      clear ha hb
      go_enter Try.func7, Try.ntmps7
      go_wp2_with (go_at_call 21; refine (may_walk _ _).mono ?_; rintro e w' ⟨rfl, rfl⟩; have ha := Ha.out; have hb := Hb.out)
      go_ret2
      exact ⟨by rw [E.out]; rfl, rfl⟩
theorem p51 : (2 : Nat) ^ 51 = 2251799813685248 := by decide
theorem f0 : floatOfInt .f64 0 = 0 := by decide +kernel
theorem f65535 : floatOfInt .f64 65535 = 4679239875398991872 := by decide +kernel
theorem ge0 (n : Nat) (h : n ≤ 65535) : (FloatKind.f64.format.order (floatOfInt .f64 n) 0 == some .gt || FloatKind.f64.format.order (floatOfInt .f64 n) 0 == some .eq) = true := by
  have h1 := order_fb n 0 (by omega) (by omega)
  rw [show fb ((0 : Nat) : Int) = 0 from f0] at h1
  rw [show floatOfInt .f64 n = fb n from rfl, h1]
  rcases Nat.eq_zero_or_pos n with rfl | hn
  · decide
  · rw [Int.compare_eq_gt.2 (by omega)]; rfl
theorem le65535 (n : Nat) (h : n ≤ 65535) : (FloatKind.f64.format.order (floatOfInt .f64 n) 4679239875398991872 == some .lt || FloatKind.f64.format.order (floatOfInt .f64 n) 4679239875398991872 == some .eq) = true := by
  have h1 := order_fb n 65535 (by omega) (by omega)
  rw [show fb ((65535 : Nat) : Int) = 4679239875398991872 from f65535] at h1
  rw [show floatOfInt .f64 n = fb n from rfl, h1]
  by_cases hn : n = 65535
  · subst hn; decide
  · rw [Int.compare_eq_lt.2 (by omega)]; rfl
theorem eqself (n : Nat) (h : n ≤ 65535) : (FloatKind.f64.format.order (floatOfInt .f64 n) (floatOfInt .f64 n) == some .eq) = true := by
  have h1 := order_fb n n (by omega) (by omega)
  rw [show floatOfInt .f64 n = fb n from rfl, h1, Int.compare_eq_eq.2 rfl]
  rfl
theorem part_walk (n : Nat) (h : n ≤ 65535) (w : World) : Calls Try.prog 38 #[.float .f64 (floatOfInt .f64 n)] w fun e w' => e = .returned (.int .i64 n) ∧ w' = w := by
  have h1 := ge0 n h
  have h2 := le65535 n h
  have h3 := eqself n h
  have hc := fun wx => run_convert_float_int (P := Try.prog) wx 25 3 .f64 .i64 (floatOfInt .f64 n) n (by kernel_rfl) Try.underlying3 (back_fb n (by omega))
  go_enter Try.func38, Try.ntmps38
  go_wp2
  go_ret
  exact ⟨rfl, rfl⟩
theorem Parts_of (x y a b : Nat) (w : World) (hx : Calls Try.prog 38 #[.float .f64 x] w fun e w' => e = .returned (.int .i64 a) ∧ w' = w) (hy : Calls Try.prog 38 #[.float .f64 y] w fun e w' => e = .returned (.int .i64 b) ∧ w' = w) :
    Calls Try.prog 35 #[.complex .f64 x y] w fun e w' => e = .returned (.tuple #[.int .i64 a, .int .i64 b, .bool true]) ∧ w' = w := by
  have HX := Lib.hid hx
  have HY := Lib.hid hy
  clear hx hy
  go_enter Try.func35, Try.ntmps35
  go_wp2_with (go_at_call 38; (first | (with_reducible refine HX.out.mono ?_) | (with_reducible refine HY.out.mono ?_)); rintro e w' ⟨rfl, rfl⟩)
  go_ret3
  exact ⟨rfl, rfl⟩
theorem Parts_walk (a b : Nat) (ha : a ≤ 65535) (hb : b ≤ 65535) (w : World) : Calls Try.prog 35 #[.complex .f64 (floatOfInt .f64 a) (floatOfInt .f64 b)] w fun e w' => e = .returned (.tuple #[.int .i64 a, .int .i64 b, .bool true]) ∧ w' = w :=
  Parts_of _ _ a b w (part_walk a ha w) (part_walk b hb w)
theorem Add_walk (a b : Int) (w : World) : Calls Try.prog 36 #[.int .i64 a, .int .i64 b] w fun e w' => e = .returned (.int .i64 (wadd a b)) ∧ w' = w := by
  have h1 := wd_lo a; have h2 := wd_hi a; have h3 := wd_lo b; have h4 := wd_hi b
  have E := Lib.hid (show wd (wd a + wd b) = wadd a b from rfl)
  have ew : wrap64 (wd a + wd b) = wd a + wd b := by unfold wrap64; omega
  go_enter Try.func36, Try.ntmps36
  go_wp2_with (go_at_call 34; refine (Word_walk _ _).mono ?_; rintro e w' ⟨rfl, rfl⟩)
  go_ret
  exact ⟨by rw [← E.out]; rfl, rfl⟩
/-! ### the example: of 2 and 3 -/
theorem fl2 : floatOfInt .f64 ((2 : Nat) : Int) = 4611686018427387904 := by decide +kernel
theorem fl3 : floatOfInt .f64 ((3 : Nat) : Int) = 4613937818241073152 := by decide +kernel
theorem Parts_23 (w : World) : Calls Try.prog 35 #[.complex .f64 4611686018427387904 4613937818241073152] w fun e w' => e = .returned (.tuple #[.int .i64 2, .int .i64 3, .bool true]) ∧ w' = w := by
  have h := Parts_walk 2 3 (by decide) (by decide) w
  rw [fl2, fl3] at h
  exact h
theorem Of_23 (w : World) : Calls Try.prog 7 #[.int .i64 2, .int .i64 3] w fun e w' => e = .returned (.tuple #[.complex .f64 4611686018427387904 4613937818241073152, .bool true]) ∧ w' = w := by
  have h := Of_walk 2 3 w
  have e : cellV 2 3 = .tuple #[.complex .f64 4611686018427387904 4613937818241073152, .bool true] := by
    unfold cellV
    rw [if_pos (by decide)]
    rw [show floatOfInt .f64 2 = 4611686018427387904 from fl2, show floatOfInt .f64 3 = 4613937818241073152 from fl3]
  rw [e] at h
  exact h
theorem mul_23 : cMulBits 4611686018427387904 13837309855095848960 0 4607182418800017408 = some (4613937818241073152, 4611686018427387904) := by decide +kernel
theorem Turn_23 (w : World) : Calls Try.prog 23 #[.complex .f64 4611686018427387904 4613937818241073152] w fun e w' => e = .returned (.complex .f64 4613937818241073152 4611686018427387904) ∧ w' = w := by
  have hn : Op.unary .neg (.float .f64 4613937818241073152) = pure (.float .f64 13837309855095848960) := by
    have e : Op.negFloat .f64 4613937818241073152 = 13837309855095848960 := by decide +kernel
    rw [← e]
    rfl
  have hm := fun wx => run_complex_mul (P := Try.prog) wx 22 _ _ _ _ _ _ mul_23
  go_enter Try.func23, Try.ntmps23
  go_wp2_with (go_at_call 35; refine (Parts_23 _).mono ?_; rintro e w' ⟨rfl, rfl⟩)
  go_ret
  exact ⟨rfl, rfl⟩
theorem Next_23 (w : World) : Calls Try.prog 24 #[.complex .f64 4611686018427387904 4613937818241073152, .int .i64 (-3)] w fun e w' => e = .returned (.complex .f64 4679239875398991872 4613937818241073152) ∧ w' = w := by
  have e1 : wadd 2 (-3) = 65535 := by decide
  have hA := Lib.hid (Add_walk 2 (-3) w)
  have hO := Lib.hid (Of_walk 65535 3 w)
  have e2 : cellV 65535 3 = .tuple #[.complex .f64 4679239875398991872 4613937818241073152, .bool true] := by
    unfold cellV
    rw [if_pos (by decide), show floatOfInt .f64 65535 = 4679239875398991872 from f65535, show floatOfInt .f64 3 = 4613937818241073152 from fl3]
  go_enter Try.func24, Try.ntmps24
  go_wp2_with (first | (go_at_call 35; refine (Parts_23 _).mono ?_; rintro e w' ⟨rfl, rfl⟩) | (go_at_call 36; refine hA.out.mono ?_; rintro e w' ⟨rfl, rfl⟩) | (go_at_call 7; refine hO.out.mono ?_; rintro e w' ⟨rfl, rfl⟩))
  go_ret
  exact ⟨rfl, rfl⟩
theorem hex2 : hexs (wd 2) = ⟨#[48, 48, 48, 50]⟩ := by decide +kernel
theorem hex3 : hexs (wd 3) = ⟨#[48, 48, 48, 51]⟩ := by decide +kernel
theorem Hex_2 (w : World) : Calls Try.prog 37 #[.int .i64 2] w fun e w' => e = .returned (.string ⟨#[48, 48, 48, 50]⟩) ∧ Up w w' := by
  have h := Hex_walk 2 w
  rw [hex2] at h
  exact h
theorem Hex_3 (w : World) : Calls Try.prog 37 #[.int .i64 3] w fun e w' => e = .returned (.string ⟨#[48, 48, 48, 51]⟩) ∧ Up w w' := by
  have h := Hex_walk 3 w
  rw [hex3] at h
  exact h
theorem Text_23 (w : World) : Calls Try.prog 25 #[.complex .f64 4611686018427387904 4613937818241073152] w fun e w' => e = .returned (.string ⟨#[48, 48, 48, 50, 58, 48, 48, 48, 51]⟩) ∧ Up w w' := by
  go_enter Try.func25, Try.ntmps25
  go_wp2_with (first | (go_at_call 35; refine (Parts_23 _).mono ?_; rintro e w' ⟨rfl, rfl⟩) | (go_at_call 37; with_reducible refine (Hex_2 _).mono ?_; rintro e w1 ⟨rfl, hu⟩; have HU := Lib.hid hu; clear hu) | (go_at_call 37; with_reducible refine (Hex_3 _).mono ?_; rintro e w2 ⟨rfl, hv⟩; have HV := Lib.hid hv; clear hv))
  go_ret
  exact ⟨rfl, HU.out.trans HV.out⟩
theorem refIs_walk (a : Int) (w : World) : Calls Try.prog 22 #[.int .i64 a] w fun e w' => e = .returned (.bool (inW a)) ∧ w' = w := by
  cases h : inW a with
  | true =>
    have := (inW_iff a).1 h
    go_enter Try.func22, Try.ntmps22
    go_wp2
    go_ret
    exact ⟨rfl, rfl⟩
  | false =>
    have h' : ¬ (0 ≤ a ∧ a ≤ 65535) := fun k => by rw [(inW_iff a).2 k] at h; cases h
    by_cases h0 : 0 ≤ a
    · have hd : decide (a ≤ 65535) = false := decide_eq_false (by omega)
      go_enter Try.func22, Try.ntmps22
      go_wp2
      go_ret
      exact ⟨rfl, rfl⟩
    · go_enter Try.func22, Try.ntmps22
      go_wp2
      go_ret
      exact ⟨rfl, rfl⟩
/-- The document's cell, or none. -/
def refV (a b : Int) : Value := if inW a = true ∧ inW b = true then .tuple #[.agg #[.float .f64 (floatOfInt .f64 a), .float .f64 (floatOfInt .f64 b)], .bool true] else .tuple #[.agg #[.float .f64 0, .float .f64 0], .bool false]
theorem refOf_walk (a b : Int) (w : World) : Calls Try.prog 8 #[.int .i64 a, .int .i64 b] w fun e w' => e = .returned (refV a b) ∧ Up w w' := by
  cases ha : inW a with
  | false =>
    have E := Lib.hid (show refV a b = .tuple #[.agg #[.float .f64 0, .float .f64 0], .bool false] from if_neg (fun h => by have := h.1; rw [ha] at this; cases this))
    have Ha := Lib.hid ha
    clear ha
    go_enter Try.func8, Try.ntmps8
    go_wp2_with (go_at_call 22; refine (refIs_walk _ _).mono ?_; rintro e w' ⟨rfl, rfl⟩; have ha := Ha.out)
    refine bodyPost_ret (v := .tuple #[.agg #[.float .f64 0, .float .f64 0], .bool false]) ?_ rfl ⟨by rw [E.out], (Up.refl _).alloc _⟩
    rw [results_cell_tmp (fn := Try.f8) rfl]
    go_simp
  | true =>
    cases hb : inW b with
    | false =>
      have E := Lib.hid (show refV a b = .tuple #[.agg #[.float .f64 0, .float .f64 0], .bool false] from if_neg (fun h => by have := h.2; rw [hb] at this; cases this))
      have Ha := Lib.hid ha
      have Hb := Lib.hid hb
      clear ha hb
      go_enter Try.func8, Try.ntmps8
      go_wp2_with (go_at_call 22; refine (refIs_walk _ _).mono ?_; rintro e w' ⟨rfl, rfl⟩; have ha := Ha.out; have hb := Hb.out)
      refine bodyPost_ret (v := .tuple #[.agg #[.float .f64 0, .float .f64 0], .bool false]) ?_ rfl ⟨by rw [E.out], (Up.refl _).alloc _⟩
      rw [results_cell_tmp (fn := Try.f8) rfl]
      go_simp
    | true =>
      have E := Lib.hid (show refV a b = .tuple #[.agg #[.float .f64 (floatOfInt .f64 a), .float .f64 (floatOfInt .f64 b)], .bool true] from if_pos ⟨ha, hb⟩)
      have Ha := Lib.hid ha
      have Hb := Lib.hid hb
      clear ha hb
      go_enter Try.func8, Try.ntmps8
      go_wp2_with (go_at_call 22; refine (refIs_walk _ _).mono ?_; rintro e w' ⟨rfl, rfl⟩; have ha := Ha.out; have hb := Hb.out)
      refine bodyPost_ret (v := .tuple #[.agg #[.float .f64 (floatOfInt .f64 a), .float .f64 (floatOfInt .f64 b)], .bool true]) ?_ rfl ⟨by rw [E.out], (Up.refl _).alloc _⟩
      rw [results_cell_tmp (fn := Try.f8) rfl]
      go_simp
theorem is_walk (x y p q : Nat) (w : World) (h1 : (FloatKind.f64.format.order x p == some .eq) = true) (h2 : (FloatKind.f64.format.order y q == some .eq) = true) :
    Calls Try.prog 9 #[.complex .f64 x y, .agg #[.float .f64 p, .float .f64 q]] w fun e w' => e = .returned (.bool true) ∧ Up w w' := by
  go_enter Try.func9, Try.ntmps9
  go_wp2
  go_ret
  exact ⟨rfl, by repeat (first | exact Up.refl _ | refine Up.alloc ?_ _ | refine Up.drewN ?_ _ | refine Up.drew ?_)⟩
theorem alive_walk (w : World) : Calls Try.prog 10 #[] w fun e w' => e = .returned (.bool true) ∧ Up w w' := by
  have q1 : (FloatKind.f64.format.order 4611686018427387904 4611686018427387904 == some .eq) = true := by decide +kernel
  have q2 : (FloatKind.f64.format.order 4613937818241073152 4613937818241073152 == some .eq) = true := by decide +kernel
  have q3 : (FloatKind.f64.format.order 4679239875398991872 4679239875398991872 == some .eq) = true := by decide +kernel
  go_enter Try.func10, Try.ntmps10
  go_wp2_with (first | (go_at_call 7; refine (Of_23 _).mono ?_; rintro e w' ⟨rfl, rfl⟩) | (go_at_call 23; refine (Turn_23 _).mono ?_; rintro e w' ⟨rfl, rfl⟩) | (go_at_call 24; refine (Next_23 _).mono ?_; rintro e w' ⟨rfl, rfl⟩) | (go_at_call 25; refine (Text_23 _).mono ?_; rintro e w1 ⟨rfl, hu⟩; have HU := Lib.hid hu; clear hu))
  go_ret
  exact ⟨rfl, HU.out⟩
theorem law_walk (a b : Int) (w : World) : Calls Try.prog 3 #[.int .i64 a, .int .i64 b] w fun e w' => e = .returned (.bool true) ∧ Up w w' := by
  obtain ⟨x, y, o, h1, h2, hx, hy⟩ : ∃ (x y : Nat) (o : Bool), cellV a b = .tuple #[.complex .f64 x y, .bool o] ∧ refV a b = .tuple #[.agg #[.float .f64 x, .float .f64 y], .bool o] ∧ (FloatKind.f64.format.order x x == some .eq) = true ∧ (FloatKind.f64.format.order y y == some .eq) = true := by
    by_cases h : inW a = true ∧ inW b = true
    · obtain ⟨a1, a2⟩ := (inW_iff a).1 h.1
      obtain ⟨b1, b2⟩ := (inW_iff b).1 h.2
      refine ⟨_, _, _, if_pos h, if_pos h, ?_, ?_⟩
      · have := eqself a.toNat (by omega)
        rwa [Int.toNat_of_nonneg a1] at this
      · have := eqself b.toNat (by omega)
        rwa [Int.toNat_of_nonneg b1] at this
    · exact ⟨0, 0, false, if_neg h, if_neg h, by decide +kernel, by decide +kernel⟩
  have HO : Hid (∀ w, Calls Try.prog 7 #[.int .i64 a, .int .i64 b] w fun e w' => e = .returned (.tuple #[.complex .f64 x y, .bool o]) ∧ w' = w) := Lib.hid (fun w => by rw [← h1]; exact Of_walk a b w)
  have HR : Hid (∀ w, Calls Try.prog 8 #[.int .i64 a, .int .i64 b] w fun e w' => e = .returned (.tuple #[.agg #[.float .f64 x, .float .f64 y], .bool o]) ∧ Up w w') := Lib.hid (fun w => by rw [← h2]; exact refOf_walk a b w)
  have HX := Lib.hid hx
  have HY := Lib.hid hy
  clear h1 h2 hx hy
  go_enter Try.func3, Try.ntmps3
  go_wp2_with (first | (go_at_call 7; refine (HO.out _).mono ?_; rintro e w' ⟨rfl, rfl⟩) | (go_at_call 8; refine (HR.out _).mono ?_; rintro e w1 ⟨rfl, hu⟩; have HU := Lib.hid hu; clear hu) | (go_at_call 9; refine (is_walk _ _ _ _ _ HX.out HY.out).mono ?_; rintro e w2 ⟨rfl, hu⟩; have HV := Lib.hid hu; clear hu) | (go_at_call 10; refine (alive_walk _).mono ?_; rintro e w3 ⟨rfl, hu⟩; have HA := Lib.hid hu; clear hu))
  go_ret
  exact ⟨rfl, ((HU.out.alloc _).trans HV.out).trans HA.out⟩
theorem CellOf.calls (a b : Int) (r : Bool) (w : World) (h : r = true) : Calls Try.prog 3 #[.int .i64 a, .int .i64 b] w fun e w' => e = .returned (.bool r) ∧ Below w.heap.size w w' := by
  rw [h]
  exact law_walk a b w
end Go.Proofs.Ytmfpahdbjcpmkaa.Cell
