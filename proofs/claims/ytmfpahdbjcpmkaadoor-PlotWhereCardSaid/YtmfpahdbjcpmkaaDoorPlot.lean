/- Contracts of the package plot, where its table and the table of bits lie in their variables as the program's text lays them. -/
import Derived.Test.YtmfpahdbjcpmkaaDoorGivenLog
namespace Go.Proofs.YtmfpahdbjcpmkaaDoor.Plot
set_option linter.unusedVariables false
set_option linter.unusedSimpArgs false
open Go.RowKit Go.Proofs.YtmfpahdbjcpmkaaDoor.Given Go.Proofs.YtmfpahdbjcpmkaaDoorW.PrintWords

/-- How many times the ring lies ahead of a field. -/
def aheadL : List Int := [0, 0, 0, 0, 0, 0, 1, 2, 3]
/-- Both tables lie in their variables. -/
structure TT (w : World) : Prop where
  tab : TabOk w
  ah : ∀ j, j < 9 → w.cell? ⟨0, j, none⟩ = some (.int .i64 (aheadL.getD j 0))
theorem TT.up {w w' : World} (h : TT w) (hu : Up w w') : TT w' :=
  ⟨fun j hj => pw_cell_below hu (h.tab j hj), fun j hj => pw_cell_below hu (h.ah j hj)⟩

theorem TT.drewN {w : World} (h : TT w) (n : Nat) : TT (w.drewN n) := h.up ((Up.refl w).drewN n)
theorem TT.drew {w : World} (h : TT w) : TT w.drew := h.up ((Up.refl w).drew)
/-! ### A ring -/
def rgB (n : Int) : Bool := n == 2 || n == 4 || n == 8 || n == 16 || n == 32 || n == 64
theorem rg_small : ∀ m : Fin 65, ((lg (m.val : Int)).2 && decide ((lg (m.val : Int)).1 > 0)) = rgB (m.val : Int) := by decide +kernel
theorem rg_lg (n : Int) : ((lg n).2 && decide ((lg n).1 > 0) && decide (n ≤ 64)) = rgB n := by
  by_cases h1 : n < 1
  · have : lg n = (0, false) := if_pos h1
    rw [this]
    have e : ∀ k : Int, 1 ≤ k → (n == k) = false := fun k hk => beq_eq_false_iff_ne.2 (by omega)
    simp [rgB, e]
  · by_cases h2 : n ≤ 64
    · obtain ⟨m, rfl⟩ := Int.eq_ofNat_of_zero_le (show 0 ≤ n by omega)
      have := rg_small ⟨m, by omega⟩
      dsimp only at this
      rw [← this, decide_eq_true h2, Bool.and_true]
    · have e : ∀ k : Int, k ≤ 64 → (n == k) = false := fun k hk => beq_eq_false_iff_ne.2 (by omega)
      rw [decide_eq_false h2, Bool.and_false]
      simp [rgB, e]
theorem rgB_bd {n : Int} (h : rgB n = true) : 2 ≤ n ∧ n ≤ 64 := by
  unfold rgB at h
  simp only [Bool.or_eq_true, beq_iff_eq] at h
  omega
theorem ringed_walk (n : Int) (hn : (Lit.int .i64 n).wf = true) (w : World) (ht : TT w) :
    Calls Tryd.prog 21 #[.int .i64 n] w fun e w' => e = .returned (.bool (rgB n)) ∧ w' = w := by
  have hL := Log_walk n hn w ht.tab
  have E := rg_lg n
  obtain ⟨l, ok, hlg⟩ : ∃ l ok, lg n = (l, ok) := ⟨_, _, rfl⟩
  rw [hlg] at hL E
  dsimp only at hL E
  have HL := Lib.hid hL
  clear hL hlg
  cases ok with
  | false =>
    have e : rgB n = false := by rw [← E]; rfl
    rw [e]
    clear E e
    go_enter Tryd.func21, Tryd.ntmps21
    go_wp2_with (go_at_call 24; refine HL.out.mono ?_; rintro e w' ⟨rfl, rfl⟩)
    go_ret
    exact ⟨rfl, rfl⟩
  | true =>
    by_cases hl : l > 0
    · have e : rgB n = decide (n ≤ 64) := by rw [← E, decide_eq_true hl]; simp
      rw [e]
      clear E e
      go_enter Tryd.func21, Tryd.ntmps21
      go_wp2_with (go_at_call 24; refine HL.out.mono ?_; rintro e w' ⟨rfl, rfl⟩)
      go_ret
      exact ⟨rfl, rfl⟩
    · have e : rgB n = false := by rw [← E, decide_eq_false hl]; simp
      rw [e]
      have h' : decide (l > 0) = false := decide_eq_false hl
      clear E e
      go_enter Tryd.func21, Tryd.ntmps21
      go_wp2_with (go_at_call 24; refine HL.out.mono ?_; rintro e w' ⟨rfl, rfl⟩)
      go_ret
      exact ⟨rfl, rfl⟩

/-! ### Right, Size, Words -/
def rtB (c r b : Int) : Bool := decide (2 ≤ c ∧ c ≤ 8 ∧ rgB r = true ∧ 1 ≤ b ∧ b ≤ 16)
def confV (c r b : Int) : Value := .agg #[.int .i64 c, .int .i64 r, .int .i64 b]
theorem Right_walk (c r b : Int) (hr : (Lit.int .i64 r).wf = true) (w : World) (ht : TT w) :
    Calls Tryd.prog 10 #[.agg #[.int .i64 c, .int .i64 r, .int .i64 b]] w fun e w' => e = .returned (.bool (rtB c r b)) ∧ Up w w' := by
  have HT := Lib.hid ht
  clear ht
  by_cases h1 : c ≥ 2
  · by_cases h2 : c ≤ 8
    · cases h3 : rgB r with
      | false =>
        have e : rtB c r b = false := decide_eq_false (fun h => by rw [h3] at h; exact absurd h.2.2.1 (by decide))
        rw [e]
        have H3 := Lib.hid h3
        clear h3 e
        go_enter Tryd.func10, Tryd.ntmps10
        go_wp2_with (go_at_call 21; refine (ringed_walk r hr _ (HT.out.up ((Up.refl _).alloc _))).mono ?_; rintro e w' ⟨rfl, rfl⟩; have h3 := H3.out)
        go_ret
        exact ⟨rfl, (Up.refl _).alloc _⟩
      | true =>
        have H3 := Lib.hid h3
        by_cases h4 : b ≥ 1
        · have e : rtB c r b = decide (b ≤ 16) := by unfold rtB; rw [decide_eq_decide]; constructor <;> intro h <;> first | omega | exact ⟨by omega, by omega, h3, by omega, h⟩
          rw [e]
          clear h3 e
          go_enter Tryd.func10, Tryd.ntmps10
          go_wp2_with (go_at_call 21; refine (ringed_walk r hr _ (HT.out.up ((Up.refl _).alloc _))).mono ?_; rintro e w' ⟨rfl, rfl⟩; have h3 := H3.out)
          go_ret
          exact ⟨rfl, (Up.refl _).alloc _⟩
        · have e : rtB c r b = false := decide_eq_false (fun h => by omega)
          have h4' : decide (b ≥ 1) = false := decide_eq_false h4
          rw [e]
          clear h3 e
          go_enter Tryd.func10, Tryd.ntmps10
          go_wp2_with (go_at_call 21; refine (ringed_walk r hr _ (HT.out.up ((Up.refl _).alloc _))).mono ?_; rintro e w' ⟨rfl, rfl⟩; have h3 := H3.out)
          go_ret
          exact ⟨rfl, (Up.refl _).alloc _⟩
    · have e : rtB c r b = false := decide_eq_false (fun h => by omega)
      have h2' : decide (c ≤ 8) = false := decide_eq_false h2
      rw [e]
      clear e
      go_enter Tryd.func10, Tryd.ntmps10
      go_wp2
      go_ret
      exact ⟨rfl, (Up.refl _).alloc _⟩
  · have e : rtB c r b = false := decide_eq_false (fun h => by omega)
    have h1' : decide (c ≥ 2) = false := decide_eq_false h1
    rw [e]
    clear e
    go_enter Tryd.func10, Tryd.ntmps10
    go_wp2
    go_ret
    exact ⟨rfl, (Up.refl _).alloc _⟩
def szI (r : Int) : Int := if rgB r = true then 4 + 11 * r else 0
theorem Size_walk (r : Int) (hr : (Lit.int .i64 r).wf = true) (w : World) (ht : TT w) :
    Calls Tryd.prog 12 #[.int .i64 r] w fun e w' => e = .returned (.int .i64 (szI r)) ∧ w' = w := by
  have HR := Lib.hid (ringed_walk r hr w ht)
  cases h3 : rgB r with
  | false =>
    have e : szI r = 0 := if_neg (by rw [h3]; decide)
    rw [e]
    have H3 := Lib.hid h3
    clear h3 e
    go_enter Tryd.func12, Tryd.ntmps12
    go_wp2_with (go_at_call 21; refine HR.out.mono ?_; rintro e w' ⟨rfl, rfl⟩; have h3 := H3.out)
    go_ret
    exact ⟨rfl, rfl⟩
  | true =>
    have hb := rgB_bd h3
    have e : szI r = 4 + 11 * r := if_pos h3
    rw [e]
    have H3 := Lib.hid h3
    have h8 : w.cell? ⟨0, 8, none⟩ = some (.int .i64 3) := ht.ah 8 (by decide)
    clear h3 e ht
    go_enter Tryd.func12, Tryd.ntmps12
    go_wp2_with (go_at_call 21; refine HR.out.mono ?_; rintro e w' ⟨rfl, rfl⟩; have h3 := H3.out)
    go_ret
    exact ⟨rfl, rfl⟩
def woI (c r b : Int) : Int := if rtB c r b = true then c * (c - 1) * szI r else 0
theorem rtB_bd {c r b : Int} (h : rtB c r b = true) : 2 ≤ c ∧ c ≤ 8 ∧ rgB r = true ∧ 1 ≤ b ∧ b ≤ 16 := of_decide_eq_true h
theorem szI_bd {r : Int} : 0 ≤ szI r ∧ szI r ≤ 708 := by
  unfold szI
  split
  · have := rgB_bd ‹_›
    omega
  · omega
theorem Words_walk (c r b : Int) (hr : (Lit.int .i64 r).wf = true) (w : World) (ht : TT w) :
    Calls Tryd.prog 14 #[.agg #[.int .i64 c, .int .i64 r, .int .i64 b]] w fun e w' => e = .returned (.int .i64 (woI c r b)) ∧ Up w w' := by
  have HT := Lib.hid ht
  clear ht
  cases h3 : rtB c r b with
  | false =>
    have e : woI c r b = 0 := if_neg (by rw [h3]; decide)
    rw [e]
    have H3 := Lib.hid h3
    clear h3 e
    go_enter Tryd.func14, Tryd.ntmps14
    go_wp2_with (go_at_call 10; refine (Right_walk c r b hr _ (HT.out.up ((Up.refl _).alloc _))).mono ?_; rintro e w' ⟨rfl, hu⟩; have h3 := H3.out; have HU := Lib.hid hu; clear hu)
    go_ret
    exact ⟨rfl, Up.trans ((Up.refl _).alloc _) HU.out⟩
  | true =>
    have hb := rtB_bd h3
    have e : woI c r b = c * (c - 1) * szI r := if_pos h3
    rw [e]
    have H3 := Lib.hid h3
    have hs := @szI_bd r
    have hm : 0 ≤ c * (c - 1) ∧ c * (c - 1) ≤ 56 := by
      obtain ⟨h1, h2, _⟩ := hb
      have : c = 2 ∨ c = 3 ∨ c = 4 ∨ c = 5 ∨ c = 6 ∨ c = 7 ∨ c = 8 := by omega
      rcases this with rfl | rfl | rfl | rfl | rfl | rfl | rfl <;> decide
    have hq : 0 ≤ c * (c - 1) * szI r ∧ c * (c - 1) * szI r ≤ 56 * 708 := ⟨Int.mul_nonneg hm.1 hs.1, Int.mul_le_mul hm.2 hs.2 hs.1 (by decide)⟩
    have e1 : wrap64 (c - 1) = c - 1 := by unfold wrap64; omega
    have e2 : wrap64 (c * (c - 1)) = c * (c - 1) := by unfold wrap64; omega
    have e3 : wrap64 (c * (c - 1) * szI r) = c * (c - 1) * szI r := by unfold wrap64; omega
    clear h3 e hs hm hq
    go_enter Tryd.func14, Tryd.ntmps14
    go_wp2_with (first | (go_at_call 10; refine (Right_walk c r b hr _ (HT.out.up ((Up.refl _).alloc _))).mono ?_; rintro e w2 ⟨rfl, hu⟩; have h3 := H3.out; have HU := Lib.hid (Up.trans ((Up.refl _).alloc _) hu); have d1 := pw_cell_below hu (cell_of_block (block_new w _) 0); have d2 := pw_cell_below hu (cell_of_block (block_new w _) 1); have HT2 := Lib.hid (HT.out.up HU.out); clear hu) | (go_at_call 12; refine (Size_walk r hr _ (HT.out.up HU.out)).mono ?_; rintro e w3 ⟨rfl, rfl⟩))
    go_quiet ((go_at_call 12; exact Calls.quiet_of_same (Size_walk r hr _ (by repeat (first | exact HT2.out | apply TT.drewN | apply TT.drew)))))
    go_wp2
    go_ret
    exact ⟨congrArg (fun x => Ending.returned (Value.int .i64 x)) e3, HU.out.drewN _⟩
end Go.Proofs.YtmfpahdbjcpmkaaDoor.Plot
