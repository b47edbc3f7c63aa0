/- EndsFull, walked. -/
import Derived.Test.YtdhgmnnkbjhpaaaEnds2
import Derived.Test.YtdhgmnnkbjhpaaaIterI
import Derived.LoopTactic
namespace Go.Proofs.Ytdhgmnnkbjhpaaa.Eps
set_option linter.unusedVariables false
set_option linter.unusedSimpArgs false
open Go.RowKit Go.Proofs.Ytdhgmnnkbjhpaaa.Sep Go.Proofs.Ytdhgmnnkbjhpaaa.Mp
open Go.Maps (Keyed)
open Go.Sort

/-! ### 1. List -/
theorem keysI_len (M : List Ent) : (intKeys (dm M)).length = M.length := by
  unfold intKeys dm
  simp
section
variable {P0 : Nat → Prop} {w0 w w' : World} {F : List Rg} {e : Nat} {M : List Ent}
set_option maxRecDepth 100000 in
theorem List_len (h : St P0 w0 w (ends e M :: F)) (hl : M.length ≤ 1000) : Calls Try.prog 20 #[.pointer (some ⟨e, 0, none⟩)] w fun x w' =>
    ∃ A c, x = .returned (.slice A M.length c) ∧ Up w w' := by
  obtain ⟨m, h1⟩ := ends_any h
  have c0 : w.cell? ⟨e, 0, none⟩ = some (.map (some m)) := cell_of_block h1.bk_at 0
  have hown := mp_owns (h1.get 1)
  have cK := Lib.hid (callsIn_wide.1 (Try.maps_KeysI (some m) w))
  have cS := Lib.hid (callsIn_wide.1 (Try.slices_SortedI m _ _ _ w hown (by rw [dm_size]; unfold maxLen; omega) (by rw [dm_size]; omega)))
  have HKL := Lib.hid (keysI_len M)
  clear h h1 hown hl
  go_enter Try.func20, Try.ntmps20
  go_wp2_with (first
    | (go_at_call 43; refine cK.out.mono ?_; rintro x w1 ⟨rfl, rfl⟩)
    | (go_at_call 42; refine cS.out.mono ?_; rintro x w2 ⟨v, ss, rfl, hS, hrow, hnil, hb⟩; have HP := Lib.hid hS; have HR := Lib.hid hrow; have HB := Lib.hid hb; clear hS hrow hnil hb))
  go_ret
  have hu : Up w w2 := ((Up.refl w).alloc (.cells #[.map (some m)] 83)).trans HB.out
  have hlen : ss.length = M.length := by rw [HP.out.length_eq, HKL.out]
  obtain ⟨A, c, rfl, _⟩ := slc_form (slc_of_own (P := fun _ => True) HR.out fun _ _ => trivial)
  exact ⟨A, c, by rw [hlen]; rfl, hu⟩
end
/-! ### 2. The table behind n openings -/
def Mi (n : Nat) : List Ent := (List.range n).map fun j : Nat => (kA (16 + (j : Int)), nilV)
theorem same_I (a b : Int) : (kA a).sameKey (kA b) = decide (a = b) := by
  show decide (IntKind.i64 = IntKind.i64 ∧ a = b) = _
  simp
theorem mi_has {n j : Nat} (h : j < n) : (lookM (Mi n) (kA (16 + (j : Int)))).isSome = true := by
  unfold lookM Mi
  rw [Option.isSome_map, List.find?_isSome]
  exact ⟨_, List.mem_map.2 ⟨j, List.mem_range.2 h, rfl⟩, by rw [same_I]; simp⟩
theorem mi_not {n : Nat} {a : Int} (h : a < 16 ∨ 16 + (n : Int) ≤ a) : (lookM (Mi n) (kA a)).isSome = false := by
  unfold lookM Mi
  rw [Option.isSome_map, Bool.eq_false_iff]
  intro hs
  obtain ⟨x, hx, e⟩ := List.find?_isSome.1 hs
  obtain ⟨j, hj, rfl⟩ := List.mem_map.1 hx
  have := List.mem_range.1 hj
  rw [same_I] at e
  have := of_decide_eq_true e
  omega
theorem ins_last (x : Ent) : ∀ M : List Ent, (∀ y ∈ M, x.1.before y.1 = false) → insM x M = M ++ [x]
  | [], _ => rfl
  | y :: r, h => by
    unfold insM
    rw [h y (.head _)]
    simp only [Bool.false_eq_true, if_false, List.cons_append]
    rw [ins_last x r fun z hz => h z (.tail _ hz)]
theorem mi_put (n : Nat) : putM (Mi n) (kA (16 + (n : Int))) nilV = Mi (n + 1) := by
  have hd : delM (Mi n) (kA (16 + (n : Int))) = Mi n := by
    unfold delM
    rw [List.filter_eq_self]
    intro x hx
    obtain ⟨j, hj, rfl⟩ := List.mem_map.1 hx
    have := List.mem_range.1 hj
    rw [same_I, decide_eq_false (by omega)]
    rfl
  unfold putM
  rw [hd, ins_last]
  · unfold Mi
    rw [List.range_succ, List.map_append]
    rfl
  · intro y hy
    obtain ⟨j, hj, rfl⟩ := List.mem_map.1 hy
    have := List.mem_range.1 hj
    show decide ((16 + (n : Int)) < 16 + (j : Int)) = false
    exact decide_eq_false (by omega)
theorem mi_len (n : Nat) : (Mi n).length = n := by simp [Mi]
theorem open_mi {P0 : Nat → Prop} {w0 w : World} {F : List Rg} {e : Nat} (i : Nat) (h : St P0 w0 w (ends e (Mi (min i 32)) :: F)) : Calls Try.prog 19 #[.pointer (some ⟨e, 0, none⟩), .int .i64 0] w fun x w' =>
    x = .returned (.tuple #[.int .i64 (if i < 32 then 16 + (i : Int) else 0), .int .i64 (if i < 32 then 0 else 17)]) ∧ St P0 w0 w' (ends e (Mi (min (i + 1) 32)) :: F) := by
  by_cases h32 : i < 32
  · rw [if_pos h32, if_pos h32, show min (i + 1) 32 = i + 1 by omega, ← mi_put]
    rw [show min i 32 = i by omega] at h
    exact open_new h (by rw [mi_len]; exact h32) (mi_not (.inl (by omega))) i (by omega) (fun j hj => mi_has hj) (mi_not (.inr (by omega)))
  · rw [if_neg h32, if_neg h32, show min (i + 1) 32 = 32 by omega]
    rw [show min i 32 = 32 by omega] at h
    exact open_full h (by rw [mi_len]; omega) (mi_not (.inl (by omega)))
set_option maxHeartbeats 4000000 in
set_option maxRecDepth 100000 in
theorem full_walk (n : Int) (w : World) (wn : (Lit.int .u8 n).wf = true) : Calls Try.prog 5 #[.int .u8 n] w fun e w' => e = .returned (.bool true) ∧ Up w w' := by
  have hn : 0 ≤ n ∧ n ≤ 255 := by
    have e1 : IntKind.u8.min = 0 := by decide
    have e2 : IntKind.u8.max = 255 := by decide
    simp [Lit.wf] at wn
    omega
  obtain ⟨n, rfl⟩ := Int.eq_ofNat_of_zero_le hn.1
  clear wn
  obtain ⟨q, hq⟩ : ∃ q : Nat, (n : Int) % 50 = (q : Int) := ⟨n % 50, by omega⟩
  have HQ := Lib.hid hq
  clear hq
  go_enter Try.func5, Try.ntmps5
  go_wp2_with fail
  refine (New_st (St.nil w)).mono ?_
  rintro e w1 ⟨t, rfl, hs⟩
  have HS1 := Lib.hid hs
  clear hs
  go_wp2_with fail
  go_loopg [11] q (fun gk v11 wx => ∃ (i : Nat), (i : Int) ≤ (n : Int) % 50 ∧ Hid (i + gk = q) ∧ v11 = .int .i64 i ∧ Hid (St No w wx [ends t (Mi (min i 32))]))
  case atStart => exact ⟨0, by omega, Lib.hid (Nat.zero_add _), rfl, HS1⟩
  case round =>
    clear HS1
    obtain ⟨i, hi, HG, rfl, HS⟩ := hrel
    by_cases hlt : (i : Int) < (n : Int) % 50
    · have HO := Lib.hid (open_mi i HS.out)
      have HN1 : Hid ((i : Int) + 1 ≤ (n : Int) % 50) := Lib.hid (by omega)
      by_cases h32 : i < 32
      · rw [if_pos h32, if_pos h32] at HO
        have g1 : decide (i < 32) = true := decide_eq_true h32
        clear HS
        go_wp2_with fail
        refine HO.out.mono ?_
        rintro x w4 ⟨rfl, hs⟩
        have HS4 := Lib.hid hs
        clear hs HO
        go_wp2
        go_roundg (gk - 1)
        case measure => have := HG.out; have := HQ.out; have := HN1.out; omega
        case rel => exact ⟨i + 1, by have := HN1.out; omega, Lib.hid (by have := HG.out; have := HQ.out; have := HN1.out; omega), by go_num, HS4⟩
      · rw [if_neg h32, if_neg h32] at HO
        have g1 : decide (i < 32) = false := decide_eq_false h32
        clear HS
        go_wp2_with fail
        refine HO.out.mono ?_
        rintro x w4 ⟨rfl, hs⟩
        have HS4 := Lib.hid hs
        clear hs HO
        go_wp2
        go_roundg (gk - 1)
        case measure => have := HG.out; have := HQ.out; have := HN1.out; omega
        case rel => exact ⟨i + 1, by have := HN1.out; omega, Lib.hid (by have := HG.out; have := HQ.out; have := HN1.out; omega), by go_num, HS4⟩
    · have hiq : (i : Int) = (n : Int) % 50 := by omega
      have hiq' := hiq.symm
      clear hiq
      have hll := List_len HS.out (by rw [mi_len]; omega)
      rw [mi_len] at hll
      have HLL := Lib.hid hll
      have HUS := Lib.hid HS.out.up
      clear hll HS
      by_cases h32 : i < 32
      · rw [show min i 32 = i by omega] at HLL
        have g2 : min (i : Int) 32 = i := by omega
        go_wp2_with fail
        refine HLL.out.mono ?_
        rintro x w5 ⟨A, c, rfl, hu⟩
        have HS5 := Lib.hid (HUS.out.trans hu)
        clear hu
        go_wp2_with (go_at_call 14; refine (alive_walk _).mono ?_; rintro e w6 ⟨rfl, hu⟩; have HU6 := Lib.hid (HS5.out.trans hu); clear hu)
        go_ret
        exact ⟨rfl, HU6.out⟩
      · rw [show min i 32 = 32 by omega] at HLL
        have g2 : min (i : Int) 32 = 32 := by omega
        go_wp2_with fail
        refine HLL.out.mono ?_
        rintro x w5 ⟨A, c, rfl, hu⟩
        have HS5 := Lib.hid (HUS.out.trans hu)
        clear hu
        go_wp2_with (go_at_call 14; refine (alive_walk _).mono ?_; rintro e w6 ⟨rfl, hu⟩; have HU6 := Lib.hid (HS5.out.trans hu); clear hu)
        go_ret
        exact ⟨rfl, HU6.out⟩
end Go.Proofs.Ytdhgmnnkbjhpaaa.Eps
