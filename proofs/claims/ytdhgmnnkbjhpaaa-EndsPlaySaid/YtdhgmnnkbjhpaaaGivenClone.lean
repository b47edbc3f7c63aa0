/- Contracts that the print does not write: slices.Clone of a slice of ints (it is held against nil), in the print's own form. Condition: the slice's elements lie where it says, and they are at most 2^44. -/
import Derived.Test.YtdhgmnnkbjhpaaaProg
import Derived.Test.YtdhgmnnkbjhpaaaBase
import Derived.Test.YtdhgmnnkbjhpaaaWWords
namespace Go.Proofs.Ytdhgmnnkbjhpaaa.Given
set_option linter.unusedVariables false
set_option linter.unusedSimpArgs false
open Go.RowKit Go.Proofs.YtdhgmnnkbjhpaaaW.PrintWords

/-- A slice cut from a to b, with its own end as its bound. -/
theorem print_mid3_of {α : Type} {P : Program} (enc : α → Value) (d : α) (t e : TypeId) (kl kh : IntKind) {i : TypeInfo} (ht : P.underlying t = some (.slice e)) (hi : P.info? e = some i) (hsz : i.size = 1) (A : Option Addr) (c : Nat) (xs : List α) (a b : Int) (h0 : 0 ≤ a) (h1 : a ≤ b) (hm : b ≤ xs.length) (hc : xs.length ≤ c) (hb : b = xs.length := by rfl) :
    ∃ A' : Option Addr, (∀ W : World, (Instr.slice t (.slice A xs.length c) (some (.int kl a)) (some (.int kh b)) (some (.int .i64 b))).run P W = .ok (.slice A' ((xs.take b.toNat).drop a.toNat).length (xs.length - a.toNat)) W) ∧
      (∀ w : World, ReadsOf enc d w A xs.length xs → ReadsOf enc d w A' ((xs.take b.toNat).drop a.toNat).length ((xs.take b.toNat).drop a.toNat)) ∧ ((xs.take b.toNat).drop a.toNat).length ≤ xs.length - a.toNat := by
  have hlt : (xs.take b.toNat).length = b.toNat := by rw [List.length_take]; omega
  have hl : ((xs.take b.toNat).drop a.toNat).length = b.toNat - a.toNat := by rw [List.length_drop, hlt]
  have hbt : b.toNat = xs.length := by omega
  refine ⟨if xs.length = a.toNat then A else A.map (·.add a.toNat), fun W => ?_, fun w h => ?_, by rw [hl]; omega⟩
  · have hel : P.elem t = e := by simp [Program.elem, ht]
    have hu : P.underlying t = some (.slice (P.elem t)) := by rw [hel]; exact ht
    rw [run_slice_lhm W t A xs.length c hu kl kh .i64 a b b h0 h1 (Int.le_refl _) (by omega), hel, hl]
    simp [sizeOf, typeInfo, hi, hsz, sliced, Result.andThen, hbt]
  · have h2 := (h.take_ b.toNat (by omega)).drop_ (c := xs.length) a.toNat (by omega) (by omega)
    rw [hl]
    exact h2

/-! ### slices.Clone -/
theorem info_int : (Try.prog.info? 3).map (fun i => (i.zero, i.size, i.bytes)) = some (some (.int .i64 0), 1, 8) := by kernel_rfl
def slices_Clone_int_int.f (l0 : List Int) : Option (List Int) := if l0.length ≤ 17592186044416 then some l0 else none
theorem Clone_walk (A : Option Addr) (c : Nat) (l : List Int) (w : World) (hr : Kd.C (Kd.int .i64) w A l.length l) (hb : l.length ≤ 17592186044416) :
    Calls Try.prog 71 #[.slice A l.length c] w fun e w' => ∃ v : Value, e = .returned v ∧ Kd.R (Kd.int .i64) 3 w' w.heap.size (fun _ => True) v l ∧ Up w w' := by
  obtain ⟨i0, hi, hz0, hz1, hz2⟩ := info_parts info_int
  cases A with
  | none =>
    have hl : l.length = 0 := by
      rcases Nat.eq_zero_or_pos l.length with h | h
      · exact h
      · obtain ⟨ad, e, _⟩ := hr.2.2 h
        cases e
    obtain rfl := List.eq_nil_of_length_eq_zero hl
    have hn := fun wx => Lib.run_eql_slice_nil (P := Try.prog) wx 28 3 none 0 c 0 0 Try.underlying28
    go_enter Try.func71, Try.ntmps71
    go_wp2
    go_ret
    exact ⟨_, rfl, Kd.R_nil _ _ _ _ _, Up.refl _⟩
  | some ad =>
    have hn := fun wx => Lib.run_eql_slice_nil (P := Try.prog) wx 28 3 (some ad) l.length c 0 0 Try.underlying28
    go_enter Try.func71, Try.ntmps71
    have hnw : ∀ j u, (l.map (Value.int .i64))[j]? = some u → w.cell? (ad.add j) = some u := by
      intro j u hj
      have hjl : j < l.length := by have := (List.getElem?_eq_some_iff.1 hj).1; simpa using this
      obtain ⟨ad', e, hc⟩ := Kd.at_int hr j (by omega) (by omega)
      cases e
      rw [Int.toNat_natCast] at hc
      rw [hc]
      rw [← hj]
      simp [rd, List.getD_eq_getElem?_getD, List.getElem?_eq_getElem hjl]
    have HW := Lib.hid (fun (w1 : World) (hu : Up w w1) j u (hj : (l.map (Value.int .i64))[j]? = some u) => pw_cell_below hu (hnw j u hj))
    clear hnw hr
    have hown : (w.alloc (.cells #[] 3)).ownsRow w.heap.size 3 1 (.slice (some ⟨w.heap.size, 0, none⟩) 0 0) 0 [] := by
      refine ⟨rfl, .inr ⟨w.heap.size, 0, #[], rfl, Nat.le_refl _, ?_, Nat.le_refl _, by unfold maxLen; omega, rfl, rfl⟩⟩
      show (w.heap.push _)[_]? = _
      simp
    have HO := Lib.hid hown
    clear hown
    go_wp2_with (at_builtin; refine wpList_append_own _ rfl (.tmp 5) (.tmp 6) 28 rfl w.heap.size 3 i0 (.int .i64 0) 1 8 Try.underlying28 hi hz0 hz1 hz2 rfl (by decide) _ 0 [] rfl HO.out ad l.length c (l.map (Value.int .i64)) rfl (by simp) (HW.out _ ((Up.refl _).alloc _)) ?c2 (by unfold maxLen; omega) (by omega) (by simp) ?_)
    case c2 =>
      intro u hu
      obtain ⟨x, _, rfl⟩ := List.mem_map.1 hu
      rfl
    · intro v' w1 hown' hgrow _
      have hb1 : Up w w1 := ((Up.refl w).alloc _).trans_grown hgrow
      have HB := Lib.hid hb1
      have HR := Lib.hid hown'
      clear hown' hgrow hb1
      go_wp2
      go_ret
      refine ⟨v', rfl, ?_, HB.out⟩
      have h := HR.out
      exact Kd.R_of_own h (fun _ _ => trivial)
theorem slices_Clone_int_int.calls (A0 : Option Addr) (c0 : Nat) (l0 : List Int) (r : List Int) (w : World) (hr0 : Kd.C (Kd.int .i64) w A0 l0.length l0) (hc0 : l0.length ≤ c0) (h : slices_Clone_int_int.f l0 = some r) :
    Calls Try.prog 71 #[.slice A0 l0.length c0] w fun e w' => ∃ v0_ : Value, e = .returned v0_ ∧ Kd.R (Kd.int .i64) 3 w' w.heap.size (fun _ => True) v0_ r ∧ Below w.heap.size w w' := by
  unfold slices_Clone_int_int.f at h
  split at h
  · obtain rfl := Option.some.inj h
    exact Clone_walk A0 c0 l0 w hr0 ‹_›
  · cases h
end Go.Proofs.Ytdhgmnnkbjhpaaa.Given
