/- slices.Clone at elements of one cell. -/
import Derived.Test.YtiofdkkjjeljmaaProg
import Derived.Test.YtiofdkkjjeljmaaSepApp
import Derived.BigQuiet
import Derived.Deep.RegionHeld3
namespace Go.Proofs.Ytiofdkkjjeljmaa.Clone
set_option linter.unusedVariables false
set_option linter.unusedSimpArgs false
open Go.RowKit Go.Proofs.Ytiofdkkjjeljmaa.Sep

theorem info_of {P : Program} {t : TypeId} {z : Value} {n b : Nat} (h : (P.info? t).map (fun i => (i.zero, i.size, i.bytes)) = some (some z, n, b)) : ∃ i, P.info? t = some i ∧ i.zero = some z ∧ i.size = n ∧ i.bytes = b := by
  cases hi : P.info? t with
  | none => rw [hi] at h; cases h
  | some i =>
    rw [hi] at h
    simp at h
    exact ⟨i, rfl, h.1, h.2.1, h.2.2⟩
theorem info_int : (Try.prog.info? 3).map (fun i => (i.zero, i.size, i.bytes)) = some (some (.int .i64 0), 1, 8) := by kernel_rfl
set_option maxHeartbeats 1000000 in
set_option maxRecDepth 100000 in
theorem Clone_int (xs : List Value) (ad : Addr) (m c : Nat) (w : World) (hr : Rd w 1 (some ad) m xs) (hm : m ≤ 1000000) :
    Calls Try.prog 63 #[.slice (some ad) m c] w fun e w' => ∃ A' c', e = .returned (.slice A' m c') ∧ w'.ownsRow w.heap.size 3 1 (.slice A' m c') m xs ∧ Up w w' := by
  obtain ⟨i0, hi, hz, hs, hb⟩ := info_of info_int
  have HR := Lib.hid (show ∀ j u, xs[j]? = some u → (w.alloc (.cells #[] 3)).cell? (ad.add j) = some u from fun j u hu => by
    have hl := (List.getElem?_eq_some_iff.1 hu).1
    obtain ⟨ad', e, h2⟩ := hr.2.2 (by have := hr.1; omega)
    cases e
    rw [World.cell?_alloc_lt w _ _ (World.block_lt_of_cell? w _ (h2 j u hu))]
    exact h2 j u hu)
  have HL := Lib.hid hr.1
  have H1 := Lib.hid hr.2.1
  have hown : (w.alloc (.cells #[] 3)).ownsRow w.heap.size 3 1 (.slice (some ⟨w.heap.size, 0, none⟩) 0 0) 0 [] :=
    ⟨rfl, .inr ⟨w.heap.size, 0, #[], rfl, Nat.le_refl _, block_new w _, Nat.le_refl _, Nat.zero_le _, rfl, rfl⟩⟩
  have HO := Lib.hid hown
  clear hr hown
  have hn := fun wx => Lib.run_eql_slice_nil (P := Try.prog) wx 31 3 (some ad) m c 0 0 Try.underlying31
  go_enter Try.func63, Try.ntmps63
  go_wp2_with (at_builtin; refine wpList_append_own _ rfl (.tmp 5) (.tmp 6) 31 rfl w.heap.size 3 i0 (.int .i64 0) 1 8 Try.underlying31 hi hz hs hb rfl (by decide) _ 0 [] rfl HO.out ad m c xs rfl HL.out HR.out H1.out (by unfold maxLen; omega) (by omega) (by simp) ?_; intro v' w1 hown' hgrow _; have HB := Lib.hid (((Up.refl w).alloc (.cells #[] 3)).trans_grown hgrow); rw [Nat.zero_add, List.nil_append] at hown'; have HW := Lib.hid hown'; clear hown' hgrow)
  go_ret
  have ho := HW.out
  rcases ho.2 with ⟨rfl, rfl⟩ | ⟨g, cap, cur, rfl, _⟩
  · exact ⟨_, _, rfl, ho, HB.out⟩
  · exact ⟨_, _, rfl, ho, HB.out⟩
set_option maxRecDepth 100000 in
theorem Clone_int_nil (w : World) : Calls Try.prog 63 #[.slice none 0 0] w fun e w' => e = .returned (.slice none 0 0) ∧ w' = w := by
  have hn := fun wx => Lib.run_eql_slice_nil (P := Try.prog) wx 31 3 none 0 0 0 0 Try.underlying31
  go_enter Try.func63, Try.ntmps63
  go_wp2
  go_ret
  exact ⟨rfl, rfl⟩
theorem info_complex : (Try.prog.info? 48).map (fun i => (i.zero, i.size, i.bytes)) = some (some (.complex .f64 0 0), 1, 16) := by kernel_rfl
set_option maxHeartbeats 1000000 in
set_option maxRecDepth 100000 in
theorem Clone_complex (xs : List Value) (ad : Addr) (m c : Nat) (w : World) (hr : Rd w 1 (some ad) m xs) (hm : m ≤ 1000000) :
    Calls Try.prog 82 #[.slice (some ad) m c] w fun e w' => ∃ A' c', e = .returned (.slice A' m c') ∧ w'.ownsRow w.heap.size 48 1 (.slice A' m c') m xs ∧ Up w w' := by
  obtain ⟨i0, hi, hz, hs, hb⟩ := info_of info_complex
  have HR := Lib.hid (show ∀ j u, xs[j]? = some u → (w.alloc (.cells #[] 48)).cell? (ad.add j) = some u from fun j u hu => by
    have hl := (List.getElem?_eq_some_iff.1 hu).1
    obtain ⟨ad', e, h2⟩ := hr.2.2 (by have := hr.1; omega)
    cases e
    rw [World.cell?_alloc_lt w _ _ (World.block_lt_of_cell? w _ (h2 j u hu))]
    exact h2 j u hu)
  have HL := Lib.hid hr.1
  have H1 := Lib.hid hr.2.1
  have hown : (w.alloc (.cells #[] 48)).ownsRow w.heap.size 48 1 (.slice (some ⟨w.heap.size, 0, none⟩) 0 0) 0 [] :=
    ⟨rfl, .inr ⟨w.heap.size, 0, #[], rfl, Nat.le_refl _, block_new w _, Nat.le_refl _, Nat.zero_le _, rfl, rfl⟩⟩
  have HO := Lib.hid hown
  clear hr hown
  have hn := fun wx => Lib.run_eql_slice_nil (P := Try.prog) wx 47 48 (some ad) m c 0 0 Try.underlying47
  go_enter Try.func82, Try.ntmps82
  go_wp2_with (at_builtin; refine wpList_append_own _ rfl (.tmp 5) (.tmp 6) 47 rfl w.heap.size 48 i0 (.complex .f64 0 0) 1 16 Try.underlying47 hi hz hs hb rfl (by decide) _ 0 [] rfl HO.out ad m c xs rfl HL.out HR.out H1.out (by unfold maxLen; omega) (by omega) (by simp) ?_; intro v' w1 hown' hgrow _; have HB := Lib.hid (((Up.refl w).alloc (.cells #[] 48)).trans_grown hgrow); rw [Nat.zero_add, List.nil_append] at hown'; have HW := Lib.hid hown'; clear hown' hgrow)
  go_ret
  have ho := HW.out
  rcases ho.2 with ⟨rfl, rfl⟩ | ⟨g, cap, cur, rfl, _⟩
  · exact ⟨_, _, rfl, ho, HB.out⟩
  · exact ⟨_, _, rfl, ho, HB.out⟩
set_option maxRecDepth 100000 in
theorem Clone_complex_nil (w : World) : Calls Try.prog 82 #[.slice none 0 0] w fun e w' => e = .returned (.slice none 0 0) ∧ w' = w := by
  have hn := fun wx => Lib.run_eql_slice_nil (P := Try.prog) wx 47 48 none 0 0 0 0 Try.underlying47
  go_enter Try.func82, Try.ntmps82
  go_wp2
  go_ret
  exact ⟨rfl, rfl⟩
end Go.Proofs.Ytiofdkkjjeljmaa.Clone
