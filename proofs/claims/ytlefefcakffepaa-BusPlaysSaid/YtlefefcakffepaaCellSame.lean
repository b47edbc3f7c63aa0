/- cell.Same on parts of memory. -/
import Derived.Test.YtlefefcakffepaaMA
namespace Go.Proofs.Ytlefefcakffepaa.CellSame
set_option linter.unusedVariables false
set_option linter.unusedSimpArgs false
open Go.RowKit Go.Proofs.Ytlefefcakffepaa.Lat Go.Proofs.Ytlefefcakffepaa.Sep Go.Proofs.Ytlefefcakffepaa.CellOf Go.Proofs.Ytlefefcakffepaa.CellP Go.Proofs.Ytlefefcakffepaa.Equal Go.Proofs.Ytlefefcakffepaa.Floats
theorem cSame_walk (cs : List Value) (A B : Option Addr) (c d : Nat) (w : World) (hA : CAt w A cs) (hB : CAt w B cs) (hs : ∀ u ∈ cs, Self u) (hl : cs.length ≤ 1000000) :
    Calls Try.prog 59 #[.slice A cs.length c, .slice B cs.length d] w fun e w' => e = .returned (.bool true) ∧ Up w w' := by
  have HE := Lib.hid (Equal_c cs A B c d w hA hB hs hl)
  clear hA hB hs hl
  generalize cs.length = n at *
  go_enter Try.func59, Try.ntmps59
  go_wp2_with (go_at_call 82; refine HE.out.mono ?_; rintro e w' ⟨rfl, hu⟩; have HU := Lib.hid hu; clear hu)
  go_ret
  exact ⟨rfl, HU.out⟩
section
variable {P0 : Nat → Prop} {w0 w w' : World} {L : List Rg}
theorem slc_cat {e n : Nat} {A : Option Addr} {c : Nat} {xs : List Value} {P : Nat → Prop} (h : (slc e 1 (.slice A n c) n xs).X w P) : CAt w A xs := by
  intro j u hj
  have hl := (List.getElem?_eq_some_iff.1 hj).1
  have h1 := (slc_one h).1
  obtain ⟨g, o, rfl, _, _, _, hc, _⟩ := slc_cells h (by omega)
  exact ⟨_, rfl, by rw [Addr.add_mid]; exact hc j u hj⟩
theorem cSame_st {u v : Value} {cs : List Value} {e f n : Nat} (h : St P0 w0 w (slc e 1 u n cs :: slc f 1 v n cs :: L)) (hs : ∀ u ∈ cs, Self u) (hl : n ≤ 1000000) :
    Calls Try.prog 59 #[u, v] w fun e' w' => e' = .returned (.bool true) ∧ St P0 w0 w' (slc e 1 u n cs :: slc f 1 v n cs :: L) := by
  obtain ⟨P, ⟨Q, Q2, _, _, _, h1, R3, R2, _, _, _, h2, _⟩, _⟩ := St.step (L := [slc e 1 u n cs, slc f 1 v n cs]) h
  obtain ⟨A, c, rfl, _⟩ := slc_form h1
  obtain ⟨B, d, rfl, _⟩ := slc_form h2
  have hn : cs.length = n := by simpa using (slc_one h1).1
  have h3 := cSame_walk cs A B c d w (slc_cat h1) (slc_cat h2) hs (by omega)
  rw [hn] at h3
  refine h3.mono ?_
  rintro e w' ⟨rfl, hu⟩
  exact ⟨rfl, h.more hu⟩
end
end Go.Proofs.Ytlefefcakffepaa.CellSame
