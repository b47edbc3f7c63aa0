/- List: the names, rising. -/
import Derived.Test.YtdhgmnnkbjhpaaaNtell
import Derived.Test.YtdhgmnnkbjhpaaaIter
namespace Go.Proofs.Ytdhgmnnkbjhpaaa.Ntab
set_option linter.unusedVariables false
set_option linter.unusedSimpArgs false
open Go.RowKit Go.Proofs.Ytdhgmnnkbjhpaaa.Sep Go.Proofs.Ytdhgmnnkbjhpaaa.Mp Go.Proofs.Ytdhgmnnkbjhpaaa.PNamesPlay Go.Proofs.Ytdhgmnnkbjhpaaa.NoteOk Go.Proofs.YtdhgmnnkbjhpaaaW.PrintWords
open Go.Maps (Keyed)
open Go.Sort

def strs (l : List ByteArray) : List Value := l.map Value.string
/-- A list of names, as a part. -/
abbrev nms (v : Value) (l : List ByteArray) : Rg := slc 9 1 v l.length (strs l)
abbrev namesOf (L : List S66) : List ByteArray := L.map (·.f0)
theorem before_lt : ∀ (a b : List UInt8), bytesBefore a b = true → a < b
  | [], [], h => by simp [bytesBefore] at h
  | [], _ :: _, _ => List.nil_lt_cons _ _
  | _ :: _, [], h => by simp [bytesBefore] at h
  | a :: r, b :: s, h => by
    unfold bytesBefore at h
    rw [List.cons_lt_cons_iff]
    simp only [Bool.or_eq_true, Bool.and_eq_true, decide_eq_true_eq, beq_iff_eq] at h
    rcases h with h | ⟨rfl, h⟩
    · exact .inl h
    · exact .inr ⟨rfl, before_lt r s h⟩
theorem keys_ent (L : List S66) : strKeys (dm (L.map ent)) = L.map fun x => ky x.f0 := by
  simp [strKeys, dm, List.map_map]
  intro x hx
  rfl
theorem enc_ky (s : ByteArray) : encStr (ky s) = .string s := by
  unfold encStr
  rfl
theorem sorted_names {L : List S66} (h : Okt L) {ss : List (List UInt8)} (hp : ss.Perm (strKeys (dm (L.map ent)))) : (ss.mergeSort leB).map encStr = strs (namesOf L) ∧ ss.length = (namesOf L).length := by
  rw [keys_ent] at hp
  have e1 : ss.mergeSort leB = L.map fun x => ky x.f0 := by
    rw [mergeSort_of_perm hp]
    refine List.mergeSort_of_pairwise ?_
    rw [List.pairwise_map]
    refine h.rise.imp ?_
    intro a b hab
    simp only [leB, decide_eq_true_eq]
    exact List.le_of_lt (before_lt _ _ hab)
  refine ⟨?_, by rw [hp.length_eq]; simp⟩
  rw [e1]
  unfold strs
  rw [List.map_map, List.map_map]
  rfl
section
variable {P0 : Nat → Prop} {w0 w w' : World} {F : List Rg} {t : Nat} {L : List S66}
set_option maxRecDepth 100000 in
theorem List_st (h : St P0 w0 w (tab t L :: F)) : Calls Try.prog 23 #[.pointer (some ⟨t, 0, none⟩)] w fun e w' =>
    ∃ v, e = .returned v ∧ St P0 w0 w' (nms v (namesOf L) :: tab t L :: F) ∧ Up w w' := by
  obtain ⟨m, hm, h1⟩ := tab_any h
  have c0 : w.cell? ⟨t, 0, none⟩ = some (.map (some m)) := cell_of_block h1.bk_at 0
  have hown := mp_owns (h1.get 1)
  have cK := Lib.hid (callsIn_wide.1 (Try.maps_Keys_46 (some m) w))
  have cS := Lib.hid (callsIn_wide.1 (Try.slices_Sorted_keys_45_46 m _ _ _ w hown (by rw [dm_size, List.length_map]; unfold maxLen; have := hm.len; omega) (by rw [dm_size, List.length_map]; have := hm.len; omega)))
  have HM := Lib.hid hm
  have HS := Lib.hid h
  clear h h1 hm hown
  go_enter Try.func23, Try.ntmps23
  go_wp2_with (first
    | (go_at_call 46; refine cK.out.mono ?_; rintro e w1 ⟨rfl, rfl⟩)
    | (go_at_call 45; refine cS.out.mono ?_; rintro e w2 ⟨v, ss, rfl, hS, hrow, hnil, hb⟩; have HP := Lib.hid hS; have HR := Lib.hid hrow; have HB := Lib.hid hb; clear hS hrow hnil hb))
  go_ret
  have hs := sorted_names HM.out HP.out
  have hrow := HR.out
  have hu : Up w w2 := ((Up.refl w).alloc (.cells #[.map (some m)] 98)).trans HB.out
  refine ⟨v, rfl, ?_, hu⟩
  have hr2 : w2.ownsRow (w.alloc (.cells #[.map (some m)] 98)).heap.size 9 1 v (namesOf L).length (strs (namesOf L)) := by
    rw [← hs.1, ← hs.2]
    exact hrow
  refine HS.out.fresh (M := [nms v (namesOf L)]) hu ⟨fun k => w.heap.size ≤ k, No, fun _ e => e, fun _ e => e.elim, fun _ _ e => e.elim, slc_of_own hr2 ?_, trivial⟩
  intro k hk
  rcases hr2.2 with ⟨e, _⟩ | ⟨g, cap, cur, e, hg, _⟩
  · rw [e] at hk
    cases hk
  · rw [e] at hk
    cases hk
    rw [World.size_alloc] at hg
    show w.heap.size ≤ g
    omega
end
end Go.Proofs.Ytdhgmnnkbjhpaaa.Ntab
