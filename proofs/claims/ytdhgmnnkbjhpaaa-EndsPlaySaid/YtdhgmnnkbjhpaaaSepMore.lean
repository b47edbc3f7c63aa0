/- More of separate parts: what is new beside what is old, a slice cut at its head, cells that stay. No program, no condition. -/
import Derived.Test.YtdhgmnnkbjhpaaaSepApp
import Derived.Laws.MakeOwn
namespace Go.Proofs.Ytdhgmnnkbjhpaaa.Sep
set_option linter.unusedVariables false
set_option linter.unusedSimpArgs false
open Go.RowKit

theorem cell_up {w w' : World} {p : Addr} {v : Value} (h : Up w w') (hc : w.cell? p = some v) : w'.cell? p = some v := (Below.cell h (World.block_lt_of_cell? w _ hc)).trans hc
theorem frz_up {w w' : World} {p : Addr} {v : Value} (h : Up w w') (hc : w.cell? p = some v) (hf : w.frozen? p = false) : w'.frozen? p = false := (Below.frozen h (World.block_lt_of_cell? w _ hc)).trans hf
theorem cell_set_far {w : World} {b c : Nat} (h : c ≠ b) {i k : Nat} {u : Value} {x : Option Value} (hc : w.cell? ⟨c, k, none⟩ = x) : (w.setCell ⟨b, i, none⟩ u).cell? ⟨c, k, none⟩ = x := by
  rw [← hc]
  unfold World.cell?
  rw [heap_set_far u h]
theorem cell_set2 {w : World} {b c : Nat} (h : c ≠ b) {i j k : Nat} {u v : Value} {x : Option Value} (hc : w.cell? ⟨c, k, none⟩ = x) : ((w.setCell ⟨b, i, none⟩ u).setCell ⟨b, j, none⟩ v).cell? ⟨c, k, none⟩ = x := cell_set_far h (cell_set_far h hc)
theorem rd_up {w w' : World} {sz m : Nat} {A : Option Addr} {xs : List Value} (h : Rd w sz A m xs) (hu : Up w w') : Rd w' sz A m xs :=
  ⟨h.1, h.2.1, fun hm => by
    obtain ⟨ad, e, hc⟩ := h.2.2 hm
    exact ⟨ad, e, fun j u hj => cell_up hu (hc j u hj)⟩⟩
section
variable {P0 : Nat → Prop} {w0 w w' : World} {L M F : List Rg} {A B : Rg}
/-- What was made beside all that lay there. -/
theorem St.of_new (h : St P0 w0 w F) (hn : St No w w' M) : St P0 w0 w' (M ++ F) ∧ Up w w' := by
  refine ⟨h.fresh hn.up (hn.2.mono ?_), hn.up⟩
  rintro k ⟨e | e, _⟩
  · exact e.elim
  · exact e
end
theorem flat_rep_at (l : List Value) (hl : 0 < l.length) : ∀ (n j : Nat), j < n * l.length → (List.replicate n l).flatten[j]? = l[j % l.length]?
  | 0, j, h => by omega
  | n + 1, j, h => by
    rw [List.replicate_succ, List.flatten_cons]
    by_cases hj : j < l.length
    · rw [List.getElem?_append_left hj, Nat.mod_eq_of_lt hj]
    · rw [List.getElem?_append_right (by omega), flat_rep_at l hl n (j - l.length) (by rw [Nat.add_mul] at h; omega)]
      congr 1
      exact (Nat.mod_eq_sub_mod (by omega)).symm
theorem made_flat (z : List Value) (hz : 0 < z.length) (n : Nat) : madeCells z.toArray (n * z.length) = ((List.replicate n z).flatten).toArray := by
  apply Array.ext'
  refine List.ext_getElem? fun j => ?_
  by_cases hj : j < n * z.length
  · rw [show ((List.replicate n z).flatten.toArray).toList = (List.replicate n z).flatten from rfl, flat_rep_at z hz n j hj]
    have h1 := Nat.mod_lt j hz
    simp [madeCells, hj, h1]
  · rw [List.getElem?_eq_none (by simp [madeCells]; omega), List.getElem?_eq_none (by simp [List.length_flatten, List.sum_replicate_nat]; omega)]
/-- A block that was made whole is a slice. -/
theorem slc_of_bk {g e sz n : Nat} {cs : Array Value} {w : World} {P : Nat → Prop} (h : (bk g e cs).X w P) (hs : cs.size = n * sz) (hn : n ≤ maxLen) : (slc e sz (.slice (some ⟨g, 0, none⟩) n n) n cs.toList).X w P :=
  .inr ⟨g, 0, n, cs, rfl, Nat.le_refl _, hn, by simpa using hs, h.1, h.2, by omega, fun j hj => by simp⟩
theorem slc_drop {P : Program} {t e : TypeId} {i : TypeInfo} (ht : P.underlying t = some (.slice e)) (hi : P.info? e = some i) {sz : Nat} (hsz : i.size = sz) {A : Option Addr} {m c : Nat} {xs : List Value} {w : World} {Q : Nat → Prop} (h : (slc e sz (.slice A m c) m xs).X w Q) (k : Nat) (hk : k ≤ m) (hm : m ≤ 1000000) :
    ∃ A', (∀ W : World, (Instr.slice t (.slice A m c) (some (.int .i64 (k : Int))) none none).run P W = .ok (.slice A' (m - k) (c - k)) W) ∧ (slc e sz (.slice A' (m - k) (c - k)) (m - k) (xs.drop (k * sz))).X w Q := by
  have hel : P.elem t = e := by simp [Program.elem, ht]
  have hu : P.underlying t = some (.slice (P.elem t)) := by rw [hel]; exact ht
  have hrun : ∀ W : World, (Instr.slice t (.slice A m c) (some (.int .i64 (k : Int))) none none).run P W = .ok (.slice (if c = k then A else A.map (·.add (k * sz))) (m - k) (c - k)) W := by
    intro W
    rw [run_slice_l W t A m c hu .i64 k (by omega) (by omega), hel]
    simp [sizeOf, typeInfo, hi, hsz, sliced, Result.andThen]
  refine ⟨_, hrun, ?_⟩
  rcases h with ⟨hv, rfl, rfl⟩ | ⟨g, o, c', cur, hv, h2, h3, h4, h5, h6, h7, h8⟩
  · cases hv
    obtain rfl : k = 0 := by omega
    exact .inl ⟨by simp, by omega, by simp⟩
  · cases hv
    refine .inr ⟨g, if c = k then o else o + k * sz, c - k, cur, ?_, by omega, by omega, by rw [List.length_drop, h4, Nat.sub_mul], h5, h6, ?_, ?_⟩
    · split
      · rfl
      · simp [Addr.add_mid]
    · split
      · next e => rw [e]; simp; omega
      · rw [Nat.sub_mul]
        have := Nat.mul_le_mul_right sz (show k ≤ c by omega)
        omega
    · intro j hj
      rw [List.length_drop] at hj
      rw [List.getElem?_drop]
      split
      · next e =>
        have : m = k := by omega
        subst this
        rw [h4] at hj
        omega
      · rw [← h8 (k * sz + j) (by omega)]
        congr 1
        omega
end Go.Proofs.Ytdhgmnnkbjhpaaa.Sep
