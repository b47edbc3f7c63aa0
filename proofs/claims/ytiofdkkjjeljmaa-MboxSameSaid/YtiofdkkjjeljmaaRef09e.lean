/- The reference's mailboxes as a part that is only read. -/
import Derived.Test.YtiofdkkjjeljmaaRef09d
namespace Go.Proofs.Ytiofdkkjjeljmaa.Ref09
set_option linter.unusedVariables false
set_option linter.unusedSimpArgs false
open Go.RowKit Go.Proofs.Ytiofdkkjjeljmaa.Sep Go.Proofs.Ytiofdkkjjeljmaa.Mb

/-- The cells of the cores. -/
def rcells : List MC → List Value → List Value
  | C :: S, V :: Vs => bw C.m ++ V :: rcells S Vs
  | _, _ => []
/-- Parts that are only read need not be apart. -/
def alls (L : List Rg) : Rg where
  X w P := ∀ A ∈ L, A.X w P
  move h hm := fun A hA => A.move (h A hA) hm
  bound h := fun A hA => A.bound (h A hA)
  mono h hP := fun A hA => A.mono (h A hA) hP
/-- The lists of the cores. -/
def rlists : List MC → List Value → List Rg
  | C :: S, V :: Vs => il V C.q :: rlists S Vs
  | _, _ => []
/-- The reference's mailboxes. -/
def rb (V : Value) (S : List MC) : Rg := ex fun Vs => alls [slc 72 9 V S.length (rcells S Vs), alls (rlists S Vs), pu (Vs.length = S.length)]
theorem bw_len (m : Nat) : (bw m).length = 8 := by simp [bw]
theorem rcells_len : ∀ (S : List MC) (Vs : List Value), Vs.length = S.length → (rcells S Vs).length = S.length * 9
  | [], [], _ => rfl
  | C :: S, V :: Vs, h => by
    rw [rcells, List.length_append, List.length_cons, bw_len, rcells_len S Vs (by simpa using h), List.length_cons]
    omega
theorem rcells_at : ∀ (S : List MC) (Vs : List Value) (i : Nat), Vs.length = S.length → i < S.length → (∀ j, j < 8 → (rcells S Vs)[i * 9 + j]? = some (.bool ((S.getD i default).m.testBit j))) ∧ (rcells S Vs)[i * 9 + 8]? = some (Vs.getD i (.slice none 0 0))
  | C :: S, V :: Vs, 0, _, _ => by
    refine ⟨fun j hj => ?_, ?_⟩
    · rw [rcells, Nat.zero_mul, Nat.zero_add, List.getElem?_append_left (by rw [bw_len]; exact hj), bw_at _ _ hj]
      rfl
    · rw [rcells, Nat.zero_mul, Nat.zero_add, List.getElem?_append_right (by rw [bw_len]; omega), bw_len]
      rfl
  | C :: S, V :: Vs, i + 1, h, hi => by
    have h1 := rcells_at S Vs i (by simpa using h) (by simpa using hi)
    have e : ∀ j, (rcells (C :: S) (V :: Vs))[(i + 1) * 9 + j]? = (rcells S Vs)[i * 9 + j]? := by
      intro j
      rw [rcells, List.getElem?_append_right (by rw [bw_len]; omega), bw_len, show (i + 1) * 9 + j - 8 = (i * 9 + j) + 1 by omega, List.getElem?_cons_succ]
    refine ⟨fun j hj => ?_, ?_⟩
    · rw [e, h1.1 j hj]
      rfl
    · rw [e, h1.2]
      rfl
theorem rlists_at : ∀ (S : List MC) (Vs : List Value) (i : Nat), Vs.length = S.length → i < S.length → il (Vs.getD i (.slice none 0 0)) (S.getD i default).q ∈ rlists S Vs
  | C :: S, V :: Vs, 0, _, _ => .head _
  | C :: S, V :: Vs, i + 1, h, hi => .tail _ (rlists_at S Vs i (by simpa using h) (by simpa using hi))
section
variable {P0 : Nat → Prop} {w0 w w' : World} {F : List Rg} {V : Value} {S : List MC}
theorem rb_form (h : St P0 w0 w (rb V S :: F)) : ∃ A c, V = .slice A S.length c ∧ S.length ≤ c ∧ c ≤ maxLen := by
  obtain ⟨P, ⟨Q, Q2, _, _, _, ⟨Vs, h2⟩, _⟩, _⟩ := St.step (L := [rb V S]) h
  exact slc_form (h2 _ (.head _))
/-- A core's cells, and its list. -/
theorem rb_core (h : St P0 w0 w (rb V S :: F)) (i : Nat) (hi : i < S.length) : ∃ g o c Ai ci, V = .slice (some ⟨g, o, none⟩) S.length c ∧ (∀ j, j < 8 → w.cell? ⟨g, o + (i * 9 + j), none⟩ = some (.bool ((S.getD i default).m.testBit j))) ∧ w.cell? ⟨g, o + (i * 9 + 8), none⟩ = some (.slice Ai (S.getD i default).q.length ci) ∧ St P0 w0 w (both (rb V S) (il (.slice Ai (S.getD i default).q.length ci) (S.getD i default).q) :: F) := by
  obtain ⟨hf, Q, R, hq, hr, hd, ⟨Vs, h2⟩, hL⟩ := h
  have hs := h2 _ (.head _)
  have hl := h2 _ (.tail _ (.head _))
  have hp : Vs.length = S.length := h2 _ (.tail _ (.tail _ (.head _)))
  obtain ⟨A, c, rfl, hc⟩ := slc_form hs
  obtain ⟨g, o, rfl, _, _, _, hcell, _⟩ := slc_cells hs (by omega)
  have hat := rcells_at S Vs i hp hi
  have hli := hl _ (rlists_at S Vs i hp hi)
  obtain ⟨Ai, ci, e, _⟩ := slc_form hli
  refine ⟨g, o, c, Ai, ci, rfl, fun j hj => hcell _ _ (hat.1 j hj), ?_, hf, Q, R, hq, hr, hd, ⟨⟨Vs, h2⟩, by rw [← e]; exact hli⟩, hL⟩
  rw [← e]
  exact hcell _ _ hat.2
end
end Go.Proofs.Ytiofdkkjjeljmaa.Ref09
