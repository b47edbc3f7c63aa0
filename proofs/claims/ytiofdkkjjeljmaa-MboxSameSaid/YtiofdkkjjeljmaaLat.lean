/- A slice of ints that reads as a list, in blocks of P. -/
import Derived.Test.YtiofdkkjjeljmaaBase
import Derived.Test.YtiofdkkjjeljmaaWWords
namespace Go.Proofs.Ytiofdkkjjeljmaa.Lat
set_option linter.unusedVariables false
set_option linter.unusedSimpArgs false
open Go.RowKit Go.Proofs.YtiofdkkjjeljmaaW.PrintWords

def LAt (w : World) (P : Nat → Prop) (v : Value) (q : List Int) : Prop :=
  (v = .slice none 0 0 ∧ q = []) ∨ ∃ ad c, v = .slice (some ad) q.length c ∧ q.length ≤ c ∧ ∀ j, j < q.length → P ad.block ∧ w.cell? (ad.add j) = some (.int .i64 (q.getD j 0))
theorem add_block (ad : Addr) (j : Nat) : (ad.add j).block = ad.block := by unfold Addr.add; split <;> rfl
theorem LAt.move {w w' : World} {P : Nat → Prop} {v : Value} {q : List Int} (h : LAt w P v q) (hm : ∀ k, P k → k < w.heap.size → w'.heap[k]? = w.heap[k]?) : LAt w' P v q := by
  rcases h with h | ⟨ad, c, h1, h2, h3⟩
  · exact .inl h
  · refine .inr ⟨ad, c, h1, h2, fun j hj => ⟨(h3 j hj).1, ?_⟩⟩
    obtain ⟨hp, hc⟩ := h3 j hj
    have hlt := World.block_lt_of_cell? w _ hc
    rw [add_block] at hlt
    rw [← hc]
    exact World.cell?_of_block (by rw [add_block]; exact hm _ hp hlt)
theorem LAt.up {w w' : World} {P : Nat → Prop} {v : Value} {q : List Int} (h : LAt w P v q) (hu : Up w w') : LAt w' P v q := h.move fun k _ hk => hu.block k hk
theorem LAt.mono {w : World} {P P' : Nat → Prop} {v : Value} {q : List Int} (h : LAt w P v q) (hP : ∀ k, P k → P' k) : LAt w P' v q := by
  rcases h with h | ⟨ad, c, h1, h2, h3⟩
  · exact .inl h
  · exact .inr ⟨ad, c, h1, h2, fun j hj => ⟨hP _ (h3 j hj).1, (h3 j hj).2⟩⟩
theorem LAt.bound {w : World} {P : Nat → Prop} {v : Value} {q : List Int} (h : LAt w P v q) : LAt w (fun k => P k ∧ k < w.heap.size) v q := by
  rcases h with h | ⟨ad, c, h1, h2, h3⟩
  · exact .inl h
  · refine .inr ⟨ad, c, h1, h2, fun j hj => ⟨⟨(h3 j hj).1, ?_⟩, (h3 j hj).2⟩⟩
    have hlt := World.block_lt_of_cell? w _ (h3 j hj).2
    rw [add_block] at hlt
    exact hlt
theorem LAt.of_own {w : World} {base : Nat} {v : Value} {q : List Int} (h : w.ownsRow base 3 1 v q.length (q.map (Value.int .i64))) : LAt w (fun k => base ≤ k) v q := by
  have hh := h.2
  rcases hh with ⟨rfl, h0⟩ | ⟨g, cap, cs, rfl, hg, hc, hl, hx⟩
  · exact .inl ⟨rfl, List.eq_nil_of_length_eq_zero h0⟩
  · refine .inr ⟨_, _, rfl, by omega, fun j hj => ⟨hg, ?_⟩⟩
    refine h.cells rfl j _ ?_
    simp [List.getElem?_map, hj]
/-- A block known whole, sliced from its head. -/
theorem LAt.of_block {w : World} {P : Nat → Prop} {g : Nat} {q rest : List Int} {t : TypeId} {fr : Nat × Nat} {c : Nat} (h : w.heap[g]? = some (.cells ((q ++ rest).map (Value.int .i64)).toArray t fr)) (hc : q.length ≤ c) (hP : P g) : LAt w P (.slice (some ⟨g, 0, none⟩) q.length c) q := by
  refine .inr ⟨_, _, rfl, hc, fun j hj => ⟨hP, ?_⟩⟩
  have e : (⟨g, 0, none⟩ : Addr).add j = ⟨g, j, none⟩ := by
    by_cases hj0 : j = 0
    · subst hj0; rfl
    · simp [Addr.add, hj0]
  rw [e, cell_of_block h]
  rw [List.getD_eq_getElem?_getD, List.getElem?_eq_getElem hj]
  simp only [List.map_append, List.getElem?_toArray, Option.getD_some]
  rw [List.getElem?_append_left (by simpa using hj)]
  simp [hj]
theorem LAt.c {w : World} {P : Nat → Prop} {v : Value} {q : List Int} (h : LAt w P v q) (hq : q.length ≤ 1000000) : ∃ A c, v = .slice A q.length c ∧ q.length ≤ c ∧ Kd.C (Kd.int .i64) w A q.length q := by
  rcases h with ⟨rfl, rfl⟩ | ⟨ad, c, rfl, h2, h3⟩
  · exact ⟨none, 0, rfl, Nat.le_refl _, Kd.C_of_reads (d := (0 : Int)) (h1 := fun _ => rfl) ⟨rfl, by decide, fun h => absurd h (by decide)⟩⟩
  · exact ⟨some ad, c, rfl, h2, Kd.C_of_reads (d := (0 : Int)) (h1 := fun _ => rfl) ⟨rfl, by omega, fun _ => ⟨ad, rfl, fun j hj => (h3 j hj).2⟩⟩⟩
theorem LAt.len {w : World} {P : Nat → Prop} {v : Value} {q : List Int} (h : LAt w P v q) : ∃ A c, v = .slice A q.length c := by
  rcases h with ⟨rfl, rfl⟩ | ⟨ad, c, rfl, _⟩
  · exact ⟨none, 0, rfl⟩
  · exact ⟨_, _, rfl⟩
theorem LAt.cells {w : World} {P : Nat → Prop} {A : Option Addr} {c : Nat} {q : List Int} (h : LAt w P (.slice A q.length c) q) (hp : 0 < (q.map (Value.int .i64)).length) :
    ∃ ad, A = some ad ∧ ∀ (j : Nat) (v : Value), (q.map (Value.int .i64))[j]? = some v → w.cell? (ad.add j) = some v := by
  rcases h with ⟨_, rfl⟩ | ⟨ad, c', hv, _, h3⟩
  · simp at hp
  · injection hv with h1 h2 h4
    refine ⟨ad, h1, fun j v hj => ?_⟩
    obtain ⟨z, hz, rfl⟩ := by simpa using hj
    obtain ⟨hl, rfl⟩ := List.getElem?_eq_some_iff.1 hz
    have hc := (h3 j hl).2
    simp [List.getD_eq_getElem?_getD, hl] at hc
    exact hc
theorem oInt (q : List Int) : ∀ u ∈ q.map (Value.int .i64), u.oneCell' = true := by
  intro u hu
  obtain ⟨z, _, rfl⟩ := List.mem_map.1 hu
  rfl
end Go.Proofs.Ytiofdkkjjeljmaa.Lat
