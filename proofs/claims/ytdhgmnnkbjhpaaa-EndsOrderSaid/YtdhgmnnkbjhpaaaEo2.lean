/- EndsOrder: the two lists as parts. -/
import Derived.Test.YtdhgmnnkbjhpaaaEo1
namespace Go.Proofs.Ytdhgmnnkbjhpaaa.Eor
set_option linter.unusedVariables false
set_option linter.unusedSimpArgs false
open Go.RowKit Go.Proofs.Ytdhgmnnkbjhpaaa.Sep Go.Proofs.Ytdhgmnnkbjhpaaa.Mp Go.Proofs.Ytdhgmnnkbjhpaaa.Given Go.Proofs.Ytdhgmnnkbjhpaaa.Eps Go.Proofs.Ytdhgmnnkbjhpaaa.Epx Go.Proofs.YtdhgmnnkbjhpaaaW.PrintWords
instance : Inhabited MS := ⟨m0⟩
/-- A message's words as they were read from the first. -/
def wds (w0 : World) (x : MS) (b : Option Addr × Nat) : Prop := x.b.length ≤ b.2 ∧ Kd.C (Kd.int .i64) w0 b.1 x.b.length x.b
def wdsL (w0 : World) (xs : List MS) (bs : List (Option Addr × Nat)) : Prop := ∀ j, j < xs.length → wds w0 (xs.getD j default) (bs.getD j default)
theorem wds_snoc {w0 : World} {xs : List MS} {bs : List (Option Addr × Nat)} {x : MS} {b : Option Addr × Nat} (hl : bs.length = xs.length) (h : wdsL w0 xs bs) (hx : wds w0 x b) : wdsL w0 (xs ++ [x]) (bs ++ [b]) := by
  intro j hj
  simp only [List.length_append, List.length_cons, List.length_nil] at hj
  by_cases h1 : j < xs.length
  · have e1 : (xs ++ [x]).getD j default = xs.getD j default := by
      rw [List.getD_eq_getElem?_getD, List.getD_eq_getElem?_getD, List.getElem?_append_left h1]
    have e2 : (bs ++ [b]).getD j default = bs.getD j default := by
      rw [List.getD_eq_getElem?_getD, List.getD_eq_getElem?_getD, List.getElem?_append_left (by omega)]
    rw [e1, e2]
    exact h j h1
  · obtain rfl : j = xs.length := by omega
    have e1 : (xs ++ [x]).getD xs.length default = x := by
      rw [List.getD_eq_getElem?_getD, List.getElem?_append_right (Nat.le_refl _), Nat.sub_self]
      rfl
    have e2 : (bs ++ [b]).getD xs.length default = b := by
      rw [List.getD_eq_getElem?_getD, List.getElem?_append_right (by omega), hl, Nat.sub_self]
      rfl
    rw [e1, e2]
    exact hx
/-- A list of messages whose words lie in the first world. -/
def inq (w1 : World) (V : Value) (S : List MS) : Rg := ex fun bs : List (Option Addr × Nat) => big [slc 30 4 V S.length (rcs mcf S bs), pu (bs.length = S.length ∧ wdsL w1 S bs)]
section
variable {P0 : Nat → Prop} {w0 w1 w w' : World} {F : List Rg} {V : Value} {S : List MS}
theorem inq_any (h : St P0 w0 w (inq w1 V S :: F)) : ∃ bs : List (Option Addr × Nat), (bs.length = S.length ∧ wdsL w1 S bs) ∧ St P0 w0 w (slc 30 4 V S.length (rcs mcf S bs) :: F) := by
  obtain ⟨bs, h2⟩ := h.ex_open
  have h3 : St P0 w0 w (pu (bs.length = S.length ∧ wdsL w1 S bs) :: slc 30 4 V S.length (rcs mcf S bs) :: F) := (h2.big_open).get 1
  exact ⟨bs, h3.pu_open⟩
theorem inq_shut {bs : List (Option Addr × Nat)} (hm : bs.length = S.length ∧ wdsL w1 S bs) (h : St P0 w0 w (slc 30 4 V S.length (rcs mcf S bs) :: F)) : St P0 w0 w (inq w1 V S :: F) := by
  have h1 : St P0 w0 w (_ :: pu (bs.length = S.length ∧ wdsL w1 S bs) :: F) := (St.pu_shut hm h).put 1
  exact St.ex_shut bs (St.big_shut (M := [_, pu _]) h1)
theorem inq_nil (h : St P0 w0 w F) : St P0 w0 w (inq w1 (.slice none 0 0) [] :: F) :=
  inq_shut (bs := []) ⟨rfl, fun j hj => absurd hj (by simp)⟩ (St.fresh (M := [slc 30 4 (.slice none 0 0) 0 []]) h (Up.refl _) ⟨No, No, fun _ e => e.elim, fun _ e => e.elim, fun _ e => e.elim, slc_nil _ _ _ _, trivial⟩)
theorem inq_form (h : St P0 w0 w (inq w1 V S :: F)) : ∃ A c, V = .slice A S.length c ∧ S.length ≤ c ∧ c ≤ maxLen := by
  obtain ⟨bs, hm, h1⟩ := inq_any h
  obtain ⟨P, ⟨Q, Q2, _, _, _, h2, _⟩, _⟩ := St.step (L := [slc 30 4 V S.length (rcs mcf S bs)]) h1
  exact slc_form h2
theorem inq_push {bs : List (Option Addr × Nat)} {n : Nat} {x : MS} {b : Option Addr × Nat} (hm : bs.length = S.length ∧ wdsL w1 S bs) (hn : n = S.length) (hx : wds w1 x b) (h : St P0 w0 w (slc 30 4 V (n + 1) (rcs mcf S bs ++ mcf x b) :: F)) : St P0 w0 w (inq w1 V (S ++ [x]) :: F) := by
  subst hn
  refine inq_shut (bs := bs ++ [b]) ⟨by simp [hm.1], wds_snoc hm.1 hm.2 hx⟩ ?_
  rw [rcs_snoc S bs x b hm.1, List.length_append]
  exact h
theorem mcf_len (x : MS) (b : Option Addr × Nat) : (mcf x b).length = 4 := rfl
theorem inq_at {A : Option Addr} {n c : Nat} (hn : n = S.length) (h : St P0 w0 w (inq w1 (.slice A n c) S :: F)) {j : Nat} (hj : j < n) :
    ∃ g o B cB, A = some ⟨g, o, none⟩ ∧ w.cell? ⟨g, o + (j * 4 + 0), none⟩ = some (.int .i64 (S.getD j default).a0) ∧ w.cell? ⟨g, o + (j * 4 + 1), none⟩ = some (.int .i64 (S.getD j default).a1) ∧ w.cell? ⟨g, o + (j * 4 + 2), none⟩ = some (.int .i64 (S.getD j default).a2) ∧ w.cell? ⟨g, o + (j * 4 + 3), none⟩ = some (.slice B (S.getD j default).b.length cB) ∧ wds w1 (S.getD j default) (B, cB) := by
  subst hn
  obtain ⟨bs, hm, h1⟩ := inq_any h
  obtain ⟨P, ⟨Q, Q2, _, _, _, h2, _⟩, _⟩ := St.step (L := [slc 30 4 (.slice A S.length c) S.length (rcs mcf S bs)]) h1
  obtain ⟨g, o, hA, _, _, _, hc, _⟩ := slc_cells h2 (by omega)
  have key := fun i (hi : i < 4) => rcs_at mcf_len default default S bs j i hm.1 hj hi
  refine ⟨g, o, (bs.getD j default).1, (bs.getD j default).2, hA, hc _ _ (key 0 (by omega)), hc _ _ (key 1 (by omega)), hc _ _ (key 2 (by omega)), hc _ _ (key 3 (by omega)), hm.2 j hj⟩
abbrev outq (V : Value) (S : List MS) : Rg := row 30 4 mcf mpf V S
theorem out_at {A : Option Addr} {n c : Nat} (hn : n = S.length) (h : St P0 w0 w (outq (.slice A n c) S :: F)) {j : Nat} (hj : j < n) :
    ∃ g o B cB, A = some ⟨g, o, none⟩ ∧ w.cell? ⟨g, o + (j * 4 + 0), none⟩ = some (.int .i64 (S.getD j default).a0) ∧ w.cell? ⟨g, o + (j * 4 + 1), none⟩ = some (.int .i64 (S.getD j default).a1) ∧ w.cell? ⟨g, o + (j * 4 + 2), none⟩ = some (.int .i64 (S.getD j default).a2) ∧ w.cell? ⟨g, o + (j * 4 + 3), none⟩ = some (.slice B (S.getD j default).b.length cB) ∧ wds w (S.getD j default) (B, cB) := by
  subst hn
  obtain ⟨g, o, c', b, hA, hc, _, h2⟩ := row_open h mcf_len j hj
  cases hA
  obtain ⟨P, ⟨Q, Q2, _, _, _, h3, _⟩, _⟩ := St.step (L := [mpf (S.getD j default) b]) h2
  have hw := words_C h3
  exact ⟨g, o, b.1, b.2, rfl, hc 0 (by omega) _ rfl, hc 1 (by omega) _ rfl, hc 2 (by omega) _ rfl, hc 3 (by omega) _ rfl, hw⟩
theorem out_nil (h : St P0 w0 w F) : St P0 w0 w (outq (.slice none 0 0) [] :: F) := row_nil h
theorem out_push {n : Nat} {bs : List (Option Addr × Nat)} {x : MS} {b : Option Addr × Nat} (hm : bs.length = S.length) (hn : n = S.length) (h : St P0 w0 w (slc 30 4 V (n + 1) (rcs mcf S bs ++ mcf x b) :: big (rps mpf S bs) :: mpf x b :: F)) : St P0 w0 w (outq V (S ++ [x]) :: F) := by
  subst hn
  exact row_push hm h
end
end Go.Proofs.Ytdhgmnnkbjhpaaa.Eor
