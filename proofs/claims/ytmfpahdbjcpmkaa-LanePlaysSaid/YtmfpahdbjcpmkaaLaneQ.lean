/- A lane as a list of numbers, and what a call of the law's 'do' turns it into. -/
import Derived.Test.YtmfpahdbjcpmkaaLane4
namespace Go.Proofs.Ytmfpahdbjcpmkaa.Lane
set_option linter.unusedVariables false
set_option linter.unusedSimpArgs false
open Go.RowKit

/-- A lane with room for n that has the numbers q. -/
def QAt (w : World) (b R n : Nat) (q : List Int) : Prop := ∃ room f, LaneAt w b R room f q.length ∧ room.length = n ∧ row room f q.length = q
theorem QAt.up {w w' : World} {b R n : Nat} {q : List Int} (h : QAt w b R n q) (hu : Up w w') : QAt w' b R n q := by
  obtain ⟨room, f, h1, h2, h3⟩ := h
  exact ⟨room, f, h1.up hu, h2, h3⟩
theorem QAt.drew {w w' : World} {b R n : Nat} {q : List Int} (h : QAt w b R n q) (hu : Drawn w w') : QAt w' b R n q := h.up hu.up
theorem QAt.le {w : World} {b R n : Nat} {q : List Int} (h : QAt w b R n q) : q.length ≤ n ∧ n ≤ 64 := by
  obtain ⟨room, f, h1, h2, h3⟩ := h
  exact ⟨h2 ▸ h1.kle, h2 ▸ h1.le⟩
theorem Off.trans {b R : Nat} {a w w' : World} (h : Off b R a w) (k : Off b R w w') : Off b R a w' :=
  ⟨k.os.trans h.os, k.tape.trans h.tape, k.output.trans h.output, Nat.le_trans h.size k.size, fun q hq hb hR => (k.block q (Nat.lt_of_lt_of_le hq h.size) hb hR).trans (h.block q hq hb hR)⟩
theorem Off.of_up {b R : Nat} {w w' : World} (h : Up w w') : Off b R w w' := ⟨h.os, h.tape, h.output, h.size, fun k hk _ _ => h.block k hk⟩
theorem getD_set_same (l : List Int) (j : Nat) (x : Int) (h : j < l.length) : (l.set j x).getD j 0 = x := by
  simp [List.getD_eq_getElem?_getD, h]
theorem getD_set_other (l : List Int) (i j : Nat) (x : Int) (h : i ≠ j) : (l.set j x).getD i 0 = l.getD i 0 := by
  simp [List.getD_eq_getElem?_getD, List.getElem?_set, Ne.symm h]
theorem mod_ne {f i k n : Nat} (hi : i < k) (hk : k < n) : (f + i) % n ≠ (f + k) % n := by
  intro h
  have h1 := Nat.div_add_mod (f + i) n
  have h2 := Nat.div_add_mod (f + k) n
  rw [h] at h1
  have h3 : n * ((f + k) / n) - n * ((f + i) / n) = k - i := by omega
  rw [← Nat.mul_sub] at h3
  rcases Nat.eq_zero_or_pos ((f + k) / n - (f + i) / n) with h4 | h4
  · rw [h4] at h3; omega
  · have : n * 1 ≤ n * ((f + k) / n - (f + i) / n) := Nat.mul_le_mul_left _ h4
    omega
theorem row_set (room : List Int) (f k : Nat) (x : Int) (hk : k < room.length) : ∀ i, i ≤ k → row (room.set ((f + k) % room.length) x) f i = row room f i
  | 0, _ => rfl
  | i + 1, h => by
    rw [row_succ, row_succ, row_set room f k x hk i (by omega), List.length_set, getD_set_other _ _ _ _ (mod_ne (by omega) hk)]
theorem row_put (room : List Int) (f k : Nat) (x : Int) (hk : k < room.length) : row (room.set ((f + k) % room.length) x) f (k + 1) = row room f k ++ [x] := by
  rw [row_succ, row_set room f k x hk k (Nat.le_refl _), List.length_set, getD_set_same _ _ _ (Nat.mod_lt _ (by omega))]
theorem row_take (room : List Int) (f : Nat) (hp : 0 < room.length) (hf : f < room.length) : ∀ k, row room f (k + 1) = room.getD f 0 :: row room ((f + 1) % room.length) k
  | 0 => by
    rw [row_succ]
    simp [row, Nat.mod_eq_of_lt hf]
  | k + 1 => by
    rw [row_succ, row_take room f hp hf k, row_succ room _ k, List.cons_append]
    congr 3
    congr 1
    rw [show f + (k + 1) = f + 1 + k by omega, Nat.mod_add_mod]
theorem row_getD (room : List Int) (f k i : Nat) (h : i < k) : (row room f k).getD i 0 = room.getD ((f + i) % room.length) 0 := by
  simp [row, List.getD_eq_getElem?_getD, h]

/-- What a call turns the numbers into, what it tells, and the error. -/
def doL (n : Nat) (q : List Int) (a x : Int) : List Int × Int × Int :=
  if a = 0 then (if q.length = n then (q, 0, 5) else (q ++ [x], 0, 0))
  else if a = 1 then (match q with | [] => ([], 0, 6) | y :: t => (t, y, 0))
  else if a = 2 then ([], q.length, 0)
  else if 0 ≤ x ∧ x < q.length then (q, q.getD x.toNat 0, 1) else (q, 0, 0)
theorem Put_q (b R n : Nat) (q : List Int) (x : Int) (w : World) (h : QAt w b R n q) :
    Calls Try.prog 26 #[.pointer (some ⟨b, 0, none⟩), .int .i64 x] w fun e w' => e = .returned (.int .i64 (doL n q 0 x).2.2) ∧ QAt w' b R n (doL n q 0 x).1 ∧ Off b R w w' := by
  obtain ⟨room, f, h1, h2, h3⟩ := h
  have hk := h1.kle
  by_cases hn : q.length = n
  · have e : doL n q 0 x = (q, 0, 5) := by simp [doL, hn]
    rw [e]
    refine (Put_full b R f _ room x w h1 (by omega)).mono ?_
    rintro e w' ⟨rfl, hd⟩
    exact ⟨rfl, ⟨room, f, h1.drew hd, h2, h3⟩, Off.of_up hd.up⟩
  · have e : doL n q 0 x = (q ++ [x], 0, 0) := by simp [doL, hn]
    rw [e]
    refine (Put_ok b R f _ room x w h1 (by omega)).mono ?_
    rintro e w' ⟨rfl, hl, ho⟩
    refine ⟨rfl, ⟨room.set ((f + q.length) % room.length) x, f, ?_, ?_, ?_⟩, ho⟩
    · show LaneAt w' b R (room.set ((f + q.length) % room.length) x) f (q ++ [x]).length
      rw [List.length_append]
      exact hl
    · rw [List.length_set]; exact h2
    · show row (room.set ((f + q.length) % room.length) x) f (q ++ [x]).length = q ++ [x]
      rw [List.length_append]
      show row (room.set ((f + q.length) % room.length) x) f (q.length + 1) = _
      rw [row_put _ _ _ _ (by omega), h3]
theorem Take_q (b R n : Nat) (q : List Int) (x : Int) (w : World) (h : QAt w b R n q) :
    Calls Try.prog 27 #[.pointer (some ⟨b, 0, none⟩)] w fun e w' => e = .returned (.tuple #[.int .i64 (doL n q 1 x).2.1, .int .i64 (doL n q 1 x).2.2]) ∧ QAt w' b R n (doL n q 1 x).1 ∧ Off b R w w' := by
  obtain ⟨room, f, h1, h2, h3⟩ := h
  have hk := h1.kle
  have hp := h1.pos
  cases q with
  | nil =>
    refine (Take_none b R f room w h1).mono ?_
    rintro e w' ⟨rfl, rfl⟩
    exact ⟨rfl, ⟨room, f, h1, h2, h3⟩, Off.refl _ _ _⟩
  | cons y t =>
    have h4 := row_take room f (by omega) h1.flt t.length
    have h5 : row room f (t.length + 1) = y :: t := h3
    rw [h4] at h5
    injection h5 with h6 h7
    have e : doL n (y :: t) 1 x = (t, y, 0) := by simp [doL]
    rw [e]
    refine (Take_ok b R f t.length room w h1).mono ?_
    rintro e w' ⟨rfl, hl, ho⟩
    exact ⟨by rw [h6], ⟨room, _, hl, h2, h7⟩, ho⟩
theorem Clear_q (b R n : Nat) (q : List Int) (x : Int) (w : World) (h : QAt w b R n q) :
    Calls Try.prog 28 #[.pointer (some ⟨b, 0, none⟩)] w fun e w' => e = .returned (.int .i64 (doL n q 2 x).2.1) ∧ QAt w' b R n (doL n q 2 x).1 ∧ Off b R w w' := by
  obtain ⟨room, f, h1, h2, h3⟩ := h
  have e : doL n q 2 x = ([], (q.length : Int), 0) := by simp [doL]
  rw [e]
  refine (Clear_ok b R f _ room w h1).mono ?_
  rintro e w' ⟨rfl, hl, ho⟩
  exact ⟨rfl, ⟨room, f, hl, h2, rfl⟩, ho⟩
theorem At_q (b R n : Nat) (q : List Int) (x : Int) (w : World) (h : QAt w b R n q) :
    Calls Try.prog 29 #[.pointer (some ⟨b, 0, none⟩), .int .i64 x] w fun e w' => e = .returned (.tuple #[.int .i64 (if 0 ≤ x ∧ x < q.length then q.getD x.toNat 0 else 0), .bool (decide (0 ≤ x ∧ x < q.length))]) ∧ QAt w' b R n q ∧ Off b R w w' := by
  obtain ⟨room, f, h1, h2, h3⟩ := h
  by_cases hx : 0 ≤ x ∧ x < q.length
  · obtain ⟨i, rfl⟩ := Int.eq_ofNat_of_zero_le hx.1
    have hi : i < q.length := by omega
    rw [if_pos hx, decide_eq_true hx]
    have e : q.getD i 0 = room.getD ((f + i) % room.length) 0 := by rw [← row_getD room f q.length i hi, h3]
    rw [Int.toNat_natCast, e]
    refine (At_ok b R f _ i room w h1 hi).mono ?_
    rintro e w' ⟨rfl, hd⟩
    exact ⟨rfl, ⟨room, f, h1.drew hd, h2, h3⟩, Off.of_up hd.up⟩
  · rw [if_neg hx, decide_eq_false hx]
    refine (At_no b R f _ room x w h1 (by omega)).mono ?_
    rintro e w' ⟨rfl, rfl⟩
    exact ⟨rfl, ⟨room, f, h1, h2, h3⟩, Off.refl _ _ _⟩
end Go.Proofs.Ytmfpahdbjcpmkaa.Lane
