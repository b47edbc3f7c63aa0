/- Mailboxes as parts of memory. -/
import Derived.Test.YtiofdkkjjeljmaaLn
import Derived.Test.YtiofdkkjjeljmaaSepApp
namespace Go.Proofs.Ytiofdkkjjeljmaa.Mb
set_option linter.unusedVariables false
set_option linter.unusedSimpArgs false
open Go.RowKit Go.Proofs.Ytiofdkkjjeljmaa.Sep Go.Proofs.Ytiofdkkjjeljmaa.Lane

/-- A word, and who sent it. -/
structure It where
  f : Nat
  w : Nat
  hf : f < 8
  hw : w ≤ 65535
instance : Inhabited It := ⟨⟨0, 0, by omega, by omega⟩⟩
def enc (x : It) : Int := ((x.f * 65536 + x.w : Nat) : Int)
/-- A core's mailbox. -/
structure MC where
  m : Nat
  q : List It
  hm : m < 256
instance : Inhabited MC := ⟨⟨0, [], by omega⟩⟩
/-- A lane. -/
def ln (l : Nat) (q : List Int) : Rg where
  X w P := ∃ R, P l ∧ P R ∧ QAt w l R 16 q
  move h hm := by
    obtain ⟨R, h1, h2, room, f, h3, h4, h5⟩ := h
    exact ⟨R, h1, h2, room, f, ⟨(hm l h1 (heap_lt h3.hb)).trans h3.hb, (hm R h2 (heap_lt h3.hR)).trans h3.hR, h3.pos, h3.le, h3.flt, h3.kle, h3.ne⟩, h4, h5⟩
  bound h := by
    obtain ⟨R, h1, h2, room, f, h3, h4, h5⟩ := h
    exact ⟨R, ⟨h1, heap_lt h3.hb⟩, ⟨h2, heap_lt h3.hR⟩, room, f, h3, h4, h5⟩
  mono h hP := by
    obtain ⟨R, h1, h2, h3⟩ := h
    exact ⟨R, hP _ h1, hP _ h2, h3⟩
theorem q_lt {w : World} {l R n : Nat} {q : List Int} (h : QAt w l R n q) : l < w.heap.size ∧ R < w.heap.size := by
  obtain ⟨room, f, h3, h4, h5⟩ := h
  exact ⟨heap_lt h3.hb, heap_lt h3.hR⟩
section
variable {P0 : Nat → Prop} {w0 w w' : World} {F : List Rg}
theorem ln_step {l : Nat} {q : List Int} (h : St P0 w0 w (ln l q :: F)) : ∃ R, QAt w l R 16 q ∧ ∀ {w' q'}, QAt w' l R 16 q' → Off l R w w' → St P0 w0 w' (ln l q' :: F) := by
  obtain ⟨P, ⟨Q, Q2, hq, _, _, ⟨R, h1, h2, h3⟩, _⟩, hs⟩ := St.step (L := [ln l q]) h
  refine ⟨R, h3, fun {w' q'} h4 ho => hs (M := [ln l q']) ⟨⟨ho.os, ho.tape, ho.output, ho.size, fun k hk hn => ho.block k hk (fun e => hn (by rw [e]; exact hq l h1)) (fun e => hn (by rw [e]; exact hq R h2))⟩, fun k => k = l ∨ k = R, No, ?_, fun _ e => e.elim, fun _ _ e => e.elim, ⟨R, .inl rfl, .inr rfl, h4⟩, trivial⟩⟩
  rintro k (rfl | rfl)
  · exact ⟨.inl (hq _ h1), (q_lt h4).1⟩
  · exact ⟨.inl (hq _ h2), (q_lt h4).2⟩
theorem ln_new {l R : Nat} {q : List Int} (h : St P0 w0 w F) (hr : QAt w' l R 16 q) (hu : Up w w') (hb : w.heap.size ≤ l) (hR : w.heap.size ≤ R) : St P0 w0 w' (ln l q :: F) :=
  h.fresh (M := [ln l q]) hu ⟨fun k => w.heap.size ≤ k, No, fun k hk => hk, fun _ e => e.elim, fun _ _ e => e.elim, ⟨R, hb, hR, hr⟩, trivial⟩
/-- A cell of a slice is stored into. -/
theorem _root_.Go.Proofs.Ytiofdkkjjeljmaa.Sep.St.slc_set {e sz n c g o : Nat} {xs : List Value} (h : St P0 w0 w (slc e sz (.slice (some ⟨g, o, none⟩) n c) n xs :: F)) (j : Nat) (u : Value) (hj : j < n * sz) :
    St P0 w0 (w.setCell ⟨g, o + j, none⟩ u) (slc e sz (.slice (some ⟨g, o, none⟩) n c) n (xs.set j u) :: F) := by
  obtain ⟨P, ⟨Q, R, hq, hr, hd, hA, _⟩, hs⟩ := St.step (L := [slc e sz (.slice (some ⟨g, o, none⟩) n c) n xs]) h
  rcases hA with ⟨h1, _⟩ | ⟨g', o', c', cur, h1, h2, h3, h4, h5, h6, h7, h8⟩
  · cases h1
  · cases h1
    refine hs (M := [slc e sz (.slice (some ⟨g, o, none⟩) n c) n (xs.set j u)]) ⟨⟨rfl, rfl, rfl, by simp [World.setCell], fun k hk hn => heap_set_far u (fun e => hn (by rw [e]; exact hq g h5))⟩, fun k => k = g, No, ?_, fun _ e => e.elim, fun _ _ e => e.elim, .inr ⟨g, o, c, cur.setIfInBounds (o + j) u, rfl, h2, h3, by simpa using h4, rfl, heap_setCell_same h6 u, by simpa using h7, ?_⟩, trivial⟩
    · rintro k rfl
      exact ⟨.inl (hq k h5), by simpa [World.setCell] using heap_lt h6⟩
    · intro i hi
      have hi' : i < xs.length := by simpa using hi
      have hcur : o + j < cur.size := by
        have := Nat.mul_le_mul_right sz h2
        omega
      rw [List.getElem?_set, Array.getElem?_setIfInBounds]
      by_cases e : j = i
      · subst e
        simp [hi', hcur]
      · rw [if_neg e, if_neg (by omega)]
        exact h8 i hi'
end
/-- The cells of the mailboxes, and their lanes. -/
def mcells : List MC → List Nat → List Value
  | C :: S, l :: ls => .int .i64 (C.m : Int) :: .pointer (some ⟨l, 0, none⟩) :: mcells S ls
  | _, _ => []
def mlanes : List MC → List Nat → List Rg
  | C :: S, l :: ls => ln l (C.q.map enc) :: mlanes S ls
  | _, _ => []
theorem mcells_len : ∀ (S : List MC) (ls : List Nat), ls.length = S.length → (mcells S ls).length = S.length * 2
  | [], [], _ => rfl
  | C :: S, l :: ls, h => by
    simp [mcells, mcells_len S ls (by simpa using h)]
    omega
theorem mlanes_len : ∀ (S : List MC) (ls : List Nat), ls.length = S.length → (mlanes S ls).length = S.length
  | [], [], _ => rfl
  | C :: S, l :: ls, h => by simp [mlanes, mlanes_len S ls (by simpa using h)]
theorem mcells_at : ∀ (S : List MC) (ls : List Nat) (i : Nat), ls.length = S.length → i < S.length → (mcells S ls)[i * 2]? = some (.int .i64 ((S.getD i default).m : Int)) ∧ (mcells S ls)[i * 2 + 1]? = some (.pointer (some ⟨ls.getD i 0, 0, none⟩))
  | C :: S, l :: ls, 0, _, _ => ⟨rfl, rfl⟩
  | C :: S, l :: ls, i + 1, h, hi => by
    have := mcells_at S ls i (by simpa using h) (by simpa using hi)
    rw [show (i + 1) * 2 = i * 2 + 2 by omega]
    simpa [mcells] using this
theorem mlanes_at : ∀ (S : List MC) (ls : List Nat) (i : Nat), ls.length = S.length → i < S.length → (mlanes S ls).getD i (pu True) = ln (ls.getD i 0) ((S.getD i default).q.map enc)
  | C :: S, l :: ls, 0, _, _ => rfl
  | C :: S, l :: ls, i + 1, h, hi => by
    have := mlanes_at S ls i (by simpa using h) (by simpa using hi)
    simpa [mlanes] using this
theorem mcells_set : ∀ (S : List MC) (ls : List Nat) (i : Nat) (C : MC), ls.length = S.length → mcells (S.set i C) ls = (mcells S ls).set (i * 2) (.int .i64 (C.m : Int))
  | [], ls, i, C, _ => by cases ls <;> simp [mcells]
  | D :: S, l :: ls, 0, C, _ => rfl
  | D :: S, l :: ls, i + 1, C, h => by
    rw [show (i + 1) * 2 = i * 2 + 2 by omega]
    simp [mcells, mcells_set S ls i C (by simpa using h)]
theorem mlanes_set : ∀ (S : List MC) (ls : List Nat) (i : Nat) (C : MC), ls.length = S.length → i < S.length → mlanes (S.set i C) ls = (mlanes S ls).set i (ln (ls.getD i 0) (C.q.map enc))
  | D :: S, l :: ls, 0, C, _, _ => rfl
  | D :: S, l :: ls, i + 1, C, h, hi => by simp [mlanes, mlanes_set S ls i C (by simpa using h) (by simpa using hi)]
theorem mlanes_erase (S : List MC) (ls : List Nat) (i : Nat) (C : MC) (h : ls.length = S.length) (hi : i < S.length) : (mlanes (S.set i C) ls).eraseIdx i = (mlanes S ls).eraseIdx i := by
  rw [mlanes_set S ls i C h hi, List.eraseIdx_set_eq]
/-- Mailboxes. -/
def mb (b : Nat) (S : List MC) : Rg := ex fun V => ex fun ls => big [bk b 128 #[V], slc 132 2 V S.length (mcells S ls), big (mlanes S ls), pu (ls.length = S.length ∧ 1 ≤ S.length ∧ S.length ≤ 8)]
section
variable {P0 : Nat → Prop} {w0 w w' : World} {F : List Rg} {b : Nat} {S : List MC}
theorem mb_any (h : St P0 w0 w (mb b S :: F)) : ∃ V ls, (ls.length = S.length ∧ 1 ≤ S.length ∧ S.length ≤ 8) ∧ St P0 w0 w (bk b 128 #[V] :: slc 132 2 V S.length (mcells S ls) :: big (mlanes S ls) :: F) := by
  obtain ⟨V, h1⟩ := h.ex_open
  obtain ⟨ls, h2⟩ := h1.ex_open
  have h3 : St P0 w0 w (pu (ls.length = S.length ∧ 1 ≤ S.length ∧ S.length ≤ 8) :: _ :: _ :: _ :: F) := (h2.big_open).get 3
  exact ⟨V, ls, h3.pu_open⟩
theorem mb_shut_any {V : Value} {ls : List Nat} (hm : ls.length = S.length ∧ 1 ≤ S.length ∧ S.length ≤ 8) (h : St P0 w0 w (bk b 128 #[V] :: slc 132 2 V S.length (mcells S ls) :: big (mlanes S ls) :: F)) : St P0 w0 w (mb b S :: F) := by
  have h1 : St P0 w0 w (_ :: _ :: _ :: pu (ls.length = S.length ∧ 1 ≤ S.length ∧ S.length ≤ 8) :: F) := (St.pu_shut hm h).put 3
  exact St.ex_shut V (St.ex_shut ls (St.big_shut (M := [_, _, _, pu _]) h1))
theorem mb_le (h : St P0 w0 w (mb b S :: F)) : 1 ≤ S.length ∧ S.length ≤ 8 := by
  obtain ⟨V, ls, hm, _⟩ := mb_any h
  exact hm.2
/-- The mailboxes, their slice's form. -/
theorem mb_form (h : St P0 w0 w (mb b S :: F)) : ∃ g o c ls, (ls.length = S.length ∧ 1 ≤ S.length ∧ S.length ≤ 8) ∧ (S.length ≤ c ∧ c ≤ maxLen) ∧ St P0 w0 w (bk b 128 #[.slice (some ⟨g, o, none⟩) S.length c] :: slc 132 2 (.slice (some ⟨g, o, none⟩) S.length c) S.length (mcells S ls) :: big (mlanes S ls) :: F) := by
  obtain ⟨V, ls, hm, h1⟩ := mb_any h
  obtain ⟨P, ⟨Q, Q2, _, _, _, h2, _⟩, _⟩ := St.step (L := [slc 132 2 V S.length (mcells S ls)]) (h1.get 1)
  obtain ⟨A, c, rfl, hc⟩ := slc_form h2
  obtain ⟨g, o, rfl, _⟩ := slc_cells h2 (by omega)
  exact ⟨g, o, c, ls, hm, hc, h1⟩
theorem mb_open {g o c i : Nat} {ls : List Nat} (hm : ls.length = S.length) (hi : i < S.length) (h : St P0 w0 w (bk b 128 #[.slice (some ⟨g, o, none⟩) S.length c] :: slc 132 2 (.slice (some ⟨g, o, none⟩) S.length c) S.length (mcells S ls) :: big (mlanes S ls) :: F)) :
    St P0 w0 w (ln (ls.getD i 0) ((S.getD i default).q.map enc) :: slc 132 2 (.slice (some ⟨g, o, none⟩) S.length c) S.length (mcells S ls) :: bk b 128 #[.slice (some ⟨g, o, none⟩) S.length c] :: big ((mlanes S ls).eraseIdx i) :: F) := by
  have h1 : St P0 w0 w (big (mlanes S ls) :: _ :: _ :: F) := h.get 2
  have h2 := h1.big_open
  have hl := mlanes_len S ls hm
  have h3 := h2.get i (by simp; omega)
  have e1 : (mlanes S ls ++ bk b 128 #[.slice (some ⟨g, o, none⟩) S.length c] :: slc 132 2 (.slice (some ⟨g, o, none⟩) S.length c) S.length (mcells S ls) :: F).getD i (pu True) = (mlanes S ls).getD i (pu True) := by
    simp [List.getD_eq_getElem?_getD, List.getElem?_append_left (show i < (mlanes S ls).length by omega)]
  rw [e1, mlanes_at S ls i hm hi, List.eraseIdx_append_of_lt_length (by omega)] at h3
  have h4 := St.big_shut (M := (mlanes S ls).eraseIdx i) (h3.perm (List.perm_middle.symm))
  exact ((h4.get 2).get 3).get 3
theorem mb_close {g o c i : Nat} {ls : List Nat} {C : MC} (hm : ls.length = S.length ∧ 1 ≤ S.length ∧ S.length ≤ 8) (hi : i < S.length)
    (h : St P0 w0 w (ln (ls.getD i 0) (C.q.map enc) :: slc 132 2 (.slice (some ⟨g, o, none⟩) S.length c) S.length ((mcells S ls).set (i * 2) (.int .i64 (C.m : Int))) :: bk b 128 #[.slice (some ⟨g, o, none⟩) S.length c] :: big ((mlanes S ls).eraseIdx i) :: F)) :
    St P0 w0 w (mb b (S.set i C) :: F) := by
  have h1 : St P0 w0 w (big ((mlanes S ls).eraseIdx i) :: _ :: _ :: _ :: F) := ((h.get 2).get 1).get 3
  have h2 := (h1.big_open).perm List.perm_middle
  have hl := mlanes_len (S.set i C) ls (by simpa using hm.1)
  rw [List.length_set] at hl
  rw [← mlanes_erase S ls i C hm.1 hi, ← mcells_set S ls i C hm.1] at h2
  have h3 := perm_get (mlanes (S.set i C) ls ++ bk b 128 #[.slice (some ⟨g, o, none⟩) S.length c] :: slc 132 2 (.slice (some ⟨g, o, none⟩) S.length c) S.length (mcells (S.set i C) ls) :: F) i (pu True) (by simp; omega)
  have e1 : (mlanes (S.set i C) ls ++ bk b 128 #[.slice (some ⟨g, o, none⟩) S.length c] :: slc 132 2 (.slice (some ⟨g, o, none⟩) S.length c) S.length (mcells (S.set i C) ls) :: F).getD i (pu True) = ln (ls.getD i 0) (C.q.map enc) := by
    rw [List.getD_eq_getElem?_getD, List.getElem?_append_left (by omega), mlanes_set S ls i C hm.1 hi, List.getElem?_set_self (by rw [mlanes_len S ls hm.1]; exact hi)]
    rfl
  rw [e1, List.eraseIdx_append_of_lt_length (by omega)] at h3
  have h4 := St.big_shut (h2.perm h3.symm)
  have h5 : St P0 w0 w (bk b 128 #[.slice (some ⟨g, o, none⟩) S.length c] :: slc 132 2 (.slice (some ⟨g, o, none⟩) S.length c) S.length (mcells (S.set i C) ls) :: big (mlanes (S.set i C) ls) :: F) := (h4.get 2).get 2
  refine mb_shut_any (V := .slice (some ⟨g, o, none⟩) S.length c) (ls := ls) (by simpa using hm) ?_
  rw [List.length_set]
  exact h5
end
end Go.Proofs.Ytiofdkkjjeljmaa.Mb
