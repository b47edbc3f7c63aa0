/- What MboxPlays and MboxSame need beside the walks. -/
import Derived.Test.YtiofdkkjjeljmaaRef09l
import Derived.Laws.MakeOwn
import Derived.OpenShut
namespace Go.Proofs.Ytiofdkkjjeljmaa.Ref09
set_option linter.unusedVariables false
set_option linter.unusedSimpArgs false
open Go.RowKit Go.Proofs.Ytiofdkkjjeljmaa.Sep Go.Proofs.Ytiofdkkjjeljmaa.Mb Go.Proofs.Ytiofdkkjjeljmaa.Lane Go.Proofs.Ytiofdkkjjeljmaa.Open

theorem sep_q16 : ∀ (S : List MC) (ls : List Nat) {w : World} {P : Nat → Prop}, ls.length = S.length → Sep w (mlanes S ls) P → ∀ C ∈ S, C.q.length ≤ 16
  | D :: S, l :: ls, w, P, hl, ⟨Q, R, _, _, _, hA, hL⟩, C, hC => by
    rcases List.mem_cons.1 hC with rfl | hC
    · obtain ⟨R', _, _, h⟩ := hA
      have := h.le.1
      simpa using this
    · exact sep_q16 S ls (by simpa using hl) hL C hC
  | [], _, _, _, _, _, C, hC => by simp at hC
section
variable {P0 : Nat → Prop} {w0 w w' : World} {F : List Rg} {b : Nat} {S : List MC}
theorem mb_q16 (h : St P0 w0 w (mb b S :: F)) : ∀ C ∈ S, C.q.length ≤ 16 := by
  obtain ⟨V, ls, hm, h1⟩ := mb_any h
  obtain ⟨P, ⟨Q, Q2, _, _, _, h2, _⟩, _⟩ := St.step (L := [big (mlanes S ls)]) (h1.get 2)
  exact sep_q16 S ls hm.1 h2
theorem ringM_len (S : List MC) (a t z : Int) : (ringM S a t z).1.length = S.length := by
  unfold ringM
  split
  · split
    · split
      · simp
      · rfl
    · rfl
  · rfl
theorem doM_len (S : List MC) (k a t z : Int) : (doM S k a t z).1.length = S.length := by
  unfold doM
  split
  · exact ringM_len S a t z
  · split
    · unfold ackM; split <;> simp
    · split
      · unfold takeM; split <;> simp
      · split
        · unfold resetM; split <;> simp
        · rfl
/-- The reference's mailboxes when nothing was rung. -/
def zer (n : Nat) : List Value := rcells (List.replicate n ⟨0, [], by omega⟩) (List.replicate n (.slice none 0 0))
theorem zer_len (n : Nat) : (zer n).length = n * 9 := by
  unfold zer
  rw [rcells_len _ _ (by simp)]
  simp
theorem made_core (n : Nat) (h2 : n ≤ 8) : madeCells (Value.cells (.agg #[.bool false, .bool false, .bool false, .bool false, .bool false, .bool false, .bool false, .bool false, .slice none 0 0])) (n * 9) = (zer n).toArray := by
  have h := made_flat [.bool false, .bool false, .bool false, .bool false, .bool false, .bool false, .bool false, .bool false, .slice none 0 0] (by simp) n
  refine Eq.trans ?_ (h.trans ?_)
  · rfl
  · congr 1
    unfold zer
    clear h h2
    induction n with
    | zero => rfl
    | succ n ih =>
      rw [List.replicate_succ, List.replicate_succ, List.replicate_succ, List.flatten_cons, rcells, ih]
      rfl
theorem run_mkBox (n : Nat) (h2 : n ≤ 8) (w : World) : (Instr.makeSlice 60 (.int .i64 n) (.int .i64 n)).run Try.prog w = .ok (.slice (some ⟨w.heap.size, 0, none⟩) n n) (w.alloc (.cells (zer n).toArray 72)) := by
  obtain ⟨i, hi, hz, hs, hb⟩ := info_of' info_core
  have h := run_makeSlice w 60 72 i _ Try.underlying60 hi hz .i64 .i64 n n (by omega) (Int.le_refl _) (by rw [hs]; simp; omega) (by rw [hb]; omega) (by omega)
  rw [hs, Int.toNat_natCast, made_core n h2] at h
  exact h
theorem rb_zer (n : Nat) (h2 : n ≤ 8) (h : St P0 w0 w F) : St P0 w0 (w.alloc (.cells (zer n).toArray 72)) (rb (.slice (some ⟨w.heap.size, 0, none⟩) n n) (List.replicate n ⟨0, [], by omega⟩) :: F) := by
  refine (h.alloc (zer n).toArray 72).imp fun P hP => ?_
  have h1 := slc_of_bk (sz := 9) (n := n) hP (by simp [zer_len]) (by unfold maxLen; omega)
  refine ⟨List.replicate n (.slice none 0 0), ?_⟩
  intro B hB
  rcases List.mem_cons.1 hB with rfl | hB
  · rw [List.length_replicate]
    exact h1
  · rcases List.mem_cons.1 hB with rfl | hB
    · have key : ∀ k : Nat, ∀ B ∈ rlists (List.replicate k (⟨0, [], by omega⟩ : MC)) (List.replicate k (Value.slice none 0 0)), B = il (.slice none 0 0) [] := by
        intro k
        induction k with
        | zero => intro B hB; simp [rlists] at hB
        | succ k ih =>
          intro B hB
          rw [List.replicate_succ, List.replicate_succ, rlists] at hB
          rcases List.mem_cons.1 hB with rfl | hB
          · rfl
          · exact ih B hB
      intro B2 hB2
      rw [key n B2 hB2]
      exact slc_nil _ _ _ _
    · obtain rfl := List.mem_singleton.1 hB
      show (List.replicate n _).length = (List.replicate n _).length
      simp
/-- Words taken. -/
def cutC (x : MC) (j : Nat) : MC := ⟨x.m, x.q.drop j, x.hm⟩
def emp (S : List MC) : Nat → List MC
  | 0 => S
  | i + 1 => (emp S i).set i (cutC (S.getD i default) (S.getD i default).q.length)
theorem emp_len (S : List MC) : ∀ i, (emp S i).length = S.length
  | 0 => rfl
  | i + 1 => by rw [emp, List.length_set, emp_len S i]
theorem emp_at (S : List MC) : ∀ i k, i ≤ k → (emp S i).getD k default = S.getD k default
  | 0, k, _ => rfl
  | i + 1, k, h => by
    rw [emp, Mb.getD_set_ne _ _ _ _ (by omega), emp_at S i k (by omega)]
theorem cut_zero (S : List MC) (i : Nat) (hi : i < S.length) : (emp S i).set i (cutC (S.getD i default) 0) = emp S i := by
  have e : cutC (S.getD i default) 0 = (emp S i).getD i default := by
    rw [emp_at S i i (Nat.le_refl _)]
    rfl
  rw [e, List.getD_eq_getElem?_getD, List.getElem?_eq_getElem (by rw [emp_len]; exact hi)]
  simp
theorem take_cut (T : List MC) (i : Nat) (hi : i < T.length) (x : MC) (j : Nat) (hj : j < x.q.length) (t z : Int) : doM (T.set i (cutC x j)) 3 (i : Int) t z = (T.set i (cutC x (j + 1)), (((x.q.getD j default).f : Int), ((x.q.getD j default).w : Int)), 0) := by
  have hl : i < (T.set i (cutC x j)).length := by simpa using hi
  have hq : ((T.set i (cutC x j)).getD i default).q = x.q.getD j default :: x.q.drop (j + 1) := by
    rw [Mb.getD_set_eq _ _ _ hi]
    show x.q.drop j = _
    rw [List.drop_eq_getElem_cons hj, List.getD_eq_getElem?_getD, List.getElem?_eq_getElem hj]
    rfl
  unfold doM
  rw [if_neg (by decide), if_neg (by decide), if_pos rfl, takeM_in _ i hl, take_cons _ i _ _ _ hq, List.set_set]
  have e : ∀ D : MC, D = cutC x j → (⟨D.m, x.q.drop (j + 1), D.hm⟩ : MC) = cutC x (j + 1) := by
    rintro _ rfl
    rfl
  rw [e _ (Mb.getD_set_eq T i (cutC x j) hi)]
theorem row4_wf {w : World} {A : Option Addr} {rows : List (List Int)} (hr : Recs 4 w A rows) (hw : ∀ q ∈ rows, q.length = 4 ∧ ∀ z ∈ q, (Lit.int .i64 z).wf = true) (i : Nat) (hi : i < rows.length) : ∃ ad k a n z, A = some ad ∧ w.cell? (ad.add (i * 4)) = some (.int .i64 k) ∧ w.cell? ⟨(ad.add (i * 4)).block, (ad.add (i * 4)).off + 1, none⟩ = some (.int .i64 a) ∧ w.cell? ⟨(ad.add (i * 4)).block, (ad.add (i * 4)).off + 2, none⟩ = some (.int .i64 n) ∧ w.cell? ⟨(ad.add (i * 4)).block, (ad.add (i * 4)).off + 3, none⟩ = some (.int .i64 z) ∧ (-9223372036854775808 ≤ z ∧ z ≤ 9223372036854775807) := by
  obtain ⟨ad, rfl, hc⟩ := hr i hi
  have h0 := hc 0 (by omega)
  have h1 := hc 1 (by omega)
  have h2 := hc 2 (by omega)
  have h3 := hc 3 (by omega)
  rw [← Go.Deep.add_add] at h1 h2 h3
  have hq := hw _ (List.getElem_mem hi)
  refine ⟨ad, _, _, _, _, rfl, h0, h1, h2, h3, ?_⟩
  have e : ((rows.getD i []).getD 3 0) ∈ rows[i] := by
    rw [List.getD_eq_getElem?_getD, List.getD_eq_getElem?_getD, List.getElem?_eq_getElem hi]
    simp only [Option.getD_some]
    rw [List.getElem?_eq_getElem (by omega)]
    exact List.getElem_mem _
  have h5 := bounds_i64 (hq.2 _ e)
  have e2 : (rows.getD i []).getD 3 0 = (rows.getD i []).getD 3 0 := rfl
  exact h5
end
end Go.Proofs.Ytiofdkkjjeljmaa.Ref09
