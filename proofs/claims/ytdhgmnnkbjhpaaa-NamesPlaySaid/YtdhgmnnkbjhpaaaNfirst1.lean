/- few and do of the laws of names. -/
import Derived.Test.YtdhgmnnkbjhpaaaNfirst0
namespace Go.Proofs.Ytdhgmnnkbjhpaaa.Ntab
set_option linter.unusedVariables false
set_option linter.unusedSimpArgs false
open Go.RowKit Go.Proofs.Ytdhgmnnkbjhpaaa.Sep Go.Proofs.Ytdhgmnnkbjhpaaa.Mp Go.Proofs.Ytdhgmnnkbjhpaaa.PNamesPlay Go.Proofs.Ytdhgmnnkbjhpaaa.NoteOk Go.Proofs.YtdhgmnnkbjhpaaaW.PrintWords
open Go.Maps (Keyed)

def fewB (l : List S58) : Bool := decide (l.length ≤ 150) && l.all fun x => decide (x.f2.f1.size ≤ 100)
theorem few_l (l : List S58) (hb : l.length ≤ 1000) : ∀ (d i k : Nat), i + d = l.length → d < k → switchyardlaw29_few.l0 k l (l.length : Int) i = some ((l.drop i).all fun x => decide (x.f2.f1.size ≤ 100))
  | 0, i, k, hi, hk => by
    obtain ⟨k, rfl⟩ : ∃ q, k = q + 1 := ⟨k - 1, by omega⟩
    simp only [switchyardlaw29_few.l0]
    rw [if_neg (by omega), List.drop_eq_nil_of_le (by omega)]
    rfl
  | d + 1, i, k, hi, hk => by
    obtain ⟨k, rfl⟩ : ∃ q, k = q + 1 := ⟨k - 1, by omega⟩
    have h : i < l.length := by omega
    have e1 : rd_T58 l i = l[i] := by simp [rd_T58, List.getD_eq_getElem?_getD, List.getElem?_eq_getElem h]
    simp only [switchyardlaw29_few.l0]
    rw [if_pos (by omega), if_pos (by omega), if_pos (by omega), step64 (by omega), few_l l hb d (i + 1) k (by omega) (by omega), e1, List.drop_eq_getElem_cons h, List.all_cons]
    by_cases hs : (l[i]).f2.f1.size ≤ 100
    · rw [if_neg (by omega), decide_eq_true hs, Bool.true_and]
    · rw [if_pos (by omega), decide_eq_false hs, Bool.false_and]
theorem few_f (l : List S58) (hm : l.length ≤ maxLen) : switchyardlaw29_few.f 1001 l = some (fewB l) := by
  unfold switchyardlaw29_few.f fewB
  by_cases h : l.length ≤ 150
  · have h1 := few_l l (by omega) l.length 0 1001 (by omega) (by omega)
    rw [List.drop_zero] at h1
    rw [if_neg (by omega), decide_eq_true h, Bool.true_and]
    exact h1
  · rw [if_pos (by omega), decide_eq_false h, Bool.false_and]
theorem few_q (l : List S58) (A : Option Addr) (c : Nat) (w : World) (hr : Kd.C k58 w A l.length l) (hc : l.length ≤ c) (hm : c ≤ maxLen) : Calls Try.prog 25 #[.slice A l.length c] w fun e w' => e = .returned (.bool (fewB l)) ∧ Up w w' :=
  switchyardlaw29_few.calls 1001 A c l _ w hr hc (few_f l (by omega))
section
variable {P0 : Nat → Prop} {w0 w w' : World} {F : List Rg} {t : Nat} {L : List S66}
set_option maxHeartbeats 2000000 in
set_option maxRecDepth 100000 in
theorem do_st (h : St P0 w0 w (tab t L :: F)) (k core : Int) (g : Bool) (s : ByteArray) (a : Int) (hs : s.size ≤ 1000) (wa : (Lit.int .i64 a).wf = true) :
    Calls Try.prog 27 #[.pointer (some ⟨t, 0, none⟩), .agg #[.int .i64 k, .int .i64 core, .bool g, .string s, .int .i64 a]] w fun e w' =>
      e = .returned (.tuple #[.int .i64 (doN L k core g s a).2.1, .int .i64 (doN L k core g s a).2.2]) ∧ St P0 w0 w' (tab t (doN L k core g s a).1 :: F) := by
  have HS := Lib.hid (h.allocU (.cells #[.int .i64 k, .int .i64 core, .bool g, .string s, .int .i64 a] 58))
  clear h
  by_cases hk : k = 1
  · have e0 : doN L k core g s a = (dropN L core, ((ofN L core).length : Int), 0) := by unfold doN; rw [if_pos hk]
    rw [e0]
    subst hk
    clear e0
    have HD := Lib.hid (Drop_st HS.out core)
    clear HS
    dsimp only
    generalize (ofN L core).length = nl at *
    generalize dropN L core = L' at *
    go_enter Try.func27, Try.ntmps27
    go_wp2_with (go_at_call 33; refine HD.out.mono ?_; rintro e w2 ⟨rfl, hs⟩; have HS2 := Lib.hid hs; clear hs)
    go_ret2
    exact ⟨rfl, HS2.out⟩
  · have e0 : doN L k core g s a = ((tellN L core g s a).1, 0, (tellN L core g s a).2) := by unfold doN; rw [if_neg hk]
    rw [e0]
    have hk1 : (k == 1) = false := beq_eq_false_iff_ne.2 hk
    clear e0
    have HD := Lib.hid (Tell_st HS.out core g s a hs wa)
    clear HS
    dsimp only
    generalize (tellN L core g s a) = r at *
    obtain ⟨L', e'⟩ := r
    dsimp only at *
    go_enter Try.func27, Try.ntmps27
    go_wp2_with (go_at_call 22; refine HD.out.mono ?_; rintro e w2 ⟨rfl, hs⟩; have HS2 := Lib.hid hs; clear hs)
    go_ret2
    exact ⟨rfl, HS2.out⟩
end
end Go.Proofs.Ytdhgmnnkbjhpaaa.Ntab
