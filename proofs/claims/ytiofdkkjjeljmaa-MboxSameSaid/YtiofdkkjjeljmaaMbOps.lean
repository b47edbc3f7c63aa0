/- mbox's Pending, Waits, Take, Reset, Ack, Ring as steps over parts. -/
import Derived.Test.YtiofdkkjjeljmaaMbAsk
import Derived.Test.YtiofdkkjjeljmaaCellOf
import Derived.RegionTactic
namespace Go.Proofs.Ytiofdkkjjeljmaa.Mb
set_option linter.unusedVariables false
set_option linter.unusedSimpArgs false
open Go.RowKit Go.Proofs.Ytiofdkkjjeljmaa.Sep Go.Proofs.Ytiofdkkjjeljmaa.Lane Go.Proofs.Ytiofdkkjjeljmaa.CellOf

section
variable {P0 : Nat → Prop} {w0 w w' : World} {F : List Rg} {b : Nat} {S : List MC}
/-- The cells that a call of a core reads. -/
theorem mb_cells {g o c i : Nat} {ls : List Nat} {B : Rg} (hm : ls.length = S.length) (hi : i < S.length) (h : St P0 w0 w (slc 132 2 (.slice (some ⟨g, o, none⟩) S.length c) S.length (mcells S ls) :: F)) :
    w.cell? ⟨g, o + i * 2, none⟩ = some (.int .i64 ((S.getD i default).m : Int)) ∧ w.cell? ⟨g, o + i * 2 + 1, none⟩ = some (.pointer (some ⟨ls.getD i 0, 0, none⟩)) ∧ (∀ j, w.frozen? ⟨g, j, none⟩ = false) := by
  obtain ⟨P, ⟨Q, Q2, _, _, _, h2, _⟩, _⟩ := St.step (L := [slc 132 2 (.slice (some ⟨g, o, none⟩) S.length c) S.length (mcells S ls)]) h
  obtain ⟨g', o', e, _, _, _, hc, hf⟩ := slc_cells h2 (by omega)
  cases e
  have h5 := mcells_at S ls i hm hi
  exact ⟨hc _ _ h5.1, by rw [Nat.add_assoc]; exact hc _ _ h5.2, hf⟩
/-- What a core's bits are, and the error. -/
def pendM (S : List MC) (core : Int) : Int × Int := if 0 ≤ core ∧ core < S.length then (((S.getD core.toNat default).m : Int), 0) else (0, 3)
theorem pend_clo (g p r : Nat) (m : Int) (w : World) {t : TypeId} {v : Value} (hc : w.cell? ⟨g, p, none⟩ = some (.int .i64 m)) (hr : w.heap[r]? = some (.cells #[v] t (0, 0))) :
    Calls Try.prog 74 #[.pointer (some ⟨g, p, none⟩), .pointer (some ⟨r, 0, none⟩)] w fun e w' => e = .returned (.int .i64 0) ∧ w' = w.setCell ⟨r, 0, none⟩ (.int .i64 m) := by
  have c0 := cell_of_block hr 0
  have f0 := free_of_block hr 0
  clear hr
  go_enter Try.func74, Try.ntmps74
  go_wp2
  go_ret
  exact ⟨rfl, rfl⟩
set_option maxHeartbeats 1000000 in
theorem Pending_st (h : St P0 w0 w (mb b S :: F)) (core : Int) : Calls Try.prog 33 #[.pointer (some ⟨b, 0, none⟩), .int .i64 core] w fun e w' => e = .returned (.tuple #[.int .i64 (pendM S core).1, .int .i64 (pendM S core).2]) ∧ St P0 w0 w' (mb b S :: F) := by
  obtain ⟨g, o, c, ls, hm, hc, h1⟩ := mb_form h
  have ha := h1.alloc #[.int .i64 0] 3
  have hb : (w.alloc (.cells #[.int .i64 0] 3)).cell? ⟨b, 0, none⟩ = some (.slice (some ⟨g, o, none⟩) S.length c) := cell_of_block (ha.get 1).bk_at 0
  by_cases hi : 0 ≤ core ∧ core < S.length
  · obtain ⟨i, rfl⟩ := Int.eq_ofNat_of_zero_le hi.1
    have hi' : i < S.length := by omega
    have E : pendM S i = (((S.getD i default).m : Int), 0) := by unfold pendM; rw [if_pos hi]; rfl
    rw [E]
    have hk := mb_cells (B := pu True) hm.1 hi' (ha.get 2)
    have HK := Lib.hid (ask_Pending b g o S.length c i (.pointer (some ⟨w.heap.size, 0, none⟩)) _ hb hi' (R := fun w' => St P0 w0 w' (bk w.heap.size 3 #[.int .i64 ((S.getD i default).m : Int)] :: bk b 128 #[.slice (some ⟨g, o, none⟩) S.length c] :: slc 132 2 (.slice (some ⟨g, o, none⟩) S.length c) S.length (mcells S ls) :: big (mlanes S ls) :: F)) ((pend_clo g (o + i * 2) w.heap.size _ _ hk.1 ha.bk_at).mono fun e w' hh => ⟨hh.1, by rw [hh.2]; exact ha.set 0 _⟩))
    have HM := Lib.hid hm
    clear h h1 ha hb hk E hm hc hi hi'
    generalize ((S.getD i default).m : Int) = m at *
    go_enter Try.func33, Try.ntmps33
    go_wp2_with (go_at_call 73; refine HK.out.mono ?_; rintro e w2 ⟨rfl, hs⟩; have HS := Lib.hid hs; have c0 := cell_of_block hs.bk_at 0; have f0 := free_of_block hs.bk_at 0; clear hs)
    refine bodyPost_ret (v := .tuple #[.int .i64 m, .int .i64 0]) ?_ rfl ⟨rfl, mb_shut_any HM.out (HS.out.set 0 (.int .i64 m)).drop⟩
    simp [results, Try.results33, go_sem, *]
  · have E : pendM S core = (0, 3) := if_neg hi
    rw [E]
    have HK := Lib.hid (fun k caps => ask_no b S.length c (some ⟨g, o, none⟩) core k caps _ hb (by omega))
    have HS := Lib.hid ha
    have c0 := cell_of_block ha.bk_at 0
    have f0 := free_of_block ha.bk_at 0
    have HM := Lib.hid hm
    clear h h1 ha hb E hm hc hi
    go_enter Try.func33, Try.ntmps33
    go_wp2_with (go_at_call 73; refine (HK.out _ _).mono ?_; rintro e w2 ⟨rfl, rfl⟩)
    refine bodyPost_ret (v := .tuple #[.int .i64 0, .int .i64 3]) ?_ rfl ⟨rfl, mb_shut_any HM.out HS.out.drop⟩
    simp [results, Try.results33, go_sem, *]
/-- How many words wait. -/
def waitM (S : List MC) (core : Int) : Int := if 0 ≤ core ∧ core < S.length then ((S.getD core.toNat default).q.length : Int) else 0
theorem Len_q {l R n : Nat} {q : List Int} (h : QAt w l R n q) : Calls Try.prog 76 #[.pointer (some ⟨l, 0, none⟩)] w fun e w' => e = .returned (.int .i64 q.length) ∧ w' = w := by
  obtain ⟨room, f, h1, h2, h3⟩ := h
  exact Len_walk l R f _ room w h1
theorem wait_clo (g p r l : Nat) (n : Nat) (w : World) {t : TypeId} {v : Value} (hc : w.cell? ⟨g, p + 1, none⟩ = some (.pointer (some ⟨l, 0, none⟩))) (hr : w.heap[r]? = some (.cells #[v] t (0, 0))) (hL : Calls Try.prog 76 #[.pointer (some ⟨l, 0, none⟩)] w fun e w' => e = .returned (.int .i64 n) ∧ w' = w) :
    Calls Try.prog 75 #[.pointer (some ⟨g, p, none⟩), .pointer (some ⟨r, 0, none⟩)] w fun e w' => e = .returned (.int .i64 0) ∧ w' = w.setCell ⟨r, 0, none⟩ (.int .i64 n) := by
  have c0 := cell_of_block hr 0
  have f0 := free_of_block hr 0
  have HL := Lib.hid hL
  clear hr hL
  go_enter Try.func75, Try.ntmps75
  go_wp2_with (go_at_call 76; refine HL.out.mono ?_; rintro e w' ⟨rfl, rfl⟩)
  go_ret
  exact ⟨rfl, rfl⟩
set_option maxHeartbeats 1000000 in
theorem Waits_st (h : St P0 w0 w (mb b S :: F)) (core : Int) : Calls Try.prog 35 #[.pointer (some ⟨b, 0, none⟩), .int .i64 core] w fun e w' => e = .returned (.int .i64 (waitM S core)) ∧ St P0 w0 w' (mb b S :: F) := by
  obtain ⟨g, o, c, ls, hm, hc, h1⟩ := mb_form h
  have ha := h1.alloc #[.int .i64 0] 3
  have hb : (w.alloc (.cells #[.int .i64 0] 3)).cell? ⟨b, 0, none⟩ = some (.slice (some ⟨g, o, none⟩) S.length c) := cell_of_block (ha.get 1).bk_at 0
  by_cases hi : 0 ≤ core ∧ core < S.length
  · obtain ⟨i, rfl⟩ := Int.eq_ofNat_of_zero_le hi.1
    have hi' : i < S.length := by omega
    have E : waitM S i = ((S.getD i default).q.length : Int) := by unfold waitM; rw [if_pos hi]; rfl
    rw [E]
    have hk := mb_cells (B := pu True) hm.1 hi' (ha.get 2)
    obtain ⟨R, hq, _⟩ := ln_step (mb_open hm.1 hi' (ha.put 3))
    have hl := Len_q hq
    rw [List.length_map] at hl
    have HK := Lib.hid (ask_Waits b g o S.length c i (.pointer (some ⟨w.heap.size, 0, none⟩)) _ hb hi' (R := fun w' => St P0 w0 w' (bk w.heap.size 3 #[.int .i64 ((S.getD i default).q.length : Int)] :: bk b 128 #[.slice (some ⟨g, o, none⟩) S.length c] :: slc 132 2 (.slice (some ⟨g, o, none⟩) S.length c) S.length (mcells S ls) :: big (mlanes S ls) :: F)) ((wait_clo g (o + i * 2) w.heap.size _ _ _ hk.2.1 ha.bk_at hl).mono fun e w' hh => ⟨hh.1, by rw [hh.2]; exact ha.set 0 _⟩))
    have HM := Lib.hid hm
    clear h h1 ha hb hk E hm hc hi hi' hq hl
    generalize ((S.getD i default).q.length : Int) = m at *
    go_enter Try.func35, Try.ntmps35
    go_wp2_with (go_at_call 73; refine HK.out.mono ?_; rintro e w2 ⟨rfl, hs⟩; have HS := Lib.hid hs; have c0 := cell_of_block hs.bk_at 0; have f0 := free_of_block hs.bk_at 0; clear hs)
    refine bodyPost_ret (v := .int .i64 m) ?_ rfl ⟨rfl, mb_shut_any HM.out (HS.out.set 0 (.int .i64 m)).drop⟩
    simp [results, Try.results35, go_sem, *]
  · have E : waitM S core = 0 := if_neg hi
    rw [E]
    have HK := Lib.hid (fun k caps => ask_no b S.length c (some ⟨g, o, none⟩) core k caps _ hb (by omega))
    have HS := Lib.hid ha
    have c0 := cell_of_block ha.bk_at 0
    have f0 := free_of_block ha.bk_at 0
    have HM := Lib.hid hm
    clear h h1 ha hb E hm hc hi
    go_enter Try.func35, Try.ntmps35
    go_wp2_with (go_at_call 73; refine (HK.out _ _).mono ?_; rintro e w2 ⟨rfl, rfl⟩)
    refine bodyPost_ret (v := .int .i64 0) ?_ rfl ⟨rfl, mb_shut_any HM.out HS.out.drop⟩
    simp [results, Try.results35, go_sem, *]
/-- A lane's Take. -/
theorem lnTake_st {l : Nat} {q : List Int} (h : St P0 w0 w (ln l q :: F)) : Calls Try.prog 99 #[.pointer (some ⟨l, 0, none⟩)] w fun e w' => e = .returned (.tuple #[.int .i64 (q.headD 0), .int .i64 (if q.isEmpty = true then 6 else 0)]) ∧ St P0 w0 w' (ln l q.tail :: F) := by
  obtain ⟨R, hq, hs⟩ := ln_step h
  refine (Take_q l R 16 q 0 w hq).mono ?_
  rintro e w' ⟨rfl, h2, h3⟩
  cases q with
  | nil => exact ⟨rfl, hs h2 h3⟩
  | cons y t => exact ⟨rfl, hs h2 h3⟩
theorem enc_div (x : It) : wrap64 ((enc x).tdiv 65536) = (x.f : Int) ∧ (enc x).tmod 65536 = (x.w : Int) := by
  have h1 := x.hf
  have h2 := x.hw
  have e1 : (enc x).tdiv 65536 = (x.f : Int) := by
    unfold enc
    rw [Int.tdiv_eq_ediv_of_nonneg (by omega)]
    omega
  have e2 : (enc x).tmod 65536 = (x.w : Int) := by
    unfold enc
    rw [Int.tmod_eq_emod_of_nonneg (by omega)]
    omega
  exact ⟨by rw [e1]; unfold wrap64; omega, e2⟩
theorem take_clo (g p r1 r2 l : Nat) (q : List It) (t1 t2 : TypeId) (hne : r1 ≠ r2) (hc : w.cell? ⟨g, p + 1, none⟩ = some (.pointer (some ⟨l, 0, none⟩))) (h : St P0 w0 w (ln l (q.map enc) :: bk r1 t1 #[.int .i64 0] :: bk r2 t2 #[.int .i64 0] :: F)) :
    Calls Try.prog 98 #[.pointer (some ⟨g, p, none⟩), .pointer (some ⟨r1, 0, none⟩), .pointer (some ⟨r2, 0, none⟩)] w fun e w' => e = .returned (.int .i64 (if q.isEmpty = true then 6 else 0)) ∧ St P0 w0 w' (bk r2 t2 #[.int .i64 (q.headD default).w] :: bk r1 t1 #[.int .i64 (q.headD default).f] :: ln l (q.tail.map enc) :: F) := by
  have HT := Lib.hid (lnTake_st h)
  have e1 : (q.map enc).isEmpty = q.isEmpty := by cases q <;> rfl
  have e2 : (q.map enc).headD 0 = enc (q.headD default) := by cases q <;> rfl
  rw [e1, e2, ← List.map_tail] at HT
  clear e1 e2 h
  obtain ⟨z, hz⟩ : ∃ z : Int, (if q.isEmpty = true then 6 else 0) = z := ⟨_, rfl⟩
  rw [hz] at HT ⊢
  clear hz
  generalize q.headD default = x at *
  have hne' : r2 ≠ r1 := fun e => hne e.symm
  have d1 := (enc_div x).1
  have d2 := (enc_div x).2
  go_enter Try.func98, Try.ntmps98
  go_wp2_with (go_at_call 99; refine HT.out.mono ?_; rintro e w2 ⟨rfl, hs⟩; have HS := Lib.hid hs; have c1 : w2.cell? ⟨r1, 0, none⟩ = some (.int .i64 0) := cell_of_block (hs.get 1).bk_at 0; have f1 : w2.frozen? ⟨r1, 0, none⟩ = false := free_of_block (hs.get 1).bk_at 0; have c2 : w2.cell? ⟨r2, 0, none⟩ = some (.int .i64 0) := cell_of_block (hs.get 2).bk_at 0; have f2 : w2.frozen? ⟨r2, 0, none⟩ = false := free_of_block (hs.get 2).bk_at 0; clear hs)
  go_ret
  exact ⟨rfl, ((((HS.out.get 1).set 0 (.int .i64 (x.f : Int))).get 2).set 0 (.int .i64 (x.w : Int)))⟩
/-- What Take does. -/
def takeM (S : List MC) (core : Int) : List MC × Int × Int × Int :=
  if 0 ≤ core ∧ core < S.length then
    (S.set core.toNat ⟨(S.getD core.toNat default).m, (S.getD core.toNat default).q.tail, (S.getD core.toNat default).hm⟩, ((S.getD core.toNat default).q.headD default).f, ((S.getD core.toNat default).q.headD default).w, if (S.getD core.toNat default).q.isEmpty = true then 6 else 0)
  else (S, 0, 0, 3)
theorem mcells_keep {ls : List Nat} {i : Nat} (hm : ls.length = S.length) (hi : i < S.length) : (mcells S ls).set (i * 2) (.int .i64 ((S.getD i default).m : Int)) = mcells S ls := by
  have h := (mcells_at S ls i hm hi).1
  obtain ⟨hl, he⟩ := List.getElem?_eq_some_iff.1 h
  rw [← he, List.set_getElem_self]
set_option maxHeartbeats 2000000 in
theorem Take_st (h : St P0 w0 w (mb b S :: F)) (core : Int) : Calls Try.prog 65 #[.pointer (some ⟨b, 0, none⟩), .int .i64 core] w fun e w' => e = .returned (.tuple #[.int .i64 (takeM S core).2.1, .int .i64 (takeM S core).2.2.1, .int .i64 (takeM S core).2.2.2]) ∧ St P0 w0 w' (mb b (takeM S core).1 :: F) := by
  obtain ⟨g, o, c, ls, hm, hc, h1⟩ := mb_form h
  have ha := (h1.alloc #[.int .i64 0] 3).alloc #[.int .i64 0] 3
  rw [World.size_alloc] at ha
  have hb : ((w.alloc (.cells #[.int .i64 0] 3)).alloc (.cells #[.int .i64 0] 3)).cell? ⟨b, 0, none⟩ = some (.slice (some ⟨g, o, none⟩) S.length c) := cell_of_block (ha.get 2).bk_at 0
  by_cases hi : 0 ≤ core ∧ core < S.length
  · obtain ⟨i, rfl⟩ := Int.eq_ofNat_of_zero_le hi.1
    have hi' : i < S.length := by omega
    have E : takeM S i = (S.set i ⟨(S.getD i default).m, (S.getD i default).q.tail, (S.getD i default).hm⟩, (((S.getD i default).q.headD default).f : Int), (((S.getD i default).q.headD default).w : Int), if (S.getD i default).q.isEmpty = true then 6 else 0) := by unfold takeM; rw [if_pos hi]; rfl
    rw [E]
    have hk := mb_cells (B := pu True) hm.1 hi' (ha.get 3)
    have ho := mb_open hm.1 hi' (((ha.get 4).get 4).get 4)
    rw [← mcells_keep hm.1 hi'] at ho
    have HK := Lib.hid (ask_Take b g o S.length c i (.pointer (some ⟨w.heap.size, 0, none⟩)) (.pointer (some ⟨w.heap.size + 1, 0, none⟩)) _ hb hi' (take_clo (F := _ :: _ :: _ :: F) g (o + i * 2) w.heap.size (w.heap.size + 1) _ _ 3 3 (by omega) hk.2.1 ((((ho.get 4).get 5).get 2))))
    have HM := Lib.hid hm
    have HI := Lib.hid hi'
    clear h h1 ha hb hk E hm hc hi hi' ho
    obtain ⟨z, hz⟩ : ∃ z : Int, (if (S.getD i default).q.isEmpty = true then 6 else 0) = z := ⟨_, rfl⟩
    rw [hz] at HK ⊢
    clear hz
    generalize (S.getD i default).q.headD default = x at *
    have hne := show w.heap.size ≠ w.heap.size + 1 by omega
    go_enter Try.func65, Try.ntmps65
    go_wp2_with (go_at_call 73; refine HK.out.mono ?_; rintro e w2 ⟨rfl, hs⟩; have HS := Lib.hid hs; have c1 : w2.cell? ⟨w.heap.size, 0, none⟩ = some (.int .i64 (x.f : Int)) := cell_of_block (hs.get 1).bk_at 0; have f1 : w2.frozen? ⟨w.heap.size, 0, none⟩ = false := free_of_block (hs.get 1).bk_at 0; have c2 : w2.cell? ⟨w.heap.size + 1, 0, none⟩ = some (.int .i64 (x.w : Int)) := cell_of_block hs.bk_at 0; have f2 : w2.frozen? ⟨w.heap.size + 1, 0, none⟩ = false := free_of_block hs.bk_at 0; clear hs)
    go_region
    all_goals (try go_wp2)
    all_goals
      refine bodyPost_ret (v := .tuple #[.int .i64 (x.f : Int), .int .i64 (x.w : Int), .int .i64 z]) ?_ rfl ⟨rfl, ?_⟩
      · simp [results, Try.results65, go_sem, *]
      · exact mb_close HM.out HI.out ((((HS.out.get 1).set 0 (.int .i64 (x.f : Int))).get 1).set 0 (.int .i64 (x.w : Int))).drew.drop.drop
  · have E : takeM S core = (S, 0, 0, 3) := if_neg hi
    rw [E]
    have HK := Lib.hid (fun k caps => ask_no b S.length c (some ⟨g, o, none⟩) core k caps _ hb (by omega))
    have HS := Lib.hid ha
    have c1 : ((w.alloc (.cells #[.int .i64 0] 3)).alloc (.cells #[.int .i64 0] 3)).cell? ⟨w.heap.size, 0, none⟩ = some (.int .i64 0) := cell_of_block (ha.get 1).bk_at 0
    have f1 : ((w.alloc (.cells #[.int .i64 0] 3)).alloc (.cells #[.int .i64 0] 3)).frozen? ⟨w.heap.size, 0, none⟩ = false := free_of_block (ha.get 1).bk_at 0
    have c2 : ((w.alloc (.cells #[.int .i64 0] 3)).alloc (.cells #[.int .i64 0] 3)).cell? ⟨w.heap.size + 1, 0, none⟩ = some (.int .i64 0) := cell_of_block ha.bk_at 0
    have f2 : ((w.alloc (.cells #[.int .i64 0] 3)).alloc (.cells #[.int .i64 0] 3)).frozen? ⟨w.heap.size + 1, 0, none⟩ = false := free_of_block ha.bk_at 0
    have HM := Lib.hid hm
    clear h h1 ha hb E hm hc hi
    have hne := show w.heap.size ≠ w.heap.size + 1 by omega
    go_enter Try.func65, Try.ntmps65
    go_wp2_with (go_at_call 73; refine (HK.out _ _).mono ?_; rintro e w2 ⟨rfl, rfl⟩)
    go_region
    all_goals (try go_wp2)
    all_goals
      refine bodyPost_ret (v := .tuple #[.int .i64 0, .int .i64 0, .int .i64 3]) ?_ rfl ⟨rfl, ?_⟩
      · simp [results, Try.results65, go_sem, *]
      · exact mb_shut_any HM.out HS.out.drew.drop.drop
end
end Go.Proofs.Ytiofdkkjjeljmaa.Mb
