/- mbox's Reset, Ack and Ring as steps over parts. -/
import Derived.Test.YtiofdkkjjeljmaaMbOps
import Derived.Deep.RegionWith
namespace Go.Proofs.Ytiofdkkjjeljmaa.Mb
set_option linter.unusedVariables false
set_option linter.unusedSimpArgs false
open Go.RowKit Go.Proofs.Ytiofdkkjjeljmaa.Sep Go.Proofs.Ytiofdkkjjeljmaa.Lane Go.Proofs.Ytiofdkkjjeljmaa.CellOf

def ackN (m : Nat) (k : Int) : Nat := (BitVec.ofInt 64 (m : Int) &&& ~~~ BitVec.ofInt 64 k).toNat
theorem ofInt_nat (m : Nat) (h : m < 256) : (BitVec.ofInt 64 (m : Int)).toNat = m := by
  simp
  omega
theorem ackN_lt (m : Nat) (k : Int) (h : m < 256) : ackN m k < 256 := by
  unfold ackN
  rw [BitVec.toNat_and, ofInt_nat m h]
  exact Nat.lt_of_le_of_lt Nat.and_le_left h
theorem wrap_small (n : Nat) (h : n < 256) : IntKind.wrap .i64 (n : Int) = (n : Int) := by
  simp only [IntKind.wrap, IntKind.bits, IntKind.signed]
  first | omega | (simp; omega)
theorem bits_ack (m : Nat) (k : Int) (h : m < 256) : bits .andNot .i64 (m : Int) k = (ackN m k : Int) := wrap_small _ (ackN_lt m k h)
def orN (m f : Nat) : Nat := m ||| 2 ^ f
theorem orN_lt (m f : Nat) (h : m < 256) (hf : f < 8) : orN m f < 256 := by
  have h1 : 2 ^ f < 2 ^ 8 := Nat.pow_lt_pow_right (by omega) hf
  exact Nat.or_lt_two_pow (n := 8) h h1
theorem bits_or (m f : Nat) (h : m < 256) (hf : f < 8) : bits .or .i64 (m : Int) (2 ^ f) = (orN m f : Int) := by
  have h1 : 2 ^ f < 2 ^ 8 := Nat.pow_lt_pow_right (by omega) hf
  have e : bits .or .i64 (m : Int) (2 ^ f) = IntKind.wrap .i64 (((BitVec.ofInt 64 (m : Int)) ||| (BitVec.ofInt 64 (2 ^ f))).toNat : Int) := rfl
  have e2 : ((2 : Int) ^ f) = ((2 ^ f : Nat) : Int) := by simp
  rw [e, BitVec.toNat_or, e2, ofInt_nat m h, ofInt_nat (2 ^ f) h1]
  exact wrap_small _ (orN_lt m f h hf)
section
variable {P0 : Nat → Prop} {w0 w w' : World} {F : List Rg} {b : Nat} {S : List MC}
theorem lnClear_st {l : Nat} {q : List Int} (h : St P0 w0 w (ln l q :: F)) : Calls Try.prog 102 #[.pointer (some ⟨l, 0, none⟩)] w fun e w' => e = .returned (.int .i64 (q.length : Int)) ∧ St P0 w0 w' (ln l [] :: F) := by
  obtain ⟨R, hq, hs⟩ := ln_step h
  refine (Clear_q l R 16 q 0 w hq).mono ?_
  rintro e w' ⟨rfl, h2, h3⟩
  have e : doL 16 q 2 0 = ([], (q.length : Int), 0) := by simp [doL]
  rw [e] at h2 ⊢
  exact ⟨rfl, hs h2 h3⟩
set_option maxHeartbeats 1000000 in
theorem reset_clo (g o n c i r l : Nat) (q : List Int) (xs : List Value) (t e' : TypeId) (m : Int) (hi : i * 2 < n * 2) (hne : r ≠ g) (hc0 : w.cell? ⟨g, o + i * 2, none⟩ = some (.int .i64 m)) (hc : w.cell? ⟨g, o + i * 2 + 1, none⟩ = some (.pointer (some ⟨l, 0, none⟩))) (hf : w.frozen? ⟨g, o + i * 2, none⟩ = false)
    (h : St P0 w0 w (slc e' 2 (.slice (some ⟨g, o, none⟩) n c) n xs :: ln l q :: bk r t #[.int .i64 0] :: F)) :
    Calls Try.prog 101 #[.pointer (some ⟨g, o + i * 2, none⟩), .pointer (some ⟨r, 0, none⟩)] w fun e w' => e = .returned (.int .i64 0) ∧ St P0 w0 w' (bk r t #[.int .i64 (q.length : Int)] :: ln l [] :: slc e' 2 (.slice (some ⟨g, o, none⟩) n c) n (xs.set (i * 2) (.int .i64 0)) :: F) := by
  have h2 := (h.slc_set (i * 2) (.int .i64 0) hi).get 1
  have HT := Lib.hid (lnClear_st h2)
  clear h h2
  go_enter Try.func101, Try.ntmps101
  go_wp2_with (go_at_call 102; refine HT.out.mono ?_; rintro e w2 ⟨rfl, hs⟩; have HS := Lib.hid hs; have c1 : w2.cell? ⟨r, 0, none⟩ = some (.int .i64 0) := cell_of_block (hs.get 2).bk_at 0; have f1 : w2.frozen? ⟨r, 0, none⟩ = false := free_of_block (hs.get 2).bk_at 0; clear hs)
  go_ret
  exact ⟨rfl, (HS.out.get 2).set 0 (.int .i64 (q.length : Int))⟩
set_option maxHeartbeats 1000000 in
theorem ack_clo (g o n c i r m : Nat) (xs : List Value) (e' : TypeId) (k : Int) (hm8 : m < 256) (hi : i * 2 < n * 2) (hc0 : w.cell? ⟨g, o + i * 2, none⟩ = some (.int .i64 (m : Int))) (hr : w.cell? ⟨r, 0, none⟩ = some (.int .i64 k)) (hf : w.frozen? ⟨g, o + i * 2, none⟩ = false)
    (h : St P0 w0 w (slc e' 2 (.slice (some ⟨g, o, none⟩) n c) n xs :: F)) :
    Calls Try.prog 100 #[.pointer (some ⟨g, o + i * 2, none⟩), .pointer (some ⟨r, 0, none⟩)] w fun e w' => e = .returned (.int .i64 0) ∧ St P0 w0 w' (slc e' 2 (.slice (some ⟨g, o, none⟩) n c) n (xs.set (i * 2) (.int .i64 (ackN m k : Int))) :: F) := by
  have HS := Lib.hid h
  have HB := Lib.hid (bits_ack m k hm8)
  clear h
  go_enter Try.func100, Try.ntmps100
  go_wp2_with fail
  go_region
  all_goals (try go_wp2)
  all_goals go_ret
  refine ⟨rfl, ?_⟩
  rw [HB.out]
  exact (HS.out.slc_set (i * 2) (.int .i64 (ackN m k : Int)) hi).drew
/-- A lane's Put. -/
theorem lnPut_st {l : Nat} {q : List Int} (h : St P0 w0 w (ln l q :: F)) (x : Int) : Calls Try.prog 97 #[.pointer (some ⟨l, 0, none⟩), .int .i64 x] w fun e w' => e = .returned (.int .i64 (if q.length = 16 then 5 else 0)) ∧ St P0 w0 w' (ln l (if q.length = 16 then q else q ++ [x]) :: F) := by
  obtain ⟨R, hq, hs⟩ := ln_step h
  refine (Put_q l R 16 q x w hq).mono ?_
  rintro e w' ⟨rfl, h2, h3⟩
  unfold doL at h2 ⊢
  rw [if_pos rfl] at h2 ⊢
  by_cases hl : q.length = 16
  · rw [if_pos hl] at h2 ⊢
    rw [if_pos hl, if_pos hl]
    exact ⟨rfl, hs h2 h3⟩
  · rw [if_neg hl] at h2 ⊢
    rw [if_neg hl, if_neg hl]
    exact ⟨rfl, hs h2 h3⟩
theorem pow_small (f : Nat) (hf : f < 8) : wrap64 (2 ^ f) = 2 ^ f := by
  have h1 : 2 ^ f < 2 ^ 8 := Nat.pow_lt_pow_right (by omega) hf
  have e2 : ((2 : Int) ^ f) = ((2 ^ f : Nat) : Int) := by simp
  rw [e2]
  generalize 2 ^ f = p at h1
  unfold wrap64
  omega
theorem wrap_in (n : Int) (h0 : 0 ≤ n) (h1 : n ≤ 1000000) : IntKind.wrap .i64 n = n := by
  simp only [IntKind.wrap, IntKind.bits, IntKind.signed]
  first | omega | (simp; omega)
theorem wrap_enc (f : Nat) (W : Int) (hf : f < 8) (hW : 0 ≤ W ∧ W ≤ 65535) : IntKind.wrap .i64 (IntKind.wrap .i64 ((f : Int) * 65536) + W) = (f : Int) * 65536 + W := by
  rw [wrap_in ((f : Int) * 65536) (by omega) (by omega), wrap_in _ (by omega) (by omega)]
set_option maxHeartbeats 2000000 in
theorem ring2_clo (g o n c i rw_ rf l : Nat) (q : List Int) (xs : List Value) (t1 t2 e' : TypeId) (W : Int) (f m : Nat) (hf8 : f < 8) (hm8 : m < 256) (hi : i < n) (hx0 : xs[i * 2]? = some (.int .i64 (m : Int))) (hx1 : xs[i * 2 + 1]? = some (.pointer (some ⟨l, 0, none⟩))) (hW : 0 ≤ W ∧ W ≤ 65535)
    (h : St P0 w0 w (slc e' 2 (.slice (some ⟨g, o, none⟩) n c) n xs :: ln l q :: bk rw_ t1 #[.int .i64 W] :: bk rf t2 #[.int .i64 (f : Int)] :: F)) :
    Calls Try.prog 95 #[.pointer (some ⟨g, o + i * 2, none⟩), .pointer (some ⟨rw_, 0, none⟩), .pointer (some ⟨rf, 0, none⟩)] w fun e w' => e = .returned (.int .i64 (if q.length = 16 then 5 else 0)) ∧ St P0 w0 w' (ln l (if q.length = 16 then q else q ++ [(f : Int) * 65536 + W]) :: slc e' 2 (.slice (some ⟨g, o, none⟩) n c) n (xs.set (i * 2) (.int .i64 (orN m f : Int))) :: bk rw_ t1 #[.int .i64 W] :: bk rf t2 #[.int .i64 (f : Int)] :: F) := by
  have c1 : w.cell? ⟨rw_, 0, none⟩ = some (.int .i64 W) := cell_of_block (h.get 2).bk_at 0
  have c2 : w.cell? ⟨rf, 0, none⟩ = some (.int .i64 (f : Int)) := cell_of_block (h.get 3).bk_at 0
  have hcs : w.cell? ⟨g, o + i * 2, none⟩ = some (.int .i64 (m : Int)) ∧ ∀ j, w.frozen? ⟨g, j, none⟩ = false := by
    obtain ⟨P, ⟨Q, Q2, _, _, _, h2, _⟩, _⟩ := St.step (L := [slc e' 2 (.slice (some ⟨g, o, none⟩) n c) n xs]) h
    obtain ⟨g', o', e, _, _, _, hc, hf⟩ := slc_cells h2 (by omega)
    cases e
    exact ⟨hc _ _ hx0, hf⟩
  have hc0 := hcs.1
  have hf0 := hcs.2 (o + i * 2)
  have HS := Lib.hid h
  have hw : wd W = W := by unfold wd; omega
  have HB := Lib.hid (show bits .or .i64 (m : Int) (wrap64 (2 ^ f)) = (orN m f : Int) by rw [pow_small f hf8]; exact bits_or m f hm8 hf8)
  have HV := Lib.hid (wrap_enc f W hf8 hW)
  clear h hcs
  obtain ⟨z, hz⟩ : ∃ z : Int, (if q.length = 16 then 5 else 0) = z := ⟨_, rfl⟩
  obtain ⟨q2, hq2⟩ : ∃ q2, (if q.length = 16 then q else q ++ [(f : Int) * 65536 + W]) = q2 := ⟨_, rfl⟩
  rw [hz, hq2]
  have HZ := Lib.hid hz
  have HQ2 := Lib.hid hq2
  clear hz hq2
  go_enter Try.func95, Try.ntmps95
  go_wp2_with fail
  go_quiet ((go_at_call 96; exact Calls.quiet_of_same (Word_walk _ _)))
  go_wp2_with fail
  go_region
  all_goals (try go_wp2_with fail)
  rw [HB.out]
  have hsb := (HS.out.drewN (nq + 1)).slc_set (i * 2) (.int .i64 (orN m f : Int)) (by omega)
  generalize (w.drewN (nq + 1)).setCell ⟨g, o + i * 2, none⟩ (.int .i64 (orN m f : Int)) = wb at hsb ⊢
  have d1 : wb.cell? ⟨rw_, 0, none⟩ = some (.int .i64 W) := cell_of_block (hsb.get 2).bk_at 0
  have d2 : wb.cell? ⟨rf, 0, none⟩ = some (.int .i64 (f : Int)) := cell_of_block (hsb.get 3).bk_at 0
  have d3 : wb.cell? ⟨g, o + i * 2 + 1, none⟩ = some (.pointer (some ⟨l, 0, none⟩)) := by
    obtain ⟨P, ⟨Q, Q2, _, _, _, h2, _⟩, _⟩ := St.step (L := [slc e' 2 (.slice (some ⟨g, o, none⟩) n c) n (xs.set (i * 2) (.int .i64 (orN m f : Int)))]) hsb
    obtain ⟨g', o', e, _, _, _, hc, hf⟩ := slc_cells h2 (by omega)
    cases e
    rw [Nat.add_assoc]
    refine hc _ _ ?_
    rw [List.getElem?_set, if_neg (by omega)]
    exact hx1
  have HP := Lib.hid (lnPut_st (hsb.drew.get 1) (IntKind.wrap .i64 (IntKind.wrap .i64 ((f : Int) * 65536) + W)))
  rw [HZ.out, HV.out, HQ2.out, ← HV.out] at HP
  clear c1 c2 hc0 hf0 HS HB hsb
  go_region_with (go_at_call 97; (with_reducible refine HP.out.mono ?_); rintro e w2 ⟨rfl, hs⟩; have HF := Lib.hid hs; clear hs)
  all_goals (try go_wp2)
  all_goals go_ret
  all_goals exact ⟨rfl, HF.out⟩
set_option maxHeartbeats 1000000 in
theorem ring2_arg (x : Addr) (rw_ rf : Nat) (W : Int) (hW : ¬ (0 ≤ W ∧ W ≤ 65535)) (c1 : w.cell? ⟨rw_, 0, none⟩ = some (.int .i64 W)) :
    Calls Try.prog 95 #[.pointer (some x), .pointer (some ⟨rw_, 0, none⟩), .pointer (some ⟨rf, 0, none⟩)] w fun e w' => e = .returned (.int .i64 2) ∧ Up w w' := by
  have hw : (W == wd W) = false := beq_eq_false_iff_ne.2 (by unfold wd; omega)
  clear hW
  go_enter Try.func95, Try.ntmps95
  go_wp2_with fail
  go_quiet ((go_at_call 96; exact Calls.quiet_of_same (Word_walk _ _)))
  go_wp2_with fail
  go_ret
  exact ⟨rfl, (Up.refl _).drewN _⟩
end
end Go.Proofs.Ytiofdkkjjeljmaa.Mb
