/- mbox's Same, over mailboxes. -/
import Derived.Test.YtiofdkkjjeljmaaLnClone
import Derived.Test.YtiofdkkjjeljmaaEqual
import Derived.Test.YtiofdkkjjeljmaaSepMore
import Derived.Deep.RegionHeld3
namespace Go.Proofs.Ytiofdkkjjeljmaa.Mb
set_option linter.unusedVariables false
set_option linter.unusedSimpArgs false
open Go.RowKit Go.Proofs.Ytiofdkkjjeljmaa.Sep Go.Proofs.Ytiofdkkjjeljmaa.Lane Go.Proofs.Ytiofdkkjjeljmaa.Lat Go.Proofs.Ytiofdkkjjeljmaa.Equal

theorem qat_up {w w' : World} {l R n : Nat} {q : List Int} (h : QAt w l R n q) (hu : Up w w') : QAt w' l R n q := by
  obtain ⟨room, f, h3, h4, h5⟩ := h
  exact ⟨room, f, ⟨(hu.block l (heap_lt h3.hb)).trans h3.hb, (hu.block R (heap_lt h3.hR)).trans h3.hR, h3.pos, h3.le, h3.flt, h3.kle, h3.ne⟩, h4, h5⟩
theorem lat_up {w w' : World} {P : Nat → Prop} {v : Value} {q : List Int} (h : LAt w P v q) (hu : Up w w') : LAt w' P v q := h.up hu
set_option maxHeartbeats 4000000 in
theorem same1 (m1 m2 l1 l2 R1 R2 : Nat) (p q : List Int) (w : World) (h1 : QAt w l1 R1 16 p) (h2 : QAt w l2 R2 16 q) :
    Calls Try.prog 88 #[.agg #[.int .i64 (m1 : Int), .pointer (some ⟨l1, 0, none⟩)], .agg #[.int .i64 (m2 : Int), .pointer (some ⟨l2, 0, none⟩)]] w fun e w' => e = .returned (.bool (decide (m1 = m2 ∧ p = q))) ∧ Up w w' := by
  have hup := ((Up.refl w).alloc (.cells #[.int .i64 (m1 : Int), .pointer (some ⟨l1, 0, none⟩)] 132)).alloc (.cells #[.int .i64 (m2 : Int), .pointer (some ⟨l2, 0, none⟩)] 132)
  have hs := ((St.nil w).alloc #[.int .i64 (m1 : Int), .pointer (some ⟨l1, 0, none⟩)] 132).alloc #[.int .i64 (m2 : Int), .pointer (some ⟨l2, 0, none⟩)] 132
  rw [World.size_alloc] at hs
  have h1' := qat_up h1 hup
  have h2' := qat_up h2 hup
  have hp := h1.le.1
  have a0 : ((w.alloc (.cells #[.int .i64 (m1 : Int), .pointer (some ⟨l1, 0, none⟩)] 132)).alloc (.cells #[.int .i64 (m2 : Int), .pointer (some ⟨l2, 0, none⟩)] 132)).cell? ⟨w.heap.size, 0, none⟩ = some (.int .i64 (m1 : Int)) := cell_of_block (hs.get 1).bk_at 0
  have a1 : ((w.alloc (.cells #[.int .i64 (m1 : Int), .pointer (some ⟨l1, 0, none⟩)] 132)).alloc (.cells #[.int .i64 (m2 : Int), .pointer (some ⟨l2, 0, none⟩)] 132)).cell? ⟨w.heap.size, 1, none⟩ = some (.pointer (some ⟨l1, 0, none⟩)) := cell_of_block (hs.get 1).bk_at 1
  have b0 : ((w.alloc (.cells #[.int .i64 (m1 : Int), .pointer (some ⟨l1, 0, none⟩)] 132)).alloc (.cells #[.int .i64 (m2 : Int), .pointer (some ⟨l2, 0, none⟩)] 132)).cell? ⟨w.heap.size + 1, 0, none⟩ = some (.int .i64 (m2 : Int)) := cell_of_block hs.bk_at 0
  have b1 : ((w.alloc (.cells #[.int .i64 (m1 : Int), .pointer (some ⟨l1, 0, none⟩)] 132)).alloc (.cells #[.int .i64 (m2 : Int), .pointer (some ⟨l2, 0, none⟩)] 132)).cell? ⟨w.heap.size + 1, 1, none⟩ = some (.pointer (some ⟨l2, 0, none⟩)) := cell_of_block hs.bk_at 1
  clear hs h1 h2
  obtain ⟨r, hr⟩ : ∃ r, decide (m1 = m2 ∧ p = q) = r := ⟨_, rfl⟩
  rw [hr]
  have HR := Lib.hid hr
  clear hr
  go_enter Try.func88, Try.ntmps88
  go_upto_region 1 with fail
  generalize (w.alloc (.cells #[.int .i64 (m1 : Int), .pointer (some ⟨l1, 0, none⟩)] 132)).alloc (.cells #[.int .i64 (m2 : Int), .pointer (some ⟨l2, 0, none⟩)] 132) = wb at *
  have HUP := Lib.hid hup
  have H1 := Lib.hid h1'
  have H2 := Lib.hid h2'
  clear hup h1' h2'
  by_cases hm : m1 = m2
  · subst hm
    have HD : Hid (decide (p = q) = r) := Lib.hid (by rw [← HR.out]; simp)
    have HP := Lib.hid hp
    go_region_held3 (fun wx => wx.cell? ⟨w.heap.size, 0, none⟩ = some (.int .i64 (m1 : Int)) ∧ wx.cell? ⟨w.heap.size, 1, none⟩ = some (.pointer (some ⟨l1, 0, none⟩)) ∧ wx.cell? ⟨w.heap.size + 1, 0, none⟩ = some (.int .i64 (m1 : Int)) ∧ wx.cell? ⟨w.heap.size + 1, 1, none⟩ = some (.pointer (some ⟨l2, 0, none⟩)) ∧ Hid (Up wb wx))
      (first | exact ⟨a0, a1, b0, b1, Lib.hid (Up.drew (Up.refl _))⟩ | (go_split_ands; exact ⟨cell_up hu (by assumption), cell_up hu (by assumption), cell_up hu (by assumption), cell_up hu (by assumption), Lib.hid (Up.trans (Hid.out (by assumption)) hu)⟩))
      (first
        | (go_at_call 89; (with_reducible refine (All_s l1 R1 16 p _ ?_).mono ?_); (go_split_ands; exact qat_up H1.out (Hid.out (by assumption))); rintro e w8 ⟨A8, c8, rfl, hl8, hu⟩)
        | (go_at_call 89; (with_reducible refine (All_s l2 R2 16 q _ ?_).mono ?_); (go_split_ands; exact qat_up H2.out (Hid.out (by assumption))); rintro e w9 ⟨A9, c9, rfl, hl9, hu⟩; have hu9 := hu)
        | (go_at_call 62; refine (Equal_i p q A8 A9 c8 c9 _ (CAt.of_lat (lat_up hl8 hu9)) (CAt.of_lat hl9) ?_).mono ?_; (have := HP.out; omega); rintro e w10 ⟨rfl, hd⟩; have hu := hd.up))
    go_split_ands
    have HF := Lib.hid (Up.trans HUP.out (Hid.out (by assumption : Hid (Up wb w10))))
    clear hl8 hl9 hu9 hu hd
    go_wp2
    go_ret
    exact ⟨by rw [HD.out]; rfl, HF.out⟩
  · have d : ((m1 : Int) == (m2 : Int)) = false := beq_eq_false_iff_ne.2 (by omega)
    have HD : Hid (false = r) := Lib.hid (by rw [← HR.out]; exact (decide_eq_false fun e => hm e.1).symm)
    clear hm
    go_quiet (fail)
    have HF := Lib.hid (HUP.out.drewN nq)
    go_wp2
    go_ret
    exact ⟨by rw [HD.out]; rfl, HF.out⟩
/-- Are two mailboxes the same? -/
noncomputable def eqB (S T : List MC) : Bool := @decide (S = T) (Classical.propDecidable _)
theorem eqB_yes {S T : List MC} (h : S = T) : eqB S T = true := by
  unfold eqB
  exact @decide_eq_true _ (Classical.propDecidable _) h
theorem eqB_no {S T : List MC} (h : S ≠ T) : eqB S T = false := by
  unfold eqB
  exact @decide_eq_false _ (Classical.propDecidable _) h
theorem enc_inj : ∀ {x y : It}, enc x = enc y → x = y := by
  rintro ⟨f, w, hf, hw⟩ ⟨f', w', hf', hw'⟩ h
  unfold enc at h
  simp only at h
  obtain rfl : f = f' := by omega
  obtain rfl : w = w' := by omega
  rfl
theorem encs_inj : ∀ {p q : List It}, p.map enc = q.map enc → p = q
  | [], [], _ => rfl
  | x :: p, y :: q, h => by
    simp only [List.map_cons, List.cons.injEq] at h
    rw [enc_inj h.1, encs_inj h.2]
  | [], y :: q, h => by simp at h
  | x :: p, [], h => by simp at h
theorem mc_eq : ∀ {C D : MC}, C.m = D.m → C.q.map enc = D.q.map enc → C = D := by
  rintro ⟨m, q, hm⟩ ⟨m', q', hm'⟩ h1 h2
  simp only at h1 h2
  subst h1
  rw [encs_inj h2]
/-- What is read of mailboxes. -/
def Row (w : World) (A : Option Addr) (S : List MC) : Prop := ∀ i, i < S.length → ∃ g o l R, A = some ⟨g, o, none⟩ ∧ w.cell? ⟨g, o + i * 2, none⟩ = some (.int .i64 ((S.getD i default).m : Int)) ∧ w.cell? ⟨g, o + i * 2 + 1, none⟩ = some (.pointer (some ⟨l, 0, none⟩)) ∧ QAt w l R 16 ((S.getD i default).q.map enc)
theorem Row.up {w w' : World} {A : Option Addr} {S : List MC} (h : Row w A S) (hu : Up w w') : Row w' A S := fun i hi => by
  obtain ⟨g, o, l, R, h1, h2, h3, h4⟩ := h i hi
  exact ⟨g, o, l, R, h1, cell_up hu h2, cell_up hu h3, qat_up h4 hu⟩
theorem sep_lanes : ∀ (S : List MC) (ls : List Nat) {w : World} {P : Nat → Prop}, ls.length = S.length → Sep w (mlanes S ls) P → ∀ i, i < S.length → ∃ R, QAt w (ls.getD i 0) R 16 ((S.getD i default).q.map enc)
  | D :: S, l :: ls, w, P, hl, ⟨Q, R, _, _, _, hA, hL⟩, 0, _ => by
    obtain ⟨R', _, _, h⟩ := hA
    exact ⟨R', h⟩
  | D :: S, l :: ls, w, P, hl, ⟨Q, R, _, _, _, hA, hL⟩, i + 1, hi => sep_lanes S ls (by simpa using hl) hL i (by simpa using hi)
section
variable {P0 : Nat → Prop} {w0 w w' : World} {F : List Rg} {a b : Nat} {S T : List MC}
/-- A box that is read. -/
def Boxed (w : World) (b : Nat) (S : List MC) : Prop := (1 ≤ S.length ∧ S.length ≤ 8) ∧ ∃ A c, w.cell? ⟨b, 0, none⟩ = some (.slice A S.length c) ∧ Row w A S
theorem Boxed.up (h : Boxed w b S) (hu : Up w w') : Boxed w' b S := by
  obtain ⟨h0, A, c, h1, h2⟩ := h
  exact ⟨h0, A, c, cell_up hu h1, h2.up hu⟩
theorem mb_boxed (h : St P0 w0 w (mb b S :: F)) : Boxed w b S := by
  obtain ⟨g, o, c, ls, hm, hc, h1⟩ := mb_form h
  refine ⟨hm.2, some ⟨g, o, none⟩, c, cell_of_block h1.bk_at 0, fun i hi => ?_⟩
  have hk := mb_cells (B := pu True) hm.1 hi (h1.get 1)
  obtain ⟨P, ⟨Q, Q2, _, _, _, h2, _⟩, _⟩ := St.step (L := [big (mlanes S ls)]) (h1.get 2)
  obtain ⟨R, hR⟩ := sep_lanes S ls hm.1 h2 i hi
  exact ⟨g, o, _, R, rfl, hk.1, hk.2.1, hR⟩
set_option maxHeartbeats 4000000 in
set_option maxRecDepth 100000 in
theorem equal_rows (A B : Option Addr) (c d : Nat) (h8 : S.length ≤ 8) (ha : Row w A S) (hb : Row w B T) :
    Calls Try.prog 87 #[.slice A S.length c, .slice B T.length d, .func (.func 88) #[] #[]] w fun e w' => e = .returned (.bool (eqB S T)) ∧ Up w w' := by
  have HA := Lib.hid ha
  have HB := Lib.hid hb
  clear ha hb
  by_cases hl : S.length = T.length
  case neg =>
    rw [eqB_no (fun e => hl (by rw [e]))]
    have h1 : ((S.length : Int) != (T.length : Int)) = true := by
      rw [bne_iff_ne]
      omega
    clear hl
    go_enter Try.func87, Try.ntmps87
    go_wp2
    go_ret
    exact ⟨rfl, Up.refl _⟩
  have HL := Lib.hid hl
  rw [← hl]
  obtain ⟨r, hr⟩ : ∃ r, eqB S T = r := ⟨_, rfl⟩
  rw [hr]
  have HR := Lib.hid hr
  clear hr
  obtain ⟨n, hn⟩ : ∃ n, S.length = n := ⟨_, rfl⟩
  rw [hn] at h8 ⊢
  have HN := Lib.hid hn
  clear hl hn
  go_enter Try.func87, Try.ntmps87
  go_wp2_with fail
  go_loopw [17] (fun v17 wx => ∃ i : Nat, i ≤ n ∧ v17 = .int .i64 i ∧ Hid (Up w wx) ∧ Hid (∀ j, j < i → S.getD j default = T.getD j default)) (fun v17 _ => n - (intOf v17).toNat)
  case atStart => exact ⟨0, Nat.zero_le _, rfl, Lib.hid (Up.refl _), Lib.hid (fun j hj => by omega)⟩
  case round =>
    obtain ⟨i, hi, rfl, HU, HE⟩ := hrel
    by_cases hlt : i < n
    · obtain ⟨g, o, l, R, rfl, k0, k1, k2⟩ := HA.out.up HU.out i (by rw [HN.out]; exact hlt)
      obtain ⟨g', o', l', R', rfl, j0, j1, j2⟩ := HB.out.up HU.out i (by rw [← HL.out, HN.out]; exact hlt)
      have hup1 := (Up.refl wr).alloc (.cells #[.int .i64 ((S.getD i default).m : Int), .pointer (some ⟨l, 0, none⟩)] 132)
      have hup2 := hup1.alloc (.cells #[.int .i64 ((T.getD i default).m : Int), .pointer (some ⟨l', 0, none⟩)] 132)
      have j0' := cell_up hup1 j0
      have j1' := cell_up hup1 j1
      have HS1 := Lib.hid (same1 (S.getD i default).m (T.getD i default).m l l' R R' _ _ _ (qat_up k2 hup2) (qat_up j2 hup2))
      have HU2 := Lib.hid (Up.trans HU.out hup2)
      clear hup1 hup2 j0 j1 k2 j2 HU
      by_cases he : (S.getD i default).m = (T.getD i default).m ∧ (S.getD i default).q.map enc = (T.getD i default).q.map enc
      · rw [decide_eq_true he] at HS1
        have HE2 : Hid (∀ j, j < i + 1 → S.getD j default = T.getD j default) := Lib.hid fun j hj => by
          by_cases e : j = i
          · subst e
            exact mc_eq he.1 he.2
          · exact HE.out j (by omega)
        clear he HE
        generalize (S.getD i default).m = m at *
        generalize (T.getD i default).m = m' at *
        go_wp2_with fail
        refine HS1.out.mono ?_
        rintro e w5 ⟨rfl, hu⟩
        have HU3 := Lib.hid (Up.trans HU2.out hu)
        clear hu HS1 HU2
        go_wp2
        go_roundw
        case rel => exact ⟨i + 1, by omega, by go_num, HU3, HE2⟩
        case measure => simp [intOf]; omega
      · rw [decide_eq_false he] at HS1
        have HX : Hid (false = r) := Lib.hid (by rw [← HR.out]; exact (eqB_no fun e => he (by rw [e]; exact ⟨rfl, rfl⟩)).symm)
        clear he HE
        generalize (S.getD i default).m = m at *
        generalize (T.getD i default).m = m' at *
        go_wp2_with fail
        refine HS1.out.mono ?_
        rintro e w5 ⟨rfl, hu⟩
        have HU3 := Lib.hid (Up.trans HU2.out hu)
        clear hu HS1 HU2
        go_wp2
        go_ret
        exact ⟨by rw [HX.out]; rfl, HU3.out⟩
    · obtain rfl : i = n := by omega
      have HX : Hid (true = r) := Lib.hid (by
        rw [← HR.out]
        refine (eqB_yes ?_).symm
        refine List.ext_getElem (HL.out) fun j h1 h2 => ?_
        have := HE.out j (by have := HN.out; omega)
        simpa [List.getD_eq_getElem?_getD, h1, h2] using this)
      clear HE
      go_wp2
      go_ret
      exact ⟨by rw [HX.out]; rfl, HU.out⟩
set_option maxHeartbeats 4000000 in
theorem Same_u (ha : Boxed w a S) (hb : Boxed w b T) : Calls Try.prog 50 #[.pointer (some ⟨a, 0, none⟩), .pointer (some ⟨b, 0, none⟩)] w fun e w' => e = .returned (.bool (eqB S T)) ∧ Up w w' := by
  obtain ⟨h0, A, c, a0, ha1⟩ := ha
  obtain ⟨h0', B, d, b0, hb1⟩ := hb
  have HA := Lib.hid ha1
  have HB := Lib.hid hb1
  have H8 := Lib.hid h0.2
  clear ha1 hb1 h0 h0'
  go_enter Try.func50, Try.ntmps50
  go_upto_region 3 with fail
  go_region_held3 (fun wx => wx.cell? ⟨a, 0, none⟩ = some (.slice A S.length c) ∧ wx.cell? ⟨b, 0, none⟩ = some (.slice B T.length d) ∧ Hid (Up w wx))
    (first | exact ⟨a0, b0, Lib.hid (Up.drew (Up.refl _))⟩ | (go_split_ands; exact ⟨cell_up hu (by assumption), cell_up hu (by assumption), Lib.hid (Up.trans (Hid.out (by assumption)) hu)⟩))
    (first
      | (go_at_call 87; go_split_ands; refine (equal_rows A B c d H8.out (HA.out.up (Hid.out (by assumption))) (HB.out.up (Hid.out (by assumption)))).mono ?_; rintro e w8 ⟨rfl, hu⟩))
  go_split_ands
  have HF : Hid (Up w w8) := by assumption
  clear hu
  go_wp2
  go_ret
  exact ⟨rfl, HF.out⟩
theorem Same_st (h : St P0 w0 w (mb a S :: mb b T :: F)) : Calls Try.prog 50 #[.pointer (some ⟨a, 0, none⟩), .pointer (some ⟨b, 0, none⟩)] w fun e w' => e = .returned (.bool (eqB S T)) ∧ St P0 w0 w' (mb a S :: mb b T :: F) := by
  refine (Same_u (mb_boxed h) (mb_boxed (h.get 1))).mono ?_
  rintro e w' ⟨rfl, hu⟩
  exact ⟨rfl, h.more hu⟩
theorem Same_self (h : St P0 w0 w (mb a S :: F)) : Calls Try.prog 50 #[.pointer (some ⟨a, 0, none⟩), .pointer (some ⟨a, 0, none⟩)] w fun e w' => e = .returned (.bool true) ∧ St P0 w0 w' (mb a S :: F) := by
  refine (Same_u (mb_boxed h) (mb_boxed h)).mono ?_
  rintro e w' ⟨rfl, hu⟩
  exact ⟨by rw [eqB_yes rfl], h.more hu⟩
end
end Go.Proofs.Ytiofdkkjjeljmaa.Mb
