/- The reference's Tell. -/
import Derived.Test.YtdhgmnnkbjhpaaaNr2
import Derived.Deep.CutRange
namespace Go.Proofs.Ytdhgmnnkbjhpaaa.Ntab
set_option linter.unusedVariables false
set_option linter.unusedSimpArgs false
open Go.RowKit Go.Proofs.Ytdhgmnnkbjhpaaa.Sep Go.Proofs.Ytdhgmnnkbjhpaaa.Mp Go.Proofs.Ytdhgmnnkbjhpaaa.PNamesPlay Go.Proofs.Ytdhgmnnkbjhpaaa.NoteOk Go.Proofs.YtdhgmnnkbjhpaaaW.PrintWords
open Go.Maps (Keyed)

set_option maxHeartbeats 16000000 in
set_option maxRecDepth 100000 in
theorem rtell_u {A : Option Addr} {c : Nat} {L : List S66} {w : World} (h : Tb w A c L) (hm : Okt L) (core : Int) (g : Bool) (s : ByteArray) (a : Int) (hs : s.size ≤ 1000) :
    Calls Try.prog 48 #[.slice A L.length c, .int .i64 core, .agg #[.bool g, .string s, .int .i64 a]] w fun e w' =>
      ∃ A' c', e = .returned (.tuple #[.slice A' (tellN L core g s a).1.length c', .int .i64 (tellN L core g s a).2]) ∧ Tb w' A' c' (tellN L core g s a).1 ∧ NewT w w' A A' c c' L (tellN L core g s a).1 ∧ Up w w' := by
  have HR := Lib.hid (fun wx => rwrite_u g s a hs wx)
  have HT := Lib.hid h
  have HL : Hid (L.length ≤ 32) := Lib.hid hm.len
  by_cases hc : core < 0 ∨ 8 ≤ core
  · have e0 : tellN L core g s a = (L, 3) := by unfold tellN; rw [if_pos hc]
    rw [e0]
    have HU : Hid (Up w (w.alloc (.cells #[.bool g, .string s, .int .i64 a] 56))) := Lib.hid ((Up.refl w).alloc _)
    have hc' : core < 0 ∨ (¬ core < 0 ∧ 8 ≤ core) := by omega
    clear h e0 hc
    rcases hc' with hc | ⟨hc, hd⟩
    all_goals
      go_enter Try.func48, Try.ntmps48
      go_wp2
      go_ret2
      exact ⟨_, _, rfl, HT.out.up HU.out, .inl ⟨rfl, rfl, rfl⟩, HU.out⟩
  have hc1 : ¬ core < 0 := by omega
  have hc2 : ¬ 8 ≤ core := by omega
  have HU1 : Hid (Up w (w.alloc (.cells #[.bool g, .string s, .int .i64 a] 56))) := Lib.hid ((Up.refl w).alloc _)
  by_cases hn : ncode (bytesOf s) a = 0
  case neg =>
    have e0 : tellN L core g s a = (L, 2) := by unfold tellN; rw [if_neg hc, if_pos hn]
    rw [e0]
    have hnb := beq_eq_false_iff_ne.2 hn
    generalize ncode (bytesOf s) a = e' at *
    clear h e0 hc
    go_enter Try.func48, Try.ntmps48
    go_wp2_with (go_at_call 65; refine (HR.out _).mono ?_; rintro e w1 ⟨r0, r1, r2, Av, nv, cv, rfl, hu⟩; have HU := Lib.hid (HU1.out.trans hu); clear hu)
    go_ret2
    exact ⟨_, _, rfl, HT.out.up (HU.out.alloc _), .inl ⟨rfl, rfl, rfl⟩, HU.out.alloc _⟩
  case pos =>
  rw [hn] at HR
  have e0 : tellN L core g s a = tellY L core g s a := by unfold tellN; rw [if_neg hc, if_neg (by simpa using hn)]
  rw [e0]
  obtain ⟨⟨L', e'⟩, hY⟩ : ∃ r, tellY L core g s a = r := ⟨_, rfl⟩
  rw [hY]
  dsimp only
  have HY := Lib.hid hY
  have HM := Lib.hid hm
  have HF := Lib.hid (fun (wx : World) (hu : Up w wx) => rfind_u (HT.out.up hu) (by have := HL.out; omega) s)
  clear h hm hY e0 hc hn
  obtain ⟨i, hi⟩ : ∃ i, (if placeN L s < L.length then (placeN L s : Int) else -1) = i := ⟨_, rfl⟩
  rw [hi] at HF
  have HI := Lib.hid hi
  clear hi
  have kb1 : (w.alloc (.cells #[.bool g, .string s, .int .i64 a] 56)).cell? ⟨w.heap.size, 0, none⟩ = some (.bool g) := cell_of_block (block_new w _) 0
  have kb2 : (w.alloc (.cells #[.bool g, .string s, .int .i64 a] 56)).cell? ⟨w.heap.size, 1, none⟩ = some (.string s) := cell_of_block (block_new w _) 1
  have kb3 : (w.alloc (.cells #[.bool g, .string s, .int .i64 a] 56)).cell? ⟨w.heap.size, 2, none⟩ = some (.int .i64 a) := cell_of_block (block_new w _) 2
  have HB : Hid (_ ∧ _ ∧ _) := Lib.hid ⟨kb1, kb2, kb3⟩
  clear kb1 kb2 kb3
  go_enter Try.func48, Try.ntmps48
  go_upto_region 8 with (first
    | (go_at_call 65; refine (HR.out _).mono ?_; rintro e w1 ⟨r0, r1, r2, Av, nv, cv, rfl, hu⟩; have k0 : w1.cell? ⟨w.heap.size, 0, none⟩ = some (.bool g) := cell_up hu HB.out.1; have k1 : w1.cell? ⟨w.heap.size, 1, none⟩ = some (.string s) := cell_up hu HB.out.2.1; have k2 : w1.cell? ⟨w.heap.size, 2, none⟩ = some (.int .i64 a) := cell_up hu HB.out.2.2; have lk := World.block_lt_of_cell? w1 _ k0; have HU := Lib.hid (HU1.out.trans hu); clear hu HB)
    | (go_at_call 31; refine (HF.out _ (HU.out.alloc _)).mono ?_; rintro e w2 ⟨rfl, hu⟩; have q0 : w2.cell? ⟨w.heap.size, 0, none⟩ = some (.bool g) := cell_up (((Up.refl _).alloc _).trans hu) k0; have q1 : w2.cell? ⟨w.heap.size, 1, none⟩ = some (.string s) := cell_up (((Up.refl _).alloc _).trans hu) k1; have q2 : w2.cell? ⟨w.heap.size, 2, none⟩ = some (.int .i64 a) := cell_up (((Up.refl _).alloc _).trans hu) k2; have HU2 := Lib.hid ((HU.out.alloc _).trans hu); have lq := World.block_lt_of_cell? w2 _ q0; clear hu k0 k1 k2 lk))
  have x0 : (w2.alloc (.cells #[.string s, .int .i64 core, .int .i64 a] 66)).cell? ⟨w2.heap.size, 0, none⟩ = some (.string s) := cell_of_block (block_new w2 _) 0
  have x1 : (w2.alloc (.cells #[.string s, .int .i64 core, .int .i64 a] 66)).cell? ⟨w2.heap.size, 1, none⟩ = some (.int .i64 core) := cell_of_block (block_new w2 _) 1
  have x2 : (w2.alloc (.cells #[.string s, .int .i64 core, .int .i64 a] 66)).cell? ⟨w2.heap.size, 2, none⟩ = some (.int .i64 a) := cell_of_block (block_new w2 _) 2
  have b0 : (w2.alloc (.cells #[.string s, .int .i64 core, .int .i64 a] 66)).cell? ⟨w.heap.size, 0, none⟩ = some (.bool g) := cell_up ((Up.refl w2).alloc _) q0
  have b1 : (w2.alloc (.cells #[.string s, .int .i64 core, .int .i64 a] 66)).cell? ⟨w.heap.size, 1, none⟩ = some (.string s) := cell_up ((Up.refl w2).alloc _) q1
  have HU3 : Hid (Up w (w2.alloc (.cells #[.string s, .int .i64 core, .int .i64 a] 66))) := Lib.hid (HU2.out.alloc _)
  clear q0 q1 q2 lq HU2 HU HU1 HR HF
  generalize w2.alloc (.cells #[.string s, .int .i64 core, .int .i64 a] 66) = w3 at *
  generalize w2.heap.size = bx at *
  have HT3 := Lib.hid (HT.out.up HU3.out)
  have HS0 : Hid (St No w3 w3 [slc 66 3 (.slice none 0 0) 0 []]) := Lib.hid (St.fresh (M := [slc 66 3 (.slice none 0 0) 0 []]) (St.nil w3) (Up.refl _) ⟨No, No, fun _ e => e.elim, fun _ e => e.elim, fun _ e => e.elim, slc_nil _ _ _ _, trivial⟩)
  obtain ⟨t0, ht0, hz0, hz1, hz2⟩ := info_of' info66
  have hY := HY.out
  unfold tellY at hY
  cases hf : findN L s with
  | none =>
    have hp := place_none hf
    obtain rfl : -1 = i := by rw [← HI.out, if_neg hp]
    rw [hf] at hY
    dsimp only at hY
    cases g with
    | true =>
      simp only [if_true, Prod.mk.injEq] at hY
      obtain ⟨rfl, rfl⟩ := hY
      clear HY HI hp
      go_wp2
      go_quiet (fail)
      go_wp2
      go_ret2
      exact ⟨_, _, rfl, HT3.out.up ((Up.refl _).drewN _), .inl ⟨rfl, rfl, rfl⟩, HU3.out.drewN _⟩
    | false =>
      simp only [Bool.false_eq_true, if_false] at hY
      by_cases hl : 32 ≤ L.length
      · rw [if_pos hl, Prod.mk.injEq] at hY
        obtain ⟨rfl, rfl⟩ := hY
        clear HY HI hp
        go_wp2
        go_ret2
        exact ⟨_, _, rfl, HT3.out, .inl ⟨rfl, rfl, rfl⟩, HU3.out⟩
      · rw [if_neg hl, Prod.mk.injEq] at hY
        obtain ⟨rfl, rfl⟩ := hY
        clear HY HI hp
        have HDN := Lib.hid (delN_none hf)
        have HAL := Lib.hid (at_le L s)
        have HPA := Lib.hid (put_at (x := ⟨s, core, a⟩) hf)
        have HJX := Lib.hid (at_get L s)
        clear hf
        go_wp2
        go_loopg [13] L.length (fun gk v13 wx => ∃ j q : Nat, v13 = .int .i64 (j : Int) ∧ Hid (j + gk = L.length) ∧ Hid (j ≤ atN L s) ∧ wx = w3.drewN q)
        case atStart => exact ⟨0, 0, rfl, Lib.hid (Nat.zero_add _), Lib.hid (Nat.zero_le _), rfl⟩
        case round =>
          obtain ⟨j, q, rfl, HG, HJ, rfl⟩ := hrel
          have HJL : Hid (j ≤ L.length) := Lib.hid (by have := HG.out; omega)
          have HR1 := Lib.hid (rd_of_C (C_take HT3.out.row (i := j) HJL.out))
          have HQ := Lib.hid (show ∀ (wx : World), Up w wx → ∀ A', (A' = if c = j then A else A.map (·.add (j * 3))) → Rd wx 3 A' (L.length - j) (cs3 (L.drop j)) from fun wx hu A' hA => rd_of_C (C_dropC (Kd.C_below HT.out.row hu) HJL.out HT.out.le hA))
          have hw1 : wrap64 ((j : Int) + 1) = (j : Int) + 1 := by rw [step64 (by have := HL.out; have := HJL.out; omega)]; omega
          have hw3 : (0 : Int) ≤ (j : Int) := by omega
          have hw4 : (j : Int) ≤ (L.length : Int) := by have := HJL.out; omega
          have hw5 : (j : Int) ≤ (c : Int) := by have := HJL.out; have := HT.out.le; omega
          by_cases hlt : j < L.length
          · have hd : decide ((j : Int) < (L.length : Int)) = true := decide_eq_true (by omega)
            have hp3 : (j : Int) < (L.length : Int) := by omega
            obtain ⟨ad, rfl, k0, -, -⟩ := at_T66 HT3.out.row (j : Int) (by omega) (by omega)
            rw [Int.toNat_natCast, rd66 hlt] at k0
            have hx := HJX.out j HJ.out hlt
            obtain ⟨xn, hxn⟩ : ∃ xn, (L[j]).f0 = xn := ⟨_, rfl⟩
            rw [hxn] at k0 hx
            clear hxn
            by_cases hat : j < atN L s
            · have hb : Op.bytesLess xn.toList s.toList = true := by
                rw [less_before, ByteArray.toList_eq, ByteArray.toList_eq]
                rw [decide_eq_true hat] at hx
                exact hx
              have HN : Hid (j + 1 + (gk - 1) = L.length) := Lib.hid (by have := HG.out; omega)
              have HN1 : Hid (gk - 1 < gk) := Lib.hid (by have := HG.out; omega)
              have HN2 : Hid (j + 1 ≤ atN L s) := Lib.hid (by omega)
              clear hx hat hlt
              go_wp2
              go_quiet (fail)
              go_wp2
              go_roundg (gk - 1)
              case measure => exact HN1.out
              case rel => exact ⟨j + 1, _, by go_num, HN, HN2, by first | rfl | (rw [World.drewN_drewN])⟩
            · have hb : Op.bytesLess xn.toList s.toList = false := by
                rw [less_before, ByteArray.toList_eq, ByteArray.toList_eq]
                rw [decide_eq_false hat] at hx
                exact hx
              have hja : atN L s = j := by have := HJ.out; omega
              have HPE : Hid (cs3 (L.take j) ++ ([.string s, .int .i64 core, .int .i64 a] ++ cs3 (L.drop j)) = cs3 (putN L ⟨s, core, a⟩)) := Lib.hid (by rw [HPA.out, hja, cs3_app]; rfl)
              clear hx hat hja hlt
              clear HG
              rcases Nat.lt_or_eq_of_le (show j ≤ c by have := HT3.out.le; have := HJL.out; omega) with hcp | hcp
              all_goals first
                | subst hcp
                | (have hcp2 : ¬ c = j := by omega)
              all_goals
                go_wp2
                go_quiet (fail)
                go_wp2_with (first
                  | (at_builtin; refine St.append 66 t0 (.agg #[.string ⟨#[]⟩, .int .i64 0, .int .i64 0]) 3 32 (HS0.out.drewN _) rfl (.tmp 93) (.tmp 96) 55 rfl Try.underlying55 ht0 hz0 hz1 hz2 rfl (by decide) rfl _ j _ (cs3 (L.take j)) rfl (rd_up HR1.out ((Up.refl _).drewN _)) (by unfold maxLen; have := HL.out; have := HJL.out; omega) (by have := HL.out; have := HJL.out; omega) ?_; rw [Nat.zero_add, List.nil_append]; intro A5 c5 w5 hs hz; have m0 : w5.cell? ⟨bx, 0, none⟩ = some (.string s) := cell_up hs.up x0; have m1 : w5.cell? ⟨bx, 1, none⟩ = some (.int .i64 core) := cell_up hs.up x1; have m2 : w5.cell? ⟨bx, 2, none⟩ = some (.int .i64 a) := cell_up hs.up x2; have HS5 := Lib.hid ((hs.alloc #[.string s, .int .i64 core, .int .i64 a] 66).get 1); have HRB := Lib.hid (Rd.of_block (sz := 3) (m := 1) (hs.alloc #[.string s, .int .i64 core, .int .i64 a] 66).bk_at rfl (by simp [Value.oneCell'])); clear hs hz)
                  | (at_builtin; refine St.append 66 t0 (.agg #[.string ⟨#[]⟩, .int .i64 0, .int .i64 0]) 3 32 HS5.out rfl (.tmp 98) (.tmp 100) 55 rfl Try.underlying55 ht0 hz0 hz1 hz2 rfl (by decide) rfl _ 1 _ ([.string s, .int .i64 core, .int .i64 a]) rfl (HRB.out) (by unfold maxLen; have := HL.out; have := HJL.out; omega) (by have := HL.out; have := HJL.out; omega) ?_; intro A6 c6 w6 hs hz; have HS6 := Lib.hid hs; clear hs hz)
                  | (at_builtin; refine St.append 66 t0 (.agg #[.string ⟨#[]⟩, .int .i64 0, .int .i64 0]) 3 32 HS6.out rfl (.tmp 102) (.tmp 105) 55 rfl Try.underlying55 ht0 hz0 hz1 hz2 rfl (by decide) rfl _ (L.length - j) _ (cs3 (L.drop j)) rfl (HQ.out _ (HU3.out.trans HS6.out.up) _ (by first | exact (if_pos trivial).symm | exact (if_pos rfl).symm | (rw [if_neg (by assumption)]; rfl) | (rw [if_neg (by assumption)]))) (by unfold maxLen; have := HL.out; have := HJL.out; omega) (by have := HL.out; have := HJL.out; omega) ?_; intro A7 c7 w7 hs hz; have HS7 := Lib.hid hs; clear hs hz))
                have hs := HS7.out
                rw [List.append_assoc, HPE.out] at hs
                have hll : j + 1 + (L.length - j) = (putN L ⟨s, core, a⟩).length := by
                  unfold putN
                  rw [insN_len, HDN.out]
                  have := HJL.out
                  omega
                rw [hll] at hs ⊢
                have HF := Lib.hid (tb_of_st (A := A7) (c := c7) (L := (putN L ⟨s, core, a⟩)) hs)
                have HNT := Lib.hid (fun (B : Option Addr) (d : Nat) (M : List S66) => newT_of_st (A := B) (c := d) (L := M) (A' := A7) (c' := c7) (L' := (putN L ⟨s, core, a⟩)) HU3.out hs)
                have HU7 := Lib.hid (HU3.out.trans hs.up)
                clear hs
                go_ret2
                exact ⟨_, _, rfl, HF.out, HNT.out _ _ _, HU7.out⟩
          · have HNL : Hid (L.length ≤ j) := Lib.hid (by omega)
            have hja : atN L s = j := by have := HJ.out; have := HAL.out; omega
            have HPE : Hid (cs3 (L.take j) ++ ([.string s, .int .i64 core, .int .i64 a] ++ cs3 (L.drop j)) = cs3 (putN L ⟨s, core, a⟩)) := Lib.hid (by rw [HPA.out, hja, cs3_app]; rfl)
            clear hja hlt
            clear HG
            rcases Nat.lt_or_eq_of_le (show j ≤ c by have := HT3.out.le; have := HJL.out; omega) with hcp | hcp
            all_goals first
              | subst hcp
              | (have hcp2 : ¬ c = j := by omega)
            all_goals
              go_wp2
              have hd : decide ((j : Int) < (L.length : Int)) = false := decide_eq_false (by have := HNL.out; omega)
              have hd2 : decide (j < L.length) = false := decide_eq_false (by have := HNL.out; omega)
              have hd3 : (j < L.length) = False := eq_false (by have := HNL.out; omega)
              go_quiet (fail)
              go_wp2_with (first
                | (at_builtin; refine St.append 66 t0 (.agg #[.string ⟨#[]⟩, .int .i64 0, .int .i64 0]) 3 32 (HS0.out.drewN _) rfl (.tmp 93) (.tmp 96) 55 rfl Try.underlying55 ht0 hz0 hz1 hz2 rfl (by decide) rfl _ j _ (cs3 (L.take j)) rfl (rd_up HR1.out ((Up.refl _).drewN _)) (by unfold maxLen; have := HL.out; have := HJL.out; omega) (by have := HL.out; have := HJL.out; omega) ?_; rw [Nat.zero_add, List.nil_append]; intro A5 c5 w5 hs hz; have m0 : w5.cell? ⟨bx, 0, none⟩ = some (.string s) := cell_up hs.up x0; have m1 : w5.cell? ⟨bx, 1, none⟩ = some (.int .i64 core) := cell_up hs.up x1; have m2 : w5.cell? ⟨bx, 2, none⟩ = some (.int .i64 a) := cell_up hs.up x2; have HS5 := Lib.hid ((hs.alloc #[.string s, .int .i64 core, .int .i64 a] 66).get 1); have HRB := Lib.hid (Rd.of_block (sz := 3) (m := 1) (hs.alloc #[.string s, .int .i64 core, .int .i64 a] 66).bk_at rfl (by simp [Value.oneCell'])); clear hs hz)
                | (at_builtin; refine St.append 66 t0 (.agg #[.string ⟨#[]⟩, .int .i64 0, .int .i64 0]) 3 32 HS5.out rfl (.tmp 98) (.tmp 100) 55 rfl Try.underlying55 ht0 hz0 hz1 hz2 rfl (by decide) rfl _ 1 _ ([.string s, .int .i64 core, .int .i64 a]) rfl (HRB.out) (by unfold maxLen; have := HL.out; have := HJL.out; omega) (by have := HL.out; have := HJL.out; omega) ?_; intro A6 c6 w6 hs hz; have HS6 := Lib.hid hs; clear hs hz)
                | (at_builtin; refine St.append 66 t0 (.agg #[.string ⟨#[]⟩, .int .i64 0, .int .i64 0]) 3 32 HS6.out rfl (.tmp 102) (.tmp 105) 55 rfl Try.underlying55 ht0 hz0 hz1 hz2 rfl (by decide) rfl _ (L.length - j) _ (cs3 (L.drop j)) rfl (HQ.out _ (HU3.out.trans HS6.out.up) _ (by first | exact (if_pos trivial).symm | exact (if_pos rfl).symm | (rw [if_neg (by assumption)]; rfl) | (rw [if_neg (by assumption)]))) (by unfold maxLen; have := HL.out; have := HJL.out; omega) (by have := HL.out; have := HJL.out; omega) ?_; intro A7 c7 w7 hs hz; have HS7 := Lib.hid hs; clear hs hz))
              have hs := HS7.out
              rw [List.append_assoc, HPE.out] at hs
              have hll : j + 1 + (L.length - j) = (putN L ⟨s, core, a⟩).length := by
                unfold putN
                rw [insN_len, HDN.out]
                have := HJL.out
                omega
              rw [hll] at hs ⊢
              have HF := Lib.hid (tb_of_st (A := A7) (c := c7) (L := (putN L ⟨s, core, a⟩)) hs)
              have HNT := Lib.hid (fun (B : Option Addr) (d : Nat) (M : List S66) => newT_of_st (A := B) (c := d) (L := M) (A' := A7) (c' := c7) (L' := (putN L ⟨s, core, a⟩)) HU3.out hs)
              have HU7 := Lib.hid (HU3.out.trans hs.up)
              clear hs
              go_ret2
              exact ⟨_, _, rfl, HF.out, HNT.out _ _ _, HU7.out⟩
  | some x =>
    obtain ⟨hp, hx⟩ := place_some hf
    have hxs := (find_mem hf).2
    obtain rfl : ((placeN L s : Nat) : Int) = i := by rw [← HI.out, if_pos hp]
    rw [hf] at hY
    dsimp only at hY
    obtain ⟨y0, y1, y2⟩ := x
    dsimp only at hxs hY
    subst hxs
    obtain ⟨ad, rfl, k0, k1, k2⟩ := at_T66 HT3.out.row ((placeN L y0 : Nat) : Int) (by omega) (by omega)
    rw [Int.toNat_natCast, rd66 hp, hx] at k0 k1 k2
    dsimp only at k0 k1 k2
    have HPL := Lib.hid (place_del HM.out.rise hp)
    obtain ⟨p, hpp⟩ : ∃ p, placeN L y0 = p := ⟨_, rfl⟩
    rw [hpp] at hp HI k0 k1 k2 HPL ⊢
    clear hx hpp
    by_cases he : y1 = core ∧ y2 = a
    · rw [if_pos he] at hY
      obtain ⟨rfl, rfl⟩ := he
      cases g with
      | true =>
        simp only [if_true, Prod.mk.injEq] at hY
        obtain ⟨rfl, rfl⟩ := hY
        clear HY HI
        have hpc : (p : Int) ≤ (c : Int) := by have := HT3.out.le; omega
        have HR1 := Lib.hid (rd_of_C (C_take HT3.out.row (i := p) (by omega)))
        have HQ := Lib.hid (show ∀ (wx : World), Up w wx → ∀ A', (A' = if c = p + 1 then some ad else (some ad).map (·.add ((p + 1) * 3))) → Rd wx 3 A' (L.length - (p + 1)) (cs3 (L.drop (p + 1))) from fun wx hu A' hA => rd_of_C (C_dropC (Kd.C_below HT.out.row hu) (by omega) HT.out.le hA))
        have hw1 : wrap64 ((p : Int) + 1) = (p : Int) + 1 := by rw [step64 (by have := HL.out; omega)]; omega
        have hw2 : ((p : Int) + 1).toNat = p + 1 := by omega
        have hw3 : (0 : Int) ≤ (p : Int) + 1 := by omega
        have hw4 : (p : Int) + 1 ≤ (L.length : Int) := by omega
        rcases Nat.lt_or_eq_of_le (show p + 1 ≤ c by have := HT3.out.le; omega) with hcp | hcp
        all_goals first
          | subst hcp
          | (have hcp2 : ¬ c = p + 1 := by omega)
        all_goals
          go_wp2
          go_quiet (fail)
          go_wp2_with (first
            | (at_builtin; refine St.append 66 t0 (.agg #[.string ⟨#[]⟩, .int .i64 0, .int .i64 0]) 3 32 (HS0.out.drewN nq) rfl (.tmp 52) (.tmp 55) 55 rfl Try.underlying55 ht0 hz0 hz1 hz2 rfl (by decide) rfl _ p _ (cs3 (L.take p)) rfl (rd_up HR1.out ((Up.refl _).drewN _)) (by unfold maxLen; have := HL.out; omega) (by have := HL.out; omega) ?_; rw [Nat.zero_add, List.nil_append]; intro A5 c5 w5 hs5 hz5; have HS5 := Lib.hid hs5; clear hs5 hz5)
            | (at_builtin; refine St.append 66 t0 (.agg #[.string ⟨#[]⟩, .int .i64 0, .int .i64 0]) 3 32 HS5.out rfl (.tmp 57) (.tmp 61) 55 rfl Try.underlying55 ht0 hz0 hz1 hz2 rfl (by decide) rfl _ (L.length - (p + 1)) _ (cs3 (L.drop (p + 1))) rfl (HQ.out _ (HU3.out.trans HS5.out.up) _ (by first | exact (if_pos trivial).symm | exact (if_pos rfl).symm | (rw [if_neg (by assumption)]; rfl))) (by unfold maxLen; have := HL.out; omega) (by have := HL.out; omega) ?_; intro A6 c6 w6 hs6 hz6; have HS6 := Lib.hid hs6; clear hs6 hz6))
          have hs := HS6.out
          rw [← cs3_app, HPL.out] at hs
          have hll : p + (L.length - (p + 1)) = (delN L y0).length := by
            rw [← HPL.out, List.length_append, List.length_take, List.length_drop]
            omega
          rw [hll] at hs ⊢
          have HF := Lib.hid (tb_of_st (A := A6) (c := c6) (L := (delN L y0)) hs)
          have HNT := Lib.hid (fun (B : Option Addr) (d : Nat) (M : List S66) => newT_of_st (A := B) (c := d) (L := M) (A' := A6) (c' := c6) (L' := (delN L y0)) HU3.out hs)
          have HU6 := Lib.hid (HU3.out.trans hs.up)
          clear hs
          go_ret2
          exact ⟨_, _, rfl, HF.out, HNT.out _ _ _, HU6.out⟩
      | false =>
        simp only [Bool.false_eq_true, if_false, Prod.mk.injEq] at hY
        obtain ⟨rfl, rfl⟩ := hY
        clear HY HI
        go_wp2
        go_quiet (fail)
        go_wp2
        go_ret2
        exact ⟨_, _, rfl, HT3.out.up ((Up.refl _).drewN _), .inl ⟨rfl, rfl, rfl⟩, HU3.out.drewN _⟩
    · rw [if_neg he] at hY
      cases g with
      | true =>
        simp only [if_true, Prod.mk.injEq] at hY
        obtain ⟨rfl, rfl⟩ := hY
        clear HY HI
        by_cases e1 : y1 = core
        · subst e1
          have e2 : ¬ y2 = a := fun h => he ⟨rfl, h⟩
          have e3 : (y2 == a) = false := beq_eq_false_iff_ne.2 e2
          clear he
          go_wp2
          go_quiet (fail)
          go_wp2
          go_ret2
          exact ⟨_, _, rfl, HT3.out.up ((Up.refl _).drewN _), .inl ⟨rfl, rfl, rfl⟩, HU3.out.drewN _⟩
        · have e3 : (y1 == core) = false := beq_eq_false_iff_ne.2 e1
          clear he
          go_wp2
          go_quiet (fail)
          go_wp2
          go_ret2
          exact ⟨_, _, rfl, HT3.out.up ((Up.refl _).drewN _), .inl ⟨rfl, rfl, rfl⟩, HU3.out.drewN _⟩
      | false =>
        simp only [Bool.false_eq_true, if_false, Prod.mk.injEq] at hY
        obtain ⟨rfl, rfl⟩ := hY
        clear HY HI
        by_cases e1 : y1 = core
        · subst e1
          have e2 : ¬ y2 = a := fun h => he ⟨rfl, h⟩
          have e3 : (y2 == a) = false := beq_eq_false_iff_ne.2 e2
          clear he
          go_wp2
          go_quiet (fail)
          go_wp2
          go_ret2
          exact ⟨_, _, rfl, HT3.out.up ((Up.refl _).drewN _), .inl ⟨rfl, rfl, rfl⟩, HU3.out.drewN _⟩
        · have e3 : (y1 == core) = false := beq_eq_false_iff_ne.2 e1
          clear he
          go_wp2
          go_quiet (fail)
          go_wp2
          go_ret2
          exact ⟨_, _, rfl, HT3.out.up ((Up.refl _).drewN _), .inl ⟨rfl, rfl, rfl⟩, HU3.out.drewN _⟩
end Go.Proofs.Ytdhgmnnkbjhpaaa.Ntab
