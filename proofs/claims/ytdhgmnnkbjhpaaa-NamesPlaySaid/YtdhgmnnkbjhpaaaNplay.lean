/- NamesPlay, walked. -/
import Derived.Test.YtdhgmnnkbjhpaaaNr4
import Derived.Test.YtdhgmnnkbjhpaaaNnob
namespace Go.Proofs.Ytdhgmnnkbjhpaaa.Ntab
set_option linter.unusedVariables false
set_option linter.unusedSimpArgs false
open Go.RowKit Go.Proofs.Ytdhgmnnkbjhpaaa.Sep Go.Proofs.Ytdhgmnnkbjhpaaa.Mp Go.Proofs.Ytdhgmnnkbjhpaaa.PNamesPlay Go.Proofs.Ytdhgmnnkbjhpaaa.NoteOk Go.Proofs.YtdhgmnnkbjhpaaaW.PrintWords
open Go.Maps (Keyed)

set_option maxHeartbeats 16000000 in
set_option maxRecDepth 100000 in
theorem play_walk (A0 : Option Addr) (c0 : Nat) (l : List S58) (name : ByteArray) (core : Int) (w : World) (hr : Kd.C k58 w A0 l.length l) (hc : l.length ≤ c0) (hm : c0 ≤ maxLen) (hw : ∀ x ∈ l, (Lit.int .i64 x.f2.f2).wf = true) (hn : name.size ≤ maxLen) :
    Calls Try.prog 7 #[.slice A0 l.length c0, .string name, .int .i64 core] w fun e w' => e = .returned (.bool true) ∧ Up w w' := by
  have HR := Lib.hid hr
  have HW := Lib.hid hw
  have HN := Lib.hid hn
  have HF1 := Lib.hid (few_q l A0 c0 w hr hc hm)
  have HL := Lib.hid (show fewB l = true → ∀ x ∈ l, x.f2.f1.size ≤ 1000 from fun h x hx => by
    unfold fewB at h
    simp only [Bool.and_eq_true, List.all_eq_true, decide_eq_true_eq] at h
    have := h.2 x hx
    omega)
  have HL2 := Lib.hid (show fewB l = true → l.length ≤ 150 from fun h => by
    unfold fewB at h
    simp only [Bool.and_eq_true, decide_eq_true_eq] at h
    exact h.1)
  clear hr hw hn hc hm
  by_cases hb : fewB l = true
  case neg =>
    have hb' : fewB l = false := by simpa using hb
    rw [hb'] at HF1
    clear hb hb'
    go_enter Try.func7, Try.ntmps7
    go_wp2_with (first
      | (go_at_call 25; refine HF1.out.mono ?_; rintro e w2 ⟨rfl, hu⟩; have HU2 := Lib.hid hu; clear hu)
      | (go_at_call 24; refine (alive_walk _).mono ?_; rintro e w6 ⟨rfl, hu⟩; have HU6 := Lib.hid (HU2.out.trans hu); clear hu))
    go_ret
    exact ⟨rfl, HU6.out⟩
  have HL' := Lib.hid (HL.out hb)
  have hl150 : l.length ≤ 150 := HL2.out hb
  rw [hb] at HF1
  clear HL HL2 hb
  go_enter Try.func7, Try.ntmps7
  go_wp2_with (first
    | (go_at_call 25; refine HF1.out.mono ?_; rintro e w1 ⟨rfl, hu⟩; have HU1 := Lib.hid hu; clear hu)
    | (go_at_call 21; refine (New_st ((St.nil w).more HU1.out)).mono ?_; rintro e w2 ⟨t, rfl, hs⟩; have HS2 := Lib.hid hs; clear hs))
  clear HF1 HU1
  go_loopg [31, 8] l.length (fun gk v31 v8 wx => ∃ (i : Nat) (L : List S66) (A : Option Addr) (c : Nat), i ≤ l.length ∧ Hid (i + gk = l.length) ∧ v31 = .int .i64 i ∧ v8 = .slice A L.length c ∧ Hid (∀ x ∈ L, 0 ≤ x.f1) ∧ Hid (St No w wx [rt A c L, tab t L]))
  case atStart => exact ⟨0, [], none, 0, Nat.zero_le _, Lib.hid (Nat.zero_add _), rfl, rfl, Lib.hid (fun x hx => by simp at hx), Lib.hid (St.fresh (M := [rt none 0 []]) HS2.out (Up.refl _) ⟨No, No, fun _ e => e.elim, fun _ e => e.elim, fun _ e => e.elim, slc_nil _ _ _ _, trivial⟩)⟩
  case round =>
    clear HS2
    obtain ⟨i, L, A, c, hi, HG, rfl, rfl, HC, HS⟩ := hrel
    by_cases hlt : i < l.length
    · obtain ⟨ad, rfl, k0, k1, k2, k3, k4⟩ := at_T58 HR.out (i : Int) (by omega) (by omega)
      rw [Int.toNat_natCast] at k0 k1 k2 k3 k4
      have hxm : rd_T58 l (i : Int) ∈ l := by
        unfold rd_T58
        rw [Int.toNat_natCast, List.getD_eq_getElem?_getD, List.getElem?_eq_getElem hlt]
        exact List.getElem_mem hlt
      have hsz := HL'.out _ hxm
      have hwf := HW.out _ hxm
      obtain ⟨⟨k, co, ⟨g, s, a⟩⟩, hx⟩ : ∃ x, rd_T58 l (i : Int) = x := ⟨_, rfl⟩
      rw [hx] at k0 k1 k2 k3 k4 hsz hwf
      dsimp only at k0 k1 k2 k3 k4 hsz hwf
      clear hx hxm
      have hu := HS.out.up
      have m0 := cell_up hu k0
      have m1 := cell_up hu k1
      have m2 := cell_up hu k2
      have m3 := cell_up hu k3
      have m4 := cell_up hu k4
      clear k0 k1 k2 k3 k4 hu
      obtain ⟨mm, hok, -⟩ := tab_any (HS.out.get 1)
      have HOK := Lib.hid (do_ok hok k co g s a)
      have HCO := Lib.hid (do_core HC.out k co g s a)
      have hsa := (HS.out.alloc #[.int .i64 k, .int .i64 co, .bool g, .string s, .int .i64 a] 58).get 1
      have HSA : Hid (St No w (wr.alloc (.cells #[.int .i64 k, .int .i64 co, .bool g, .string s, .int .i64 a] 58)) [rt A c L, bk wr.heap.size 58 #[.int .i64 k, .int .i64 co, .bool g, .string s, .int .i64 a], tab t L]) := Lib.hid hsa
      have HRD := Lib.hid (rdo_u (tb_of_st hsa) hok k co g s a hsz)
      have HD := Lib.hid (fun (wx : World) (F : List Rg) (hs : St No w wx (tab t L :: F)) => do_st hs k co g s a hsz hwf)
      clear hok HS HC hsz hwf hsa
      obtain ⟨⟨L', n', e'⟩, hd⟩ : ∃ d, doN L k co g s a = d := ⟨_, rfl⟩
      rw [hd] at HD HRD HOK HCO
      dsimp only at HD HRD HOK HCO
      clear hd
      have HB3 := Lib.hid (show L'.length ≤ 1000 by have := HOK.out.len; omega)
      have HN1 : Hid (i + 1 + (gk - 1) = l.length) := Lib.hid (by have := HG.out; omega)
      have HN2 : Hid (gk - 1 < gk) := Lib.hid (by have := HG.out; omega)
      have HN3 : Hid (i + 1 ≤ l.length) := Lib.hid (by omega)
      have HNM : Hid ((namesOf L').length ≤ 1000) := Lib.hid (by have := HB3.out; simpa using this)
      clear HOK HG
      go_wp2_with fail
      refine HRD.out.mono ?_
      rintro e w3 ⟨A', c', rfl, ht, hnt, hu⟩
      have h3 := St.newT HSA.out hu hnt
      have q0 : w3.cell? ⟨wr.heap.size, 0, none⟩ = some (.int .i64 k) := cell_of_block (h3.get 1).bk_at 0
      have q1 : w3.cell? ⟨wr.heap.size, 1, none⟩ = some (.int .i64 co) := cell_of_block (h3.get 1).bk_at 1
      have q2 : w3.cell? ⟨wr.heap.size, 2, none⟩ = some (.bool g) := cell_of_block (h3.get 1).bk_at 2
      have q3 : w3.cell? ⟨wr.heap.size, 3, none⟩ = some (.string s) := cell_of_block (h3.get 1).bk_at 3
      have q4 : w3.cell? ⟨wr.heap.size, 4, none⟩ = some (.int .i64 a) := cell_of_block (h3.get 1).bk_at 4
      have HS3 : Hid (St No w w3 (tab t L :: [rt A' c' L'])) := Lib.hid ((h3.cut 1).get 1)
      clear h3 ht hu hnt HRD HSA m0 m1 m2 m3 m4
      go_wp2_with fail
      refine (HD.out _ _ HS3.out).mono ?_
      rintro e w4 ⟨rfl, hs⟩
      have HS4 := Lib.hid hs
      clear hs q0 q1 q2 q3 q4 HD HS3
      have HO1 := Lib.hid (fun (wx : World) (h : Tb wx A' c' L') => rof_u h HB3.out (-1))
      rw [ofR_all L' (by omega)] at HO1
      have HLS := Lib.hid (fun (wx : World) (F : List Rg) (h : St No w wx (tab t L' :: F)) => List_st h)
      obtain ⟨ns, hns⟩ : ∃ ns, namesOf L' = ns := ⟨_, rfl⟩
      rw [hns] at HLS HO1 HNM
      clear hns
      go_wp2_with fail
      refine (HLS.out _ _ HS4.out).mono ?_
      rintro e w5 ⟨v, rfl, hs, hu⟩
      obtain ⟨A5, c5, rfl, hnb⟩ := nb_of_nms hs
      have HNB := Lib.hid hnb
      have HS5 := Lib.hid hs.drop
      have HT5 := Lib.hid (tb_of_st (hs.drop.get 1))
      clear hs hu hnb HS4 HLS
      go_wp2_with fail
      refine (HO1.out _ HT5.out).mono ?_
      rintro e w6 ⟨A6, c6, rfl, hnb, hu⟩
      have HNB6 := Lib.hid hnb
      have HNB5 := Lib.hid (HNB.out.up hu)
      have HS6 := Lib.hid (HS5.out.more hu)
      clear hnb hu HNB HS5 HT5 HO1
      go_wp2_with fail
      refine (rsame_u HNB5.out HNB6.out HNM.out).mono ?_
      rintro e w7 ⟨rfl, hu⟩
      have HS7 := Lib.hid ((HS6.out.more hu).get 1)
      clear hu HNB5 HNB6 HS6 HNM
      go_wp2_with fail
      go_roundg (gk - 1)
      case measure => exact HN2.out
      case rel => exact ⟨i + 1, L', _, _, HN3.out, HN1, by go_num, rfl, HCO, HS7⟩
    · clear HG
      obtain ⟨mm, hok, -⟩ := tab_any (HS.out.get 1)
      have HOK := Lib.hid hok
      have hb : L.length ≤ 32 := hok.len
      have HXF := Lib.hid (show ∀ j (hj : j < L.length), fndV L (L[j]).f0 = .tuple #[.int .i64 (L[j]).f1, .int .i64 (L[j]).f2, .bool true] from fun j hj => by
        unfold fndV
        rw [find_self HOK.out.rise (List.getElem_mem hj)])
      have HXN := Lib.hid (show ∀ j (hj : j < L.length), (L[j]).f0.size ≤ maxLen from fun j hj => by
        have := HOK.out.name _ (List.getElem_mem hj)
        unfold maxLen
        omega)
      clear hok
      go_wp2
      go_loopg [68] L.length (fun gk v68 wx => ∃ j : Nat, j ≤ L.length ∧ Hid (j + gk = L.length) ∧ v68 = .int .i64 j ∧ Hid (St No w wx [rt A c L, tab t L]))
      case atStart => exact ⟨0, Nat.zero_le _, Lib.hid (Nat.zero_add _), rfl, HS⟩
      case round =>
        clear HS
        obtain ⟨j, hj, HG, rfl, HS⟩ := hrel
        by_cases hjl : j < L.length
        · have HN1 : Hid (j + 1 + (gk - 1) = L.length) := Lib.hid (by have := HG.out; omega)
          have HN2 : Hid (gk - 1 < gk) := Lib.hid (by have := HG.out; omega)
          have HN3 : Hid (j + 1 ≤ L.length) := Lib.hid (by omega)
          obtain ⟨ad, rfl, k0, k1, k2⟩ := at_T66 (tb_of_st HS.out).row (j : Int) (by omega) (by omega)
          rw [Int.toNat_natCast, rd66 hjl] at k0 k1 k2
          have hf := HXF.out j hjl
          have hz := HXN.out j hjl
          generalize L[j]'hjl = x at k0 k1 k2 hf hz
          obtain ⟨x0, x1, x2⟩ := x
          dsimp only at k0 k1 k2 hf hz
          have HF := Lib.hid (fun (wx : World) (F : List Rg) (hs : St No w wx (tab t L :: F)) => Find_st hs x0 hz)
          rw [hf] at HF
          have HSB : Hid (St No w (wr.alloc (.cells #[.string x0, .int .i64 x1, .int .i64 x2] 66)) [tab t L, rt (some ad) c L, bk wr.heap.size 66 #[.string x0, .int .i64 x1, .int .i64 x2]]) := Lib.hid (((HS.out.alloc #[.string x0, .int .i64 x1, .int .i64 x2] 66).get 1).get 2)
          clear hf hz HS HG
          go_wp2_with fail
          refine (HF.out _ _ HSB.out).mono ?_
          rintro e w3 ⟨rfl, hu⟩
          have h3 := HSB.out.more hu
          have z1 : w3.cell? ⟨wr.heap.size, 1, none⟩ = some (.int .i64 x1) := cell_of_block (h3.get 2).bk_at 1
          have z2 : w3.cell? ⟨wr.heap.size, 2, none⟩ = some (.int .i64 x2) := cell_of_block (h3.get 2).bk_at 2
          have HS3 : Hid (St No w w3 [rt (some ad) c L, tab t L]) := Lib.hid ((h3.cut 2).get 1)
          clear h3 hu HSB HF k0 k1 k2
          go_wp2_with fail
          go_roundg (gk - 1)
          case measure => exact HN2.out
          case rel => exact ⟨j + 1, HN3.out, HN1, by go_num, HS3⟩
        · clear HG HXF HXN
          have HB3 := Lib.hid (show L.length ≤ 1000 by omega)
          have HT := Lib.hid (tb_of_st HS.out)
          have HF := Lib.hid (fun (wx : World) (F : List Rg) (hs : St No w wx (tab t L :: F)) => Find_st hs name HN.out)
          have HRF := Lib.hid (fun (wx : World) (h : Tb wx A c L) => rfind_u h HB3.out name)
          obtain ⟨r0, r1, r2, rp, h0, h1, h2⟩ : ∃ r0 r1 r2 rp, fndV L name = .tuple #[.int .i64 r0, .int .i64 r1, .bool r2] ∧ (if placeN L name < L.length then (placeN L name : Int) else -1) = rp ∧ ((r0 = 0 ∧ r1 = 0 ∧ r2 = false ∧ rp < 0) ∨ ¬ rp < 0) := by
            unfold fndV
            cases hf : findN L name with
            | none => exact ⟨0, 0, false, -1, rfl, by rw [if_neg (place_none hf)], .inl ⟨rfl, rfl, rfl, by omega⟩⟩
            | some x =>
              obtain ⟨hp, _⟩ := place_some hf
              exact ⟨x.f1, x.f2, true, (placeN L name : Int), rfl, by rw [if_pos hp], .inr (by omega)⟩
          rw [h0] at HF
          rw [h1] at HRF
          clear h0 h1
          have HLO := Lib.hid (fun (wx : World) (F : List Rg) (hs : St No w wx (tab t L :: F)) => Of_st hs core)
          by_cases hcore : core < 0
          · have HOB := of_below HC.out hcore
            rw [HOB] at HLO
            clear HOB
            rcases h2 with ⟨rfl, rfl, rfl, hrp⟩ | hrp
            all_goals
              go_wp2_with (first
                | (go_at_call 30; refine (HF.out _ _ (HS.out.get 1)).mono ?_; rintro e w3 ⟨rfl, hu⟩; have HS3 := Lib.hid (HS.out.more hu); clear hu)
                | (go_at_call 31; refine (HRF.out _ (tb_of_st HS3.out)).mono ?_; rintro e w4 ⟨rfl, hu⟩; have HS4 := Lib.hid (HS3.out.more hu); clear hu)
                | (go_at_call 32; refine (HLO.out _ _ (HS4.out.get 1)).mono ?_; rintro e w5 ⟨v, rfl, hs⟩; obtain ⟨A5, c5, rfl, -⟩ := nb_of_nms hs; have HU5 := Lib.hid hs.up; clear hs)
                | (go_at_call 24; refine (alive_walk _).mono ?_; rintro e w6 ⟨rfl, hu⟩; have HU6 := Lib.hid (HU5.out.trans hu); clear hu))
              go_ret
              exact ⟨rfl, HU6.out⟩
          · have hcore2 : 0 ≤ core := by omega
            have HRO := Lib.hid (fun (wx : World) (h : Tb wx A c L) => rof_u h HB3.out core)
            rw [ofR_core L hcore] at HRO
            have HNM : Hid ((namesOf (ofN L core)).length ≤ 1000) := Lib.hid (by
              have h3 : (ofN L core).length ≤ L.length := List.length_filter_le _ _
              rw [List.length_map]
              omega)
            obtain ⟨ns, hns⟩ : ∃ ns, namesOf (ofN L core) = ns := ⟨_, rfl⟩
            rw [hns] at HLO HRO HNM
            clear hns
            rcases h2 with ⟨rfl, rfl, rfl, hrp⟩ | hrp
            all_goals
              go_wp2_with (first
                | (go_at_call 30; refine (HF.out _ _ (HS.out.get 1)).mono ?_; rintro e w3 ⟨rfl, hu⟩; have HS3 := Lib.hid (HS.out.more hu); clear hu)
                | (go_at_call 31; refine (HRF.out _ (tb_of_st HS3.out)).mono ?_; rintro e w4 ⟨rfl, hu⟩; have HS4 := Lib.hid (HS3.out.more hu); clear hu)
                | (go_at_call 32; refine (HLO.out _ _ (HS4.out.get 1)).mono ?_; rintro e w5 ⟨v, rfl, hs⟩; obtain ⟨A5, c5, rfl, hnb⟩ := nb_of_nms hs; have HNB := Lib.hid hnb; have HT5 := Lib.hid (tb_of_st (hs.get 2)); have HU5 := Lib.hid hs.up; clear hs hnb)
                | (go_at_call 29; refine (HRO.out _ HT5.out).mono ?_; rintro e w6 ⟨A6, c6, rfl, hnb, hu⟩; have HNB6 := Lib.hid hnb; have HNB5 := Lib.hid (HNB.out.up hu); have HU7 := Lib.hid (HU5.out.trans hu); clear hnb hu)
                | (go_at_call 28; refine (rsame_u HNB5.out HNB6.out HNM.out).mono ?_; rintro e w7 ⟨rfl, hu⟩; have HU8 := Lib.hid (HU7.out.trans hu); clear hu)
                | (go_at_call 24; refine (alive_walk _).mono ?_; rintro e w8 ⟨rfl, hu⟩; have HU6 := Lib.hid (HU8.out.trans hu); clear hu))
              go_ret
              exact ⟨rfl, HU6.out⟩
end Go.Proofs.Ytdhgmnnkbjhpaaa.Ntab
