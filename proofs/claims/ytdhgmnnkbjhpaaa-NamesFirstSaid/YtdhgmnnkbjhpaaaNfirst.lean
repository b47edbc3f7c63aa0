/- NamesFirst, walked. -/
import Derived.Test.YtdhgmnnkbjhpaaaNfirst1
import Derived.Deep.LoopGhost
namespace Go.Proofs.Ytdhgmnnkbjhpaaa.Ntab
set_option linter.unusedVariables false
set_option linter.unusedSimpArgs false
open Go.RowKit Go.Proofs.Ytdhgmnnkbjhpaaa.Sep Go.Proofs.Ytdhgmnnkbjhpaaa.Mp Go.Proofs.Ytdhgmnnkbjhpaaa.PNamesPlay Go.Proofs.Ytdhgmnnkbjhpaaa.NoteOk Go.Proofs.YtdhgmnnkbjhpaaaW.PrintWords
open Go.Maps (Keyed)

theorem str_inj {a b : ByteArray} (h : a.toList = b.toList) : a = b := ky_inj (by rw [ByteArray.toList_eq, ByteArray.toList_eq] at h; exact h)
theorem size_set3 {w : World} {p q r : Addr} {x y z : Value} : (((w.setCell p x).setCell q y).setCell r z).heap.size = w.heap.size := by simp [World.setCell]
set_option maxHeartbeats 16000000 in
set_option maxRecDepth 100000 in
theorem first_walk (A : Option Addr) (c : Nat) (l : List S58) (name : ByteArray) (w : World) (hr : Kd.C k58 w A l.length l) (hc : l.length ≤ c) (hm : c ≤ maxLen) (hw : ∀ x ∈ l, (Lit.int .i64 x.f2.f2).wf = true) (hn : name.size ≤ maxLen) :
    Calls Try.prog 8 #[.slice A l.length c, .string name] w fun e w' => e = .returned (.bool true) ∧ Up w w' := by
  have HR := Lib.hid hr
  have HW := Lib.hid hw
  have HN := Lib.hid hn
  have HF := Lib.hid (fun (wx : World) (hu : Up w wx) => few_q l A c wx (Kd.C_below hr hu) hc hm)
  have HL := Lib.hid (show fewB l = true → ∀ x ∈ l, x.f2.f1.size ≤ 1000 from fun h x hx => by
    unfold fewB at h
    simp only [Bool.and_eq_true, List.all_eq_true, decide_eq_true_eq] at h
    have := h.2 x hx
    omega)
  have HL2 := Lib.hid (show fewB l = true → l.length ≤ 150 from fun h => by
    unfold fewB at h
    simp only [Bool.and_eq_true, decide_eq_true_eq] at h
    exact h.1)
  clear hr hw hn hc hm
  go_enter Try.func8, Try.ntmps8
  go_wp2_with fail
  refine (New_st (St.nil w)).mono ?_
  rintro e w1 ⟨t, rfl, hs⟩
  have HS1 := Lib.hid hs
  clear hs
  have HF1 := Lib.hid (HF.out w1 HS1.out.up)
  clear HF
  by_cases hb : fewB l = true
  case neg =>
    have hb' : fewB l = false := by simpa using hb
    rw [hb'] at HF1
    clear hb hb'
    go_wp2_with (first
      | (go_at_call 25; refine HF1.out.mono ?_; rintro e w2 ⟨rfl, hu⟩; have HU2 := Lib.hid (HS1.out.up.trans hu); clear hu)
      | (go_at_call 24; refine (alive_walk _).mono ?_; rintro e w6 ⟨rfl, hu⟩; have HU6 := Lib.hid (HU2.out.trans hu); clear hu))
    go_ret
    exact ⟨rfl, HU6.out⟩
  have HL' := Lib.hid (HL.out hb)
  have hl150 : l.length ≤ 150 := HL2.out hb
  rw [hb] at HF1
  clear HL HL2 hb
  go_wp2_with (go_at_call 25; refine HF1.out.mono ?_; rintro e w2 ⟨rfl, hu⟩; have HS2 := Lib.hid ((HS1.out.more hu).alloc #[.string name, .int .i64 0, .int .i64 0] 66); clear hu)
  clear HF1 HS1
  go_loopg [29, 6] l.length (fun gk v29 v6 wx => ∃ (i : Nat) (L : List S66) (has : Bool) (own : S66), i ≤ l.length ∧ Hid (i + gk = l.length) ∧ v29 = .int .i64 i ∧ v6 = .bool has ∧ Hid (St No w wx [tab t L, bk w2.heap.size 66 #[.string own.f0, .int .i64 own.f1, .int .i64 own.f2]]) ∧ Hid (Own L name has own))
  case atStart => exact ⟨0, [], false, ⟨name, 0, 0⟩, Nat.zero_le _, Lib.hid (Nat.zero_add _), rfl, rfl, Lib.hid (HS2.out.get 1), Lib.hid ⟨fun h => (by cases h), fun _ => rfl⟩⟩
  case round =>
    clear HS2
    obtain ⟨i, L, has, own, hi, HG, rfl, rfl, HS, HO⟩ := hrel
    by_cases hlt : i < l.length
    · obtain ⟨ad, rfl, k0, k1, k2, k3, k4⟩ := at_T58 HR.out (i : Int) (by omega) (by omega)
      rw [Int.toNat_natCast] at k0 k1 k2 k3 k4
      have hxm : rd_T58 l (i : Int) ∈ l := by
        unfold rd_T58
        rw [Int.toNat_natCast, List.getD_eq_getElem?_getD, List.getElem?_eq_getElem hlt]
        exact List.getElem_mem hlt
      have hsz := HL'.out _ hxm
      have hwf := HW.out _ hxm
      obtain ⟨⟨k, core, ⟨g, s, a⟩⟩, hx⟩ : ∃ x, rd_T58 l (i : Int) = x := ⟨_, rfl⟩
      rw [hx] at k0 k1 k2 k3 k4 hsz hwf
      dsimp only at k0 k1 k2 k3 k4 hsz hwf
      clear hx hxm
      have hu := HS.out.up
      have m0 := cell_up hu k0
      have m1 := cell_up hu k1
      have m2 := cell_up hu k2
      have m3 := cell_up hu k3
      have m4 := cell_up hu k4
      clear k0 k1 k2 k3 k4 hu
      obtain ⟨mm, hok, -⟩ := tab_any HS.out
      have hst := first_step hok HO.out k core g s a
      have hs1 := (HS.out.alloc #[.int .i64 k, .int .i64 core, .bool g, .string s, .int .i64 a] 58).get 1
      have HD := Lib.hid (do_st hs1 k core g s a hsz hwf)
      clear hok HS HO hs1 hsz hwf
      obtain ⟨⟨L', n', e'⟩, hd⟩ : ∃ d, doN L k core g s a = d := ⟨_, rfl⟩
      rw [hd] at hst HD
      dsimp only at hst HD
      clear hd
      have HST := Lib.hid hst
      clear hst
      go_wp2_with fail
      refine HD.out.mono ?_
      rintro e w4 ⟨rfl, hs⟩
      have q0 : w4.cell? ⟨wr.heap.size, 0, none⟩ = some (.int .i64 k) := cell_of_block (hs.get 1).bk_at 0
      have q1 : w4.cell? ⟨wr.heap.size, 1, none⟩ = some (.int .i64 core) := cell_of_block (hs.get 1).bk_at 1
      have q2 : w4.cell? ⟨wr.heap.size, 2, none⟩ = some (.bool g) := cell_of_block (hs.get 1).bk_at 2
      have q3 : w4.cell? ⟨wr.heap.size, 3, none⟩ = some (.string s) := cell_of_block (hs.get 1).bk_at 3
      have q4 : w4.cell? ⟨wr.heap.size, 4, none⟩ = some (.int .i64 a) := cell_of_block (hs.get 1).bk_at 4
      have p0 : w4.cell? ⟨w2.heap.size, 0, none⟩ = some (.string own.f0) := cell_of_block (hs.get 2).bk_at 0
      have p1 : w4.cell? ⟨w2.heap.size, 1, none⟩ = some (.int .i64 own.f1) := cell_of_block (hs.get 2).bk_at 1
      have p2 : w4.cell? ⟨w2.heap.size, 2, none⟩ = some (.int .i64 own.f2) := cell_of_block (hs.get 2).bk_at 2
      have HS4 : Hid (St No w w4 [tab t L', bk w2.heap.size 66 #[.string own.f0, .int .i64 own.f1, .int .i64 own.f2]]) := Lib.hid (hs.cut 1)
      have f0 : w4.frozen? ⟨w2.heap.size, 0, none⟩ = false := free_of_block (hs.get 2).bk_at 0
      have f1 : w4.frozen? ⟨w2.heap.size, 1, none⟩ = false := free_of_block (hs.get 2).bk_at 1
      have f2 : w4.frozen? ⟨w2.heap.size, 2, none⟩ = false := free_of_block (hs.get 2).bk_at 2
      have lq := World.block_lt_of_cell? w4 _ q0
      have lp := World.block_lt_of_cell? w4 _ p0
      clear hs HD m0 m1 m2 m3 m4
      rcases HST.out with ⟨rfl, rfl, HO⟩ | ⟨hk, hne, HO⟩ | ⟨hk, rfl, rfl, rfl, rfl, rfl, HO⟩ | ⟨hk, rfl, rfl, rfl, hown, HO⟩
      -- WAYS
      · have HS5 := Lib.hid ((HS4.out.allocU (.cells #[.string s, .int .i64 core, .int .i64 a] 66)))
        clear HS4 HST
        cases has with
        | true =>
          by_cases hoc : own.f1 = core
          · have HO5 : Hid (Own L' name false own) := Lib.hid (by simpa [hoc] using HO)
            subst hoc
            clear HO
            have HFD := Lib.hid (show fndV L' name = .tuple #[.int .i64 0, .int .i64 0, .bool false] from by unfold fndV; rw [HO5.out.no rfl])
            go_wp2_with (go_at_call 30; refine (Find_st HS5.out name HN.out).mono ?_; rw [HFD.out]; rintro e w6 ⟨rfl, hu⟩; have HS6 := Lib.hid (HS5.out.more hu); have z1 : w6.cell? ⟨w2.heap.size, 1, none⟩ = some (.int .i64 own.f1) := cell_of_block (HS6.out.get 1).bk_at 1; have z2 : w6.cell? ⟨w2.heap.size, 2, none⟩ = some (.int .i64 own.f2) := cell_of_block (HS6.out.get 1).bk_at 2; clear hu)
            go_roundg (gk - 1)
            case measure => have := HG.out; omega
            case rel => exact ⟨i + 1, L', false, own, by omega, Lib.hid (by have := HG.out; omega), by go_num, rfl, HS6, HO5⟩
          · have hoc' : (own.f1 == core) = false := beq_eq_false_iff_ne.2 hoc
            have HO5 : Hid (Own L' name true own) := Lib.hid (by simpa [bne, hoc'] using HO)
            have hoc2 : (own.f1 != core) = true := by simp [bne, hoc']
            clear HO
            have HFD := Lib.hid (show fndV L' name = .tuple #[.int .i64 own.f1, .int .i64 own.f2, .bool true] from by unfold fndV; rw [HO5.out.yes rfl])
            go_wp2_with (go_at_call 30; refine (Find_st HS5.out name HN.out).mono ?_; rw [HFD.out]; rintro e w6 ⟨rfl, hu⟩; have HS6 := Lib.hid (HS5.out.more hu); have z1 : w6.cell? ⟨w2.heap.size, 1, none⟩ = some (.int .i64 own.f1) := cell_of_block (HS6.out.get 1).bk_at 1; have z2 : w6.cell? ⟨w2.heap.size, 2, none⟩ = some (.int .i64 own.f2) := cell_of_block (HS6.out.get 1).bk_at 2; clear hu)
            go_roundg (gk - 1)
            case measure => have := HG.out; omega
            case rel => exact ⟨i + 1, L', true, own, by omega, Lib.hid (by have := HG.out; omega), by go_num, rfl, HS6, HO5⟩
        | false =>
          have HO5 : Hid (Own L' name false own) := Lib.hid (by simpa using HO)
          clear HO
          have HFD := Lib.hid (show fndV L' name = .tuple #[.int .i64 0, .int .i64 0, .bool false] from by unfold fndV; rw [HO5.out.no rfl])
          go_wp2_with (go_at_call 30; refine (Find_st HS5.out name HN.out).mono ?_; rw [HFD.out]; rintro e w6 ⟨rfl, hu⟩; have HS6 := Lib.hid (HS5.out.more hu); have z1 : w6.cell? ⟨w2.heap.size, 1, none⟩ = some (.int .i64 own.f1) := cell_of_block (HS6.out.get 1).bk_at 1; have z2 : w6.cell? ⟨w2.heap.size, 2, none⟩ = some (.int .i64 own.f2) := cell_of_block (HS6.out.get 1).bk_at 2; clear hu)
          go_roundg (gk - 1)
          case measure => have := HG.out; omega
          case rel => exact ⟨i + 1, L', false, own, by omega, Lib.hid (by have := HG.out; omega), by go_num, rfl, HS6, HO5⟩
      · have hk1 : (k == 1) = false := beq_eq_false_iff_ne.2 hk
        have HS5 := Lib.hid ((HS4.out.allocU (.cells #[.string s, .int .i64 core, .int .i64 a] 66)))
        have HO5 := Lib.hid HO
        clear HS4 HST HO
        by_cases hsn : s.toList = name.toList
        · have he : ¬ e' = 0 := by
            rcases hne with h | h
            · exact absurd (str_inj hsn) h
            · exact h
          have he' : (e' == 0) = false := beq_eq_false_iff_ne.2 he
          clear hne
          cases has with
          | true =>
            have HFD := Lib.hid (show fndV L' name = .tuple #[.int .i64 own.f1, .int .i64 own.f2, .bool true] from by unfold fndV; rw [HO5.out.yes rfl])
            go_wp2_with (go_at_call 30; refine (Find_st HS5.out name HN.out).mono ?_; rw [HFD.out]; rintro e w6 ⟨rfl, hu⟩; have HS6 := Lib.hid (HS5.out.more hu); have z1 : w6.cell? ⟨w2.heap.size, 1, none⟩ = some (.int .i64 own.f1) := cell_of_block (HS6.out.get 1).bk_at 1; have z2 : w6.cell? ⟨w2.heap.size, 2, none⟩ = some (.int .i64 own.f2) := cell_of_block (HS6.out.get 1).bk_at 2; clear hu)
            go_roundg (gk - 1)
            case measure => have := HG.out; omega
            case rel => exact ⟨i + 1, L', true, own, by omega, Lib.hid (by have := HG.out; omega), by go_num, rfl, HS6, HO5⟩
          | false =>
            have HFD := Lib.hid (show fndV L' name = .tuple #[.int .i64 0, .int .i64 0, .bool false] from by unfold fndV; rw [HO5.out.no rfl])
            go_wp2_with (go_at_call 30; refine (Find_st HS5.out name HN.out).mono ?_; rw [HFD.out]; rintro e w6 ⟨rfl, hu⟩; have HS6 := Lib.hid (HS5.out.more hu); have z1 : w6.cell? ⟨w2.heap.size, 1, none⟩ = some (.int .i64 own.f1) := cell_of_block (HS6.out.get 1).bk_at 1; have z2 : w6.cell? ⟨w2.heap.size, 2, none⟩ = some (.int .i64 own.f2) := cell_of_block (HS6.out.get 1).bk_at 2; clear hu)
            go_roundg (gk - 1)
            case measure => have := HG.out; omega
            case rel => exact ⟨i + 1, L', false, own, by omega, Lib.hid (by have := HG.out; omega), by go_num, rfl, HS6, HO5⟩
        · clear hne
          cases has with
          | true =>
            have HFD := Lib.hid (show fndV L' name = .tuple #[.int .i64 own.f1, .int .i64 own.f2, .bool true] from by unfold fndV; rw [HO5.out.yes rfl])
            go_wp2_with (go_at_call 30; refine (Find_st HS5.out name HN.out).mono ?_; rw [HFD.out]; rintro e w6 ⟨rfl, hu⟩; have HS6 := Lib.hid (HS5.out.more hu); have z1 : w6.cell? ⟨w2.heap.size, 1, none⟩ = some (.int .i64 own.f1) := cell_of_block (HS6.out.get 1).bk_at 1; have z2 : w6.cell? ⟨w2.heap.size, 2, none⟩ = some (.int .i64 own.f2) := cell_of_block (HS6.out.get 1).bk_at 2; clear hu)
            go_roundg (gk - 1)
            case measure => have := HG.out; omega
            case rel => exact ⟨i + 1, L', true, own, by omega, Lib.hid (by have := HG.out; omega), by go_num, rfl, HS6, HO5⟩
          | false =>
            have HFD := Lib.hid (show fndV L' name = .tuple #[.int .i64 0, .int .i64 0, .bool false] from by unfold fndV; rw [HO5.out.no rfl])
            go_wp2_with (go_at_call 30; refine (Find_st HS5.out name HN.out).mono ?_; rw [HFD.out]; rintro e w6 ⟨rfl, hu⟩; have HS6 := Lib.hid (HS5.out.more hu); have z1 : w6.cell? ⟨w2.heap.size, 1, none⟩ = some (.int .i64 own.f1) := cell_of_block (HS6.out.get 1).bk_at 1; have z2 : w6.cell? ⟨w2.heap.size, 2, none⟩ = some (.int .i64 own.f2) := cell_of_block (HS6.out.get 1).bk_at 2; clear hu)
            go_roundg (gk - 1)
            case measure => have := HG.out; omega
            case rel => exact ⟨i + 1, L', false, own, by omega, Lib.hid (by have := HG.out; omega), by go_num, rfl, HS6, HO5⟩
      · have hk1 : (k == 1) = false := beq_eq_false_iff_ne.2 hk
        have HS5 := Lib.hid ((HS4.out.allocU (.cells #[.string s, .int .i64 core, .int .i64 a] 66)))
        have HO5 := Lib.hid HO
        clear HS4 HST HO
        dsimp only at *
        have HFD := Lib.hid (show fndV L' s = .tuple #[.int .i64 0, .int .i64 0, .bool false] from by unfold fndV; rw [HO5.out.no rfl])
        go_wp2_with (go_at_call 30; refine (Find_st HS5.out s HN.out).mono ?_; rw [HFD.out]; rintro e w6 ⟨rfl, hu⟩; have HS6 := Lib.hid (HS5.out.more hu); have z1 : w6.cell? ⟨w2.heap.size, 1, none⟩ = some (.int .i64 (⟨s, core, a⟩ : S66).f1) := cell_of_block (HS6.out.get 1).bk_at 1; have z2 : w6.cell? ⟨w2.heap.size, 2, none⟩ = some (.int .i64 (⟨s, core, a⟩ : S66).f2) := cell_of_block (HS6.out.get 1).bk_at 2; clear hu)
        go_roundg (gk - 1)
        case measure => have := HG.out; omega
        case rel => exact ⟨i + 1, L', false, (⟨s, core, a⟩ : S66), by omega, Lib.hid (by have := HG.out; omega), by go_num, rfl, HS6, HO5⟩
      · have hk1 : (k == 1) = false := beq_eq_false_iff_ne.2 hk
        have HO5 := Lib.hid HO
        clear HST HO
        have h7 := (((HS4.out.get 1).set 0 (.string s)).set 1 (.int .i64 core)).set 2 (.int .i64 a)
        have h8 := (h7.alloc #[.string s, .int .i64 core, .int .i64 a] 66).drew
        rw [size_set3] at h8
        have HSX := Lib.hid ((HS4.out.alloc #[.string s, .int .i64 core, .int .i64 a] 66).drew)
        have x0 := cell_of_block (HSX.out.bk_at) 0
        have x1 := cell_of_block (HSX.out.bk_at) 1
        have x2 := cell_of_block (HSX.out.bk_at) 2
        have y0 := cell_of_block (h8.bk_at) 0
        have y1 := cell_of_block (h8.bk_at) 1
        have y2 := cell_of_block (h8.bk_at) 2
        have HX := Lib.hid (And.intro x0 (And.intro x1 x2))
        have HY := Lib.hid (And.intro y0 (And.intro y1 y2))
        have HS5 : Hid (St No w _ [tab t L', bk w2.heap.size 66 #[.string s, .int .i64 core, .int .i64 a]]) := Lib.hid ((h8.cut 0).get 1)
        clear HS4 h7 h8 HSX x0 x1 x2 y0 y1 y2
        have x0 : (w4.alloc (.cells #[.string s, .int .i64 core, .int .i64 a] 66)).cell? ⟨w4.heap.size, 0, none⟩ = some (.string s) := HX.out.1
        have x1 : (w4.alloc (.cells #[.string s, .int .i64 core, .int .i64 a] 66)).cell? ⟨w4.heap.size, 1, none⟩ = some (.int .i64 core) := HX.out.2.1
        have x2 : (w4.alloc (.cells #[.string s, .int .i64 core, .int .i64 a] 66)).cell? ⟨w4.heap.size, 2, none⟩ = some (.int .i64 a) := HX.out.2.2
        cases has with
        | true =>
          obtain rfl := hown rfl
          dsimp only at *
          go_wp2_with fail
          go_region_held3 (fun wx => wx.cell? ⟨w4.heap.size, 0, none⟩ = some (.string s) ∧ wx.cell? ⟨w4.heap.size, 1, none⟩ = some (.int .i64 core) ∧ wx.cell? ⟨w4.heap.size, 2, none⟩ = some (.int .i64 a)) (first | exact ⟨x0, x1, x2⟩ | exact HY.out | go_keep) (fail)
          have HFD := Lib.hid (show fndV L' s = .tuple #[.int .i64 (⟨s, core, a⟩ : S66).f1, .int .i64 (⟨s, core, a⟩ : S66).f2, .bool true] from by unfold fndV; rw [HO5.out.yes rfl])
          go_wp2_with (go_at_call 30; refine (Find_st HS5.out s HN.out).mono ?_; rw [HFD.out]; rintro e w6 ⟨rfl, hu⟩; have HS6 := Lib.hid (HS5.out.more hu); have z1 : w6.cell? ⟨w2.heap.size, 1, none⟩ = some (.int .i64 (⟨s, core, a⟩ : S66).f1) := cell_of_block (HS6.out.get 1).bk_at 1; have z2 : w6.cell? ⟨w2.heap.size, 2, none⟩ = some (.int .i64 (⟨s, core, a⟩ : S66).f2) := cell_of_block (HS6.out.get 1).bk_at 2; clear hu)
          go_roundg (gk - 1)
          case measure => have := HG.out; omega
          case rel => exact ⟨i + 1, L', true, (⟨s, core, a⟩ : S66), by omega, Lib.hid (by have := HG.out; omega), by go_num, rfl, HS6, HO5⟩
        | false =>
          clear hown
          go_wp2_with fail
          go_region_held3 (fun wx => wx.cell? ⟨w4.heap.size, 0, none⟩ = some (.string s) ∧ wx.cell? ⟨w4.heap.size, 1, none⟩ = some (.int .i64 core) ∧ wx.cell? ⟨w4.heap.size, 2, none⟩ = some (.int .i64 a)) (first | exact ⟨x0, x1, x2⟩ | exact HY.out | go_keep) (fail)
          have HFD := Lib.hid (show fndV L' s = .tuple #[.int .i64 (⟨s, core, a⟩ : S66).f1, .int .i64 (⟨s, core, a⟩ : S66).f2, .bool true] from by unfold fndV; rw [HO5.out.yes rfl])
          go_wp2_with (go_at_call 30; refine (Find_st HS5.out s HN.out).mono ?_; rw [HFD.out]; rintro e w6 ⟨rfl, hu⟩; have HS6 := Lib.hid (HS5.out.more hu); have z1 : w6.cell? ⟨w2.heap.size, 1, none⟩ = some (.int .i64 (⟨s, core, a⟩ : S66).f1) := cell_of_block (HS6.out.get 1).bk_at 1; have z2 : w6.cell? ⟨w2.heap.size, 2, none⟩ = some (.int .i64 (⟨s, core, a⟩ : S66).f2) := cell_of_block (HS6.out.get 1).bk_at 2; clear hu)
          go_roundg (gk - 1)
          case measure => have := HG.out; omega
          case rel => exact ⟨i + 1, L', true, (⟨s, core, a⟩ : S66), by omega, Lib.hid (by have := HG.out; omega), by go_num, rfl, HS6, HO5⟩
    · obtain rfl : i = l.length := by omega
      have HU := Lib.hid HS.out.up
      go_wp2_with (go_at_call 24; refine (alive_walk _).mono ?_; rintro e w6 ⟨rfl, hu⟩; have HU6 := Lib.hid (HU.out.trans hu); clear hu)
      go_ret
      exact ⟨rfl, HU6.out⟩
end Go.Proofs.Ytdhgmnnkbjhpaaa.Ntab
