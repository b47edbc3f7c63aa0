/- Tell. -/
import Derived.Test.YtdhgmnnkbjhpaaaNtab
import Derived.Deep.CutRange
namespace Go.Proofs.Ytdhgmnnkbjhpaaa.Ntab
set_option linter.unusedVariables false
set_option linter.unusedSimpArgs false
open Go.RowKit Go.Proofs.Ytdhgmnnkbjhpaaa.Sep Go.Proofs.Ytdhgmnnkbjhpaaa.Mp Go.Proofs.Ytdhgmnnkbjhpaaa.PNamesPlay Go.Proofs.Ytdhgmnnkbjhpaaa.NoteOk Go.Proofs.YtdhgmnnkbjhpaaaW.PrintWords
open Go.Maps (Keyed)

section
variable {P0 : Nat → Prop} {w0 w w' : World} {F : List Rg} {t : Nat} {L : List S66}
theorem Right_u (g : Bool) (s : ByteArray) (a : Int) (hs : s.size ≤ 1000) (w : World) : Calls Try.prog 44 #[.agg #[.bool g, .string s, .int .i64 a]] w fun e w' => e = .returned (.bool (ncode (bytesOf s) a == 0)) ∧ Up w w' :=
  note_Right.calls (s.size + 1) g s a _ w (nRight g s a hs _ (by omega))
set_option maxHeartbeats 4000000 in
set_option maxRecDepth 100000 in
theorem Tell_nil (core : Int) (g : Bool) (s : ByteArray) (a : Int) (w : World) : Calls Try.prog 22 #[.pointer none, .int .i64 core, .agg #[.bool g, .string s, .int .i64 a]] w fun e w' => e = .returned (.int .i64 1) ∧ Up w w' := by
  go_enter Try.func22, Try.ntmps22
  go_wp2
  go_ret
  exact ⟨rfl, (Up.refl w).alloc _⟩
set_option maxHeartbeats 16000000 in
set_option maxRecDepth 100000 in
theorem Tell_st (h : St P0 w0 w (tab t L :: F)) (core : Int) (g : Bool) (s : ByteArray) (a : Int) (hs : s.size ≤ 1000) (wa : (Lit.int .i64 a).wf = true) : Calls Try.prog 22 #[.pointer (some ⟨t, 0, none⟩), .int .i64 core, .agg #[.bool g, .string s, .int .i64 a]] w fun e w' =>
    e = .returned (.int .i64 (tellN L core g s a).2) ∧ St P0 w0 w' (tab t (tellN L core g s a).1 :: F) := by
  have HR := Lib.hid (fun wx => Right_u g s a hs wx)
  by_cases hc : core < 0 ∨ 8 ≤ core
  · have e0 : tellN L core g s a = (L, 3) := by unfold tellN; rw [if_pos hc]
    rw [e0]
    have HS := Lib.hid (h.allocU (.cells #[.bool g, .string s, .int .i64 a] 49))
    clear h e0
    have hc' : core < 0 ∨ (¬ core < 0 ∧ 8 ≤ core) := by omega
    clear hc
    rcases hc' with hc | ⟨hc, hd⟩
    all_goals
      go_enter Try.func22, Try.ntmps22
      go_wp2
      go_ret
      exact ⟨rfl, HS.out⟩
  have hc1 : ¬ core < 0 := by omega
  have hc2 : ¬ 8 ≤ core := by omega
  by_cases hn : ncode (bytesOf s) a = 0
  case neg =>
    have e0 : tellN L core g s a = (L, 2) := by unfold tellN; rw [if_neg hc, if_pos hn]
    rw [e0]
    rw [beq_eq_false_iff_ne.2 hn] at HR
    have HS := Lib.hid (h.allocU (.cells #[.bool g, .string s, .int .i64 a] 49))
    clear h e0 hc hn
    go_enter Try.func22, Try.ntmps22
    go_wp2_with (go_at_call 44; refine (HR.out _).mono ?_; rintro e w1 ⟨rfl, hu⟩; have HU := Lib.hid hu; clear hu)
    go_ret
    exact ⟨rfl, HS.out.more HU.out⟩
  case pos =>
    rw [hn] at HR
    have e0 : tellN L core g s a = tellY L core g s a := by unfold tellN; rw [if_neg hc, if_neg (by simpa using hn)]
    rw [e0]
    obtain ⟨⟨L', e'⟩, hY⟩ : ∃ r, tellY L core g s a = r := ⟨_, rfl⟩
    rw [hY]
    dsimp only
    obtain ⟨m, hm, h1⟩ := tab_any h
    have HM := Lib.hid hm
    have HL := Lib.hid (fun (wx : World) (F' : List Rg) (h : St P0 w0 wx (mp 9 m (L.map ent) :: F')) => mp_look h klaw Try.underlying98 (zplace wx) (kof (show s.size ≤ maxLen by unfold maxLen; omega)))
    rw [look_ent] at HL
    obtain ⟨ok, c0, a0, hv, hok⟩ : ∃ ok c0 a0, (Option.map pv (findN L s)).getD (.agg #[.int .i64 0, .int .i64 0]) = .agg #[.int .i64 c0, .int .i64 a0] ∧ (Option.map pv (findN L s)).isSome = ok := by
      cases findN L s with
      | none => exact ⟨false, 0, 0, rfl, rfl⟩
      | some x => exact ⟨true, x.f1, x.f2, rfl, rfl⟩
    rw [hv, hok] at HL
    have HOK := Lib.hid hok
    have HV := Lib.hid hv
    have HY := Lib.hid hY
    have HS1 : Hid (St P0 w0 (w.alloc (.cells #[.bool g, .string s, .int .i64 a] 49)) (bk w.heap.size 49 #[.bool g, .string s, .int .i64 a] :: bk t 100 #[.map (some m)] :: mp 9 m (L.map ent) :: F)) := Lib.hid (h1.alloc _ _)
    have HN8 : Hid (s.size ≤ 8) := Lib.hid (by have := (nameOk_iff.1 (ncode_0.1 hn).1).2.2; rwa [bytesOf_length] at this)
    clear h h1 e0 hm hc hY hv hok
    go_enter Try.func22, Try.ntmps22
    go_upto_region 8 with (go_at_call 44; refine (HR.out _).mono ?_; rintro e w1 ⟨rfl, hu⟩; have HS2 := Lib.hid (HS1.out.more hu); have c2 : w1.cell? ⟨w.heap.size, 2, none⟩ = some (.int .i64 a) := cell_of_block (HS1.out.more hu).bk_at 2; clear hu)
    have h3 : St P0 w0 (w1.alloc (.cells #[.int .i64 core, .int .i64 a] 103)) (bk w1.heap.size 103 #[.int .i64 core, .int .i64 a] :: bk w.heap.size 49 #[.bool g, .string s, .int .i64 a] :: bk t 100 #[.map (some m)] :: mp 9 m (L.map ent) :: F) := HS2.out.alloc _ _
    have d0 : (w1.alloc (.cells #[.int .i64 core, .int .i64 a] 103)).cell? ⟨t, 0, none⟩ = some (.map (some m)) := cell_of_block (h3.get 2).bk_at 0
    have d1 : (w1.alloc (.cells #[.int .i64 core, .int .i64 a] 103)).cell? ⟨w.heap.size, 1, none⟩ = some (.string s) := cell_of_block (h3.get 1).bk_at 1
    have HS3 := Lib.hid h3
    clear h3 HS1 HS2 c2
    generalize w1.alloc (.cells #[.int .i64 core, .int .i64 a] 103) = w3 at *
    generalize w1.heap.size = gn at *
    generalize w.heap.size = gb at *
    have l1 := HL.out _ _ ((HS3.out.get 3).drew)
    have l2 := HL.out _ _ (((HS3.out.get 3).allocU (.cells #[.int .i64 0, .int .i64 0] 103)).drew)
    have n0 := World.new_ne w3 _ d0
    have n1 := World.new_ne w3 _ d1
    go_cut [8, 9] from 10 (fun v8 v9 wx => v9 = .bool ok ∧ ∃ gw, v8 = .pointer (some ⟨gw, 0, none⟩) ∧ Hid (St P0 w0 wx (bk gw 103 #[.int .i64 c0, .int .i64 a0] :: bk gn 103 #[.int .i64 core, .int .i64 a] :: bk gb 49 #[.bool g, .string s, .int .i64 a] :: bk t 100 #[.map (some m)] :: mp 9 m (L.map ent) :: F)))
    case first =>
      go_region_held3 (fun wx => wx.cell? ⟨t, 0, none⟩ = some (.map (some m)) ∧ wx.cell? ⟨gb, 1, none⟩ = some (.string s)) (first | exact ⟨d0, d1⟩ | go_keep) (fail)
      all_goals
        go_wp2_with fail
        go_meet
        case rel => exact ⟨rfl, _, rfl, Lib.hid (HS3.out.alloc #[.int .i64 c0, .int .i64 a0] 103).drew⟩
    case rest =>
      clear HS3 HL l1 l2 n0 n1 d0 d1 HR hn
      obtain ⟨rfl, gw, rfl, HS4⟩ := hcut
      have k0 : wc.cell? ⟨gw, 0, none⟩ = some (.int .i64 c0) := cell_of_block HS4.out.bk_at 0
      have k1 : wc.cell? ⟨gw, 1, none⟩ = some (.int .i64 a0) := cell_of_block HS4.out.bk_at 1
      have k2 : wc.cell? ⟨gn, 0, none⟩ = some (.int .i64 core) := cell_of_block (HS4.out.get 1).bk_at 0
      have k3 : wc.cell? ⟨gn, 1, none⟩ = some (.int .i64 a) := cell_of_block (HS4.out.get 1).bk_at 1
      have k4 : wc.cell? ⟨gb, 0, none⟩ = some (.bool g) := cell_of_block (HS4.out.get 2).bk_at 0
      have k5 : wc.cell? ⟨gb, 1, none⟩ = some (.string s) := cell_of_block (HS4.out.get 2).bk_at 1
      have k6 : wc.cell? ⟨t, 0, none⟩ = some (.map (some m)) := cell_of_block (HS4.out.get 3).bk_at 0
      have HS5 : Hid (St P0 w0 wc.drew (mp 9 m (L.map ent) :: bk gw 103 #[.int .i64 c0, .int .i64 a0] :: bk gn 103 #[.int .i64 core, .int .i64 a] :: bk gb 49 #[.bool g, .string s, .int .i64 a] :: bk t 100 #[.map (some m)] :: F)) := Lib.hid (HS4.out.get 4).drew
      have h5 : St P0 w0 wc (mp 9 m (L.map ent) :: bk t 100 #[.map (some m)] :: F) := (HS4.out.drop.drop.drop).get 1
      have hkf := kof (show s.size ≤ maxLen by unfold maxLen; omega)
      have HKF := Lib.hid hkf
      clear hkf
      have HLEN : ∀ ty, (Builtin.len_ #[98] ty #[.map (some m)]).run Try.prog wc = .ok (.int .i64 (L.length : Int)) wc := fun ty => by
        have := mp_len h5 Try.underlying98 ty
        rwa [List.length_map] at this
      have HSF : Hid (St P0 w0 wc (tab t L :: F)) := Lib.hid (tab_shut HM.out (h5.get 1))
      clear HS4 h5
      cases hf : findN L s with
      | none =>
        obtain rfl : false = ok := by rw [← HOK.out, hf]; rfl
        have hY := HY.out
        unfold tellY at hY
        rw [hf] at hY
        dsimp only at hY
        cases g with
        | true =>
          simp only [if_true, Prod.mk.injEq] at hY
          obtain ⟨rfl, rfl⟩ := hY
          clear HY HV HOK hf
          go_wp2
          go_ret
          exact ⟨rfl, HSF.out⟩
        | false =>
          simp only [Bool.false_eq_true, if_false] at hY
          by_cases hl : 32 ≤ L.length
          · rw [if_pos hl, Prod.mk.injEq] at hY
            obtain ⟨rfl, rfl⟩ := hY
            clear HY HV HOK hf
            go_wp2
            go_ret
            exact ⟨rfl, HSF.out⟩
          · rw [if_neg hl, Prod.mk.injEq] at hY
            obtain ⟨rfl, rfl⟩ := hY
            obtain ⟨wu, hu1, hu2, -⟩ := mp_store (v := .agg #[.int .i64 core, .int .i64 a]) HS5.out klaw Try.underlying98 (by rw [List.length_map]; unfold maxLen; have := HM.out.len; omega) HKF.out
            have r0 : wu.cell? ⟨t, 0, none⟩ = some (.map (some m)) := cell_of_block (hu2.get 4).bk_at 0
            have r1 : wu.cell? ⟨gb, 1, none⟩ = some (.string s) := cell_of_block (hu2.get 3).bk_at 1
            have r2 : wu.cell? ⟨gn, 0, none⟩ = some (.int .i64 core) := cell_of_block (hu2.get 2).bk_at 0
            have r3 : wu.cell? ⟨gn, 1, none⟩ = some (.int .i64 a) := cell_of_block (hu2.get 2).bk_at 1
            have hpe := put_ent L ⟨s, core, a⟩
            unfold pv at hpe
            dsimp only at hpe
            rw [hpe] at hu2
            have HSU : Hid (St P0 w0 wu (tab t (putN L ⟨s, core, a⟩) :: F)) := Lib.hid (tab_shut (okt_put HM.out ⟨s, core, a⟩ hf (by omega) HN8.out) ((((hu2.cut 1).cut 1).cut 1).get 1))
            clear hu2 hpe HY HV HOK hf
            go_wp2_with fail
            go_region_held3 (fun wx => wx.cell? ⟨t, 0, none⟩ = some (.map (some m)) ∧ wx.cell? ⟨gb, 1, none⟩ = some (.string s) ∧ wx.cell? ⟨gn, 0, none⟩ = some (.int .i64 core) ∧ wx.cell? ⟨gn, 1, none⟩ = some (.int .i64 a)) (first | exact ⟨k6, k5, k2, k3⟩ | exact ⟨r0, r1, r2, r3⟩) (fail)
            go_wp2_with fail
            go_ret
            exact ⟨rfl, HSU.out⟩
      | some x =>
        obtain rfl : true = ok := by rw [← HOK.out, hf]; rfl
        obtain ⟨rfl, rfl⟩ : x.f1 = c0 ∧ x.f2 = a0 := by
          have := HV.out
          rw [hf] at this
          simpa [pv] using this
        have hY := HY.out
        unfold tellY at hY
        rw [hf] at hY
        dsimp only at hY
        obtain ⟨x0, x1, x2⟩ := x
        dsimp only at *
        by_cases he : x1 = core ∧ x2 = a
        · rw [if_pos he] at hY
          obtain ⟨rfl, rfl⟩ := he
          cases g with
          | true =>
            simp only [if_true, Prod.mk.injEq] at hY
            obtain ⟨rfl, rfl⟩ := hY
            have HDE := Lib.hid (del_ent L s)
            clear HY HV HOK hf
            go_wp2_with fail
            go_region_held3 (fun wx => wx.cell? ⟨t, 0, none⟩ = some (.map (some m)) ∧ wx.cell? ⟨gb, 1, none⟩ = some (.string s)) (first | exact ⟨k6, k5⟩ | exact ⟨r0, r1⟩)
              ((refine St.step_delete HS5.out (by rfl) _ _ _ (by rfl) _ klaw Try.underlying98 (by rfl) _ _ (by rfl) HKF.out ?_; intro w6 hst hsz; have r0 : w6.cell? ⟨t, 0, none⟩ = some (.map (some m)) := cell_of_block (hst.get 4).bk_at 0; have r1 : w6.cell? ⟨gb, 1, none⟩ = some (.string s) := cell_of_block (hst.get 3).bk_at 1; have HS6 := Lib.hid hst; clear hst hsz))
            go_wp2_with fail
            go_ret
            have h9 := (((HS6.out.cut 1).cut 1).cut 1).get 1
            rw [HDE.out] at h9
            exact ⟨rfl, tab_shut (okt_del HM.out s) h9⟩
          | false =>
            simp only [Bool.false_eq_true, if_false, Prod.mk.injEq] at hY
            obtain ⟨rfl, rfl⟩ := hY
            have hxs := find_mem hf
            dsimp only at hxs
            obtain ⟨hxm, rfl⟩ := hxs
            have HPS := Lib.hid (putN_same HM.out.rise hxm)
            clear hxm
            obtain ⟨wu, hu1, hu2, -⟩ := mp_store (v := .agg #[.int .i64 x1, .int .i64 x2]) HS5.out klaw Try.underlying98 (by rw [List.length_map]; unfold maxLen; have := HM.out.len; omega) HKF.out
            have r0 : wu.cell? ⟨t, 0, none⟩ = some (.map (some m)) := cell_of_block (hu2.get 4).bk_at 0
            have r1 : wu.cell? ⟨gb, 1, none⟩ = some (.string x0) := cell_of_block (hu2.get 3).bk_at 1
            have r2 : wu.cell? ⟨gn, 0, none⟩ = some (.int .i64 x1) := cell_of_block (hu2.get 2).bk_at 0
            have r3 : wu.cell? ⟨gn, 1, none⟩ = some (.int .i64 x2) := cell_of_block (hu2.get 2).bk_at 1
            have hpe := put_ent L ⟨x0, x1, x2⟩
            unfold pv at hpe
            dsimp only at hpe
            rw [hpe] at hu2
            have HSU : Hid (St P0 w0 wu (tab t (putN L ⟨x0, x1, x2⟩) :: F)) := Lib.hid (tab_shut (by rw [HPS.out]; exact HM.out) ((((hu2.cut 1).cut 1).cut 1).get 1))
            clear hu2 hpe HY HV HOK hf
            go_wp2_with fail
            go_region_held3 (fun wx => wx.cell? ⟨t, 0, none⟩ = some (.map (some m)) ∧ wx.cell? ⟨gb, 1, none⟩ = some (.string x0) ∧ wx.cell? ⟨gn, 0, none⟩ = some (.int .i64 x1) ∧ wx.cell? ⟨gn, 1, none⟩ = some (.int .i64 x2)) (first | exact ⟨k6, k5, k2, k3⟩ | exact ⟨r0, r1, r2, r3⟩) (fail)
            go_wp2_with fail
            go_ret
            rw [HPS.out] at HSU
            exact ⟨rfl, HSU.out⟩
        · rw [if_neg he] at hY
          cases g with
          | true =>
            simp only [if_true, Prod.mk.injEq] at hY
            obtain ⟨rfl, rfl⟩ := hY
            clear HY HV HOK hf
            go_wp2
            all_goals (first | (exfalso; exact he ⟨by assumption, by assumption⟩) | (go_ret; exact ⟨rfl, HSF.out⟩))
          | false =>
            simp only [Bool.false_eq_true, if_false, Prod.mk.injEq] at hY
            obtain ⟨rfl, rfl⟩ := hY
            clear HY HV HOK hf
            go_wp2
            all_goals (first | (exfalso; exact he ⟨by assumption, by assumption⟩) | (go_ret; exact ⟨rfl, HSF.out⟩))
end
end Go.Proofs.Ytdhgmnnkbjhpaaa.Ntab
