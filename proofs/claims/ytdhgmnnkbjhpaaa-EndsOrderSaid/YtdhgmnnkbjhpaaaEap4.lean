/- Deliver. -/
import Derived.Test.YtdhgmnnkbjhpaaaEap3
import Derived.Deep.RegionLaw
import Derived.Deep.Cut
namespace Go.Proofs.Ytdhgmnnkbjhpaaa.Eps
set_option linter.unusedVariables false
set_option linter.unusedSimpArgs false
open Go.RowKit Go.Proofs.Ytdhgmnnkbjhpaaa.Sep Go.Proofs.Ytdhgmnnkbjhpaaa.Mp Go.Proofs.Ytdhgmnnkbjhpaaa.Given Go.Proofs.YtdhgmnnkbjhpaaaW.PrintWords
open Go.Maps (Keyed)
theorem info88 : (Try.prog.info? 88).map (fun i => (i.zero, i.size, i.bytes)) = some (some (.agg #[.int .i64 0, .int .i64 0, .int .i64 0, .slice none 0 0]), 4, 48) := by kernel_rfl
theorem info_of' {P : Program} {t : TypeId} {z : Value} {n b : Nat} (h : (P.info? t).map (fun i => (i.zero, i.size, i.bytes)) = some (some z, n, b)) : ∃ i, P.info? t = some i ∧ i.zero = some z ∧ i.size = n ∧ i.bytes = b := by
  cases hi : P.info? t with
  | none => rw [hi] at h; cases h
  | some i =>
    rw [hi] at h
    simp at h
    exact ⟨i, rfl, h.1, h.2.1, h.2.2⟩
section
variable {P0 : Nat → Prop} {w0 w w' : World} {F : List Rg} {e : Nat} {E : List EP}
theorem deliver_shut {y : EP} {bs : List (Option Addr × Nat)} {b0 b1 b2 : Int} {l : List Int} {nl n c' c4 m g gb : Nat} {A' A4 : Option Addr} {cs cs2 : Array Value} (ho : Oke E) (hp : E.Perm (y :: delE E b1)) (hk : y.k = b1) (hn : y.ms.length = n) (hbs : bs.length = n) (h4 : n < 4) (hnl : l.length = nl)
    (h : St P0 w0 w (mp 3 m (putM (E.map ent) (kA b1) (.slice A4 (n + 1) c4)) :: slc 88 4 (.slice A4 (n + 1) c4) (n + 1) (rcs mcf y.ms bs ++ [.int .i64 b0, .int .i64 b1, .int .i64 b2, .slice A' nl c']) :: bk g 88 cs :: slc 3 1 (.slice A' nl c') nl (l.map (Value.int .i64)) :: bk e 85 #[.map (some m)] :: big (rps mpf y.ms bs) :: big ((delE E b1).map prt) :: bk gb 88 cs2 :: F)) :
    St P0 w0 w (eps e (putE E ⟨b1, .slice A4 (n + 1) c4, y.ms ++ [⟨b0, b1, b2, l⟩]⟩) :: F) := by
  subst hn hnl
  have h1 : St P0 w0 w (mp 3 m _ :: slc 88 4 _ _ _ :: slc 3 1 _ _ _ :: bk e 85 _ :: big (rps mpf y.ms bs) :: big ((delE E b1).map prt) :: F) := (h.cut 2).cut 6
  have h2 : St P0 w0 w (slc 88 4 _ _ _ :: big (rps mpf y.ms bs) :: slc 3 1 _ _ _ :: mp 3 m _ :: bk e 85 _ :: big ((delE E b1).map prt) :: F) := ((h1.get 2).get 4).get 3
  have h3 := row_push (cf := mcf) (pf := mpf) (x := ⟨b0, b1, b2, l⟩) (b := (A', c')) hbs h2
  have h4' : St P0 w0 w (prt ⟨b1, .slice A4 (y.ms.length + 1) c4, y.ms ++ [⟨b0, b1, b2, l⟩]⟩ :: big ((delE E b1).map prt) :: mp 3 m _ :: bk e 85 _ :: F) := (h3.get 3).get 1
  have hq := put_perm E ⟨b1, .slice A4 (y.ms.length + 1) c4, y.ms ++ [⟨b0, b1, b2, l⟩]⟩
  have h5 := area_perm hq.symm (area_in h4')
  have h6 : St P0 w0 w (bk e 85 _ :: mp 3 m _ :: big _ :: F) := ((h5.get 2).get 2).get 1
  have h7 := ends_shut h6
  rw [show putM (E.map ent) (kA b1) (.slice A4 (y.ms.length + 1) c4) = (putE E ⟨b1, .slice A4 (y.ms.length + 1) c4, y.ms ++ [⟨b0, b1, b2, l⟩]⟩).map ent from put_ent E ⟨b1, .slice A4 (y.ms.length + 1) c4, y.ms ++ [⟨b0, b1, b2, l⟩]⟩] at h7
  refine eps_shut (oke_put ho _ ?_ ?_) h7
  · have := hp.length_eq
    have := ho.len
    simp only [List.length_cons] at *
    omega
  · simp
    omega
set_option maxHeartbeats 16000000 in
set_option maxRecDepth 100000 in
theorem Deliver_q (h : St P0 w0 w (eps e E :: F)) (b0 b1 b2 : Int) {A : Option Addr} {c : Nat} {l : List Int} (hr : Kd.C (Kd.int .i64) w A l.length l) (hc : l.length ≤ c) (hb : l.length ≤ 1000) (wa : (Lit.int .i64 b1).wf = true) :
    Calls Try.prog 39 #[.pointer (some ⟨e, 0, none⟩), .agg #[.int .i64 b0, .int .i64 b1, .int .i64 b2, .slice A l.length c]] w fun x w' =>
      ∃ f E', x = .returned (.int .i64 f) ∧ St P0 w0 w' (eps e E' :: F) ∧ ∀ b, b ≠ b1 → findE E' b = findE E b := by
  have hsa := h.alloc #[.int .i64 b0, .int .i64 b1, .int .i64 b2, .slice A l.length c] 88
  have HSA : Hid (St P0 w0 _ (eps e E :: bk w.heap.size 88 #[.int .i64 b0, .int .i64 b1, .int .i64 b2, .slice A l.length c] :: F)) := Lib.hid (hsa.get 1)
  have HU0 : Hid (Up w (w.alloc (.cells #[.int .i64 b0, .int .i64 b1, .int .i64 b2, .slice A l.length c] 88))) := Lib.hid ((Up.refl w).alloc _)
  have HRC := Lib.hid hr
  have HRI := Lib.hid (Right_u b0 b1 b2 (Kd.C_below hr HU0.out) hc)
  have HOW := Lib.hid (fun (wx : World) (hu : Up w wx) => own_u b0 b1 b2 (Kd.C_below hr hu) hc hb)
  obtain ⟨nl, hnl⟩ : ∃ n, l.length = n := ⟨_, rfl⟩
  have HNL := Lib.hid hnl
  rw [hnl] at HRI HSA HU0 HOW ⊢
  clear h hsa hr hc hb hnl
  by_cases hR : hwrong b0 b1 b2 l = 0
  case neg =>
    have hR' : (hwrong b0 b1 b2 l == 0) = false := beq_eq_false_iff_ne.2 hR
    rw [hR'] at HRI
    clear hR hR'
    go_enter Try.func39, Try.ntmps39
    go_wp2_with fail
    refine HRI.out.mono ?_
    rintro x w1 ⟨rfl, hu⟩
    have HS1 := Lib.hid ((HSA.out.cut 1).more hu)
    clear hu
    go_wp2_with fail
    go_ret
    exact ⟨_, E, rfl, HS1.out, fun _ _ => rfl⟩
  rw [hR] at HRI
  clear hR
  have HWR := Lib.hid (fun (wx : World) (F : List Rg) (h : St P0 w0 wx (eps e E :: F)) => wrong_q h b1 wa)
  have HFU := Lib.hid (fun (wx : World) (F : List Rg) (h : St P0 w0 wx (eps e E :: F)) => Full_q h b1 wa)
  have HK := Lib.hid (kofI wa)
  go_enter Try.func39, Try.ntmps39
  go_wp2_with fail
  refine HRI.out.mono ?_
  rintro x w1 ⟨rfl, hu⟩
  have h1 := HSA.out.more hu
  have HU1 := Lib.hid (HU0.out.trans hu)
  have k1 : w1.cell? ⟨w.heap.size, 1, none⟩ = some (.int .i64 b1) := cell_of_block (h1.get 1).bk_at 1
  have HS1 := Lib.hid h1
  clear h1 hu HRI HSA HU0
  go_wp2_with fail
  refine (HWR.out _ _ HS1.out).mono ?_
  rintro x w2 ⟨rfl, hu⟩
  have h2 := HS1.out.more hu
  have HU2 := Lib.hid (HU1.out.trans hu)
  have k2 : w2.cell? ⟨w.heap.size, 1, none⟩ = some (.int .i64 b1) := cell_of_block (h2.get 1).bk_at 1
  have HS2 := Lib.hid h2
  clear h2 hu HS1 HU1 k1 HWR
  cases hf : findE E b1 with
  | none =>
    simp only [Option.isSome_none, Bool.false_eq_true, if_false]
    clear hf
    go_wp2_with fail
    go_ret
    exact ⟨_, E, rfl, HS2.out.cut 1, fun _ _ => rfl⟩
  | some y =>
    simp only [Option.isSome_some, if_true]
    go_wp2_with fail
    refine (HFU.out _ _ HS2.out).mono ?_
    rintro x w3 ⟨rfl, hu⟩
    have h3 := HS2.out.more hu
    have HU3 := Lib.hid (HU2.out.trans hu)
    clear hu HS2 HU2 k2 HFU
    have hcn : cntE E b1 = y.ms.length := by unfold cntE; rw [hf]
    by_cases h4 : 4 ≤ cntE E b1
    · rw [decide_eq_true h4]
      have HS3 := Lib.hid (h3.cut 1)
      clear h3 hf hcn h4
      go_wp2_with fail
      go_ret
      exact ⟨_, E, rfl, HS3.out, fun _ _ => rfl⟩
    · rw [decide_eq_false h4]
      obtain ⟨ho, h5⟩ := eps_any h3
      obtain ⟨hyk, hym, hp⟩ := find_perm ho.nodup hf
      have h6 := area_out (area_perm hp (h5.get 1))
      obtain ⟨bs, hbs, h7⟩ := row_any h6
      obtain ⟨m, h8⟩ := ends_any (h7.get 3)
      obtain ⟨A1, c1, hv, hc1, hm1⟩ : ∃ A1 c1, y.v = .slice A1 y.ms.length c1 ∧ y.ms.length ≤ c1 ∧ c1 ≤ maxLen := row_form h6
      have hnv : cntE E b1 = y.ms.length := hcn
      have hlk : lookM (E.map ent) (kA b1) = some y.v := by rw [look_ent, hf]; rfl
      generalize hn4 : y.ms.length = n at *
      have hn : n < 4 := by omega
      rw [hv] at h8 hlk
      have h9 := h8.drewN 1
      have c0 : w3.drew.cell? ⟨e, 0, none⟩ = some (.map (some m)) := cell_of_block h8.drew.bk_at 0
      have hbx := (h8.get 5).drew
      have k0 : w3.drew.cell? ⟨w.heap.size, 0, none⟩ = some (.int .i64 b0) := cell_of_block hbx.bk_at 0
      have k1 : w3.drew.cell? ⟨w.heap.size, 1, none⟩ = some (.int .i64 b1) := cell_of_block hbx.bk_at 1
      have k2 : w3.drew.cell? ⟨w.heap.size, 2, none⟩ = some (.int .i64 b2) := cell_of_block hbx.bk_at 2
      have k3 : w3.drew.cell? ⟨w.heap.size, 3, none⟩ = some (.slice A nl c) := cell_of_block hbx.bk_at 3
      have HS := Lib.hid (h8.drew)
      have HLK := Lib.hid (fun (wx : World) (F : List Rg) (h : St P0 w0 wx (mp 3 m (E.map ent) :: F)) => mp_get h klawI Try.underlying83 (zrow wx) HK.out)
      rw [hlk] at HLK
      simp only [Option.getD_some] at HLK
      have hl1 := HLK.out _ _ (HS.out.get 1)
      have HUD := Lib.hid (HU3.out.drew)
      have HE : Hid (Oke E ∧ E.Perm (y :: delE E b1) ∧ y.k = b1 ∧ y.ms.length = n ∧ bs.length = n ∧ findE E b1 = some y) := Lib.hid ⟨ho, hp, hyk, hn4, hbs, hf⟩
      have HML : Hid ((E.map ent).length < maxLen) := Lib.hid (by rw [List.length_map]; have := ho.len; unfold maxLen; omega)
      obtain ⟨t0, ht0, hz0, hz1, hz2⟩ := info_of' info88
      clear h3 h5 h6 h7 h8 h9 hbx hlk hv ho hyk hym hp hnv hcn hf h4 hbs hn4 HU3
      go_wp2_with fail
      go_region_held3 (fun wx => wx.cell? ⟨e, 0, none⟩ = some (.map (some m)) ∧ wx.cell? ⟨w.heap.size, 0, none⟩ = some (.int .i64 b0) ∧ wx.cell? ⟨w.heap.size, 1, none⟩ = some (.int .i64 b1) ∧ wx.cell? ⟨w.heap.size, 2, none⟩ = some (.int .i64 b2) ∧ wx.cell? ⟨w.heap.size, 3, none⟩ = some (.slice A nl c)) (first | exact ⟨c0, k0, k1, k2, k3⟩ | exact ⟨d0, d2, d1, d3, d4⟩ | exact ⟨r0, r2, r1, r3, r4⟩ | exact ⟨z0, z1, z2, z3, z4⟩ | go_keep) (first
        | (refine St.step_append 88 t0 (.agg #[.int .i64 0, .int .i64 0, .int .i64 0, .slice none 0 0]) 4 48 HS2.out (by rfl) _ _ 91 (by rfl) Try.underlying91 ht0 hz0 hz1 hz2 (by rfl) (by decide) (by rfl) (some ⟨w4.heap.size, 0, none⟩) 1 1 [.int .i64 b0, .int .i64 b1, .int .i64 b2, .slice A' nl c'] (by rfl) HRD.out (by unfold maxLen; omega) (by omega) ?_; intro A4 c4 w5 hst hsz; obtain ⟨wu, hu1, hu2, -⟩ := mp_store (v := .slice A4 (n + 1) c4) (hst.get 4) klawI Try.underlying83 HML.out HK.out; have HS4 := Lib.hid hu2; have z0 : wu.cell? ⟨e, 0, none⟩ = some (.map (some m)) := cell_of_block (hu2.get 4).bk_at 0; have z1 : wu.cell? ⟨w.heap.size, 0, none⟩ = some (.int .i64 b0) := cell_of_block (hu2.get 7).bk_at 0; have z2 : wu.cell? ⟨w.heap.size, 1, none⟩ = some (.int .i64 b1) := cell_of_block (hu2.get 7).bk_at 1; have z3 : wu.cell? ⟨w.heap.size, 2, none⟩ = some (.int .i64 b2) := cell_of_block (hu2.get 7).bk_at 2; have z4 : wu.cell? ⟨w.heap.size, 3, none⟩ = some (.slice A nl c) := cell_of_block (hu2.get 7).bk_at 3; have r0 : w5.cell? ⟨e, 0, none⟩ = some (.map (some m)) := cell_of_block (hst.get 3).bk_at 0; have r2 : w5.cell? ⟨w.heap.size, 0, none⟩ = some (.int .i64 b0) := cell_of_block (hst.get 7).bk_at 0; have r3 : w5.cell? ⟨w.heap.size, 2, none⟩ = some (.int .i64 b2) := cell_of_block (hst.get 7).bk_at 2; have r4 : w5.cell? ⟨w.heap.size, 3, none⟩ = some (.slice A nl c) := cell_of_block (hst.get 7).bk_at 3; have r1 : w5.cell? ⟨w.heap.size, 1, none⟩ = some (.int .i64 b1) := cell_of_block (hst.get 7).bk_at 1; clear hst hsz hu2)
        | (go_at_call 57; refine (HOW.out _ HUD.out).mono ?_; rintro x w4 ⟨A', c', rfl, hs⟩; have h9 := (St.of_new HS.out hs).1; have d0 : w4.cell? ⟨e, 0, none⟩ = some (.map (some m)) := cell_of_block (h9.get 1).bk_at 0; have d1 : w4.cell? ⟨w.heap.size, 1, none⟩ = some (.int .i64 b1) := cell_of_block (h9.get 6).bk_at 1; have d2 : w4.cell? ⟨w.heap.size, 0, none⟩ = some (.int .i64 b0) := cell_of_block (h9.get 6).bk_at 0; have d3 : w4.cell? ⟨w.heap.size, 2, none⟩ = some (.int .i64 b2) := cell_of_block (h9.get 6).bk_at 2; have d4 : w4.cell? ⟨w.heap.size, 3, none⟩ = some (.slice A nl c) := cell_of_block (h9.get 6).bk_at 3; have n0 := World.new_ne w4 _ d0; have n1 := World.new_ne w4 _ d1; have l0 := World.block_lt_of_cell? w4 _ d0; have l1 := World.block_lt_of_cell? w4 _ d1; have hl4 := HLK.out _ _ (h9.get 2); have h10 := h9.alloc #[.int .i64 b0, .int .i64 b1, .int .i64 b2, .slice A' nl c'] 88; have hl5 := HLK.out _ _ (h10.get 3); have HS2 := Lib.hid (h10.get 4); have HRD := Lib.hid (Rd.of_block (sz := 4) (m := 1) h10.bk_at rfl (by simp [Value.oneCell'])); clear h9 h10 hs))
      all_goals
        have HEPS := Lib.hid (deliver_shut HE.out.1 HE.out.2.1 HE.out.2.2.1 HE.out.2.2.2.1 HE.out.2.2.2.2.1 hn HNL.out HS4.out)
        go_wp2_with fail
        go_ret
        exact ⟨_, _, rfl, HEPS.out, fun b hb => find_put E _ hb⟩
end
end Go.Proofs.Ytdhgmnnkbjhpaaa.Eps
