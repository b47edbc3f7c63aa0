/- Take, told exactly; written by mkeq.py. -/
import Derived.Test.YtdhgmnnkbjhpaaaEq4
namespace Go.Proofs.Ytdhgmnnkbjhpaaa.Epx
set_option linter.unusedVariables false
set_option linter.unusedSimpArgs false
open Go.RowKit Go.Proofs.Ytdhgmnnkbjhpaaa.Sep Go.Proofs.Ytdhgmnnkbjhpaaa.Mp Go.Proofs.Ytdhgmnnkbjhpaaa.Given Go.Proofs.YtdhgmnnkbjhpaaaW.PrintWords Go.Proofs.Ytdhgmnnkbjhpaaa.Eps
open Go.Maps (Keyed)
section
variable {P0 : Nat → Prop} {w0 w w' : World} {F : List Rg} {e : Nat} {L : List EL} {E : List EP}
theorem take_cases (E : List EP) (b1 : Int) : (findE E b1 = none → takeL (E.map pl) b1 = (E.map pl, m0, 4)) ∧
    (∀ y, findE E b1 = some y → (y.ms = [] → takeL (E.map pl) b1 = (E.map pl, m0, 6)) ∧ (∀ q ms, y.ms = q :: ms → ∀ V, takeL (E.map pl) b1 = ((putE E ⟨b1, V, ms⟩).map pl, q, 0))) := by
  unfold takeL
  rw [find_pl]
  refine ⟨fun hf => by rw [hf]; rfl, fun y hf => ⟨fun hm => by rw [hf]; dsimp only [Option.map]; rw [hm], fun q ms hm V => ?_⟩⟩
  rw [hf]
  dsimp only [Option.map]
  rw [hm, ← put_pl]
theorem nil_words (h : St P0 w0 w (eps e E :: F)) : St P0 w0 w (eps e E :: mpf m0 (none, 0) :: F) :=
  (St.fresh (M := [mpf m0 (none, 0)]) h (Up.refl _) ⟨No, No, fun _ e => e.elim, fun _ e => e.elim, fun _ e => e.elim, slc_nil _ _ _ _, trivial⟩).get 1
theorem take_mid {A : Rg} {M F : List Rg} (h : St P0 w0 w (A :: (M ++ F))) : St P0 w0 w (M ++ (A :: F)) := h.perm List.perm_middle.symm
theorem take_shutx {y : EP} {b : Option Addr × Nat} {bs : List (Option Addr × Nat)} {q : MS} {ms : List MS} {V : Value} {b1 : Int} {m : Nat} (ho : Oke E) (hp : E.Perm (y :: delE E b1)) (hk : y.k = b1) (hq : y.ms = q :: ms) (hbs : bs.length = ms.length)
    (h : St P0 w0 w (mp 3 m (putM (E.map ent) (kA b1) V) :: slc 88 4 V ms.length (rcs mcf ms bs) :: bk e 85 #[.map (some m)] :: big (rps mpf (q :: ms) (b :: bs)) :: big ((delE E b1).map prt) :: F)) :
    St P0 w0 w (eps e (putE E ⟨b1, V, ms⟩) :: mpf q b :: F) := by
  have h1 : St P0 w0 w (mpf q b :: (rps mpf ms bs ++ (slc 88 4 V ms.length (rcs mcf ms bs) :: mp 3 m _ :: bk e 85 _ :: big ((delE E b1).map prt) :: F))) := (((h.get 1).get 3)).big_open
  have h2 : St P0 w0 w (slc 88 4 V ms.length (rcs mcf ms bs) :: big (rps mpf ms bs) :: mpf q b :: mp 3 m _ :: bk e 85 _ :: big ((delE E b1).map prt) :: F) := (St.big_shut (take_mid h1)).get 2
  have h3 : St P0 w0 w (prt ⟨b1, V, ms⟩ :: mpf q b :: mp 3 m _ :: bk e 85 _ :: big ((delE E b1).map prt) :: F) := row_shut hbs h2
  have h4' : St P0 w0 w (prt ⟨b1, V, ms⟩ :: big ((delE E b1).map prt) :: mpf q b :: mp 3 m _ :: bk e 85 _ :: F) := (h3.get 4).get 1
  have hq' := put_perm E ⟨b1, V, ms⟩
  have h5 := area_perm hq'.symm (area_in h4')
  have h6 : St P0 w0 w (bk e 85 _ :: mp 3 m _ :: big _ :: mpf q b :: F) := (h5.get 2).get 3
  have h7 := ends_shut h6
  rw [show putM (E.map ent) (kA b1) V = (putE E ⟨b1, V, ms⟩).map ent from put_ent E ⟨b1, V, ms⟩] at h7
  refine eps_shut (oke_put ho _ ?_ ?_) h7
  · have := hp.length_eq
    have := ho.len
    simp only [List.length_cons] at *
    omega
  · have := ho.few y (hp.mem_iff.2 (.head _))
    rw [hq] at this
    simp only [List.length_cons] at this
    show ms.length ≤ 4
    omega
set_option maxHeartbeats 16000000 in
set_option maxRecDepth 100000 in
theorem Take_e (h : St P0 w0 w (eps e E :: F)) (b1 : Int) (wa : (Lit.int .i64 b1).wf = true) :
    Calls Try.prog 40 #[.pointer (some ⟨e, 0, none⟩), .int .i64 b1] w fun x w' =>
      ∃ m A c f E', x = .returned (.tuple #[mval m.a0 m.a1 m.a2 A m.b.length c, .int .i64 f]) ∧ St P0 w0 w' (eps e E' :: mpf m (A, c) :: F) ∧ takeL (E.map pl) b1 = (E'.map pl, m, f) := by
  have HTC := Lib.hid (take_cases E b1)
  have h0 : St P0 w0 _ (eps e E :: bk w.heap.size 88 #[.int .i64 0, .int .i64 0, .int .i64 0, .slice none 0 0] :: F) := (h.alloc #[.int .i64 0, .int .i64 0, .int .i64 0, .slice none 0 0] 88).get 1
  have HS0 := Lib.hid h0
  have HW := Lib.hid (wrong_q h0 b1 wa)
  have HK := Lib.hid (kofI wa)
  clear h h0
  cases hf : findE E b1 with
  | none =>
    have HX := Lib.hid (HTC.out.1 hf)
    rw [hf] at HW
    simp only [Option.isSome_none, Bool.false_eq_true, if_false] at HW
    go_enter Try.func40, Try.ntmps40
    go_wp2_with fail
    refine HW.out.mono ?_
    rintro x w1 ⟨rfl, hu⟩
    have h1 := HS0.out.more hu
    have hb := h1.get 1
    have p0 : w1.cell? ⟨w.heap.size, 0, none⟩ = some (.int .i64 0) := cell_of_block hb.bk_at 0
    have p1 : w1.cell? ⟨w.heap.size, 1, none⟩ = some (.int .i64 0) := cell_of_block hb.bk_at 1
    have p2 : w1.cell? ⟨w.heap.size, 2, none⟩ = some (.int .i64 0) := cell_of_block hb.bk_at 2
    have p3 : w1.cell? ⟨w.heap.size, 3, none⟩ = some (.slice none 0 0) := cell_of_block hb.bk_at 3
    have f0 : w1.frozen? ⟨w.heap.size, 0, none⟩ = false := free_of_block hb.bk_at 0
    have f1 : w1.frozen? ⟨w.heap.size, 1, none⟩ = false := free_of_block hb.bk_at 1
    have f2 : w1.frozen? ⟨w.heap.size, 2, none⟩ = false := free_of_block hb.bk_at 2
    have f3 : w1.frozen? ⟨w.heap.size, 3, none⟩ = false := free_of_block hb.bk_at 3
    have HS1 := Lib.hid h1
    clear h1 hb hu hf HW HS0
    go_wp2_with fail
    (try simp only [Exit.inBlock, Exit.then])
    refine bodyPost_ret (v := .tuple #[mval 0 0 0 none 0 0, .int .i64 4]) ?_ rfl ?_
    · rw [results_cell_tmp (fn := Try.f40) rfl]
      go_simp
    · exact ⟨m0, none, 0, 4, E, rfl, nil_words ((((((HS1.out.get 1).set 0 (.int .i64 0)).set 1 (.int .i64 0)).set 2 (.int .i64 0)).set 3 (.slice none 0 0)).drop), HX.out⟩
  | some y =>
    rw [hf] at HW
    simp only [Option.isSome_some, if_true] at HW
    go_enter Try.func40, Try.ntmps40
    go_wp2_with fail
    refine HW.out.mono ?_
    rintro x w1 ⟨rfl, hu⟩
    have h1 := HS0.out.more hu
    have hb := h1.get 1
    have p0 : w1.cell? ⟨w.heap.size, 0, none⟩ = some (.int .i64 0) := cell_of_block hb.bk_at 0
    have p1 : w1.cell? ⟨w.heap.size, 1, none⟩ = some (.int .i64 0) := cell_of_block hb.bk_at 1
    have p2 : w1.cell? ⟨w.heap.size, 2, none⟩ = some (.int .i64 0) := cell_of_block hb.bk_at 2
    have p3 : w1.cell? ⟨w.heap.size, 3, none⟩ = some (.slice none 0 0) := cell_of_block hb.bk_at 3
    have f0 : w1.frozen? ⟨w.heap.size, 0, none⟩ = false := free_of_block hb.bk_at 0
    have f1 : w1.frozen? ⟨w.heap.size, 1, none⟩ = false := free_of_block hb.bk_at 1
    have f2 : w1.frozen? ⟨w.heap.size, 2, none⟩ = false := free_of_block hb.bk_at 2
    have f3 : w1.frozen? ⟨w.heap.size, 3, none⟩ = false := free_of_block hb.bk_at 3
    obtain ⟨ho, h5⟩ := eps_any h1
    obtain ⟨hyk, hym, hp⟩ := find_perm ho.nodup hf
    have h6 := area_out (area_perm hp (h5.get 1))
    obtain ⟨A1, c1, hv, hc1, hm1⟩ : ∃ A1 c1, y.v = .slice A1 y.ms.length c1 ∧ y.ms.length ≤ c1 ∧ c1 ≤ maxLen := row_form h6
    obtain ⟨bs, hbs, h7⟩ := row_any h6
    obtain ⟨m, h8⟩ := ends_any (h7.get 3)
    have c0 : w1.cell? ⟨e, 0, none⟩ = some (.map (some m)) := cell_of_block h8.bk_at 0
    have hlk : lookM (E.map ent) (kA b1) = some y.v := by rw [look_ent, hf]; rfl
    have hl := mp_get (h8.get 1) klawI Try.underlying83 (zrow w1) HK.out
    rw [hlk, hv] at hl
    simp only [Option.getD_some] at hl
    have HE : Hid (Oke E ∧ E.Perm (y :: delE E b1) ∧ y.k = b1) := Lib.hid ⟨ho, hp, hyk⟩
    have HF := Lib.hid hf
    have HT2 := Lib.hid (HTC.out.2 y hf)
    cases hms : y.ms with
    | nil =>
      rw [hms] at hl
      simp only [List.length_nil] at hl
      have HX := Lib.hid (HT2.out.1 hms)
      have HS1 := Lib.hid h1
      clear h1 hb hu hf HW HS0 h5 h6 h7 h8 hlk hv ho hp hyk hym hbs hms hc1 hm1
      go_wp2_with fail
      (try simp only [Exit.inBlock, Exit.then])
      refine bodyPost_ret (v := .tuple #[mval 0 0 0 none 0 0, .int .i64 6]) ?_ rfl ?_
      · rw [results_cell_tmp (fn := Try.f40) rfl]
        go_simp
      · exact ⟨m0, none, 0, 6, E, rfl, nil_words ((((((HS1.out.get 1).set 0 (.int .i64 0)).set 1 (.int .i64 0)).set 2 (.int .i64 0)).set 3 (.slice none 0 0)).drop), HX.out⟩
    | cons q ms =>
      cases bs with
      | nil => rw [hms] at hbs; simp at hbs
      | cons b bs =>
      rw [hv, hms] at h8
      have HX := Lib.hid (fun V => HT2.out.2 q ms hms V)
      have hst1 := (h8.get 1).drew
      obtain ⟨P, ⟨Q, Q2, _, _, _, hX1, _⟩, _⟩ := St.step (L := [slc 88 4 (.slice A1 (q :: ms).length c1) (q :: ms).length (rcs mcf (q :: ms) (b :: bs))]) (hst1.get 2)
      obtain ⟨t0, ht0, hz0, hz1, hz2⟩ := info_of' info88
      obtain ⟨A', hrun, -⟩ := slc_drop Try.underlying91 ht0 hz1 hX1 1 (by simp) (by have := ho.few y hym; rw [hms] at this; omega)
      obtain ⟨wu, hu1, hu2, -⟩ := mp_store (v := .slice A' ((q :: ms).length - 1) (c1 - 1)) hst1 klawI Try.underlying83 (by rw [List.length_map]; have := ho.len; unfold maxLen; omega) HK.out
      have hln : (q :: ms).length - 1 = ms.length := by simp
      rw [hln] at hu1 hu2 hrun
      have z0 : wu.cell? ⟨e, 0, none⟩ = some (.map (some m)) := cell_of_block (hu2.get 1).bk_at 0
      have hbr := hu2.get 5
      have r0 : wu.cell? ⟨w.heap.size, 0, none⟩ = some (.int .i64 0) := cell_of_block hbr.bk_at 0
      have r1 : wu.cell? ⟨w.heap.size, 1, none⟩ = some (.int .i64 0) := cell_of_block hbr.bk_at 1
      have r2 : wu.cell? ⟨w.heap.size, 2, none⟩ = some (.int .i64 0) := cell_of_block hbr.bk_at 2
      have r3 : wu.cell? ⟨w.heap.size, 3, none⟩ = some (.slice none 0 0) := cell_of_block hbr.bk_at 3
      have u0 : wu.frozen? ⟨w.heap.size, 0, none⟩ = false := free_of_block hbr.bk_at 0
      have u1 : wu.frozen? ⟨w.heap.size, 1, none⟩ = false := free_of_block hbr.bk_at 1
      have u2 : wu.frozen? ⟨w.heap.size, 2, none⟩ = false := free_of_block hbr.bk_at 2
      have u3 : wu.frozen? ⟨w.heap.size, 3, none⟩ = false := free_of_block hbr.bk_at 3
      obtain ⟨P', ⟨Q', Q2', _, _, _, hX2, _⟩, _⟩ := St.step (L := [slc 88 4 (.slice A1 (q :: ms).length c1) (q :: ms).length (rcs mcf (q :: ms) (b :: bs))]) (hu2.get 2)
      obtain ⟨g, o, hA, _, _, _, hcel, _⟩ := slc_cells hX2 (by simp)
      subst hA
      have k0 : wu.cell? ⟨g, o, none⟩ = some (.int .i64 q.a0) := hcel 0 _ rfl
      have k1 : wu.cell? ⟨g, o + 1, none⟩ = some (.int .i64 q.a1) := hcel 1 _ rfl
      have k2 : wu.cell? ⟨g, o + 2, none⟩ = some (.int .i64 q.a2) := hcel 2 _ rfl
      have k3 : wu.cell? ⟨g, o + 3, none⟩ = some (.slice b.1 q.b.length b.2) := hcel 3 _ rfl
      have HS4 := Lib.hid hu2
      have hlm : (q :: ms).length = ms.length + 1 := rfl
      rw [hms, hlm] at hl
      rw [hlm] at hrun
      have hr1 : ∀ W : World, (Instr.slice 91 (.slice (some ⟨g, o, none⟩) (ms.length + 1) c1) (some (.int .i64 1)) none none).run Try.prog W = .ok (.slice A' ms.length (c1 - 1)) W := hrun
      have c0d : w1.drew.cell? ⟨e, 0, none⟩ = some (.map (some m)) := cell_of_block (hst1.get 1).bk_at 0
      have HR := Lib.hid hr1
      have HBS : Hid (bs.length = ms.length) := Lib.hid (by have := hbs; rw [hms] at this; simpa using this)
      have HMS := Lib.hid hms
      have HC1 : Hid ((q :: ms).length ≤ c1 ∧ ms.length ≤ 4) := Lib.hid ⟨by rw [← hms]; exact hc1, by have := ho.few y hym; rw [hms] at this; simp only [List.length_cons] at this; omega⟩
      generalize hnn : ms.length = n at *
      have HNN := Lib.hid hnn
      clear hnn
      clear h1 hb hu hf HW HS0 h5 h6 h7 h8 hlk hv ho hp hyk hym hbs hms hc1 hm1 hst1 hX1 hrun hu2 hbr hX2 hcel hlm hln
      go_wp2_with fail
      go_region_held3 (fun wx => wx.cell? ⟨e, 0, none⟩ = some (.map (some m))) (first | exact c0d | exact z0 | go_keep) (fail)
      all_goals
        go_wp2_with fail
        (try simp only [Exit.inBlock, Exit.then])
        refine bodyPost_ret (v := .tuple #[mval q.a0 q.a1 q.a2 b.1 q.b.length b.2, .int .i64 0]) ?_ rfl ?_
        · rw [results_cell_tmp (fn := Try.f40) rfl]
          go_simp
        · have h9 := (((((HS4.out.get 5).set 0 (.int .i64 q.a0)).set 1 (.int .i64 q.a1)).set 2 (.int .i64 q.a2)).set 3 (.slice b.1 q.b.length b.2)).drop
          obtain ⟨hfr, Qa, Ra, hqa, hra, hda, hX, hLa⟩ := h9.get 2
          obtain ⟨A3, hrun2, hX3⟩ := slc_drop Try.underlying91 ht0 hz1 hX 1 (by simp) (by have := HC1.out.2; have := HNN.out; simp only [List.length_cons]; omega)
          have hNN := HNN.out
          subst hNN
          have e0 : (Instr.slice 91 (.slice (some ⟨g, o, none⟩) (ms.length + 1) c1) (some (.int .i64 1)) none none).run Try.prog w1 = .ok (.slice A3 ((q :: ms).length - 1) (c1 - 1)) w1 := hrun2 w1
          have e1 := e0.symm.trans (HR.out w1)
          injection e1 with e2 e3
          injection e2 with e4 e5 e6
          subst e4
          have h10 : St P0 w0 _ (slc 88 4 (.slice A3 ms.length (c1 - 1)) ms.length (rcs mcf ms bs) :: _) := ⟨hfr, Qa, Ra, hqa, hra, hda, hX3, hLa⟩
          exact ⟨q, _, _, _, _, rfl, take_shutx HE.out.1 HE.out.2.1 HE.out.2.2 HMS.out HBS.out (h10.get 1), HX.out _⟩
theorem Take_x (h : St P0 w0 w (ep e L :: F)) (b1 : Int) (wa : (Lit.int .i64 b1).wf = true) :
    Calls Try.prog 40 #[.pointer (some ⟨e, 0, none⟩), .int .i64 b1] w fun x w' => ∃ A c,
      x = .returned (.tuple #[mval (takeL L b1).2.1.a0 (takeL L b1).2.1.a1 (takeL L b1).2.1.a2 A (takeL L b1).2.1.b.length c, .int .i64 (takeL L b1).2.2]) ∧ St P0 w0 w' (ep e (takeL L b1).1 :: mpf (takeL L b1).2.1 (A, c) :: F) := by
  obtain ⟨E, rfl, h1⟩ := ep_any h
  refine (Take_e h1 b1 wa).mono ?_
  rintro x w' ⟨m, A, c, f, E', rfl, hs, hd⟩
  rw [hd]
  exact ⟨A, c, rfl, ep_shut rfl hs⟩
end
end Go.Proofs.Ytdhgmnnkbjhpaaa.Epx
