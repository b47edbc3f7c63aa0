/- EndsPlay, walked; written by mkeplay.py. -/
import Derived.Test.YtdhgmnnkbjhpaaaEp3
import Derived.Test.YtdhgmnnkbjhpaaaEpfew
namespace Go.Proofs.Ytdhgmnnkbjhpaaa.Epp
set_option linter.unusedVariables false
set_option linter.unusedSimpArgs false
open Go.RowKit Go.Proofs.Ytdhgmnnkbjhpaaa.Sep Go.Proofs.Ytdhgmnnkbjhpaaa.Mp Go.Proofs.Ytdhgmnnkbjhpaaa.Given Go.Proofs.Ytdhgmnnkbjhpaaa.Eps Go.Proofs.Ytdhgmnnkbjhpaaa.Epx Go.Proofs.Ytdhgmnnkbjhpaaa.PEndsPlay Go.Proofs.YtdhgmnnkbjhpaaaW.PrintWords
theorem info3 : (Try.prog.info? 3).map (fun i => (i.zero, i.size, i.bytes)) = some (some (.int .i64 0), 1, 8) := by kernel_rfl
theorem find_self {L : List EL} (h : L.Pairwise (fun x y => x.k < y.k)) : ∀ {x : EL}, x ∈ L → findL L x.k = some x := by
  induction L with
  | nil => exact fun hx => by simp at hx
  | cons y r ih =>
    intro x hx
    obtain ⟨h1, h2⟩ := List.pairwise_cons.1 h
    unfold findL
    rw [List.find?_cons]
    rcases List.mem_cons.1 hx with rfl | hx
    · rw [decide_eq_true rfl]
    · have := h1 x hx
      rw [decide_eq_false (by omega : ¬ y.k = x.k)]
      exact ih h2 hx
theorem cnt_self {L : List EL} (h : Okp L) {x : EL} (hx : x ∈ L) : cntL L x.k = x.ms.length := by
  unfold cntL
  rw [find_self h.rise hx]
theorem cnt_none {L : List EL} {a : Int} (h : (findL L a).isSome = false) : cntL L a = 0 := by
  have e : findL L a = none := Option.not_isSome_iff_eq_none.1 (by rw [h]; decide)
  unfold cntL
  rw [e]
/-- The messages are short. -/
def Okb (L : List EL) : Prop := ∀ x ∈ L, ∀ m ∈ x.ms, m.b.length ≤ 1000
theorem okb_del {L : List EL} (h : Okb L) (a : Int) : Okb (delL L a) := fun x hx => h x (List.mem_filter.1 hx).1
theorem okb_put {L : List EL} (h : Okb L) (x : EL) (hx : ∀ m ∈ x.ms, m.b.length ≤ 1000) : Okb (putL L x) := fun z hz => by
  rcases mem_ins x _ z hz with rfl | hz
  · exact hx
  · exact okb_del h _ z hz
theorem okb_do {L : List EL} (h : Okb L) (kd a : Int) (m : MS) (hm : m.b.length ≤ 1000) : Okb (doL L kd a m).1 ∧ (doL L kd a m).2.2.1.b.length ≤ 1000 := by
  by_cases h0 : kd = 0
  · subst h0
    rw [doL0]
    refine ⟨?_, Nat.zero_le _⟩
    unfold openL
    dsimp only
    split
    · exact h
    split
    · exact h
    split
    · exact h
    · exact okb_put h _ (fun m hm => by simp at hm)
  by_cases h1 : kd = 1
  · subst h1
    rw [doL1]
    refine ⟨?_, Nat.zero_le _⟩
    unfold closeL
    dsimp only
    split
    · exact okb_del h a
    · exact h
  by_cases h2 : kd = 2
  · subst h2
    rw [doL2]
    refine ⟨?_, Nat.zero_le _⟩
    unfold delivL
    dsimp only
    split
    · cases hf : findL L m.a1 with
      | none => exact h
      | some y =>
        dsimp only
        have hp := find_pos hf
        split
        · exact h
        · refine okb_put h _ fun q hq => ?_
          rcases List.mem_append.1 hq with hq | hq
          · exact h y hp.2 q hq
          · obtain rfl := List.mem_singleton.1 hq
            exact hm
    · exact h
  · rw [doL3 L a m h0 h1 h2]
    unfold takeL
    cases hf : findL L a with
    | none => exact ⟨h, Nat.zero_le _⟩
    | some y =>
      have hp := find_pos hf
      dsimp only
      cases hms : y.ms with
      | nil => exact ⟨h, Nat.zero_le _⟩
      | cons q ms => exact ⟨okb_put h _ fun r hr => h y hp.2 r (by rw [hms]; exact .tail _ hr), h y hp.2 q (by rw [hms]; exact .head _)⟩
/-- What the element's message list looks like in the reference's row. -/
theorem row_at79 {w : World} {A : Option Addr} {L : List EL} (hr : Kd.C k79 w A L.length (RL L)) {j : Nat} (hj : j < L.length) {xk : Int} {xm : List MS} (hx : L[j]'hj = ⟨xk, xm⟩) : ∃ ad A1 c1, A = some ad ∧ w.cell? (ad.add (j * 2)) = some (.int .i64 xk) ∧ w.cell? ⟨(ad.add (j * 2)).block, (ad.add (j * 2)).off + 1, none⟩ = some (.slice A1 xm.length c1) := by
  obtain ⟨ad, A1, c1, e, h1, h2, _⟩ := at_T79 hr (j : Int) (by omega) (by omega)
  rw [Int.toNat_natCast, rd79 hj, hx] at h1 h2
  have e2 : (toR ⟨xk, xm⟩).f1.length = xm.length := by show (xm.map toS).length = _; rw [List.length_map]
  rw [e2] at h2
  exact ⟨ad, A1, c1, e, h1, h2⟩
theorem ints_push {P0 : Nat → Prop} {w0 w : World} {F : List Rg} {L : List EL} {j c : Nat} {A : Option Addr} (hj : j < L.length) {xk : Int} {xm : List MS} (hx : L[j]'hj = ⟨xk, xm⟩) (h : St P0 w0 w (slc 3 1 (.slice A (j + 1) c) (j + 1) (((L.take j).map (fun x : EL => Value.int .i64 x.k)) ++ [.int .i64 xk]) :: F)) : St P0 w0 w (slc 3 1 (.slice A (j + 1) c) (j + 1) ((L.take (j + 1)).map (fun x : EL => Value.int .i64 x.k)) :: F) := by
  have e : (L.take (j + 1)).map (fun x : EL => Value.int .i64 x.k) = ((L.take j).map (fun x : EL => Value.int .i64 x.k)) ++ [.int .i64 xk] := by
    rw [List.take_succ_eq_append_getElem hj, List.map_append, hx]
    rfl
  rw [e]
  exact h
theorem all_C {P0 : Nat → Prop} {w0 w : World} {F : List Rg} {L : List EL} {n c : Nat} {A : Option Addr} (hn : n = L.length) (h : St P0 w0 w (slc 3 1 (.slice A n c) n ((L.take n).map (fun x : EL => Value.int .i64 x.k)) :: F)) : n ≤ c ∧ Kd.C (Kd.int .i64) w A (L.map (·.k)).length (L.map (·.k)) := by
  subst hn
  rw [List.take_length] at h
  obtain ⟨P, ⟨Q, Q2, _, _, _, h3, _⟩, _⟩ := St.step (L := [slc 3 1 (.slice A L.length c) L.length (L.map (fun x : EL => Value.int .i64 x.k))]) h
  have e : L.map (fun x : EL => Value.int .i64 x.k) = (L.map (fun x : EL => x.k)).map (Value.int .i64) := by rw [List.map_map]; rfl
  have e2 : L.length = (L.map (fun x : EL => x.k)).length := by rw [List.length_map]
  rw [e] at h3
  have h4 : (slc 3 1 (.slice A (L.map (fun x : EL => x.k)).length c) (L.map (fun x : EL => x.k)).length ((L.map (fun x : EL => x.k)).map (Value.int .i64))).X w Q := by rw [← e2]; exact h3
  obtain ⟨h5, h6⟩ := words_C h4
  exact ⟨by rw [e2]; exact h5, h6⟩
theorem list_C {P0 : Nat → Prop} {w0 w : World} {F : List Rg} {L : List EL} {c : Nat} {A : Option Addr} (h : St P0 w0 w (ints (.slice A L.length c) (L.map (·.k)) :: F)) : L.length ≤ c ∧ Kd.C (Kd.int .i64) w A (L.map (·.k)).length (L.map (·.k)) := by
  have e : L.map (fun x : EL => Value.int .i64 x.k) = (L.map (fun x : EL => x.k)).map (Value.int .i64) := by rw [List.map_map]; rfl
  have e2 : (L.map (fun x : EL => x.k)).length = L.length := by rw [List.length_map]
  refine all_C (P0 := P0) (w0 := w0) (F := F) rfl ?_
  rw [List.take_length, e]
  unfold ints at h
  rw [e2] at h
  exact h
theorem keys_same {w : World} {L : List EL} {A A' : Option Addr} {c c' : Nat} (ho : Okp L) (h1 : L.length ≤ c ∧ Kd.C (Kd.int .i64) w A (L.map (·.k)).length (L.map (·.k))) (h2 : L.length ≤ c' ∧ Kd.C (Kd.int .i64) w A' (L.map (·.k)).length (L.map (·.k))) :
    Calls Try.prog 36 #[.slice A L.length c, .slice A' L.length c'] w fun x w' => x = .returned (.bool true) ∧ Up w w' := by
  have e2 : (L.map (fun x : EL => x.k)).length = L.length := by rw [List.length_map]
  have h := lsame_u h1.2 (c := c) (by rw [e2]; exact h1.1) h2.2 (c' := c') (by rw [e2]; exact h2.1) (by rw [e2]; have := ho.len; omega)
  rw [e2] at h
  exact h
theorem RFind_st {w0 w : World} {F : List Rg} {u : Value} {lq : List Int} {L : List EL} {A : Option Addr} {c : Nat} (h : St Al w0 w (ol w0 (.slice A L.length c) (RL L) u lq :: F)) (ho : Okp L) (a : Int) :
    Calls Try.prog 37 #[.slice A L.length c, .int .i64 a] w fun x w' => x = .returned (.int .i64 (placeI L a)) ∧ Up w w' := by
  obtain ⟨A', c', e, h1, h2⟩ := ol_form h
  rw [List.length_map] at e h1 h2
  cases e
  exact RFind_x h1 h2 (by have := ho.len; omega) a
set_option maxHeartbeats 16000000 in
set_option maxRecDepth 100000 in
theorem play_walk (A0 : Option Addr) (c0 : Nat) (l : List S32) (addr : Int) (w : World) (hr : Kd.C k32 w A0 l.length l) (hc : l.length ≤ c0) (hm : c0 ≤ maxLen) (hw : ∀ x ∈ l, (Lit.int .i64 x.f1).wf = true ∧ (Lit.int .i64 x.f2.f1).wf = true) (wa : (Lit.int .i64 addr).wf = true) :
    Calls Try.prog 10 #[.slice A0 l.length c0, .int .i64 addr] w fun x w' => x = .returned (.bool true) ∧ Up w w' := by
  have HR := Lib.hid hr
  have HW := Lib.hid hw
  have HWA := Lib.hid wa
  have HFW := Lib.hid (fun (wx : World) (hu : Up w wx) => few_q l A0 c0 wx (Kd.C_below hr hu) hc hm)
  have HL := Lib.hid (show fewE l = true → l.length ≤ 150 ∧ ∀ x ∈ l, x.f2.f3.length ≤ 50 from fun h => by
    unfold fewE at h
    simp only [Bool.and_eq_true, List.all_eq_true, decide_eq_true_eq] at h
    exact h)
  clear hr hw hc hm wa
  by_cases hb : fewE l = true
  case neg =>
    have hb' : fewE l = false := by simpa using hb
    rw [hb'] at HFW
    clear hb hb'
    go_enter Try.func10, Try.ntmps10
    go_wp2_with (first
      | (go_at_call 13; refine (HFW.out _ (Up.refl _)).mono ?_; rintro x w2 ⟨rfl, hu⟩; have HU2 := Lib.hid hu; clear hu)
      | (go_at_call 14; refine (alive_walk _).mono ?_; rintro x w3 ⟨rfl, hu⟩; have HU3 := Lib.hid (HU2.out.trans hu); clear hu))
    go_ret
    exact ⟨rfl, HU3.out⟩
  obtain ⟨hl150, hl50⟩ := HL.out hb
  have HL' := Lib.hid hl50
  rw [hb] at HFW
  clear HL hb hl50
  obtain ⟨t0, ht0, hz0, hz1, hz2⟩ := info_of' info3
  go_enter Try.func10, Try.ntmps10
  go_wp2_with (first
    | (go_at_call 13; refine (HFW.out _ (Up.refl _)).mono ?_; rintro x w1 ⟨rfl, hu⟩; have HS1 := Lib.hid ((ol_start w).more hu); clear hu)
    | (go_at_call 12; refine (New_st HS1.out).mono ?_; rintro x w2 ⟨e, rfl, hs⟩; have HS2 : Hid (St Al w w2 [ol w (.slice none 0 0) (RL []) (.slice none 0 0) [], ep e []]) := Lib.hid ((ep_start hs).get 1); clear hs))
  clear HFW HS1
  go_loopg [28, 6] l.length (fun gk v28 v6 wx => ∃ (i : Nat) (L : List EL) (A : Option Addr) (c : Nat) (u : Value) (lq : List Int), i ≤ l.length ∧ Hid (i + gk = l.length) ∧ v28 = .int .i64 i ∧ v6 = .slice A L.length c ∧ Hid (Okp L ∧ Okb L) ∧ Hid (St Al w wx [ol w (.slice A L.length c) (RL L) u lq, ep e L]))
  case atStart => exact ⟨0, [], none, 0, .slice none 0 0, [], Nat.zero_le _, Lib.hid (Nat.zero_add _), rfl, rfl, Lib.hid ⟨⟨List.Pairwise.nil, Nat.zero_le _, fun x hx => by simp at hx, fun x hx => by simp at hx⟩, fun x hx => by simp at hx⟩, HS2⟩
  case round =>
    clear HS2
    obtain ⟨i, L, A, c, u, lq, hi, HG, rfl, rfl, HK, HS⟩ := hrel
    by_cases hlt : i < l.length
    · obtain ⟨ad, A5, c5, rfl, k0, k1, k2, k3, k4, k5, hl5, hr5⟩ := at_T32 HR.out (i : Int) (by omega) (by omega)
      rw [Int.toNat_natCast] at k0 k1 k2 k3 k4 k5
      have hxm : rd_T32 l (i : Int) ∈ l := by
        unfold rd_T32
        rw [Int.toNat_natCast, List.getD_eq_getElem?_getD, List.getElem?_eq_getElem hlt]
        exact List.getElem_mem hlt
      have hsz := HL'.out _ hxm
      have hwf := HW.out _ hxm
      obtain ⟨⟨k, a, ⟨b0, b1, b2, bl⟩⟩, hx⟩ : ∃ x, rd_T32 l (i : Int) = x := ⟨_, rfl⟩
      rw [hx] at k0 k1 k2 k3 k4 k5 hsz hwf hl5 hr5
      dsimp only at k0 k1 k2 k3 k4 k5 hsz hwf hl5 hr5
      clear hx hxm
      have hu := ol_up HS.out
      have m0 := cell_up hu k0
      have m1 := cell_up hu k1
      have m2 := cell_up hu k2
      have m3 := cell_up hu k3
      have m4 := cell_up hu k4
      have m5 := cell_up hu k5
      have HSA : Hid (St Al w (wr.alloc (.cells #[.int .i64 k, .int .i64 a, .int .i64 b0, .int .i64 b1, .int .i64 b2, .slice A5 bl.length c5] 32)) [ol w (.slice A L.length c) (RL L) u lq, bk wr.heap.size 32 #[.int .i64 k, .int .i64 a, .int .i64 b0, .int .i64 b1, .int .i64 b2, .slice A5 bl.length c5], ep e L]) := Lib.hid ((HS.out.alloc #[.int .i64 k, .int .i64 a, .int .i64 b0, .int .i64 b1, .int .i64 b2, .slice A5 bl.length c5] 32).get 1)
      have HRD := Lib.hid (RDo_x HSA.out HK.out.1 k a ⟨b0, b1, b2, bl⟩ hr5 hl5)
      have HD := Lib.hid (fun (wx : World) (F : List Rg) (hs : St Al w wx (ep e L :: F)) (hu : Up w wx) => do_x hs k a b0 b1 b2 (Kd.C_below hr5 hu) hl5 (by omega) hwf.1 hwf.2)
      have HK' := Lib.hid (And.intro (okp_do HK.out.1 k a ⟨b0, b1, b2, bl⟩) (okb_do HK.out.2 k a ⟨b0, b1, b2, bl⟩ (show bl.length ≤ 1000 by omega)).1)
      have hqb : (doL L k a ⟨b0, b1, b2, bl⟩).2.2.1.b.length ≤ 1000 := (okb_do HK.out.2 k a ⟨b0, b1, b2, bl⟩ (show bl.length ≤ 1000 by omega)).2
      obtain ⟨⟨L', a', ⟨q0, q1, q2, ql⟩, f⟩, hd⟩ : ∃ r, doL L k a ⟨b0, b1, b2, bl⟩ = r := ⟨_, rfl⟩
      rw [hd] at HD HRD HK' hqb
      dsimp only at HRD HK' hqb
      have HQL := Lib.hid hqb
      obtain ⟨go, hgo⟩ : ∃ g, g = gk - 1 := ⟨_, rfl⟩
      have HN1 : Hid (i + 1 + go = l.length) := Lib.hid (by have := HG.out; omega)
      have HN2 : Hid (go < gk) := Lib.hid (by have := HG.out; omega)
      have HN3 : Hid (i + 1 ≤ l.length) := Lib.hid (by omega)
      obtain ⟨nb, hnb⟩ : ∃ n, bl.length = n := ⟨_, rfl⟩
      obtain ⟨nq, hnq⟩ : ∃ n, ql.length = n := ⟨_, rfl⟩
      rw [hnb] at HD HSA m5 HRD
      have HNQ := Lib.hid hnq
      clear hu k0 k1 k2 k3 k4 k5 hl5 hr5 hsz hwf HS HG hd hnb hqb hgo HK
      go_wp2_with fail
      refine HRD.out.mono ?_
      rintro x w3 ⟨A', c', B, cB, rfl, h3⟩
      rw [hnq]
      rw [hnq] at h3
      have h4 : St Al w _ (bk w3.heap.size 30 #[.int .i64 q0, .int .i64 q1, .int .i64 q2, .slice B nq cB] :: ol w (.slice A' L'.length c') (RL L') (.slice B nq cB) ql :: bk wr.heap.size 32 #[.int .i64 k, .int .i64 a, .int .i64 b0, .int .i64 b1, .int .i64 b2, .slice A5 nb c5] :: [ep e L]) := h3.alloc #[.int .i64 q0, .int .i64 q1, .int .i64 q2, .slice B nq cB] 30
      have p0 : (w3.alloc (.cells #[.int .i64 q0, .int .i64 q1, .int .i64 q2, .slice B nq cB] 30)).cell? ⟨wr.heap.size, 0, none⟩ = some (.int .i64 k) := cell_of_block (h4.get 2).bk_at 0
      have p1 : (w3.alloc (.cells #[.int .i64 q0, .int .i64 q1, .int .i64 q2, .slice B nq cB] 30)).cell? ⟨wr.heap.size, 1, none⟩ = some (.int .i64 a) := cell_of_block (h4.get 2).bk_at 1
      have p2 : (w3.alloc (.cells #[.int .i64 q0, .int .i64 q1, .int .i64 q2, .slice B nq cB] 30)).cell? ⟨wr.heap.size, 2, none⟩ = some (.int .i64 b0) := cell_of_block (h4.get 2).bk_at 2
      have p3 : (w3.alloc (.cells #[.int .i64 q0, .int .i64 q1, .int .i64 q2, .slice B nq cB] 30)).cell? ⟨wr.heap.size, 3, none⟩ = some (.int .i64 b1) := cell_of_block (h4.get 2).bk_at 3
      have p4 : (w3.alloc (.cells #[.int .i64 q0, .int .i64 q1, .int .i64 q2, .slice B nq cB] 30)).cell? ⟨wr.heap.size, 4, none⟩ = some (.int .i64 b2) := cell_of_block (h4.get 2).bk_at 4
      have p5 : (w3.alloc (.cells #[.int .i64 q0, .int .i64 q1, .int .i64 q2, .slice B nq cB] 30)).cell? ⟨wr.heap.size, 5, none⟩ = some (.slice A5 nb c5) := cell_of_block (h4.get 2).bk_at 5
      have HS4 : Hid (St Al w (w3.alloc (.cells #[.int .i64 q0, .int .i64 q1, .int .i64 q2, .slice B nq cB] 30)) (ep e L :: [bk w3.heap.size 30 #[.int .i64 q0, .int .i64 q1, .int .i64 q2, .slice B nq cB], ol w (.slice A' L'.length c') (RL L') (.slice B nq cB) ql, bk wr.heap.size 32 #[.int .i64 k, .int .i64 a, .int .i64 b0, .int .i64 b1, .int .i64 b2, .slice A5 nb c5]])) := Lib.hid (h4.get 3)
      have HU4 := Lib.hid (ol_up (h4.get 1))
      clear h3 h4 HRD HSA m0 m1 m2 m3 m4 m5 hnq
      go_wp2_with fail
      refine (HD.out _ _ HS4.out HU4.out).mono ?_
      intro x w5 hd
      unfold DoX at hd
      dsimp only at hd
      rw [HNQ.out] at hd
      obtain ⟨Aq, cq, rfl, h5⟩ := hd
      have h6 := h5.alloc #[.int .i64 q0, .int .i64 q1, .int .i64 q2, .slice Aq nq cq] 30
      have y0 : (w5.alloc (.cells #[.int .i64 q0, .int .i64 q1, .int .i64 q2, .slice Aq nq cq] 30)).cell? ⟨w3.heap.size, 0, none⟩ = some (.int .i64 q0) := cell_of_block (h6.get 3).bk_at 0
      have y1 : (w5.alloc (.cells #[.int .i64 q0, .int .i64 q1, .int .i64 q2, .slice Aq nq cq] 30)).cell? ⟨w3.heap.size, 1, none⟩ = some (.int .i64 q1) := cell_of_block (h6.get 3).bk_at 1
      have y2 : (w5.alloc (.cells #[.int .i64 q0, .int .i64 q1, .int .i64 q2, .slice Aq nq cq] 30)).cell? ⟨w3.heap.size, 2, none⟩ = some (.int .i64 q2) := cell_of_block (h6.get 3).bk_at 2
      have y3 : (w5.alloc (.cells #[.int .i64 q0, .int .i64 q1, .int .i64 q2, .slice Aq nq cq] 30)).cell? ⟨w3.heap.size, 3, none⟩ = some (.slice B nq cB) := cell_of_block (h6.get 3).bk_at 3
      have z0 : (w5.alloc (.cells #[.int .i64 q0, .int .i64 q1, .int .i64 q2, .slice Aq nq cq] 30)).cell? ⟨w5.heap.size, 0, none⟩ = some (.int .i64 q0) := cell_of_block h6.bk_at 0
      have z1 : (w5.alloc (.cells #[.int .i64 q0, .int .i64 q1, .int .i64 q2, .slice Aq nq cq] 30)).cell? ⟨w5.heap.size, 1, none⟩ = some (.int .i64 q1) := cell_of_block h6.bk_at 1
      have z2 : (w5.alloc (.cells #[.int .i64 q0, .int .i64 q1, .int .i64 q2, .slice Aq nq cq] 30)).cell? ⟨w5.heap.size, 2, none⟩ = some (.int .i64 q2) := cell_of_block h6.bk_at 2
      have z3 : (w5.alloc (.cells #[.int .i64 q0, .int .i64 q1, .int .i64 q2, .slice Aq nq cq] 30)).cell? ⟨w5.heap.size, 3, none⟩ = some (.slice Aq nq cq) := cell_of_block h6.bk_at 3
      have HSM : Hid (Calls Try.prog 17 #[mval q0 q1 q2 B nq cB, mval q0 q1 q2 Aq nq cq] (w5.alloc (.cells #[.int .i64 q0, .int .i64 q1, .int .i64 q2, .slice Aq nq cq] 30)) fun x w' => x = .returned (.bool true) ∧ Up (w5.alloc (.cells #[.int .i64 q0, .int .i64 q1, .int .i64 q2, .slice Aq nq cq] 30)) w') := by
        have en := HNQ.out
        subst en
        obtain ⟨B', cB', e1, g1, g2⟩ := ol_words (h6.get 4)
        cases e1
        obtain ⟨P, ⟨Q, Q2, _, _, _, g3, _⟩, _⟩ := St.step (L := [mpf ⟨q0, q1, q2, ql⟩ (Aq, cq)]) (h6.get 2)
        obtain ⟨g4, g5⟩ := words_C g3
        exact Lib.hid (same_u q0 q1 q2 g2 g1 g5 g4 HQL.out)
      have HS6 : Hid (St Al w (w5.alloc (.cells #[.int .i64 q0, .int .i64 q1, .int .i64 q2, .slice Aq nq cq] 30)) [ol w (.slice A' L'.length c') (RL L') (.slice B nq cB) ql, ep e L']) := Lib.hid ((((h6.cut 0).cut 1).cut 1).cut 2 |>.get 1)
      clear h5 h6 p0 p1 p2 p3 p4 p5 HS4 HU4 HD HQL
      go_wp2_with fail
      refine HSM.out.mono ?_
      rintro x w7 ⟨rfl, hu⟩
      have HS7 := Lib.hid (HS6.out.more hu)
      clear hu HSM HS6 y0 y1 y2 y3 z0 z1 z2 z3
      have hL32 : L'.length ≤ 32 := HK'.out.1.len
      go_wp2_with fail
      obtain ⟨wo, rfl⟩ : ∃ wo, wo = wr := ⟨wr, rfl⟩
      go_loopg [64, 16] L'.length (fun gk v64 v16 wx => ∃ (j : Nat) (Aa : Option Addr) (ca : Nat), j ≤ L'.length ∧ Hid (j + gk = L'.length) ∧ v64 = .int .i64 j ∧ v16 = .slice Aa j ca ∧ Hid (St Al w wx [slc 3 1 (.slice Aa j ca) j ((L'.take j).map (fun x : EL => Value.int .i64 x.k)), ol w (.slice A' L'.length c') (RL L') (.slice B nq cB) ql, ep e L']))
      case atStart => exact ⟨0, none, 0, Nat.zero_le _, Lib.hid (Nat.zero_add _), rfl, rfl, Lib.hid (St.fresh (M := [slc 3 1 (.slice none 0 0) 0 []]) HS7.out (Up.refl _) ⟨No, No, fun _ e => e.elim, fun _ e => e.elim, fun _ e => e.elim, slc_nil _ _ _ _, trivial⟩)⟩
      case round =>
        clear HS7
        obtain ⟨j, Aa, ca, hj, HG, rfl, rfl, HS⟩ := hrel
        by_cases hjl : j < L'.length
        · have HM1 : Hid (j + 1 + (gk - 1) = L'.length) := Lib.hid (by have := HG.out; omega)
          have HM2 : Hid (gk - 1 < gk) := Lib.hid (by have := HG.out; omega)
          have HM3 : Hid (j + 1 ≤ L'.length) := Lib.hid (by omega)
          have hxm : L'[j]'hjl ∈ L' := List.getElem_mem hjl
          obtain ⟨⟨xk, xm⟩, hx⟩ : ∃ x, L'[j]'hjl = x := ⟨_, rfl⟩
          rw [hx] at hxm
          have hcs := cnt_self HK'.out.1 hxm
          have hfs : (findL L' xk).isSome = true := by rw [find_self HK'.out.1.rise hxm]; rfl
          have hps := HK'.out.1.pos _ hxm
          dsimp only at hcs hps
          have HPU := Lib.hid (fun (wx : World) (A : Option Addr) (c : Nat) (F : List Rg) h => ints_push (P0 := Al) (w0 := w) (w := wx) (F := F) (A := A) (c := c) hjl hx h)
          obtain ⟨A2', c2', e2, hcl, hrr⟩ := ol_form (HS.out.get 1)
          rw [List.length_map] at e2
          cases e2
          rw [List.length_map] at hrr
          obtain ⟨ad2, A1, c1, rfl, r0, r1⟩ := row_at79 hrr hjl hx
          clear hx hxm hrr hcl
          obtain ⟨nm, hnm⟩ : ∃ n, xm.length = n := ⟨_, rfl⟩
          rw [hnm] at hcs r1
          have HWK := Lib.hid (WalkArith.wf_i64 (by omega) : (Lit.int .i64 xk).wf = true)
          obtain ⟨fb, hfb⟩ : ∃ b, decide (4 ≤ nm) = b := ⟨_, rfl⟩
          have hfi : decide ((4 : Int) ≤ (nm : Int)) = fb := by rw [← hfb]; exact decide_eq_decide.2 (by omega)
          have hfj : decide ((nm : Int) ≥ 4) = fb := hfi
          have HWT := Lib.hid (fun (wx : World) (F : List Rg) (h : St Al w wx (ep e L' :: F)) => Waits_x h xk HWK.out)
          have HFU := Lib.hid (fun (wx : World) (F : List Rg) (h : St Al w wx (ep e L' :: F)) => Full_x h xk HWK.out)
          have HHA := Lib.hid (fun (wx : World) (F : List Rg) (h : St Al w wx (ep e L' :: F)) => Has_x h xk HWK.out)
          rw [hcs] at HWT HFU
          rw [hfb] at HFU
          rw [hfs] at HHA
          clear hcs hfs hps hnm hfb HWK
          have hsb := (HS.out.alloc #[.int .i64 xk, .slice A1 nm c1] 79)
          have hsc := hsb.alloc #[.int .i64 xk] 3
          rw [World.size_alloc] at hsc
          have HRI := Lib.hid (Rd.of_block (sz := 1) (m := 1) hsc.bk_at rfl (by simp [Value.oneCell']))
          have HSC : Hid (St Al w _ (slc 3 1 (.slice Aa j ca) j ((L'.take j).map (fun x : EL => Value.int .i64 x.k)) :: [bk (wr.heap.size + 1) 3 #[.int .i64 xk], bk wr.heap.size 79 #[.int .i64 xk, .slice A1 nm c1], ol w (.slice (some ad2) L'.length c') (RL L') (.slice B nq cB) ql, ep e L'])) := Lib.hid (hsc.get 2)
          have d0 : (wr.alloc (.cells #[.int .i64 xk, .slice A1 nm c1] 79)).cell? ⟨wr.heap.size, 0, none⟩ = some (.int .i64 xk) := cell_of_block hsb.bk_at 0
          have d1 : (wr.alloc (.cells #[.int .i64 xk, .slice A1 nm c1] 79)).cell? ⟨wr.heap.size, 1, none⟩ = some (.slice A1 nm c1) := cell_of_block hsb.bk_at 1
          clear hsb hsc HS HG
          go_upto_region 20 with (at_builtin; refine St.append 3 t0 (.int .i64 0) 1 8 HSC.out rfl (.tmp 68) (.tmp 71) 28 rfl Try.underlying28 ht0 hz0 hz1 hz2 rfl (by decide) rfl (some ⟨wr.heap.size + 1, 0, none⟩) 1 1 [.int .i64 xk] rfl HRI.out (by unfold maxLen; omega) (by omega) ?_; intro A7 c7 w8 hs hz; have HSD : Hid (St Al w w8 [slc 3 1 (.slice A7 (j + 1) c7) (j + 1) ((L'.take (j + 1)).map (fun x : EL => Value.int .i64 x.k)), ol w (.slice (some ad2) L'.length c') (RL L') (.slice B nq cB) ql, ep e L']) := Lib.hid (HPU.out _ _ _ _ ((hs.cut 1).cut 1)); have o0 : w8.cell? ⟨wr.heap.size, 0, none⟩ = some (.int .i64 xk) := cell_of_block (hs.get 2).bk_at 0; have o1 : w8.cell? ⟨wr.heap.size, 1, none⟩ = some (.slice A1 nm c1) := cell_of_block (hs.get 2).bk_at 1; clear hs hz HSC)
          clear d0 d1 r0 r1 HRI HPU
          go_region_held3 (fun wx => wx.cell? ⟨wr.heap.size, 0, none⟩ = some (.int .i64 xk) ∧ wx.cell? ⟨wr.heap.size, 1, none⟩ = some (.slice A1 nm c1) ∧ Hid (Up w8 wx))
            (first | exact ⟨o0, o1, Lib.hid (Up.drew (Up.refl _))⟩ | (go_split_ands; exact ⟨pw_cell_below hu (by assumption), pw_cell_below hu (by assumption), Lib.hid (Up.trans (Hid.out (by assumption)) hu)⟩))
            (first
              | (go_at_call 16; go_split_ands; refine (HWT.out _ _ ((HSD.out.more (Hid.out (by assumption))).get 2)).mono ?_; rintro x w9 ⟨rfl, hu⟩)
              | (go_at_call 35; go_split_ands; refine (HFU.out _ _ ((HSD.out.more (Hid.out (by assumption))).get 2)).mono ?_; rintro x w10 ⟨rfl, hu⟩)
              | (go_at_call 18; go_split_ands; refine (HHA.out _ _ ((HSD.out.more (Hid.out (by assumption))).get 2)).mono ?_; rintro x w11 ⟨rfl, hu⟩))
          all_goals
            go_split_ands
            have HS9 := Lib.hid (HSD.out.more (Hid.out (by assumption)))
            clear HSD HWT HFU HHA
            go_wp2_with fail
            go_roundg (gk - 1)
            case measure => exact HM2.out
            case rel => exact ⟨j + 1, A7, c7, HM3.out, HM1, by go_num, rfl, HS9⟩
        · clear HG
          obtain rfl : j = L'.length := by omega
          have HCA := Lib.hid (all_C rfl HS.out)
          have HCU := Lib.hid (fun (wx : World) (hu : Up wr wx) => (And.intro HCA.out.1 (Kd.C_below HCA.out.2 hu) : L'.length ≤ ca ∧ Kd.C (Kd.int .i64) wx Aa (L'.map (·.k)).length (L'.map (·.k))))
          have HLS := Lib.hid (List_x (HS.out.get 2) HK'.out.1)
          have HKS := Lib.hid (fun (wx : World) (A : Option Addr) (c : Nat) (A'' : Option Addr) (c'' : Nat) h1 h2 => keys_same (w := wx) (L := L') (A := A) (A' := A'') (c := c) (c' := c'') HK'.out.1 h1 h2)
          have HLC := Lib.hid (fun (wx : World) (A : Option Addr) (c : Nat) (F : List Rg) h => list_C (P0 := Al) (w0 := w) (w := wx) (F := F) (L := L') (A := A) (c := c) h)
          have HFN := Lib.hid (fun (wx : World) (F : List Rg) (h : St Al w wx (ol w (.slice A' L'.length c') (RL L') (.slice B nq cB) ql :: F)) => RFind_st h HK'.out.1 addr)
          have HWT := Lib.hid (fun (wx : World) (F : List Rg) (h : St Al w wx (ep e L' :: F)) => Waits_x h addr HWA.out)
          have HFU := Lib.hid (fun (wx : World) (F : List Rg) (h : St Al w wx (ep e L' :: F)) => Full_x h addr HWA.out)
          have HHA := Lib.hid (fun (wx : World) (F : List Rg) (h : St Al w wx (ep e L' :: F)) => Has_x h addr HWA.out)
          have HCN := Lib.hid (fun h => cnt_none (L := L') (a := addr) h)
          have HPN := Lib.hid (fun h => place_neg (L := L') (a := addr) h)
          have HPP := Lib.hid (fun h => place_nn (L := L') (a := addr) h)
          generalize cntL L' addr = cn at *
          generalize placeI L' addr = r at *
          generalize (findL L' addr).isSome = has at *
          clear HCA
          go_wp2_with fail
          refine HLS.out.mono ?_
          rintro x w9 ⟨Al2, cl2, rfl, h9, hu⟩
          have HS9 : Hid (St Al w w9 [ol w (.slice A' L'.length c') (RL L') (.slice B nq cB) ql, ep e L']) := Lib.hid (((h9.cut 0).cut 1).get 1)
          have HSA := Lib.hid (HKS.out _ _ _ _ _ (HLC.out _ _ _ _ h9) (HCU.out _ hu))
          clear h9 hu HS HLS HKS HLC HCU
          go_wp2_with fail
          refine HSA.out.mono ?_
          rintro x w10 ⟨rfl, hu⟩
          have HS10 := Lib.hid (HS9.out.more hu)
          clear hu HSA HS9
          go_wp2_with fail
          refine (HHA.out _ _ (HS10.out.get 1)).mono ?_
          rintro x w11 ⟨rfl, hu⟩
          have HS11 := Lib.hid (HS10.out.more hu)
          clear hu HHA HS10
          cases has with
          | true =>
            have r0 := HPP.out rfl
            have r1 : ¬ r < 0 := by omega
            have r2 : decide (r ≥ 0) = true := decide_eq_true r0
            have r3 : decide (r < 0) = false := decide_eq_false r1
            clear HPP HPN HCN
            go_wp2_with fail
            refine (HFN.out _ _ HS11.out).mono ?_
            rintro x w12 ⟨rfl, hu⟩
            have HS12 := Lib.hid (HS11.out.more hu)
            clear hu HS11
            go_wp2_with fail
            refine (HFN.out _ _ HS12.out).mono ?_
            rintro x w13 ⟨rfl, hu⟩
            have HS13 := Lib.hid (HS12.out.more hu)
            clear hu HS12 HFN
            go_wp2_with fail
            go_roundg go
            case measure => exact HN2.out
            case rel => exact ⟨i + 1, L', A', c', .slice B nq cB, ql, HN3.out, HN1, by go_num, rfl, HK', HS13⟩
          | false =>
            obtain rfl := HPN.out rfl
            obtain rfl := HCN.out rfl
            clear HPP HPN HCN
            go_wp2_with fail
            refine (HFN.out _ _ HS11.out).mono ?_
            rintro x w12 ⟨rfl, hu⟩
            have HS12 := Lib.hid (HS11.out.more hu)
            clear hu HS11
            go_wp2_with fail
            refine (HFN.out _ _ HS12.out).mono ?_
            rintro x w13 ⟨rfl, hu⟩
            have HS13 := Lib.hid (HS12.out.more hu)
            clear hu HS12 HFN
            go_wp2_with fail
            refine (HWT.out _ _ (HS13.out.get 1)).mono ?_
            rintro x w14 ⟨rfl, hu⟩
            have HS14 := Lib.hid (HS13.out.more hu)
            clear hu HS13 HWT
            go_wp2_with fail
            refine (HFU.out _ _ (HS14.out.get 1)).mono ?_
            rintro x w15 ⟨rfl, hu⟩
            have HS15 := Lib.hid (HS14.out.more hu)
            clear hu HS14 HFU
            go_wp2_with fail
            go_roundg go
            case measure => exact HN2.out
            case rel => exact ⟨i + 1, L', A', c', .slice B nq cB, ql, HN3.out, HN1, by go_num, rfl, HK', HS15⟩
    · clear HG
      obtain rfl : i = l.length := by omega
      go_wp2_with fail
      refine (alive_walk _).mono ?_
      rintro x w3 ⟨rfl, hu⟩
      have HU := Lib.hid ((ol_up HS.out).trans hu)
      clear hu HS
      go_wp2_with fail
      go_ret
      exact ⟨rfl, HU.out⟩
end Go.Proofs.Ytdhgmnnkbjhpaaa.Epp
