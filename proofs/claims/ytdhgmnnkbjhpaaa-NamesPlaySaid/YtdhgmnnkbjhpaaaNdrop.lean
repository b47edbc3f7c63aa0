/- Of and Drop. -/
import Derived.Test.YtdhgmnnkbjhpaaaNof
import Derived.Deep.LoopGhost
namespace Go.Proofs.Ytdhgmnnkbjhpaaa.Ntab
set_option linter.unusedVariables false
set_option linter.unusedSimpArgs false
open Go.RowKit Go.Proofs.Ytdhgmnnkbjhpaaa.Sep Go.Proofs.Ytdhgmnnkbjhpaaa.Mp Go.Proofs.Ytdhgmnnkbjhpaaa.PNamesPlay Go.Proofs.Ytdhgmnnkbjhpaaa.NoteOk Go.Proofs.YtdhgmnnkbjhpaaaW.PrintWords
open Go.Maps (Keyed)

/-! ### 1. Plain -/
/-- A core's. -/
def ofN (L : List S66) (core : Int) : List S66 := L.filter fun x => x.f1 == core
/-- What is left without them. -/
def dropN (L : List S66) (core : Int) : List S66 := L.filter fun x => !(x.f1 == core)
def strikeN (L : List S66) (ns : List ByteArray) : List S66 := L.filter fun x => !(ns.any fun s => ky s == ky x.f0)
theorem find_self {L : List S66} (h : L.Pairwise fun x y => bytesBefore (ky x.f0) (ky y.f0) = true) {x : S66} (hx : x ∈ L) : findN L x.f0 = some x := by
  induction L with
  | nil => simp at hx
  | cons y r ih =>
    obtain ⟨h1, h2⟩ := List.pairwise_cons.1 h
    unfold findN
    rcases List.mem_cons.1 hx with rfl | hx
    · simp
    · have hb := h1 x hx
      have hne : (ky y.f0 == ky x.f0) = false := beq_eq_false_iff_ne.2 fun e => by
        rw [e, WideAt.bytes_irrefl] at hb
        cases hb
      rw [List.find?_cons, hne]
      exact ih h2 hx
theorem same_name {L : List S66} (h : L.Pairwise fun x y => bytesBefore (ky x.f0) (ky y.f0) = true) {x y : S66} (hx : x ∈ L) (hy : y ∈ L) (e : ky x.f0 = ky y.f0) : x = y := by
  have h1 := find_self h hx
  have h2 := find_self h hy
  rw [ky_inj e] at h1
  exact Option.some.inj (h1.symm.trans h2)
theorem of_names {L : List S66} (h : Okt L) (core : Int) (ln : List Nm) (hl : ln.map (·.1) = namesOf L) : (ln.filter fun s => !(coreN L s.1 != core)).map (·.1) = namesOf (ofN L core) := by
  have e1 : (ln.filter fun s => !(coreN L s.1 != core)).map (·.1) = (namesOf L).filter fun s => !(coreN L s != core) := by
    rw [← hl, List.filter_map]
    rfl
  rw [e1]
  unfold namesOf ofN
  rw [List.filter_map]
  congr 1
  apply List.filter_congr
  intro x hx
  simp only [Function.comp]
  unfold coreN
  rw [find_self h.rise hx]
  simp [bne]
theorem strike_nil (L : List S66) : strikeN L [] = L := by unfold strikeN; simp
theorem strike_snoc (L : List S66) (ns : List ByteArray) (s : ByteArray) : delN (strikeN L ns) s = strikeN L (ns ++ [s]) := by
  unfold delN strikeN
  rw [List.filter_filter]
  apply List.filter_congr
  intro x _
  rw [List.any_append, Bool.not_or]
  simp [Bool.and_comm, BEq.comm]
theorem strike_all {L : List S66} (h : Okt L) (core : Int) : strikeN L (namesOf (ofN L core)) = dropN L core := by
  unfold strikeN dropN
  apply List.filter_congr
  intro x hx
  congr 1
  rw [Bool.eq_iff_iff]
  simp only [List.any_eq_true, List.mem_map, beq_iff_eq]
  constructor
  · rintro ⟨s, ⟨y, hy, rfl⟩, e⟩
    have hy' := List.mem_filter.1 hy
    rw [← same_name h.rise hy'.1 hx e]
    simpa using hy'.2
  · intro e
    exact ⟨x.f0, ⟨x, List.mem_filter.2 ⟨hx, by simpa using e⟩, rfl⟩, rfl⟩
theorem okt_filter {L : List S66} (h : Okt L) (p : S66 → Bool) : Okt (L.filter p) :=
  ⟨h.rise.filter _, Nat.le_trans (List.length_filter_le _ _) h.len, fun x hx => h.name x (List.mem_filter.1 hx).1⟩
theorem to_nm : ∀ l : List ByteArray, (∀ s ∈ l, s.size ≤ 1000) → ∃ ln : List Nm, ln.map (·.1) = l
  | [], _ => ⟨[], rfl⟩
  | s :: l, h => by
    obtain ⟨ln, e⟩ := to_nm l fun x hx => h x (.tail _ hx)
    exact ⟨⟨s, h s (.head _)⟩ :: ln, by rw [List.map_cons, e]⟩
theorem names_nm {L : List S66} (h : Okt L) : ∃ ln : List Nm, ln.map (·.1) = namesOf L := to_nm _ fun s hs => by
  obtain ⟨x, hx, rfl⟩ := List.mem_map.1 hs
  have := h.name x hx
  omega
/-! ### 2. Of -/
section
variable {P0 : Nat → Prop} {w0 w w' : World} {F : List Rg} {t : Nat} {L : List S66} {core : Int}
set_option maxHeartbeats 2000000 in
set_option maxRecDepth 100000 in
theorem Of_st (h : St P0 w0 w (tab t L :: F)) (core : Int) : Calls Try.prog 32 #[.pointer (some ⟨t, 0, none⟩), .int .i64 core] w fun e w' =>
    ∃ v, e = .returned v ∧ St P0 w0 w' (nms v (namesOf (ofN L core)) :: tab t L :: F) := by
  obtain ⟨m, hm, -⟩ := tab_any h
  obtain ⟨ln, hln⟩ := names_nm hm
  have hof := of_names hm core ln hln
  have h1 := (h.alloc #[.pointer (some ⟨t, 0, none⟩)] 44).alloc #[.int .i64 core] 3
  rw [World.size_alloc] at h1
  have HS : Hid (St P0 w0 _ (tab t L :: bk (w.heap.size + 1) 3 #[.int .i64 core] :: bk w.heap.size 44 #[.pointer (some ⟨t, 0, none⟩)] :: F)) := Lib.hid (h1.get 2 |>.get 1 |>.get 1)
  have HOF := Lib.hid hof
  have HLN := Lib.hid hln
  have c0 : ((w.alloc (.cells #[.pointer (some ⟨t, 0, none⟩)] 44)).alloc (.cells #[.int .i64 core] 3)).cell? ⟨w.heap.size, 0, none⟩ = some (.pointer (some ⟨t, 0, none⟩)) := cell_of_block (h1.get 1).bk_at 0
  clear h h1 hm hof hln
  go_enter Try.func32, Try.ntmps32
  go_wp2_with fail
  refine (List_st HS.out).mono ?_
  rintro e w2 ⟨v, rfl, hs, -⟩
  have h2 : St P0 w0 w2 (nms v (ln.map (·.1)) :: bk w.heap.size 44 #[.pointer (some ⟨t, 0, none⟩)] :: bk (w.heap.size + 1) 3 #[.int .i64 core] :: tab t L :: F) := by
    rw [HLN.out]
    exact ((hs.get 1).get 2).get 3 |>.get 3
  have HD := Lib.hid (DelF_st ln h2)
  clear hs h2 HS c0
  go_wp2_with (go_at_call 49; refine HD.out.mono ?_; rw [HOF.out]; rintro e w3 ⟨v3, rfl, hs⟩; have HS3 := Lib.hid ((hs.cut 1).cut 1); clear hs)
  go_ret
  exact ⟨_, rfl, HS3.out⟩
set_option maxHeartbeats 2000000 in
set_option maxRecDepth 100000 in
theorem Drop_st (h : St P0 w0 w (tab t L :: F)) (core : Int) : Calls Try.prog 33 #[.pointer (some ⟨t, 0, none⟩), .int .i64 core] w fun e w' =>
    e = .returned (.int .i64 ((ofN L core).length : Int)) ∧ St P0 w0 w' (tab t (dropN L core) :: F) := by
  obtain ⟨m0, hm, -⟩ := tab_any h
  have HM := Lib.hid hm
  have HS := Lib.hid h
  clear h hm
  go_enter Try.func33, Try.ntmps33
  go_wp2_with fail
  refine (Of_st HS.out core).mono ?_
  rintro e w2 ⟨v, rfl, hs⟩
  obtain ⟨m, -, h1⟩ := tab_any (hs.get 1)
  have hlen : (namesOf (ofN L core)).length = (ofN L core).length := by simp
  have h32 : (ofN L core).length ≤ 32 := Nat.le_trans (List.length_filter_le _ _) HM.out.len
  have h2 : St P0 w0 w2 (nms v (namesOf (ofN L core)) :: bk t 100 #[.map (some m)] :: mp 9 m ((strikeN L ((namesOf (ofN L core)).take 0)).map ent) :: F) := by
    rw [List.take_zero, strike_nil]
    exact (h1.get 2)
  obtain ⟨A, c, rfl, _⟩ : ∃ A c, v = .slice A (ofN L core).length c ∧ (ofN L core).length ≤ c := by
    obtain ⟨P, ⟨Q, Q2, _, _, _, h3, _⟩, _⟩ := St.step (L := [nms v (namesOf (ofN L core))]) hs
    obtain ⟨A, c, h4, h5⟩ := slc_form h3
    rw [hlen] at h4 h5
    exact ⟨A, c, h4, h5.1⟩
  have HS2 := Lib.hid h2
  have HLN := Lib.hid hlen
  obtain ⟨ns, hns⟩ : ∃ ns, namesOf (ofN L core) = ns := ⟨_, rfl⟩
  obtain ⟨nl, hnl⟩ : ∃ nl, (ofN L core).length = nl := ⟨_, rfl⟩
  have HE := Lib.hid (show strikeN L ns = dropN L core by rw [← hns]; exact strike_all HM.out core)
  have HNM := Lib.hid (show ∀ s ∈ ns, s.size ≤ 8 from fun s hs => by
    rw [← hns] at hs
    obtain ⟨x, hx, rfl⟩ := List.mem_map.1 hs
    exact HM.out.name x (List.mem_filter.1 hx).1)
  rw [hns] at HS2 HLN
  rw [hnl] at HS2 HLN h32
  simp only [hnl]
  clear hs h1 h2 hlen hns HS
  have HNL := Lib.hid hnl
  clear hnl
  go_wp2_with fail
  go_loopg [13] nl (fun gk v13 wx => ∃ j : Nat, Hid (j + gk = nl) ∧ v13 = .int .i64 j ∧ Hid (St P0 w0 wx (nms (.slice A nl c) ns :: bk t 100 #[.map (some m)] :: mp 9 m ((strikeN L (ns.take j)).map ent) :: F)))
  case atStart => exact ⟨0, Lib.hid (Nat.zero_add _), rfl, HS2⟩
  case round =>
    clear HS2
    obtain ⟨j, HG, rfl, HS⟩ := hrel
    have hjn : j ≤ nl := by have := HG.out; omega
    by_cases hlt : j < nl
    · have hs := HS.out
      have hjl : j < ns.length := by rw [HLN.out]; exact hlt
      obtain ⟨ad, rfl, k0⟩ : ∃ ad, A = some ad ∧ wr.cell? (ad.add j) = some (.string ns[j]) := by
        obtain ⟨P, ⟨Q, Q2, _, _, _, h3, _⟩, _⟩ := St.step (L := [nms (.slice A nl c) ns]) hs
        obtain ⟨g, o, rfl, _, _, _, hc, _⟩ := slc_cells (n := ns.length) (by rw [← HLN.out] at h3; exact h3) (by omega)
        refine ⟨_, rfl, ?_⟩
        rw [Addr.add_mid]
        refine hc j _ ?_
        unfold strs
        simp [hjl]
      have k1 : wr.cell? ⟨t, 0, none⟩ = some (.map (some m)) := cell_of_block (hs.get 1).bk_at 0
      have hkf := kof (s := ns[j]) (by have := HNM.out ns[j] (List.getElem_mem hjl); unfold maxLen; omega)
      have HKF := Lib.hid hkf
      have HSD := Lib.hid (hs.get 2)
      have HT := Lib.hid (show (delN (strikeN L (ns.take j)) ns[j]) = strikeN L (ns.take (j + 1)) by rw [strike_snoc, List.take_succ_eq_append_getElem hjl])
      obtain ⟨sj, hsj⟩ : ∃ sj, ns[j] = sj := ⟨_, rfl⟩
      rw [hsj] at k0 HKF HT
      clear hs hkf HS
      clear hsj
      go_wp2_with (at_delete; refine St.delete HSD.out rfl _ _ _ rfl _ klaw Try.underlying98 rfl _ _ rfl HKF.out ?_; intro w6 hst hsz; have HS6 := Lib.hid hst; clear hst hsz)
      have h9 := HS6.out
      rw [del_ent, HT.out] at h9
      have HS9 := Lib.hid ((h9.get 2).get 2)
      clear h9 HS6
      go_roundg (gk - 1)
      case measure => have := HG.out; omega
      case rel => exact ⟨j + 1, Lib.hid (by have := HG.out; omega), by go_num, HS9⟩
    · obtain rfl : j = nl := by omega
      have hs := HS.out
      rw [List.take_of_length_le (by rw [HLN.out]; exact Nat.le_refl _), HE.out] at hs
      have HF := Lib.hid (tab_shut (okt_filter HM.out _) hs.drop)
      clear hs HS
      go_wp2
      go_ret
      exact ⟨by rw [HNL.out]; rfl, HF.out⟩
end
end Go.Proofs.Ytdhgmnnkbjhpaaa.Ntab
