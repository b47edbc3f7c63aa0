/- Contracts of the package sbuf: Drain, Clear, All, Clone, Find. -/
import Derived.Test.YtiofdkkjjeljmaaSbuf
namespace Go.Proofs.Ytiofdkkjjeljmaa.Sbuf
set_option linter.unusedVariables false
set_option linter.unusedSimpArgs false
open Go.RowKit Go.Proofs.Ytiofdkkjjeljmaa.CellOf Go.Proofs.Ytiofdkkjjeljmaa.CellP Go.Proofs.Ytiofdkkjjeljmaa.Sep Go.Proofs.Ytiofdkkjjeljmaa.Find

/-- A slice without its first element, with its own end as its bound. -/
theorem slc_tail {P : Program} {t e : TypeId} {i : TypeInfo} (ht : P.underlying t = some (.slice e)) (hi : P.info? e = some i) (hsz : i.size = 1) {A : Option Addr} {m c : Nat} {xs : List Value} {w : World} {Q : Nat → Prop} (h : (slc e 1 (.slice A m c) m xs).X w Q) (hm : 1 ≤ m) :
    ∃ A', (∀ W : World, (Instr.slice t (.slice A m c) (some (.int .i64 1)) (some (.int .i64 (m : Int))) (some (.int .i64 (m : Int)))).run P W = .ok (.slice A' (m - 1) (m - 1)) W) ∧ (slc e 1 (.slice A' (m - 1) (m - 1)) (m - 1) xs.tail).X w Q := by
  rcases h with ⟨_, rfl, _⟩ | ⟨g, o, c', cur, hv, h2, h3, h4, h5, h6, h7, h8⟩
  · omega
  · cases hv
    refine ⟨if m = 1 then some ⟨g, o, none⟩ else some ⟨g, o + 1, none⟩, fun W => ?_, .inr ⟨g, if m = 1 then o else o + 1, m - 1, cur, ?_, Nat.le_refl _, by omega, by simp; omega, h5, h6, ?_, ?_⟩⟩
    · have hel : P.elem t = e := by simp [Program.elem, ht]
      have hu : P.underlying t = some (.slice (P.elem t)) := by rw [hel]; exact ht
      rw [run_slice_lhm W t (some ⟨g, o, none⟩) m c hu .i64 .i64 .i64 1 m m (by omega) (by omega) (Int.le_refl _) (by omega), hel]
      simp [sizeOf, typeInfo, hi, hsz, sliced, Result.andThen]
      by_cases e1 : m = 1
      · simp [e1]
      · simp [e1, Addr.add_mid]
    · split <;> rfl
    · split <;> omega
    · intro j hj
      rw [List.length_tail] at hj
      rw [List.getElem?_tail]
      have := h8 (j + 1) (by omega)
      split
      · omega
      · rw [← this]
        congr 1
        omega
theorem cell_below {w w' : World} {p : Addr} {v : Value} (h : Up w w') (hc : w.cell? p = some v) : w'.cell? p = some v := by
  rw [← hc]
  exact Below.cell h (World.block_lt_of_cell? w _ hc)
section
variable {P0 : Nat → Prop} {w0 w w' : World} {F : List Rg} {b most : Nat} {L : List W16}
theorem Len_nil (w : World) : Calls Try.prog 39 #[.pointer none] w fun e w' => e = .returned (.int .i64 0) ∧ w' = w := by
  go_enter Try.func39, Try.ntmps39
  go_wp2
  go_ret
  exact ⟨rfl, rfl⟩
theorem Cap_nil (w : World) : Calls Try.prog 40 #[.pointer none] w fun e w' => e = .returned (.int .i64 0) ∧ w' = w := by
  go_enter Try.func40, Try.ntmps40
  go_wp2
  go_ret
  exact ⟨rfl, rfl⟩
theorem Drain_nil (w : World) : Calls Try.prog 78 #[.pointer none] w fun e w' => e = .returned (.tuple #[.int .i64 0, .int .i64 0, .bool false]) ∧ w' = w := by
  go_enter Try.func78, Try.ntmps78
  go_wp2_with (go_at_call 39; refine (Len_nil _).mono ?_; rintro e w' ⟨rfl, rfl⟩)
  go_ret3
  exact ⟨rfl, rfl⟩
theorem Clear_nil (w : World) : Calls Try.prog 79 #[.pointer none] w fun e w' => e = .returned (.int .i64 0) ∧ w' = w := by
  go_enter Try.func79, Try.ntmps79
  go_wp2_with (go_at_call 39; refine (Len_nil _).mono ?_; rintro e w' ⟨rfl, rfl⟩)
  go_ret
  exact ⟨rfl, rfl⟩
theorem All_nil (w : World) : Calls Try.prog 44 #[.pointer none] w fun e w' => e = .returned (.slice none 0 0) ∧ w' = w := by
  go_enter Try.func44, Try.ntmps44
  go_wp2
  go_ret
  exact ⟨rfl, rfl⟩
theorem Clone_nil (w : World) : Calls Try.prog 49 #[.pointer none] w fun e w' => e = .returned (.pointer none) ∧ w' = w := by
  go_enter Try.func49, Try.ntmps49
  go_wp2
  go_ret
  exact ⟨rfl, rfl⟩
theorem Find_nil (a : Int) (w : World) : Calls Try.prog 41 #[.pointer none, .int .i64 a] w fun e w' => e = .returned (.tuple #[.int .i64 0, .bool false]) ∧ w' = w := by
  go_enter Try.func41, Try.ntmps41
  go_wp2
  go_ret2
  exact ⟨rfl, rfl⟩
/-- What Drain does. -/
def drainV : List W16 → Value
  | [] => .tuple #[.int .i64 0, .int .i64 0, .bool false]
  | x :: _ => .tuple #[.int .i64 (x.a : Int), .int .i64 (x.v : Int), .bool true]
set_option maxHeartbeats 2000000 in
theorem Drain_st (h : St P0 w0 w (buf b most L :: F)) : Calls Try.prog 78 #[.pointer (some ⟨b, 0, none⟩)] w fun e w' => e = .returned (drainV L) ∧ St P0 w0 w' (buf b most L.tail :: F) := by
  have HL := Lib.hid (Len_q w h)
  obtain ⟨V, hm, h1⟩ := buf_open h
  obtain ⟨A, c, rfl, _, hc⟩ := cl_form h1
  have c1 : w.cell? ⟨b, 1, none⟩ = some (.slice A L.length c) := cell_of_block h1.bk_at 1
  have HB := Lib.hid h
  cases L with
  | nil =>
    clear h h1 hc
    go_enter Try.func78, Try.ntmps78
    go_wp2_with (go_at_call 39; refine HL.out.mono ?_; rintro e w' ⟨rfl, rfl⟩)
    go_ret3
    exact ⟨rfl, HB.out⟩
  | cons x L =>
    obtain ⟨ad, rfl, hc0⟩ := hc 0 (by simp)
    have HPt := Lib.hid (Parts_cw x)
    have hc0' : w.cell? ad = some (cw x) := hc0
    obtain ⟨t0, ht0, hz0, hz1, hz2⟩ := Clone.info_of info_complex
    have h2 : St P0 w0 w (cl (.slice (some ad) (x :: L).length c) (x :: L) :: hd b most (.slice (some ad) (x :: L).length c) :: F) := h1.get 1
    obtain ⟨A', hsl, h3⟩ : ∃ A', (∀ W : World, (Instr.slice 47 (.slice (some ad) (x :: L).length c) (some (.int .i64 1)) (some (.int .i64 ((x :: L).length : Int))) (some (.int .i64 ((x :: L).length : Int)))).run Try.prog W = .ok (.slice A' ((x :: L).length - 1) ((x :: L).length - 1)) W) ∧ St P0 w0 w (slc 48 1 (.slice A' ((x :: L).length - 1) ((x :: L).length - 1)) ((x :: L).length - 1) (((x :: L).map cw).tail) :: hd b most (.slice (some ad) (x :: L).length c) :: F) := by
      obtain ⟨hf, Q, R, hq, hr, hd, hA, hL⟩ := h2
      obtain ⟨A', q1, q2⟩ := slc_tail (P := Try.prog) Try.underlying47 ht0 hz1 hA (by simp)
      exact ⟨A', q1, hf, Q, R, hq, hr, hd, q2, hL⟩
    have h4 : St P0 w0 w (hd b most (.slice (some ad) (x :: L).length c) :: slc 48 1 (.slice A' ((x :: L).length - 1) ((x :: L).length - 1)) ((x :: L).length - 1) (((x :: L).map cw).tail) :: F) := h3.get 1
    have HS := Lib.hid h4
    have HM := Lib.hid hm
    have k2 : w.frozen? ⟨b, 1, none⟩ = false := free_of_block h4.bk_at 1
    have hlen1 : (((x :: L).length : Int) == 0) = false := beq_eq_false_iff_ne.2 (by simp; omega)
    have hpos : 0 < (x :: L).length := by simp
    have HN := Lib.hid (show (x :: L).length - 1 = L.length from by simp)
    clear h h1 h2 h3 h4 hc hc0 hm
    generalize cw x = cx at *
    have EX := Lib.hid (show drainV (x :: L) = .tuple #[.int .i64 (x.a : Int), .int .i64 (x.v : Int), .bool true] from rfl)
    generalize (x :: L).length = m at *
    go_enter Try.func78, Try.ntmps78
    go_wp2_with (go_at_call 39; refine HL.out.mono ?_; rintro e w' ⟨rfl, rfl⟩)
    go_region
    have HS2 := Lib.hid ((HS.out.set 1 (.slice A' (m - 1) (m - 1))).drew)
    clear HS
    generalize (w'.setCell ⟨b, 1, none⟩ (.slice A' (m - 1) (m - 1))).drew = w2 at *
    go_wp2_with (go_at_call 103; refine (HPt.out _).mono ?_; rintro e w3 ⟨rfl, rfl⟩)
    go_ret3
    refine ⟨by rw [EX.out]; rfl, buf_shut (V := .slice A' (m - 1) (m - 1)) (by have := HM.out; have := HN.out; simp; omega) ?_⟩
    have h5 := HS2.out
    rw [HN.out] at h5 ⊢
    simpa using h5
set_option maxHeartbeats 1000000 in
theorem Clear_st (h : St P0 w0 w (buf b most L :: F)) : Calls Try.prog 79 #[.pointer (some ⟨b, 0, none⟩)] w fun e w' => e = .returned (.int .i64 (L.length : Int)) ∧ St P0 w0 w' (buf b most [] :: F) := by
  have HL := Lib.hid (Len_q w h)
  obtain ⟨V, hm, h1⟩ := buf_open h
  obtain ⟨A, c, rfl, _, hc⟩ := cl_form h1
  have c1 : w.cell? ⟨b, 1, none⟩ = some (.slice A L.length c) := cell_of_block h1.bk_at 1
  have k2 : w.frozen? ⟨b, 1, none⟩ = false := free_of_block h1.bk_at 1
  have HB := Lib.hid h
  have HS := Lib.hid h1
  have HM := Lib.hid hm
  clear h h1 hc hm
  by_cases hp : 0 < L.length
  · go_enter Try.func79, Try.ntmps79
    go_wp2_with (go_at_call 39; refine HL.out.mono ?_; rintro e w' ⟨rfl, rfl⟩)
    go_ret
    have h5 := ((HS.out.set 1 (.slice none 0 0)).get 1).drop
    exact ⟨rfl, buf_shut (V := .slice none 0 0) ⟨HM.out.1, HM.out.2.1, Nat.zero_le _⟩ ((St.fresh (M := [cl (.slice none 0 0) []]) h5 (Up.refl _) ⟨No, No, fun _ e => e.elim, fun _ e => e.elim, fun _ e => e.elim, slc_nil _ _ _ _, trivial⟩).get 1)⟩
  · have hn : decide ((L.length : Int) > 0) = false := decide_eq_false (by omega)
    have hn2 : decide (0 < L.length) = false := decide_eq_false hp
    have hl := List.eq_nil_of_length_eq_zero (show L.length = 0 by omega)
    have HLn := Lib.hid hl
    clear hl hp
    go_enter Try.func79, Try.ntmps79
    go_wp2_with (go_at_call 39; refine HL.out.mono ?_; rintro e w' ⟨rfl, rfl⟩)
    go_ret
    have h5 := HB.out
    rw [HLn.out] at h5
    exact ⟨rfl, h5⟩
theorem cl_rd {A : Option Addr} {c : Nat} (h : St P0 w0 w (hd b most (.slice A L.length c) :: cl (.slice A L.length c) L :: F)) : Rd w 1 A L.length (L.map cw) := by
  have h1 : St P0 w0 w (cl (.slice A L.length c) L :: hd b most (.slice A L.length c) :: F) := h.get 1
  obtain ⟨P, ⟨Q, Q2, _, _, _, h2, _⟩, _⟩ := St.step (L := [cl (.slice A L.length c) L]) h1
  exact slc_rd h2 (cw_one L)
theorem cl_nil {c : Nat} (h : St P0 w0 w (hd b most (.slice none L.length c) :: cl (.slice none L.length c) L :: F)) : c = 0 ∧ L = [] := by
  have h1 : St P0 w0 w (cl (.slice none L.length c) L :: hd b most (.slice none L.length c) :: F) := h.get 1
  obtain ⟨P, ⟨Q, Q2, _, _, _, h2, _⟩, _⟩ := St.step (L := [cl (.slice none L.length c) L]) h1
  rcases h2 with ⟨e, h0, _⟩ | ⟨g, o, c', cur, e, _⟩
  · injection e with _ _ e
    exact ⟨e, List.eq_nil_of_length_eq_zero h0⟩
  · cases e
set_option maxHeartbeats 1000000 in
theorem All_walk (h : St P0 w0 w (buf b most L :: F)) : Calls Try.prog 44 #[.pointer (some ⟨b, 0, none⟩)] w fun e w' => ∃ A c, e = .returned (.slice A L.length c) ∧ St P0 w0 w' (cl (.slice A L.length c) L :: buf b most L :: F) ∧ Up w w' := by
  obtain ⟨V, hm, h1⟩ := buf_open h
  obtain ⟨A, c, rfl, _, hc⟩ := cl_form h1
  have c1 : w.cell? ⟨b, 1, none⟩ = some (.slice A L.length c) := cell_of_block h1.bk_at 1
  have HB := Lib.hid h
  cases A with
  | none =>
    obtain ⟨rfl, rfl⟩ := cl_nil h1
    clear h h1 hc hm
    have HC := Lib.hid (Clone.Clone_complex_nil w)
    simp only [List.length_nil] at c1
    go_enter Try.func44, Try.ntmps44
    go_wp2_with (go_at_call 82; refine HC.out.mono ?_; rintro e w' ⟨rfl, rfl⟩)
    go_ret
    exact ⟨_, _, rfl, St.fresh (M := [cl (.slice none 0 0) []]) HB.out (Up.refl _) ⟨No, No, fun _ e => e.elim, fun _ e => e.elim, fun _ e => e.elim, slc_nil _ _ _ _, trivial⟩, Up.refl _⟩
  | some ad =>
    have HC := Lib.hid (Clone.Clone_complex (L.map cw) ad L.length c w (cl_rd h1) (by omega))
    clear h h1 hc hm
    go_enter Try.func44, Try.ntmps44
    go_wp2_with (go_at_call 82; refine HC.out.mono ?_; rintro e w2 ⟨A2, c2, rfl, ho, hu⟩; have HO := Lib.hid ho; have HU := Lib.hid hu; clear ho hu)
    go_ret
    exact ⟨_, _, rfl, St.fresh (M := [cl (.slice A2 L.length c2) L]) HB.out HU.out ⟨fun k => w.heap.size ≤ k, No, fun k hk => hk, fun _ e => e.elim, fun _ _ e => e.elim, slc_of_own HO.out (fun k hk => (HO.out.lt k hk).1), trivial⟩, HU.out⟩
theorem All_st (h : St P0 w0 w (buf b most L :: F)) : Calls Try.prog 44 #[.pointer (some ⟨b, 0, none⟩)] w fun e w' => ∃ A c, e = .returned (.slice A L.length c) ∧ St P0 w0 w' (cl (.slice A L.length c) L :: buf b most L :: F) :=
  (All_walk h).mono fun _ _ ⟨A, c, h1, h2, _⟩ => ⟨A, c, h1, h2⟩
theorem cs_of {A : Option Addr} {c : Nat} (h : St P0 w0 w (hd b most (.slice A L.length c) :: cl (.slice A L.length c) L :: F)) : Cs w.heap.size w (.slice A L.length c) L := by
  have h1 : St P0 w0 w (cl (.slice A L.length c) L :: hd b most (.slice A L.length c) :: F) := h.get 1
  obtain ⟨P, ⟨Q, Q2, _, _, _, h2, _⟩, _⟩ := St.step (L := [cl (.slice A L.length c) L]) h1
  rcases h2 with ⟨e, h0, h3⟩ | ⟨g, o, c', cur, e, h2, h3, h4, h5, h6, h7, h8⟩
  · obtain rfl : L = [] := by simpa using h3
    exact .inl ⟨e, rfl⟩
  · refine .inr ⟨g, o, c', e, heap_lt h6, fun j hj => ?_⟩
    rw [cell_of_block h6, h8 j (by simpa using hj)]
    simp [List.getD_eq_getElem?_getD, hj]
set_option maxHeartbeats 1000000 in
theorem Find_st (h : St P0 w0 w (buf b most L :: F)) (a : Int) : Calls Try.prog 41 #[.pointer (some ⟨b, 0, none⟩), .int .i64 a] w fun e w' => e = .returned (findV L a) ∧ St P0 w0 w' (buf b most L :: F) := by
  obtain ⟨V, hm, h1⟩ := buf_open h
  obtain ⟨A, c, rfl, _, hc⟩ := cl_form h1
  have c1 : w.cell? ⟨b, 1, none⟩ = some (.slice A L.length c) := cell_of_block h1.bk_at 1
  have HF := Lib.hid (Find_walk A c L a (by omega) w (cs_of h1))
  have HB := Lib.hid h
  have H2 : ∃ x y, findV L a = .tuple #[x, y] := by
    unfold findV
    split <;> exact ⟨_, _, rfl⟩
  obtain ⟨x, y, h2⟩ := H2
  rw [h2] at HF
  have E := Lib.hid h2
  clear h h1 hc hm h2
  go_enter Try.func41, Try.ntmps41
  go_wp2_with (go_at_call 80; refine HF.out.mono ?_; rintro e w2 ⟨rfl, hu⟩; have HU := Lib.hid hu; clear hu)
  go_ret2
  exact ⟨by rw [E.out]; rfl, HB.out.more HU.out⟩
set_option maxHeartbeats 1000000 in
theorem Clone_st (h : St P0 w0 w (buf b most L :: F)) : Calls Try.prog 49 #[.pointer (some ⟨b, 0, none⟩)] w fun e w' => ∃ b', e = .returned (.pointer (some ⟨b', 0, none⟩)) ∧ St P0 w0 w' (buf b' most L :: buf b most L :: F) := by
  obtain ⟨V, hm, h1⟩ := buf_open h
  have c0 : w.cell? ⟨b, 0, none⟩ = some (.int .i64 (most : Int)) := cell_of_block h1.bk_at 0
  have HB := Lib.hid h
  have HM := Lib.hid hm
  clear h h1 hm
  go_enter Try.func49, Try.ntmps49
  go_wp2_with fail
  have c0d : w.drew.cell? ⟨b, 0, none⟩ = some (.int .i64 (most : Int)) := c0
  go_region_with ((go_at_call 44; refine (All_walk HB.out.drew).mono ?_; rintro e w3 ⟨A3, c3, rfl, hs3, hu3⟩; have HS3 := Lib.hid hs3; have c03 := cell_below hu3 c0d; clear hs3 hu3))
  all_goals go_wp2
  all_goals go_ret
  all_goals
    have h5 := (HS3.out.alloc #[.int .i64 (most : Int), .slice A3 L.length c3] 142)
    exact ⟨_, rfl, buf_shut HM.out h5⟩
end
end Go.Proofs.Ytiofdkkjjeljmaa.Sbuf
