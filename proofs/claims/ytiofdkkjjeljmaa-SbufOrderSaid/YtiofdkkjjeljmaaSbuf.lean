/- Contracts of the package sbuf, over parts of memory. -/
import Derived.Test.YtiofdkkjjeljmaaFind
import Derived.Test.YtiofdkkjjeljmaaClone
import Derived.BigQuiet
import Derived.Deep.RegionHeld3
import Derived.Deep.RegionWith
import Derived.RegionTactic
import Derived.ChangeAlike
namespace Go.Proofs.Ytiofdkkjjeljmaa.Sbuf
set_option linter.unusedVariables false
set_option linter.unusedSimpArgs false
open Go.RowKit Go.Proofs.Ytiofdkkjjeljmaa.CellOf Go.Proofs.Ytiofdkkjjeljmaa.CellP Go.Proofs.Ytiofdkkjjeljmaa.Sep Go.Proofs.Ytiofdkkjjeljmaa.Find

/-- A buffer's header. -/
abbrev hd (b most : Nat) (V : Value) : Rg := bk b 142 #[.int .i64 (most : Int), V]
/-- A slice of cells. -/
abbrev cl (V : Value) (L : List W16) : Rg := slc 48 1 V L.length (L.map cw)
/-- A buffer: its room, and the stores that wait. -/
def buf (b most : Nat) (L : List W16) : Rg := ex fun V => big [hd b most V, cl V L, pu (1 ≤ most ∧ most ≤ 16 ∧ L.length ≤ most)]
theorem cw_one (L : List W16) : ∀ u ∈ L.map cw, u.oneCell' = true := by
  intro u hu
  obtain ⟨x, _, rfl⟩ := List.mem_map.1 hu
  rfl
section
variable {P0 : Nat → Prop} {w0 w w' : World} {F : List Rg} {b most : Nat} {L : List W16}
theorem buf_open (h : St P0 w0 w (buf b most L :: F)) : ∃ V, (1 ≤ most ∧ most ≤ 16 ∧ L.length ≤ most) ∧ St P0 w0 w (hd b most V :: cl V L :: F) := by
  obtain ⟨V, h1⟩ := h.ex_open
  have h2 : St P0 w0 w (pu (1 ≤ most ∧ most ≤ 16 ∧ L.length ≤ most) :: hd b most V :: cl V L :: F) := (h1.big_open).get 2
  exact ⟨V, h2.pu_open⟩
theorem buf_shut {V : Value} (hm : 1 ≤ most ∧ most ≤ 16 ∧ L.length ≤ most) (h : St P0 w0 w (hd b most V :: cl V L :: F)) : St P0 w0 w (buf b most L :: F) := by
  have h1 : St P0 w0 w (hd b most V :: cl V L :: pu (1 ≤ most ∧ most ≤ 16 ∧ L.length ≤ most) :: F) := (St.pu_shut hm h).put 2
  exact St.ex_shut V (St.big_shut (M := [hd b most V, cl V L, pu _]) h1)
theorem buf_le (h : St P0 w0 w (buf b most L :: F)) : 1 ≤ most ∧ most ≤ 16 ∧ L.length ≤ most := by
  obtain ⟨V, hm, _⟩ := buf_open h
  exact hm
/-- The form of the cells' slice. -/
theorem cl_form {V : Value} (h : St P0 w0 w (hd b most V :: cl V L :: F)) : ∃ A c, V = .slice A L.length c ∧ (0 < L.length → ∃ g o, A = some ⟨g, o, none⟩) ∧ (∀ j, j < L.length → ∃ ad, A = some ad ∧ w.cell? (ad.add j) = some (cw (L.getD j default))) := by
  have h1 : St P0 w0 w (cl V L :: hd b most V :: F) := h.get 1
  obtain ⟨P, ⟨Q, Q2, _, _, _, h2, _⟩, _⟩ := St.step (L := [cl V L]) h1
  obtain ⟨A, c, rfl, _⟩ := slc_form h2
  refine ⟨A, c, rfl, fun hn => ?_, fun j hj => ?_⟩
  · obtain ⟨g, o, e, _⟩ := slc_cells h2 hn
    exact ⟨g, o, e⟩
  · obtain ⟨g, o, rfl, _, _, _, hc, _⟩ := slc_cells h2 (by omega)
    refine ⟨_, rfl, ?_⟩
    rw [Addr.add_mid]
    refine hc j _ ?_
    simp [List.getD_eq_getElem?_getD, hj]

theorem New_no (n : Int) (hn : n < 1 ∨ 16 < n) (w : World) : Calls Try.prog 36 #[.int .i64 n] w fun e w' => e = .returned (.pointer none) ∧ w' = w := by
  by_cases h1 : n < 1
  · go_enter Try.func36, Try.ntmps36
    go_wp2
    go_ret
    exact ⟨rfl, rfl⟩
  · have h0 : decide (n < 1) = false := decide_eq_false h1
    have h2 : n > 16 := by omega
    go_enter Try.func36, Try.ntmps36
    go_wp2
    go_ret
    exact ⟨rfl, rfl⟩
theorem New_st (h : St P0 w0 w F) (n : Nat) (h1 : 1 ≤ n) (h2 : n ≤ 16) : Calls Try.prog 36 #[.int .i64 n] w fun e w' => ∃ b, e = .returned (.pointer (some ⟨b, 0, none⟩)) ∧ St P0 w0 w' (buf b n [] :: F) := by
  have d1 : decide ((n : Int) < 1) = false := decide_eq_false (by omega)
  have d2 : decide ((n : Int) > 16) = false := decide_eq_false (by omega)
  have HS := Lib.hid h
  have HM := Lib.hid (show 1 ≤ n ∧ n ≤ 16 ∧ ([] : List W16).length ≤ n from ⟨h1, h2, Nat.zero_le _⟩)
  clear h h1 h2
  go_enter Try.func36, Try.ntmps36
  go_wp2
  go_ret
  refine ⟨_, rfl, buf_shut (V := .slice none 0 0) HM.out ?_⟩
  exact (St.fresh (M := [cl (.slice none 0 0) []]) (HS.out.alloc #[.int .i64 (n : Int), .slice none 0 0] 142) (Up.refl _) ⟨No, No, fun _ e => e.elim, fun _ e => e.elim, fun _ e => e.elim, slc_nil _ _ _ _, trivial⟩).get 1
theorem Cap_q (w : World) {P : Nat → Prop} (h : St P0 w0 w (buf b most L :: F)) : Calls Try.prog 40 #[.pointer (some ⟨b, 0, none⟩)] w fun e w' => e = .returned (.int .i64 (most : Int)) ∧ w' = w := by
  obtain ⟨V, hm, h1⟩ := buf_open h
  have c0 : w.cell? ⟨b, 0, none⟩ = some (.int .i64 (most : Int)) := cell_of_block h1.bk_at 0
  clear h h1 hm
  go_enter Try.func40, Try.ntmps40
  go_wp2
  go_ret
  exact ⟨rfl, rfl⟩
theorem Len_q (w : World) (h : St P0 w0 w (buf b most L :: F)) : Calls Try.prog 39 #[.pointer (some ⟨b, 0, none⟩)] w fun e w' => e = .returned (.int .i64 (L.length : Int)) ∧ w' = w := by
  obtain ⟨V, hm, h1⟩ := buf_open h
  obtain ⟨A, c, rfl, _⟩ := cl_form h1
  have c1 : w.cell? ⟨b, 1, none⟩ = some (.slice A L.length c) := cell_of_block h1.bk_at 1
  clear h h1 hm
  go_enter Try.func39, Try.ntmps39
  go_wp2
  go_ret
  exact ⟨rfl, rfl⟩
theorem Cap_st (h : St P0 w0 w (buf b most L :: F)) : Calls Try.prog 40 #[.pointer (some ⟨b, 0, none⟩)] w fun e w' => e = .returned (.int .i64 (most : Int)) ∧ St P0 w0 w' (buf b most L :: F) :=
  (Cap_q (P := No) w h).mono fun _ _ hh => ⟨hh.1, by rw [hh.2]; exact h⟩
theorem Len_st (h : St P0 w0 w (buf b most L :: F)) : Calls Try.prog 39 #[.pointer (some ⟨b, 0, none⟩)] w fun e w' => e = .returned (.int .i64 (L.length : Int)) ∧ St P0 w0 w' (buf b most L :: F) :=
  (Len_q w h).mono fun _ _ hh => ⟨hh.1, by rw [hh.2]; exact h⟩
/-- A store, if its address and word are words. -/
def mkW (a v : Int) : Option W16 := if h : (0 ≤ a ∧ a ≤ 65535) ∧ (0 ≤ v ∧ v ≤ 65535) then some ⟨a.toNat, v.toNat, by omega, by omega⟩ else none
theorem mkW_some {a v : Int} {x : W16} (h : mkW a v = some x) : a = (x.a : Int) ∧ v = (x.v : Int) := by
  unfold mkW at h
  split at h
  · cases h
    simp
    omega
  · cases h
theorem cellV_mkW (a v : Int) : cellV a v = match mkW a v with
    | some x => .tuple #[cw x, .bool true]
    | none => .tuple #[.complex .f64 0 0, .bool false] := by
  unfold cellV mkW
  by_cases h : (0 ≤ a ∧ a ≤ 65535) ∧ (0 ≤ v ∧ v ≤ 65535)
  · rw [dif_pos h, if_pos ⟨(inW_iff a).2 h.1, (inW_iff v).2 h.2⟩]
    simp only [cw]
    rw [show ((a.toNat : Nat) : Int) = a by omega, show ((v.toNat : Nat) : Int) = v by omega]
  · rw [dif_neg h, if_neg (fun e => h ⟨(inW_iff a).1 e.1, (inW_iff v).1 e.2⟩)]
/-- What Put does. -/
def putB (most : Nat) (L : List W16) (a v : Int) : List W16 × Int := match mkW a v with
  | some x => if most ≤ L.length then (L, 5) else (L ++ [x], 0)
  | none => (L, 2)
theorem info_complex : (Try.prog.info? 48).map (fun i => (i.zero, i.size, i.bytes)) = some (some (.complex .f64 0 0), 1, 16) := by kernel_rfl
theorem Put_nil (a v : Int) (w : World) : Calls Try.prog 77 #[.pointer none, .int .i64 a, .int .i64 v] w fun e w' => e = .returned (.int .i64 1) ∧ w' = w := by
  have HO := Lib.hid (fun w => Of_walk a v w)
  have hE := cellV_mkW a v
  have H2 : ∃ x y, cellV a v = .tuple #[x, y] := by
    rw [hE]
    split <;> exact ⟨_, _, rfl⟩
  obtain ⟨x, y, h2⟩ := H2
  rw [h2] at HO
  clear hE h2
  go_enter Try.func77, Try.ntmps77
  go_wp2_with (go_at_call 61; refine (HO.out _).mono ?_; rintro e w' ⟨rfl, rfl⟩)
  go_ret
  exact ⟨rfl, rfl⟩
set_option maxHeartbeats 2000000 in
theorem Put_st (h : St P0 w0 w (buf b most L :: F)) (a v : Int) : Calls Try.prog 77 #[.pointer (some ⟨b, 0, none⟩), .int .i64 a, .int .i64 v] w fun e w' => e = .returned (.int .i64 (putB most L a v).2) ∧ St P0 w0 w' (buf b most (putB most L a v).1 :: F) := by
  have HO := Lib.hid (fun w => Of_walk a v w)
  obtain ⟨V, hm, h1⟩ := buf_open h
  obtain ⟨A, c, rfl, _⟩ := cl_form h1
  have hE := cellV_mkW a v
  have c0 : w.cell? ⟨b, 0, none⟩ = some (.int .i64 (most : Int)) := cell_of_block h1.bk_at 0
  have c1 : w.cell? ⟨b, 1, none⟩ = some (.slice A L.length c) := cell_of_block h1.bk_at 1
  have HB := Lib.hid h
  have HS := Lib.hid h1
  have HM := Lib.hid hm
  clear h h1
  cases hx : mkW a v with
  | none =>
    rw [hx] at hE
    rw [hE] at HO
    have E : putB most L a v = (L, 2) := by unfold putB; rw [hx]
    rw [E]
    clear hE hx E
    go_enter Try.func77, Try.ntmps77
    go_wp2_with (go_at_call 61; refine (HO.out _).mono ?_; rintro e w' ⟨rfl, rfl⟩)
    go_ret
    exact ⟨rfl, HB.out⟩
  | some x =>
    rw [hx] at hE
    replace hE : cellV a v = .tuple #[cw x, .bool true] := hE
    rw [hE] at HO
    by_cases hf : most ≤ L.length
    · have E : putB most L a v = (L, 5) := by unfold putB; rw [hx]; exact if_pos hf
      rw [E]
      have d1 : decide ((L.length : Int) ≥ (most : Int)) = true := decide_eq_true (by omega)
      have d2 : decide (most ≤ L.length) = true := decide_eq_true hf
      clear hE hx E hm
      go_enter Try.func77, Try.ntmps77
      go_wp2_with (go_at_call 61; refine (HO.out _).mono ?_; rintro e w' ⟨rfl, rfl⟩)
      go_quiet (fail)
      go_wp2
      go_ret
      exact ⟨rfl, HB.out.drewN _⟩
    · have E : putB most L a v = (L ++ [x], 0) := by unfold putB; rw [hx]; exact if_neg hf
      rw [E]
      have d1 : decide (most ≤ L.length) = false := decide_eq_false hf
      have HF := Lib.hid hf
      clear hE hx E hf hm
      obtain ⟨t0, ht0, hz0, hz1, hz2⟩ := Clone.info_of info_complex
      obtain ⟨p, q, hpq⟩ : ∃ p q, cw x = .complex .f64 p q := ⟨_, _, rfl⟩
      rw [hpq] at HO
      have HPQ := Lib.hid hpq
      clear hpq
      go_enter Try.func77, Try.ntmps77
      go_wp2_with (go_at_call 61; refine (HO.out _).mono ?_; rintro e w' ⟨rfl, rfl⟩)
      go_quiet (fail)
      have HS2 := Lib.hid (HS.out.drewN nq)
      clear HS HB
      have c1 : (w'.drewN nq).cell? ⟨b, 1, none⟩ = some (.slice A L.length c) := cell_of_block HS2.out.bk_at 1
      generalize w'.drewN nq = w1 at *
      have hs4 : St P0 w0 (w1.alloc (.cells #[.complex .f64 p q] 48)) (cl (.slice A L.length c) L :: bk w1.heap.size 48 #[.complex .f64 p q] :: hd b most (.slice A L.length c) :: F) := (HS2.out.alloc _ _).get 2
      have HS4 := Lib.hid hs4
      have HRd := Lib.hid (Rd.of_block (sz := 1) (m := 1) (((HS2.out.alloc #[.complex .f64 p q] 48)).bk_at) rfl (by simp [Value.oneCell']))
      clear hs4 HS2
      go_wp2_with (at_builtin; refine St.append 48 t0 (.complex .f64 0 0) 1 16 HS4.out rfl (.tmp 36) (.tmp 38) 47 rfl Try.underlying47 ht0 hz0 hz1 hz2 rfl (by decide) rfl (some ⟨w1.heap.size, 0, none⟩) 1 1 [.complex .f64 p q] rfl HRd.out (by have := HM.out; unfold maxLen; omega) (by have := HM.out; omega) ?_; intro A1 c1 w3 hst hsz; have hs5 : St P0 w0 w3 (hd b most (.slice A L.length c) :: slc 48 1 (.slice A1 (L.length + 1) c1) (L.length + 1) (L.map cw ++ [.complex .f64 p q]) :: F) := (hst.get 1).drop.get 1; have HS5 := Lib.hid hs5; have k1 : w3.cell? ⟨b, 1, none⟩ = some (.slice A L.length c) := cell_of_block HS5.out.bk_at 1; have k2 : w3.frozen? ⟨b, 1, none⟩ = false := free_of_block HS5.out.bk_at 1; clear hst hs5 hsz)
      go_ret
      refine ⟨rfl, buf_shut (V := .slice A1 (L.length + 1) c1) (by have := HM.out; have := HF.out; simp; omega) ?_⟩
      have h6 := HS5.out.set 1 (.slice A1 (L.length + 1) c1)
      rw [← HPQ.out] at h6
      have e1 : L.map cw ++ [cw x] = (L ++ [x]).map cw := by simp
      have e2 : (L ++ [x]).length = L.length + 1 := by simp
      unfold cl
      rw [e2, ← e1]
      exact h6
end
end Go.Proofs.Ytiofdkkjjeljmaa.Sbuf
