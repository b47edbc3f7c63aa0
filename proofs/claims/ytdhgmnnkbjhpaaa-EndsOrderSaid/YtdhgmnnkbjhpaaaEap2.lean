/- The endpoints with their messages: Has, Waits, Full, wrong, Open, Close. -/
import Derived.Test.YtdhgmnnkbjhpaaaEap1
namespace Go.Proofs.Ytdhgmnnkbjhpaaa.Eps
set_option linter.unusedVariables false
set_option linter.unusedSimpArgs false
open Go.RowKit Go.Proofs.Ytdhgmnnkbjhpaaa.Sep Go.Proofs.Ytdhgmnnkbjhpaaa.Mp
open Go.Maps (Keyed)
/-- How many wait there. -/
def cntE (E : List EP) (a : Int) : Nat := match findE E a with | none => 0 | some x => x.ms.length
section
variable {P0 : Nat → Prop} {w0 w w' : World} {F : List Rg} {e : Nat} {E : List EP}
theorem has_ent (E : List EP) (a : Int) : (lookM (E.map ent) (kA a)).isSome = (findE E a).isSome := by rw [look_ent, Option.isSome_map]
theorem Has_q (h : St P0 w0 w (eps e E :: F)) (a : Int) (wa : (Lit.int .i64 a).wf = true) : Calls Try.prog 18 #[.pointer (some ⟨e, 0, none⟩), .int .i64 a] w fun x w' =>
    x = .returned (.bool (findE E a).isSome) ∧ Up w w' := by
  rw [← has_ent]
  exact Has_st (eps_any h).2 a wa
theorem wrong_q (h : St P0 w0 w (eps e E :: F)) (a : Int) (wa : (Lit.int .i64 a).wf = true) : Calls Try.prog 55 #[.pointer (some ⟨e, 0, none⟩), .int .i64 a] w fun x w' =>
    x = .returned (.int .i64 (if (findE E a).isSome = true then 0 else 4)) ∧ Up w w' := by
  rw [← has_ent]
  exact wrong_st (eps_any h).2 a wa
theorem row_at (h : St P0 w0 w (eps e E :: F)) (a : Int) : ∃ A c, ((findE E a).map (·.v)).getD nilV = .slice A (cntE E a) c ∧ cntE E a ≤ c ∧ cntE E a ≤ 4 := by
  obtain ⟨ho, h1⟩ := eps_any h
  unfold cntE
  cases hf : findE E a with
  | none => exact ⟨none, 0, rfl, Nat.le_refl _, Nat.zero_le _⟩
  | some x =>
    obtain ⟨_, hm, hp⟩ := find_perm ho.nodup hf
    obtain ⟨A, c, hv, hc, _⟩ := row_form (area_out (area_perm hp (h1.get 1)))
    exact ⟨A, c, hv, hc, ho.few x hm⟩
set_option maxHeartbeats 4000000 in
set_option maxRecDepth 100000 in
theorem Waits_q (h : St P0 w0 w (eps e E :: F)) (a : Int) (wa : (Lit.int .i64 a).wf = true) : Calls Try.prog 16 #[.pointer (some ⟨e, 0, none⟩), .int .i64 a] w fun x w' =>
    x = .returned (.int .i64 (cntE E a : Int)) ∧ Up w w' := by
  obtain ⟨A, c, hv, -, -⟩ := row_at h a
  obtain ⟨ho, h0⟩ := eps_any h
  obtain ⟨m, h1⟩ := ends_any h0
  have hl := mp_get (h1.get 1) klawI Try.underlying83 (zrow w) (kofI wa)
  rw [look_ent, hv] at hl
  have c0 : w.cell? ⟨e, 0, none⟩ = some (.map (some m)) := cell_of_block h1.bk_at 0
  generalize cntE E a = n at *
  clear h h0 h1 wa ho hv
  go_enter Try.func16, Try.ntmps16
  go_wp2
  go_ret
  exact ⟨rfl, Up.refl w⟩
set_option maxRecDepth 100000 in
theorem Full_q (h : St P0 w0 w (eps e E :: F)) (a : Int) (wa : (Lit.int .i64 a).wf = true) : Calls Try.prog 35 #[.pointer (some ⟨e, 0, none⟩), .int .i64 a] w fun x w' =>
    x = .returned (.bool (decide (4 ≤ cntE E a))) ∧ Up w w' := by
  have HW := Lib.hid (Waits_q h a wa)
  generalize cntE E a = n at *
  clear h wa
  go_enter Try.func35, Try.ntmps35
  go_wp2_with fail
  refine HW.out.mono ?_
  rintro x w1 ⟨rfl, hu⟩
  have HU := Lib.hid hu
  clear hu HW
  by_cases h4 : 4 ≤ n
  · have g1 : decide (4 ≤ n) = true := decide_eq_true h4
    go_wp2_with fail
    go_ret
    exact ⟨by rw [g1]; first | rfl | (simp [h4]; done) | (simp; omega), HU.out⟩
  · have g1 : decide (4 ≤ n) = false := decide_eq_false h4
    go_wp2_with fail
    go_ret
    exact ⟨by rw [g1]; first | rfl | (simp [h4]; done) | (simp; omega), HU.out⟩
/-! ### Open -/
theorem sub_len : ∀ (l m : List Int), l.Nodup → (∀ x ∈ l, x ∈ m) → l.length ≤ m.length
  | [], m, _, _ => Nat.zero_le _
  | x :: l, m, h, hs => by
    have hx := hs x (.head _)
    obtain ⟨h1, h2⟩ := List.nodup_cons.1 h
    have h3 := sub_len l (m.erase x) h2 (fun y hy => (List.mem_erase_of_ne (show y ≠ x from fun e => h1 (by rw [← e]; exact hy))).2 (hs y (.tail _ hy)))
    rw [List.length_erase_of_mem hx] at h3
    have := List.length_pos_of_mem hx
    simp only [List.length_cons]
    omega
theorem least {P : Nat → Bool} : ∀ n, (∃ j, j < n ∧ P j = false) → ∃ j, j < n ∧ P j = false ∧ ∀ i < j, P i = true
  | 0, h => by obtain ⟨j, hj, _⟩ := h; omega
  | n + 1, h => by
    by_cases h2 : ∃ j, j < n ∧ P j = false
    · obtain ⟨j, hj, h3⟩ := least n h2
      exact ⟨j, by omega, h3⟩
    · obtain ⟨j, hj, h3⟩ := h
      have hall : ∀ i < n, P i = true := fun i hi => by
        cases hp : P i with
        | true => rfl
        | false => exact absurd ⟨i, hi, hp⟩ h2
      have : ¬ j < n := fun hjn => h2 ⟨j, hjn, h3⟩
      obtain rfl : j = n := by omega
      exact ⟨j, hj, h3, hall⟩
theorem free_is (ho : Oke E) (hl : E.length < 32) : ∃ j : Nat, j ≤ 100 ∧ (∀ i < j, (findE E (16 + (i : Int))).isSome = true) ∧ (findE E (16 + (j : Int))).isSome = false := by
  have h : ∃ j, j < 33 ∧ (fun i : Nat => (findE E (16 + (i : Int))).isSome) j = false := by
    refine Classical.byContradiction fun hn => ?_
    have hall : ∀ j : Nat, j < 33 → (findE E (16 + (j : Int))).isSome = true := fun j hj => by
      cases hp : (findE E (16 + (j : Int))).isSome with
      | true => rfl
      | false => exact absurd ⟨j, hj, hp⟩ hn
    have h33 := sub_len ((List.range 33).map fun j : Nat => 16 + (j : Int)) (E.map (·.k)) (by decide) (fun x hx => by
      obtain ⟨j, hj, rfl⟩ := List.mem_map.1 hx
      obtain ⟨y, hy⟩ := Option.isSome_iff_exists.1 (hall j (List.mem_range.1 hj))
      unfold findE at hy
      have hk0 := List.find?_some hy
      have hk := of_decide_eq_true hk0
      exact List.mem_map.2 ⟨y, List.mem_of_find?_eq_some hy, hk⟩)
    simp only [List.length_map, List.length_range] at h33
    omega
  obtain ⟨j, h1, h2, h3⟩ := least 33 h
  exact ⟨j, by omega, h3, h2⟩
theorem eps_new {a : Int} (hn : findE E a = none) (ho : Oke E) (hl : E.length < 32) (h : St P0 w0 w (ends e (putM (E.map ent) (kA a) nilV) :: big (E.map prt) :: F)) : St P0 w0 w (eps e (putE E ⟨a, nilV, []⟩) :: F) := by
  have hd := del_none hn
  have h1 : St P0 w0 w (big (E.map prt) :: ends e (putM (E.map ent) (kA a) nilV) :: F) := h.get 1
  have h2 : St P0 w0 w (prt ⟨a, nilV, []⟩ :: big (E.map prt) :: ends e (putM (E.map ent) (kA a) nilV) :: F) := row_nil h1
  have hp := put_perm E ⟨a, nilV, []⟩
  dsimp only at hp
  rw [hd] at hp
  have h3 := (area_perm hp.symm (area_in h2)).get 1
  rw [show putM (E.map ent) (kA a) nilV = (putE E ⟨a, nilV, []⟩).map ent from put_ent E ⟨a, nilV, []⟩] at h3
  exact eps_shut (oke_put ho _ (by dsimp only; rw [hd]; exact hl) (Nat.zero_le _)) h3
set_option maxHeartbeats 4000000 in
set_option maxRecDepth 100000 in
theorem open_at {M : List Ent} (h : St P0 w0 w (ends e M :: F)) (hl : M.length < 32) (a : Int) (ha : a ≠ 0) (h0 : 0 ≤ a) (h6 : a < 65536) (hn : (lookM M (kA a)).isSome = false) :
    Calls Try.prog 19 #[.pointer (some ⟨e, 0, none⟩), .int .i64 a] w fun x w' => x = .returned (.tuple #[.int .i64 a, .int .i64 0]) ∧ St P0 w0 w' (ends e (putM M (kA a) nilV) :: F) := by
  have HWA : Hid ((Lit.int .i64 a).wf = true) := Lib.hid (WalkArith.wf_i64 (by omega))
  have HS := Lib.hid h
  have HH := Lib.hid (Has_st h a HWA.out)
  rw [hn] at HH
  have HLN := Lib.hid (fun (wx : World) (m : Nat) (F : List Rg) (h : St P0 w0 wx (mp 3 m M :: F)) (ty : TypeId) => mp_len h Try.underlying83 ty)
  have hl2 : ¬ 32 ≤ M.length := by omega
  have HML : Hid (M.length < 32) := Lib.hid hl
  have ha2 : (a == 0) = false := beq_eq_false_iff_ne.2 ha
  have h61 : ¬ 65536 ≤ a := by omega
  have h01 : ¬ a < 0 := by omega
  clear h hn hl
  go_enter Try.func19, Try.ntmps19
  go_wp2_with fail
  refine HH.out.mono ?_
  rintro x w1 ⟨rfl, hu⟩
  obtain ⟨m2, h4⟩ := ends_any (HS.out.more hu)
  have c0 : w1.cell? ⟨e, 0, none⟩ = some (.map (some m2)) := cell_of_block h4.bk_at 0
  have hlen := fun ty => HLN.out w1 m2 _ (h4.get 1) ty
  generalize M.length = n at hlen hl2
  obtain ⟨wu, hu1, hu2, -⟩ := mp_store (v := nilV) (h4.get 1) klawI Try.underlying83 (by have := HML.out; unfold maxLen; omega) (kofI HWA.out)
  have HSU : Hid (St P0 w0 wu (ends e (putM M (kA a) nilV) :: F)) := Lib.hid (ends_shut (hu2.get 1))
  clear hu2 h4 hu HH HS
  go_wp2_with fail
  go_ret2
  exact ⟨rfl, HSU.out⟩
set_option maxHeartbeats 4000000 in
set_option maxRecDepth 100000 in
theorem open_no {M : List Ent} (h : St P0 w0 w (ends e M :: F)) (a : Int) (wa : (Lit.int .i64 a).wf = true) (hb : a < 0 ∨ 65536 ≤ a ∨ (lookM M (kA a)).isSome = true ∨ 32 ≤ M.length) :
    Calls Try.prog 19 #[.pointer (some ⟨e, 0, none⟩), .int .i64 a] w fun x w' => ∃ f, x = .returned (.tuple #[.int .i64 0, .int .i64 f]) ∧ Up w w' := by
  by_cases h0 : a < 0
  · clear h hb
    go_enter Try.func19, Try.ntmps19
    go_wp2
    go_ret2
    exact ⟨_, rfl, Up.refl w⟩
  by_cases h6 : 65536 ≤ a
  · clear h hb
    go_enter Try.func19, Try.ntmps19
    go_wp2
    go_ret2
    first | exact ⟨⟨_, rfl⟩, Up.refl w⟩ | exact ⟨_, rfl, Up.refl w⟩
  have hh := Has_st h a wa
  cases hs : (lookM M (kA a)).isSome with
  | true =>
    rw [hs] at hh
    have HH := Lib.hid hh
    clear h hb hh hs
    go_enter Try.func19, Try.ntmps19
    go_wp2_with fail
    refine HH.out.mono ?_
    rintro x w1 ⟨rfl, hu⟩
    have HU := Lib.hid hu
    clear hu
    go_wp2_with fail
    go_ret2
    exact ⟨_, rfl, HU.out⟩
  | false =>
    rw [hs] at hh hb
    have hl : 32 ≤ M.length := by
      rcases hb with h | h | h | h
      · exact absurd h h0
      · exact absurd h h6
      · cases h
      · exact h
    have HH := Lib.hid hh
    have HS := Lib.hid h
    have HLN := Lib.hid (fun (wx : World) (m : Nat) (F : List Rg) (h : St P0 w0 wx (mp 3 m M :: F)) (ty : TypeId) => mp_len h Try.underlying83 ty)
    clear h hb hh hs
    go_enter Try.func19, Try.ntmps19
    go_wp2_with fail
    refine HH.out.mono ?_
    rintro x w1 ⟨rfl, hu⟩
    have HU := Lib.hid hu
    obtain ⟨m2, h4⟩ := ends_any (HS.out.more hu)
    have c0 : w1.cell? ⟨e, 0, none⟩ = some (.map (some m2)) := cell_of_block h4.bk_at 0
    have hlen := fun ty => HLN.out w1 m2 _ (h4.get 1) ty
    generalize M.length = n at hlen hl
    clear h4 hu HH HS
    go_wp2_with fail
    go_ret2
    exact ⟨_, rfl, HU.out⟩
/-- Open, whatever the address: at most one endpoint comes, at the address that is told. -/
theorem Open_q (h : St P0 w0 w (eps e E :: F)) (a : Int) (wa : (Lit.int .i64 a).wf = true) :
    Calls Try.prog 19 #[.pointer (some ⟨e, 0, none⟩), .int .i64 a] w fun x w' => ∃ a' f E', x = .returned (.tuple #[.int .i64 a', .int .i64 f]) ∧ St P0 w0 w' (eps e E' :: F) ∧ ∀ b, b ≠ a' → findE E' b = findE E b := by
  obtain ⟨ho, h1⟩ := eps_any h
  by_cases hb : a < 0 ∨ 65536 ≤ a ∨ (lookM (E.map ent) (kA a)).isSome = true ∨ 32 ≤ (E.map ent).length
  · refine (open_no h1 a wa hb).mono ?_
    rintro x w' ⟨f, rfl, hu⟩
    exact ⟨0, f, E, rfl, h.more hu, fun _ _ => rfl⟩
  · have hn : (findE E a).isSome = false := by
      rw [← has_ent]
      exact Bool.eq_false_iff.2 fun e => hb (.inr (.inr (.inl e)))
    have hl : (E.map ent).length < 32 := Nat.lt_of_not_le fun e => hb (.inr (.inr (.inr e)))
    have hl' : E.length < 32 := by rwa [List.length_map] at hl
    have h0 : 0 ≤ a := Int.not_lt.1 fun e => hb (.inl e)
    have h6 : a < 65536 := Int.not_le.1 fun e => hb (.inr (.inl e))
    by_cases ha : a = 0
    · subst ha
      obtain ⟨j, hj, hy, hz⟩ := free_is ho hl'
      refine (open_new h1 hl (by rw [has_ent]; exact hn) j hj (fun i hi => by rw [has_ent]; exact hy i hi) (by rw [has_ent]; exact hz)).mono ?_
      rintro x w' ⟨rfl, hs⟩
      have hz' : findE E (16 + (j : Int)) = none := Option.not_isSome_iff_eq_none.1 (by rw [hz]; decide)
      exact ⟨_, _, putE E ⟨16 + (j : Int), nilV, []⟩, rfl, eps_new hz' ho hl' hs, fun b hb => find_put E _ hb⟩
    · refine (open_at h1 hl a ha h0 h6 (by rw [has_ent]; exact hn)).mono ?_
      rintro x w' ⟨rfl, hs⟩
      have hz' : findE E a = none := Option.not_isSome_iff_eq_none.1 (by rw [hn]; decide)
      exact ⟨_, _, putE E ⟨a, nilV, []⟩, rfl, eps_new hz' ho hl' hs, fun b hb => find_put E _ hb⟩
/-! ### Close -/
set_option maxHeartbeats 4000000 in
set_option maxRecDepth 100000 in
theorem close_no {M : List Ent} (h : St P0 w0 w (ends e M :: F)) (a : Int) (wa : (Lit.int .i64 a).wf = true) (hs : (lookM M (kA a)).isSome = false) : Calls Try.prog 38 #[.pointer (some ⟨e, 0, none⟩), .int .i64 a] w fun x w' =>
    x = .returned (.int .i64 4) ∧ Up w w' := by
  have hh := wrong_st h a wa
  rw [hs, if_neg (by decide)] at hh
  have HH := Lib.hid hh
  clear h hh hs
  go_enter Try.func38, Try.ntmps38
  go_wp2_with fail
  refine HH.out.mono ?_
  rintro x w1 ⟨rfl, hu⟩
  have HU := Lib.hid hu
  clear hu
  go_wp2_with fail
  go_ret
  exact ⟨rfl, HU.out⟩
theorem Close_q (h : St P0 w0 w (eps e E :: F)) (a : Int) (wa : (Lit.int .i64 a).wf = true) :
    Calls Try.prog 38 #[.pointer (some ⟨e, 0, none⟩), .int .i64 a] w fun x w' => ∃ f E', x = .returned (.int .i64 f) ∧ St P0 w0 w' (eps e E' :: F) ∧ ∀ b, b ≠ a → findE E' b = findE E b := by
  obtain ⟨ho, h1⟩ := eps_any h
  cases hf : findE E a with
  | none =>
    refine (close_no h1 a wa (by rw [has_ent, hf]; rfl)).mono ?_
    rintro x w' ⟨rfl, hu⟩
    exact ⟨_, E, rfl, h.more hu, fun _ _ => rfl⟩
  | some y =>
    refine (close_yes h1 a wa (by rw [has_ent, hf]; rfl)).mono ?_
    rintro x w' ⟨rfl, hs⟩
    rw [del_ent] at hs
    obtain ⟨_, _, hp⟩ := find_perm ho.nodup hf
    exact ⟨_, delE E a, rfl, eps_shut (oke_del ho a) (((area_out (area_perm hp (hs.get 1))).drop).get 1), fun b hb => find_del E a b hb⟩
end
end Go.Proofs.Ytdhgmnnkbjhpaaa.Eps
