/- EMB: the texts Eap1, Eap2, Eap3, Eap4, Eap5, Eap6 in one (merge.py). -/
import Derived.Test.YtdhgmnnkbjhpaaaEMA
import Derived.Test.YtdhgmnnkbjhpaaaRow
import Derived.Test.YtdhgmnnkbjhpaaaGivenHead
import Derived.Test.YtdhgmnnkbjhpaaaGivenClone
import Derived.Laws.ResultCell
import Derived.Deep.RegionLaw
import Derived.Deep.Cut
/- The endpoints with their messages: the model, the part of memory; Has, Waits, Full, wrong. -/
namespace Go.Proofs.Ytdhgmnnkbjhpaaa.Eps
set_option linter.unusedVariables false
set_option linter.unusedSimpArgs false
open Go.RowKit Go.Proofs.Ytdhgmnnkbjhpaaa.Sep Go.Proofs.Ytdhgmnnkbjhpaaa.Mp
open Go.Maps (Keyed)

/-! ### 1. Plain -/
structure MS where
  a0 : Int
  a1 : Int
  a2 : Int
  b : List Int
structure EP where
  k : Int
  v : Value
  ms : List MS
abbrev ent (x : EP) : Ent := (kA x.k, x.v)
def findE (E : List EP) (a : Int) : Option EP := E.find? fun x => decide (x.k = a)
def delE (E : List EP) (a : Int) : List EP := E.filter fun x => !decide (x.k = a)
def insE (x : EP) : List EP → List EP
  | [] => [x]
  | y :: r => if x.k < y.k then x :: y :: r else y :: insE x r
def putE (E : List EP) (x : EP) : List EP := insE x (delE E x.k)
theorem same_I' (a b : Int) : (kA a).sameKey (kA b) = decide (a = b) := by
  show decide (IntKind.i64 = IntKind.i64 ∧ a = b) = _
  simp
theorem look_ent (E : List EP) (a : Int) : lookM (E.map ent) (kA a) = (findE E a).map (·.v) := by
  unfold lookM findE
  induction E with
  | nil => rfl
  | cons x E ih =>
    simp only [List.map_cons, List.find?_cons]
    rw [same_I']
    cases decide (x.k = a)
    · exact ih
    · rfl
theorem del_ent (E : List EP) (a : Int) : delM (E.map ent) (kA a) = (delE E a).map ent := by
  unfold delM delE
  rw [List.filter_map]
  congr 1
  apply List.filter_congr
  intro x _
  simp only [Function.comp]
  rw [same_I']
theorem ins_ent (x : EP) : ∀ E : List EP, insM (ent x) (E.map ent) = (insE x E).map ent
  | [] => rfl
  | y :: r => by
    simp only [List.map_cons, insM, insE]
    show (if decide (x.k < y.k) = true then _ else _) = _
    by_cases h : x.k < y.k
    · rw [if_pos h, if_pos (decide_eq_true h)]
      rfl
    · rw [if_neg h, if_neg (by simpa using h), ins_ent x r]
      rfl
theorem put_ent (E : List EP) (x : EP) : putM (E.map ent) (kA x.k) x.v = (putE E x).map ent := by
  unfold putM putE
  rw [del_ent]
  exact ins_ent x _
theorem insE_perm (x : EP) : ∀ E : List EP, (insE x E).Perm (x :: E)
  | [] => List.Perm.refl _
  | y :: r => by
    unfold insE
    split
    · exact List.Perm.refl _
    · exact ((insE_perm x r).cons y).trans (List.Perm.swap x y r)
/-- The addresses are apart. -/
structure Oke (E : List EP) : Prop where
  nodup : (E.map (·.k)).Nodup
  len : E.length ≤ 32
  few : ∀ x ∈ E, x.ms.length ≤ 4
theorem find_perm {E : List EP} (h : (E.map (·.k)).Nodup) {a : Int} {x : EP} (hf : findE E a = some x) : x.k = a ∧ x ∈ E ∧ E.Perm (x :: delE E a) := by
  have hk : x.k = a := by
    have := List.find?_some hf
    exact of_decide_eq_true this
  have hm := List.mem_of_find?_eq_some hf
  refine ⟨hk, hm, ?_⟩
  clear hf
  induction E with
  | nil => simp at hm
  | cons y r ih =>
    simp only [List.map_cons, List.nodup_cons] at h
    rcases List.mem_cons.1 hm with rfl | hm
    · have hd : delE (x :: r) a = r := by
        unfold delE
        rw [List.filter_cons_of_neg (by simp [hk]), List.filter_eq_self]
        intro z hz
        have : z.k ≠ a := fun e => h.1 (by rw [hk, ← e]; exact List.mem_map_of_mem hz)
        simpa using this
      rw [hd]
    · have hne : y.k ≠ a := fun e => h.1 (by rw [e, ← hk]; exact List.mem_map_of_mem hm)
      have hd : delE (y :: r) a = y :: delE r a := by
        unfold delE
        rw [List.filter_cons_of_pos (by simpa using hne)]
      rw [hd]
      exact ((ih h.2 hm).cons y).trans (List.Perm.swap x y _)
theorem del_none {E : List EP} {a : Int} (h : findE E a = none) : delE E a = E := by
  unfold findE at h
  rw [List.find?_eq_none] at h
  unfold delE
  rw [List.filter_eq_self]
  intro x hx
  have := h x hx
  simpa using this
theorem find_del (E : List EP) (a b : Int) (hab : b ≠ a) : findE (delE E a) b = findE E b := by
  unfold findE delE
  induction E with
  | nil => rfl
  | cons x r ih =>
    by_cases hx : x.k = a
    · rw [List.filter_cons_of_neg (by simp [hx]), ih, List.find?_cons, decide_eq_false (by omega : ¬ x.k = b)]
    · rw [List.filter_cons_of_pos (by simp [hx]), List.find?_cons, List.find?_cons, ih]
theorem find_ins (x : EP) : ∀ (E : List EP) (b : Int), b ≠ x.k → findE (insE x E) b = findE E b
  | [], b, h => by
    unfold insE findE
    rw [List.find?_cons, decide_eq_false (by omega : ¬ x.k = b)]
  | y :: r, b, h => by
    unfold insE
    split
    · unfold findE
      rw [List.find?_cons, decide_eq_false (by omega : ¬ x.k = b)]
    · have ih := find_ins x r b h
      unfold findE at ih ⊢
      rw [List.find?_cons, List.find?_cons, ih]
theorem find_put (E : List EP) (x : EP) {b : Int} (h : b ≠ x.k) : findE (putE E x) b = findE E b := by
  unfold putE
  rw [find_ins x _ b h, find_del E x.k b h]
theorem put_perm (E : List EP) (x : EP) : (putE E x).Perm (x :: delE E x.k) := insE_perm x _
theorem oke_del {E : List EP} (h : Oke E) (a : Int) : Oke (delE E a) :=
  ⟨(List.Sublist.map _ List.filter_sublist).nodup h.nodup, Nat.le_trans (List.length_filter_le _ _) h.len, fun x hx => h.few x (List.mem_filter.1 hx).1⟩
theorem oke_put {E : List EP} (h : Oke E) (x : EP) (hl : (delE E x.k).length < 32) (hm : x.ms.length ≤ 4) : Oke (putE E x) := by
  have hp := put_perm E x
  refine ⟨(hp.map (·.k)).nodup_iff.2 ?_, by rw [hp.length_eq, List.length_cons]; omega, fun y hy => ?_⟩
  · rw [List.map_cons, List.nodup_cons]
    refine ⟨fun hm => ?_, (oke_del h x.k).nodup⟩
    obtain ⟨y, hy, e⟩ := List.mem_map.1 hm
    have := (List.mem_filter.1 hy).2
    simp [e] at this
  · rcases List.mem_cons.1 (hp.mem_iff.1 hy) with rfl | hy
    · exact hm
    · exact h.few y (List.mem_filter.1 hy).1
/-! ### 2. The part -/
def mcf (x : MS) (b : Option Addr × Nat) : List Value := [.int .i64 x.a0, .int .i64 x.a1, .int .i64 x.a2, .slice b.1 x.b.length b.2]
def mpf (x : MS) (b : Option Addr × Nat) : Rg := slc 3 1 (.slice b.1 x.b.length b.2) x.b.length (x.b.map (Value.int .i64))
def prt (x : EP) : Rg := row 88 4 mcf mpf x.v x.ms
def eps (e : Nat) (E : List EP) : Rg := big [ends e (E.map ent), big (E.map prt), pu (Oke E)]
section
variable {P0 : Nat → Prop} {w0 w w' : World} {F : List Rg} {e : Nat} {E : List EP}
theorem eps_any (h : St P0 w0 w (eps e E :: F)) : Oke E ∧ St P0 w0 w (ends e (E.map ent) :: big (E.map prt) :: F) := by
  have h2 : St P0 w0 w (pu (Oke E) :: ends e (E.map ent) :: big (E.map prt) :: F) := (h.big_open).get 2
  exact h2.pu_open
theorem eps_shut (ho : Oke E) (h : St P0 w0 w (ends e (E.map ent) :: big (E.map prt) :: F)) : St P0 w0 w (eps e E :: F) := by
  have h1 : St P0 w0 w (_ :: _ :: pu (Oke E) :: F) := (St.pu_shut ho h).put 2
  exact St.big_shut (M := [_, _, pu _]) h1
theorem area_perm {E' : List EP} (hp : E.Perm E') (h : St P0 w0 w (big (E.map prt) :: F)) : St P0 w0 w (big (E'.map prt) :: F) :=
  St.big_shut (h.big_open.perm ((hp.map prt).append_right F))
theorem area_out {x : EP} (h : St P0 w0 w (big ((x :: E).map prt) :: F)) : St P0 w0 w (prt x :: big (E.map prt) :: F) := by
  have h1 : St P0 w0 w (prt x :: (E.map prt ++ F)) := h.big_open
  have h2 : St P0 w0 w (E.map prt ++ (prt x :: F)) := h1.perm List.perm_middle.symm
  exact (St.big_shut h2).get 1
theorem area_in {x : EP} (h : St P0 w0 w (prt x :: big (E.map prt) :: F)) : St P0 w0 w (big ((x :: E).map prt) :: F) := by
  have h1 : St P0 w0 w (big (E.map prt) :: prt x :: F) := h.get 1
  have h2 : St P0 w0 w (E.map prt ++ (prt x :: F)) := h1.big_open
  have h3 : St P0 w0 w (prt x :: (E.map prt ++ F)) := h2.perm List.perm_middle
  exact St.big_shut (M := prt x :: E.map prt) h3
end
end Go.Proofs.Ytdhgmnnkbjhpaaa.Eps

/- The endpoints with their messages: Has, Waits, Full, wrong, Open, Close. -/
namespace Go.Proofs.Ytdhgmnnkbjhpaaa.Eps
set_option linter.unusedVariables false
set_option linter.unusedSimpArgs false
open Go.RowKit Go.Proofs.Ytdhgmnnkbjhpaaa.Sep Go.Proofs.Ytdhgmnnkbjhpaaa.Mp
open Go.Maps (Keyed)
/-- How many wait there. -/
def cntE (E : List EP) (a : Int) : Nat := match findE E a with | none => 0 | some x => x.ms.length
section
variable {P0 : Nat → Prop} {w0 w w' : World} {F : List Rg} {e : Nat} {E : List EP}
theorem has_ent (E : List EP) (a : Int) : (lookM (E.map ent) (kA a)).isSome = (findE E a).isSome := by rw [look_ent, Option.isSome_map]
theorem Has_q (h : St P0 w0 w (eps e E :: F)) (a : Int) (wa : (Lit.int .i64 a).wf = true) : Calls Try.prog 18 #[.pointer (some ⟨e, 0, none⟩), .int .i64 a] w fun x w' =>
    x = .returned (.bool (findE E a).isSome) ∧ Up w w' := by
  rw [← has_ent]
  exact Has_st (eps_any h).2 a wa
theorem wrong_q (h : St P0 w0 w (eps e E :: F)) (a : Int) (wa : (Lit.int .i64 a).wf = true) : Calls Try.prog 55 #[.pointer (some ⟨e, 0, none⟩), .int .i64 a] w fun x w' =>
    x = .returned (.int .i64 (if (findE E a).isSome = true then 0 else 4)) ∧ Up w w' := by
  rw [← has_ent]
  exact wrong_st (eps_any h).2 a wa
theorem row_at (h : St P0 w0 w (eps e E :: F)) (a : Int) : ∃ A c, ((findE E a).map (·.v)).getD nilV = .slice A (cntE E a) c ∧ cntE E a ≤ c ∧ cntE E a ≤ 4 := by
  obtain ⟨ho, h1⟩ := eps_any h
  unfold cntE
  cases hf : findE E a with
  | none => exact ⟨none, 0, rfl, Nat.le_refl _, Nat.zero_le _⟩
  | some x =>
    obtain ⟨_, hm, hp⟩ := find_perm ho.nodup hf
    obtain ⟨A, c, hv, hc, _⟩ := row_form (area_out (area_perm hp (h1.get 1)))
    exact ⟨A, c, hv, hc, ho.few x hm⟩
set_option maxHeartbeats 4000000 in
set_option maxRecDepth 100000 in
theorem Waits_q (h : St P0 w0 w (eps e E :: F)) (a : Int) (wa : (Lit.int .i64 a).wf = true) : Calls Try.prog 16 #[.pointer (some ⟨e, 0, none⟩), .int .i64 a] w fun x w' =>
    x = .returned (.int .i64 (cntE E a : Int)) ∧ Up w w' := by
  obtain ⟨A, c, hv, -, -⟩ := row_at h a
  obtain ⟨ho, h0⟩ := eps_any h
  obtain ⟨m, h1⟩ := ends_any h0
  have hl := mp_get (h1.get 1) klawI Try.underlying83 (zrow w) (kofI wa)
  rw [look_ent, hv] at hl
  have c0 : w.cell? ⟨e, 0, none⟩ = some (.map (some m)) := cell_of_block h1.bk_at 0
  generalize cntE E a = n at *
  clear h h0 h1 wa ho hv
  go_enter Try.func16, Try.ntmps16
  go_wp2
  go_ret
  exact ⟨rfl, Up.refl w⟩
set_option maxRecDepth 100000 in
theorem Full_q (h : St P0 w0 w (eps e E :: F)) (a : Int) (wa : (Lit.int .i64 a).wf = true) : Calls Try.prog 35 #[.pointer (some ⟨e, 0, none⟩), .int .i64 a] w fun x w' =>
    x = .returned (.bool (decide (4 ≤ cntE E a))) ∧ Up w w' := by
  have HW := Lib.hid (Waits_q h a wa)
  generalize cntE E a = n at *
  clear h wa
  go_enter Try.func35, Try.ntmps35
  go_wp2_with fail
  refine HW.out.mono ?_
  rintro x w1 ⟨rfl, hu⟩
  have HU := Lib.hid hu
  clear hu HW
  by_cases h4 : 4 ≤ n
  · have g1 : decide (4 ≤ n) = true := decide_eq_true h4
    go_wp2_with fail
    go_ret
    exact ⟨by rw [g1]; first | rfl | (simp [h4]; done) | (simp; omega), HU.out⟩
  · have g1 : decide (4 ≤ n) = false := decide_eq_false h4
    go_wp2_with fail
    go_ret
    exact ⟨by rw [g1]; first | rfl | (simp [h4]; done) | (simp; omega), HU.out⟩
/-! ### Open -/
theorem sub_len : ∀ (l m : List Int), l.Nodup → (∀ x ∈ l, x ∈ m) → l.length ≤ m.length
  | [], m, _, _ => Nat.zero_le _
  | x :: l, m, h, hs => by
    have hx := hs x (.head _)
    obtain ⟨h1, h2⟩ := List.nodup_cons.1 h
    have h3 := sub_len l (m.erase x) h2 (fun y hy => (List.mem_erase_of_ne (show y ≠ x from fun e => h1 (by rw [← e]; exact hy))).2 (hs y (.tail _ hy)))
    rw [List.length_erase_of_mem hx] at h3
    have := List.length_pos_of_mem hx
    simp only [List.length_cons]
    omega
theorem least {P : Nat → Bool} : ∀ n, (∃ j, j < n ∧ P j = false) → ∃ j, j < n ∧ P j = false ∧ ∀ i < j, P i = true
  | 0, h => by obtain ⟨j, hj, _⟩ := h; omega
  | n + 1, h => by
    by_cases h2 : ∃ j, j < n ∧ P j = false
    · obtain ⟨j, hj, h3⟩ := least n h2
      exact ⟨j, by omega, h3⟩
    · obtain ⟨j, hj, h3⟩ := h
      have hall : ∀ i < n, P i = true := fun i hi => by
        cases hp : P i with
        | true => rfl
        | false => exact absurd ⟨i, hi, hp⟩ h2
      have : ¬ j < n := fun hjn => h2 ⟨j, hjn, h3⟩
      obtain rfl : j = n := by omega
      exact ⟨j, hj, h3, hall⟩
theorem free_is (ho : Oke E) (hl : E.length < 32) : ∃ j : Nat, j ≤ 100 ∧ (∀ i < j, (findE E (16 + (i : Int))).isSome = true) ∧ (findE E (16 + (j : Int))).isSome = false := by
  have h : ∃ j, j < 33 ∧ (fun i : Nat => (findE E (16 + (i : Int))).isSome) j = false := by
    refine Classical.byContradiction fun hn => ?_
    have hall : ∀ j : Nat, j < 33 → (findE E (16 + (j : Int))).isSome = true := fun j hj => by
      cases hp : (findE E (16 + (j : Int))).isSome with
      | true => rfl
      | false => exact absurd ⟨j, hj, hp⟩ hn
    have h33 := sub_len ((List.range 33).map fun j : Nat => 16 + (j : Int)) (E.map (·.k)) (by decide) (fun x hx => by
      obtain ⟨j, hj, rfl⟩ := List.mem_map.1 hx
      obtain ⟨y, hy⟩ := Option.isSome_iff_exists.1 (hall j (List.mem_range.1 hj))
      unfold findE at hy
      have hk0 := List.find?_some hy
      have hk := of_decide_eq_true hk0
      exact List.mem_map.2 ⟨y, List.mem_of_find?_eq_some hy, hk⟩)
    simp only [List.length_map, List.length_range] at h33
    omega
  obtain ⟨j, h1, h2, h3⟩ := least 33 h
  exact ⟨j, by omega, h3, h2⟩
theorem eps_new {a : Int} (hn : findE E a = none) (ho : Oke E) (hl : E.length < 32) (h : St P0 w0 w (ends e (putM (E.map ent) (kA a) nilV) :: big (E.map prt) :: F)) : St P0 w0 w (eps e (putE E ⟨a, nilV, []⟩) :: F) := by
  have hd := del_none hn
  have h1 : St P0 w0 w (big (E.map prt) :: ends e (putM (E.map ent) (kA a) nilV) :: F) := h.get 1
  have h2 : St P0 w0 w (prt ⟨a, nilV, []⟩ :: big (E.map prt) :: ends e (putM (E.map ent) (kA a) nilV) :: F) := row_nil h1
  have hp := put_perm E ⟨a, nilV, []⟩
  dsimp only at hp
  rw [hd] at hp
  have h3 := (area_perm hp.symm (area_in h2)).get 1
  rw [show putM (E.map ent) (kA a) nilV = (putE E ⟨a, nilV, []⟩).map ent from put_ent E ⟨a, nilV, []⟩] at h3
  exact eps_shut (oke_put ho _ (by dsimp only; rw [hd]; exact hl) (Nat.zero_le _)) h3
set_option maxHeartbeats 4000000 in
set_option maxRecDepth 100000 in
theorem open_at {M : List Ent} (h : St P0 w0 w (ends e M :: F)) (hl : M.length < 32) (a : Int) (ha : a ≠ 0) (h0 : 0 ≤ a) (h6 : a < 65536) (hn : (lookM M (kA a)).isSome = false) :
    Calls Try.prog 19 #[.pointer (some ⟨e, 0, none⟩), .int .i64 a] w fun x w' => x = .returned (.tuple #[.int .i64 a, .int .i64 0]) ∧ St P0 w0 w' (ends e (putM M (kA a) nilV) :: F) := by
  have HWA : Hid ((Lit.int .i64 a).wf = true) := Lib.hid (WalkArith.wf_i64 (by omega))
  have HS := Lib.hid h
  have HH := Lib.hid (Has_st h a HWA.out)
  rw [hn] at HH
  have HLN := Lib.hid (fun (wx : World) (m : Nat) (F : List Rg) (h : St P0 w0 wx (mp 3 m M :: F)) (ty : TypeId) => mp_len h Try.underlying83 ty)
  have hl2 : ¬ 32 ≤ M.length := by omega
  have HML : Hid (M.length < 32) := Lib.hid hl
  have ha2 : (a == 0) = false := beq_eq_false_iff_ne.2 ha
  have h61 : ¬ 65536 ≤ a := by omega
  have h01 : ¬ a < 0 := by omega
  clear h hn hl
  go_enter Try.func19, Try.ntmps19
  go_wp2_with fail
  refine HH.out.mono ?_
  rintro x w1 ⟨rfl, hu⟩
  obtain ⟨m2, h4⟩ := ends_any (HS.out.more hu)
  have c0 : w1.cell? ⟨e, 0, none⟩ = some (.map (some m2)) := cell_of_block h4.bk_at 0
  have hlen := fun ty => HLN.out w1 m2 _ (h4.get 1) ty
  generalize M.length = n at hlen hl2
  obtain ⟨wu, hu1, hu2, -⟩ := mp_store (v := nilV) (h4.get 1) klawI Try.underlying83 (by have := HML.out; unfold maxLen; omega) (kofI HWA.out)
  have HSU : Hid (St P0 w0 wu (ends e (putM M (kA a) nilV) :: F)) := Lib.hid (ends_shut (hu2.get 1))
  clear hu2 h4 hu HH HS
  go_wp2_with fail
  go_ret2
  exact ⟨rfl, HSU.out⟩
set_option maxHeartbeats 4000000 in
set_option maxRecDepth 100000 in
theorem open_no {M : List Ent} (h : St P0 w0 w (ends e M :: F)) (a : Int) (wa : (Lit.int .i64 a).wf = true) (hb : a < 0 ∨ 65536 ≤ a ∨ (lookM M (kA a)).isSome = true ∨ 32 ≤ M.length) :
    Calls Try.prog 19 #[.pointer (some ⟨e, 0, none⟩), .int .i64 a] w fun x w' => ∃ f, x = .returned (.tuple #[.int .i64 0, .int .i64 f]) ∧ Up w w' := by
  by_cases h0 : a < 0
  · clear h hb
    go_enter Try.func19, Try.ntmps19
    go_wp2
    go_ret2
    exact ⟨_, rfl, Up.refl w⟩
  by_cases h6 : 65536 ≤ a
  · clear h hb
    go_enter Try.func19, Try.ntmps19
    go_wp2
    go_ret2
    first | exact ⟨⟨_, rfl⟩, Up.refl w⟩ | exact ⟨_, rfl, Up.refl w⟩
  have hh := Has_st h a wa
  cases hs : (lookM M (kA a)).isSome with
  | true =>
    rw [hs] at hh
    have HH := Lib.hid hh
    clear h hb hh hs
    go_enter Try.func19, Try.ntmps19
    go_wp2_with fail
    refine HH.out.mono ?_
    rintro x w1 ⟨rfl, hu⟩
    have HU := Lib.hid hu
    clear hu
    go_wp2_with fail
    go_ret2
    exact ⟨_, rfl, HU.out⟩
  | false =>
    rw [hs] at hh hb
    have hl : 32 ≤ M.length := by
      rcases hb with h | h | h | h
      · exact absurd h h0
      · exact absurd h h6
      · cases h
      · exact h
    have HH := Lib.hid hh
    have HS := Lib.hid h
    have HLN := Lib.hid (fun (wx : World) (m : Nat) (F : List Rg) (h : St P0 w0 wx (mp 3 m M :: F)) (ty : TypeId) => mp_len h Try.underlying83 ty)
    clear h hb hh hs
    go_enter Try.func19, Try.ntmps19
    go_wp2_with fail
    refine HH.out.mono ?_
    rintro x w1 ⟨rfl, hu⟩
    have HU := Lib.hid hu
    obtain ⟨m2, h4⟩ := ends_any (HS.out.more hu)
    have c0 : w1.cell? ⟨e, 0, none⟩ = some (.map (some m2)) := cell_of_block h4.bk_at 0
    have hlen := fun ty => HLN.out w1 m2 _ (h4.get 1) ty
    generalize M.length = n at hlen hl
    clear h4 hu HH HS
    go_wp2_with fail
    go_ret2
    exact ⟨_, rfl, HU.out⟩
/-- Open, whatever the address: at most one endpoint comes, at the address that is told. -/
theorem Open_q (h : St P0 w0 w (eps e E :: F)) (a : Int) (wa : (Lit.int .i64 a).wf = true) :
    Calls Try.prog 19 #[.pointer (some ⟨e, 0, none⟩), .int .i64 a] w fun x w' => ∃ a' f E', x = .returned (.tuple #[.int .i64 a', .int .i64 f]) ∧ St P0 w0 w' (eps e E' :: F) ∧ ∀ b, b ≠ a' → findE E' b = findE E b := by
  obtain ⟨ho, h1⟩ := eps_any h
  by_cases hb : a < 0 ∨ 65536 ≤ a ∨ (lookM (E.map ent) (kA a)).isSome = true ∨ 32 ≤ (E.map ent).length
  · refine (open_no h1 a wa hb).mono ?_
    rintro x w' ⟨f, rfl, hu⟩
    exact ⟨0, f, E, rfl, h.more hu, fun _ _ => rfl⟩
  · have hn : (findE E a).isSome = false := by
      rw [← has_ent]
      exact Bool.eq_false_iff.2 fun e => hb (.inr (.inr (.inl e)))
    have hl : (E.map ent).length < 32 := Nat.lt_of_not_le fun e => hb (.inr (.inr (.inr e)))
    have hl' : E.length < 32 := by rwa [List.length_map] at hl
    have h0 : 0 ≤ a := Int.not_lt.1 fun e => hb (.inl e)
    have h6 : a < 65536 := Int.not_le.1 fun e => hb (.inr (.inl e))
    by_cases ha : a = 0
    · subst ha
      obtain ⟨j, hj, hy, hz⟩ := free_is ho hl'
      refine (open_new h1 hl (by rw [has_ent]; exact hn) j hj (fun i hi => by rw [has_ent]; exact hy i hi) (by rw [has_ent]; exact hz)).mono ?_
      rintro x w' ⟨rfl, hs⟩
      have hz' : findE E (16 + (j : Int)) = none := Option.not_isSome_iff_eq_none.1 (by rw [hz]; decide)
      exact ⟨_, _, putE E ⟨16 + (j : Int), nilV, []⟩, rfl, eps_new hz' ho hl' hs, fun b hb => find_put E _ hb⟩
    · refine (open_at h1 hl a ha h0 h6 (by rw [has_ent]; exact hn)).mono ?_
      rintro x w' ⟨rfl, hs⟩
      have hz' : findE E a = none := Option.not_isSome_iff_eq_none.1 (by rw [hn]; decide)
      exact ⟨_, _, putE E ⟨a, nilV, []⟩, rfl, eps_new hz' ho hl' hs, fun b hb => find_put E _ hb⟩
/-! ### Close -/
set_option maxHeartbeats 4000000 in
set_option maxRecDepth 100000 in
theorem close_no {M : List Ent} (h : St P0 w0 w (ends e M :: F)) (a : Int) (wa : (Lit.int .i64 a).wf = true) (hs : (lookM M (kA a)).isSome = false) : Calls Try.prog 38 #[.pointer (some ⟨e, 0, none⟩), .int .i64 a] w fun x w' =>
    x = .returned (.int .i64 4) ∧ Up w w' := by
  have hh := wrong_st h a wa
  rw [hs, if_neg (by decide)] at hh
  have HH := Lib.hid hh
  clear h hh hs
  go_enter Try.func38, Try.ntmps38
  go_wp2_with fail
  refine HH.out.mono ?_
  rintro x w1 ⟨rfl, hu⟩
  have HU := Lib.hid hu
  clear hu
  go_wp2_with fail
  go_ret
  exact ⟨rfl, HU.out⟩
theorem Close_q (h : St P0 w0 w (eps e E :: F)) (a : Int) (wa : (Lit.int .i64 a).wf = true) :
    Calls Try.prog 38 #[.pointer (some ⟨e, 0, none⟩), .int .i64 a] w fun x w' => ∃ f E', x = .returned (.int .i64 f) ∧ St P0 w0 w' (eps e E' :: F) ∧ ∀ b, b ≠ a → findE E' b = findE E b := by
  obtain ⟨ho, h1⟩ := eps_any h
  cases hf : findE E a with
  | none =>
    refine (close_no h1 a wa (by rw [has_ent, hf]; rfl)).mono ?_
    rintro x w' ⟨rfl, hu⟩
    exact ⟨_, E, rfl, h.more hu, fun _ _ => rfl⟩
  | some y =>
    refine (close_yes h1 a wa (by rw [has_ent, hf]; rfl)).mono ?_
    rintro x w' ⟨rfl, hs⟩
    rw [del_ent] at hs
    obtain ⟨_, _, hp⟩ := find_perm ho.nodup hf
    exact ⟨_, delE E a, rfl, eps_shut (oke_del ho a) (((area_out (area_perm hp (hs.get 1))).drop).get 1), fun b hb => find_del E a b hb⟩
end
end Go.Proofs.Ytdhgmnnkbjhpaaa.Eps

/- own, Right: of a message whose words are read. -/
namespace Go.Proofs.Ytdhgmnnkbjhpaaa.Eps
set_option linter.unusedVariables false
set_option linter.unusedSimpArgs false
open Go.RowKit Go.Proofs.Ytdhgmnnkbjhpaaa.Sep Go.Proofs.Ytdhgmnnkbjhpaaa.Mp Go.Proofs.Ytdhgmnnkbjhpaaa.Given Go.Proofs.YtdhgmnnkbjhpaaaW.PrintWords
open Go.Maps (Keyed)
theorem results_c {fn : Func} {p : Tmp} {ty : TypeId} (h : fn.results = #[.cell p ty]) (tmps : Array Value) (P : Program) (w : World) :
    (results fn tmps).run P w = ((asAddr (tmps.getD p undef)).run P w).andThen fun a w₁ => (loadVar ty a).run P w₁ := by
  simp only [results, h]
  simp [Sem.run_bind, Result.andThen]
theorem ints_of_R {w w' : World} {A : Option Addr} {n c : Nat} {l : List Int} (h : Kd.R (Kd.int .i64) 3 w' w.heap.size (fun _ => True) (.slice A n c) l) : n = l.length ∧ (slc 3 1 (.slice A l.length c) l.length (l.map (Value.int .i64))).X w' (fun k => w.heap.size ≤ k) := by
  obtain ⟨hn, _, hC⟩ := Kd.R_reads' h
  subst hn
  refine ⟨rfl, ?_⟩
  obtain ⟨inner, ho⟩ := Kd.R_own h
  have h0 := ho.2
  have hX : (slc 3 1 (.slice A l.length c) l.length inner).X w' (fun k => w.heap.size ≤ k) := by
    refine slc_of_own ho fun k hk => ?_
    rcases h0 with ⟨e, _⟩ | ⟨g, cap, cur, e, hg, _⟩
    · rw [e] at hk
      cases hk
    · rw [e] at hk
      cases hk
      exact hg
  have hin : inner = l.map (Value.int .i64) := by
    have hl := (slc_one hX).1
    refine List.ext_getElem? fun j => ?_
    by_cases hj : j < l.length
    · obtain ⟨g, o, hA, _, _, _, hc, _⟩ := slc_cells hX (by omega)
      obtain ⟨ad, hA2, hc2⟩ := hC.2.2 (by omega)
      rw [hA] at hA2
      cases hA2
      obtain ⟨cs, e1, e2, e3⟩ := hc2 j l[j] (List.getElem?_eq_getElem hj)
      have e4 : cs = [.int .i64 l[j]] := e2
      have e5 := e3 0 (.int .i64 l[j]) (by rw [e4]; rfl)
      obtain ⟨u1, hu1⟩ : ∃ u, inner[j]? = some u := ⟨_, List.getElem?_eq_getElem (by omega)⟩
      have e6 := hc j u1 hu1
      have e7 : w'.cell? ((⟨g, o, none⟩ : Addr).add (j * 1 + 0)) = some (.int .i64 l[j]) := e5
      rw [Nat.mul_one, Nat.add_zero, Addr.add_mid, e6] at e7
      rw [hu1, e7, List.getElem?_map, List.getElem?_eq_getElem hj]
      rfl
    · rw [List.getElem?_eq_none (by omega), List.getElem?_eq_none (by rw [List.length_map]; omega)]
  rw [← hin]
  exact hX
theorem clone_u {A : Option Addr} {c : Nat} {l : List Int} {w : World} (hr : Kd.C (Kd.int .i64) w A l.length l) (hc : l.length ≤ c) (hb : l.length ≤ 1000) : Calls Try.prog 71 #[.slice A l.length c] w fun x w' =>
    ∃ A' c', x = .returned (.slice A' l.length c') ∧ (slc 3 1 (.slice A' l.length c') l.length (l.map (Value.int .i64))).X w' (fun k => w.heap.size ≤ k) ∧ Up w w' := by
  refine (slices_Clone_int_int.calls A c l l w hr hc (by unfold slices_Clone_int_int.f; rw [if_pos (by omega)])).mono ?_
  rintro x w' ⟨v, rfl, hR, hu⟩
  obtain ⟨A', c', rfl, _⟩ := Kd.R_reads hR
  exact ⟨A', c', rfl, (ints_of_R hR).2, hu⟩
set_option maxHeartbeats 4000000 in
set_option maxRecDepth 100000 in
theorem Right_u (b0 b1 b2 : Int) {A : Option Addr} {c : Nat} {l : List Int} {w : World} (hr : Kd.C (Kd.int .i64) w A l.length l) (hc : l.length ≤ c) : Calls Try.prog 56 #[.agg #[.int .i64 b0, .int .i64 b1, .int .i64 b2, .slice A l.length c]] w fun x w' =>
    x = .returned (.bool (hwrong b0 b1 b2 l == 0)) ∧ Up w w' := by
  have hu := (Up.refl w).alloc (.cells #[.int .i64 b0, .int .i64 b1, .int .i64 b2, .slice A l.length c] 88)
  have HU := Lib.hid hu
  have HW := Lib.hid (head_wrong.calls b0 b1 b2 A c l _ _ (Kd.C_below hr hu) hc rfl)
  clear hu hr hc
  generalize hwrong b0 b1 b2 l = r at *
  go_enter Try.func56, Try.ntmps56
  go_wp2_with fail
  refine HW.out.mono ?_
  rintro x w1 ⟨rfl, hu⟩
  have HU2 := Lib.hid (HU.out.trans hu)
  clear hu HW HU
  go_wp2_with fail
  go_ret
  exact ⟨rfl, HU2.out⟩
set_option maxHeartbeats 4000000 in
set_option maxRecDepth 100000 in
theorem own_u (b0 b1 b2 : Int) {A : Option Addr} {c : Nat} {l : List Int} {w : World} (hr : Kd.C (Kd.int .i64) w A l.length l) (hc : l.length ≤ c) (hb : l.length ≤ 1000) : Calls Try.prog 57 #[.agg #[.int .i64 b0, .int .i64 b1, .int .i64 b2, .slice A l.length c]] w fun x w' =>
    ∃ A' c', x = .returned (.agg #[.int .i64 b0, .int .i64 b1, .int .i64 b2, .slice A' l.length c']) ∧ St No w w' [slc 3 1 (.slice A' l.length c') l.length (l.map (Value.int .i64))] := by
  have h0 := ((St.nil w).alloc #[.int .i64 b0, .int .i64 b1, .int .i64 b2, .slice A l.length c] 88).alloc #[.int .i64 0, .int .i64 0, .int .i64 0, .slice none 0 0] 88
  rw [World.size_alloc] at h0
  have HC := Lib.hid (clone_u (Kd.C_below hr h0.up) hc hb)
  have HS0 := Lib.hid h0
  obtain ⟨n, hn⟩ : ∃ n, l.length = n := ⟨_, rfl⟩
  rw [hn] at HC HS0 ⊢
  clear h0 hr hc hb
  go_enter Try.func57, Try.ntmps57
  go_wp2_with fail
  refine HC.out.mono ?_
  rintro x w1 ⟨A', c', rfl, hX, hu⟩
  have h1 := St.fresh (M := [slc 3 1 (.slice A' n c') n (l.map (Value.int .i64))]) HS0.out hu ⟨_, No, fun _ e => e, fun _ e => e.elim, fun _ _ e => e.elim, hX, trivial⟩
  have hq := (h1.get 1)
  have hp := (h1.get 2)
  have q0 : w1.cell? ⟨w.heap.size + 1, 0, none⟩ = some (.int .i64 0) := cell_of_block hq.bk_at 0
  have q1 : w1.cell? ⟨w.heap.size + 1, 1, none⟩ = some (.int .i64 0) := cell_of_block hq.bk_at 1
  have q2 : w1.cell? ⟨w.heap.size + 1, 2, none⟩ = some (.int .i64 0) := cell_of_block hq.bk_at 2
  have q3 : w1.cell? ⟨w.heap.size + 1, 3, none⟩ = some (.slice none 0 0) := cell_of_block hq.bk_at 3
  have f0 : w1.frozen? ⟨w.heap.size + 1, 0, none⟩ = false := free_of_block hq.bk_at 0
  have f1 : w1.frozen? ⟨w.heap.size + 1, 1, none⟩ = false := free_of_block hq.bk_at 1
  have f2 : w1.frozen? ⟨w.heap.size + 1, 2, none⟩ = false := free_of_block hq.bk_at 2
  have f3 : w1.frozen? ⟨w.heap.size + 1, 3, none⟩ = false := free_of_block hq.bk_at 3
  have p0 : w1.cell? ⟨w.heap.size, 0, none⟩ = some (.int .i64 b0) := cell_of_block hp.bk_at 0
  have p1 : w1.cell? ⟨w.heap.size, 1, none⟩ = some (.int .i64 b1) := cell_of_block hp.bk_at 1
  have p2 : w1.cell? ⟨w.heap.size, 2, none⟩ = some (.int .i64 b2) := cell_of_block hp.bk_at 2
  have p3 : w1.cell? ⟨w.heap.size, 3, none⟩ = some (.slice A n c) := cell_of_block hp.bk_at 3
  have g3 : w1.frozen? ⟨w.heap.size, 3, none⟩ = false := free_of_block hp.bk_at 3
  have HS1 := Lib.hid h1
  clear h1 hq hp hX hu HC HS0 hn
  go_wp2_with fail
  (try simp only [Exit.inBlock, Exit.then])
  refine bodyPost_ret (v := .agg #[.int .i64 b0, .int .i64 b1, .int .i64 b2, .slice A' n c']) ?_ rfl ?_
  · rw [results_c (fn := Try.f57) rfl]
    go_simp
  · have h2 := (((((HS1.out.get 2).set 3 (.slice A' n c')).get 2).set 0 (.int .i64 b0)).set 1 (.int .i64 b1)).set 2 (.int .i64 b2) |>.set 3 (.slice A' n c')
    exact ⟨A', c', rfl, ((h2.get 2).cut 1).cut 1⟩
end Go.Proofs.Ytdhgmnnkbjhpaaa.Eps

/- Deliver. -/
namespace Go.Proofs.Ytdhgmnnkbjhpaaa.Eps
set_option linter.unusedVariables false
set_option linter.unusedSimpArgs false
open Go.RowKit Go.Proofs.Ytdhgmnnkbjhpaaa.Sep Go.Proofs.Ytdhgmnnkbjhpaaa.Mp Go.Proofs.Ytdhgmnnkbjhpaaa.Given Go.Proofs.YtdhgmnnkbjhpaaaW.PrintWords
open Go.Maps (Keyed)
theorem info88 : (Try.prog.info? 88).map (fun i => (i.zero, i.size, i.bytes)) = some (some (.agg #[.int .i64 0, .int .i64 0, .int .i64 0, .slice none 0 0]), 4, 48) := by kernel_rfl
theorem info_of' {P : Program} {t : TypeId} {z : Value} {n b : Nat} (h : (P.info? t).map (fun i => (i.zero, i.size, i.bytes)) = some (some z, n, b)) : ∃ i, P.info? t = some i ∧ i.zero = some z ∧ i.size = n ∧ i.bytes = b := by
  cases hi : P.info? t with
  | none => rw [hi] at h; cases h
  | some i =>
    rw [hi] at h
    simp at h
    exact ⟨i, rfl, h.1, h.2.1, h.2.2⟩
section
variable {P0 : Nat → Prop} {w0 w w' : World} {F : List Rg} {e : Nat} {E : List EP}
theorem deliver_shut {y : EP} {bs : List (Option Addr × Nat)} {b0 b1 b2 : Int} {l : List Int} {nl n c' c4 m g gb : Nat} {A' A4 : Option Addr} {cs cs2 : Array Value} (ho : Oke E) (hp : E.Perm (y :: delE E b1)) (hk : y.k = b1) (hn : y.ms.length = n) (hbs : bs.length = n) (h4 : n < 4) (hnl : l.length = nl)
    (h : St P0 w0 w (mp 3 m (putM (E.map ent) (kA b1) (.slice A4 (n + 1) c4)) :: slc 88 4 (.slice A4 (n + 1) c4) (n + 1) (rcs mcf y.ms bs ++ [.int .i64 b0, .int .i64 b1, .int .i64 b2, .slice A' nl c']) :: bk g 88 cs :: slc 3 1 (.slice A' nl c') nl (l.map (Value.int .i64)) :: bk e 85 #[.map (some m)] :: big (rps mpf y.ms bs) :: big ((delE E b1).map prt) :: bk gb 88 cs2 :: F)) :
    St P0 w0 w (eps e (putE E ⟨b1, .slice A4 (n + 1) c4, y.ms ++ [⟨b0, b1, b2, l⟩]⟩) :: F) := by
  subst hn hnl
  have h1 : St P0 w0 w (mp 3 m _ :: slc 88 4 _ _ _ :: slc 3 1 _ _ _ :: bk e 85 _ :: big (rps mpf y.ms bs) :: big ((delE E b1).map prt) :: F) := (h.cut 2).cut 6
  have h2 : St P0 w0 w (slc 88 4 _ _ _ :: big (rps mpf y.ms bs) :: slc 3 1 _ _ _ :: mp 3 m _ :: bk e 85 _ :: big ((delE E b1).map prt) :: F) := ((h1.get 2).get 4).get 3
  have h3 := row_push (cf := mcf) (pf := mpf) (x := ⟨b0, b1, b2, l⟩) (b := (A', c')) hbs h2
  have h4' : St P0 w0 w (prt ⟨b1, .slice A4 (y.ms.length + 1) c4, y.ms ++ [⟨b0, b1, b2, l⟩]⟩ :: big ((delE E b1).map prt) :: mp 3 m _ :: bk e 85 _ :: F) := (h3.get 3).get 1
  have hq := put_perm E ⟨b1, .slice A4 (y.ms.length + 1) c4, y.ms ++ [⟨b0, b1, b2, l⟩]⟩
  have h5 := area_perm hq.symm (area_in h4')
  have h6 : St P0 w0 w (bk e 85 _ :: mp 3 m _ :: big _ :: F) := ((h5.get 2).get 2).get 1
  have h7 := ends_shut h6
  rw [show putM (E.map ent) (kA b1) (.slice A4 (y.ms.length + 1) c4) = (putE E ⟨b1, .slice A4 (y.ms.length + 1) c4, y.ms ++ [⟨b0, b1, b2, l⟩]⟩).map ent from put_ent E ⟨b1, .slice A4 (y.ms.length + 1) c4, y.ms ++ [⟨b0, b1, b2, l⟩]⟩] at h7
  refine eps_shut (oke_put ho _ ?_ ?_) h7
  · have := hp.length_eq
    have := ho.len
    simp only [List.length_cons] at *
    omega
  · simp
    omega
set_option maxHeartbeats 16000000 in
set_option maxRecDepth 100000 in
theorem Deliver_q (h : St P0 w0 w (eps e E :: F)) (b0 b1 b2 : Int) {A : Option Addr} {c : Nat} {l : List Int} (hr : Kd.C (Kd.int .i64) w A l.length l) (hc : l.length ≤ c) (hb : l.length ≤ 1000) (wa : (Lit.int .i64 b1).wf = true) :
    Calls Try.prog 39 #[.pointer (some ⟨e, 0, none⟩), .agg #[.int .i64 b0, .int .i64 b1, .int .i64 b2, .slice A l.length c]] w fun x w' =>
      ∃ f E', x = .returned (.int .i64 f) ∧ St P0 w0 w' (eps e E' :: F) ∧ ∀ b, b ≠ b1 → findE E' b = findE E b := by
  have hsa := h.alloc #[.int .i64 b0, .int .i64 b1, .int .i64 b2, .slice A l.length c] 88
  have HSA : Hid (St P0 w0 _ (eps e E :: bk w.heap.size 88 #[.int .i64 b0, .int .i64 b1, .int .i64 b2, .slice A l.length c] :: F)) := Lib.hid (hsa.get 1)
  have HU0 : Hid (Up w (w.alloc (.cells #[.int .i64 b0, .int .i64 b1, .int .i64 b2, .slice A l.length c] 88))) := Lib.hid ((Up.refl w).alloc _)
  have HRC := Lib.hid hr
  have HRI := Lib.hid (Right_u b0 b1 b2 (Kd.C_below hr HU0.out) hc)
  have HOW := Lib.hid (fun (wx : World) (hu : Up w wx) => own_u b0 b1 b2 (Kd.C_below hr hu) hc hb)
  obtain ⟨nl, hnl⟩ : ∃ n, l.length = n := ⟨_, rfl⟩
  have HNL := Lib.hid hnl
  rw [hnl] at HRI HSA HU0 HOW ⊢
  clear h hsa hr hc hb hnl
  by_cases hR : hwrong b0 b1 b2 l = 0
  case neg =>
    have hR' : (hwrong b0 b1 b2 l == 0) = false := beq_eq_false_iff_ne.2 hR
    rw [hR'] at HRI
    clear hR hR'
    go_enter Try.func39, Try.ntmps39
    go_wp2_with fail
    refine HRI.out.mono ?_
    rintro x w1 ⟨rfl, hu⟩
    have HS1 := Lib.hid ((HSA.out.cut 1).more hu)
    clear hu
    go_wp2_with fail
    go_ret
    exact ⟨_, E, rfl, HS1.out, fun _ _ => rfl⟩
  rw [hR] at HRI
  clear hR
  have HWR := Lib.hid (fun (wx : World) (F : List Rg) (h : St P0 w0 wx (eps e E :: F)) => wrong_q h b1 wa)
  have HFU := Lib.hid (fun (wx : World) (F : List Rg) (h : St P0 w0 wx (eps e E :: F)) => Full_q h b1 wa)
  have HK := Lib.hid (kofI wa)
  go_enter Try.func39, Try.ntmps39
  go_wp2_with fail
  refine HRI.out.mono ?_
  rintro x w1 ⟨rfl, hu⟩
  have h1 := HSA.out.more hu
  have HU1 := Lib.hid (HU0.out.trans hu)
  have k1 : w1.cell? ⟨w.heap.size, 1, none⟩ = some (.int .i64 b1) := cell_of_block (h1.get 1).bk_at 1
  have HS1 := Lib.hid h1
  clear h1 hu HRI HSA HU0
  go_wp2_with fail
  refine (HWR.out _ _ HS1.out).mono ?_
  rintro x w2 ⟨rfl, hu⟩
  have h2 := HS1.out.more hu
  have HU2 := Lib.hid (HU1.out.trans hu)
  have k2 : w2.cell? ⟨w.heap.size, 1, none⟩ = some (.int .i64 b1) := cell_of_block (h2.get 1).bk_at 1
  have HS2 := Lib.hid h2
  clear h2 hu HS1 HU1 k1 HWR
  cases hf : findE E b1 with
  | none =>
    simp only [Option.isSome_none, Bool.false_eq_true, if_false]
    clear hf
    go_wp2_with fail
    go_ret
    exact ⟨_, E, rfl, HS2.out.cut 1, fun _ _ => rfl⟩
  | some y =>
    simp only [Option.isSome_some, if_true]
    go_wp2_with fail
    refine (HFU.out _ _ HS2.out).mono ?_
    rintro x w3 ⟨rfl, hu⟩
    have h3 := HS2.out.more hu
    have HU3 := Lib.hid (HU2.out.trans hu)
    clear hu HS2 HU2 k2 HFU
    have hcn : cntE E b1 = y.ms.length := by unfold cntE; rw [hf]
    by_cases h4 : 4 ≤ cntE E b1
    · rw [decide_eq_true h4]
      have HS3 := Lib.hid (h3.cut 1)
      clear h3 hf hcn h4
      go_wp2_with fail
      go_ret
      exact ⟨_, E, rfl, HS3.out, fun _ _ => rfl⟩
    · rw [decide_eq_false h4]
      obtain ⟨ho, h5⟩ := eps_any h3
      obtain ⟨hyk, hym, hp⟩ := find_perm ho.nodup hf
      have h6 := area_out (area_perm hp (h5.get 1))
      obtain ⟨bs, hbs, h7⟩ := row_any h6
      obtain ⟨m, h8⟩ := ends_any (h7.get 3)
      obtain ⟨A1, c1, hv, hc1, hm1⟩ : ∃ A1 c1, y.v = .slice A1 y.ms.length c1 ∧ y.ms.length ≤ c1 ∧ c1 ≤ maxLen := row_form h6
      have hnv : cntE E b1 = y.ms.length := hcn
      have hlk : lookM (E.map ent) (kA b1) = some y.v := by rw [look_ent, hf]; rfl
      generalize hn4 : y.ms.length = n at *
      have hn : n < 4 := by omega
      rw [hv] at h8 hlk
      have h9 := h8.drewN 1
      have c0 : w3.drew.cell? ⟨e, 0, none⟩ = some (.map (some m)) := cell_of_block h8.drew.bk_at 0
      have hbx := (h8.get 5).drew
      have k0 : w3.drew.cell? ⟨w.heap.size, 0, none⟩ = some (.int .i64 b0) := cell_of_block hbx.bk_at 0
      have k1 : w3.drew.cell? ⟨w.heap.size, 1, none⟩ = some (.int .i64 b1) := cell_of_block hbx.bk_at 1
      have k2 : w3.drew.cell? ⟨w.heap.size, 2, none⟩ = some (.int .i64 b2) := cell_of_block hbx.bk_at 2
      have k3 : w3.drew.cell? ⟨w.heap.size, 3, none⟩ = some (.slice A nl c) := cell_of_block hbx.bk_at 3
      have HS := Lib.hid (h8.drew)
      have HLK := Lib.hid (fun (wx : World) (F : List Rg) (h : St P0 w0 wx (mp 3 m (E.map ent) :: F)) => mp_get h klawI Try.underlying83 (zrow wx) HK.out)
      rw [hlk] at HLK
      simp only [Option.getD_some] at HLK
      have hl1 := HLK.out _ _ (HS.out.get 1)
      have HUD := Lib.hid (HU3.out.drew)
      have HE : Hid (Oke E ∧ E.Perm (y :: delE E b1) ∧ y.k = b1 ∧ y.ms.length = n ∧ bs.length = n ∧ findE E b1 = some y) := Lib.hid ⟨ho, hp, hyk, hn4, hbs, hf⟩
      have HML : Hid ((E.map ent).length < maxLen) := Lib.hid (by rw [List.length_map]; have := ho.len; unfold maxLen; omega)
      obtain ⟨t0, ht0, hz0, hz1, hz2⟩ := info_of' info88
      clear h3 h5 h6 h7 h8 h9 hbx hlk hv ho hyk hym hp hnv hcn hf h4 hbs hn4 HU3
      go_wp2_with fail
      go_region_held3 (fun wx => wx.cell? ⟨e, 0, none⟩ = some (.map (some m)) ∧ wx.cell? ⟨w.heap.size, 0, none⟩ = some (.int .i64 b0) ∧ wx.cell? ⟨w.heap.size, 1, none⟩ = some (.int .i64 b1) ∧ wx.cell? ⟨w.heap.size, 2, none⟩ = some (.int .i64 b2) ∧ wx.cell? ⟨w.heap.size, 3, none⟩ = some (.slice A nl c)) (first | exact ⟨c0, k0, k1, k2, k3⟩ | exact ⟨d0, d2, d1, d3, d4⟩ | exact ⟨r0, r2, r1, r3, r4⟩ | exact ⟨z0, z1, z2, z3, z4⟩ | go_keep) (first
        | (refine St.step_append 88 t0 (.agg #[.int .i64 0, .int .i64 0, .int .i64 0, .slice none 0 0]) 4 48 HS2.out (by rfl) _ _ 91 (by rfl) Try.underlying91 ht0 hz0 hz1 hz2 (by rfl) (by decide) (by rfl) (some ⟨w4.heap.size, 0, none⟩) 1 1 [.int .i64 b0, .int .i64 b1, .int .i64 b2, .slice A' nl c'] (by rfl) HRD.out (by unfold maxLen; omega) (by omega) ?_; intro A4 c4 w5 hst hsz; obtain ⟨wu, hu1, hu2, -⟩ := mp_store (v := .slice A4 (n + 1) c4) (hst.get 4) klawI Try.underlying83 HML.out HK.out; have HS4 := Lib.hid hu2; have z0 : wu.cell? ⟨e, 0, none⟩ = some (.map (some m)) := cell_of_block (hu2.get 4).bk_at 0; have z1 : wu.cell? ⟨w.heap.size, 0, none⟩ = some (.int .i64 b0) := cell_of_block (hu2.get 7).bk_at 0; have z2 : wu.cell? ⟨w.heap.size, 1, none⟩ = some (.int .i64 b1) := cell_of_block (hu2.get 7).bk_at 1; have z3 : wu.cell? ⟨w.heap.size, 2, none⟩ = some (.int .i64 b2) := cell_of_block (hu2.get 7).bk_at 2; have z4 : wu.cell? ⟨w.heap.size, 3, none⟩ = some (.slice A nl c) := cell_of_block (hu2.get 7).bk_at 3; have r0 : w5.cell? ⟨e, 0, none⟩ = some (.map (some m)) := cell_of_block (hst.get 3).bk_at 0; have r2 : w5.cell? ⟨w.heap.size, 0, none⟩ = some (.int .i64 b0) := cell_of_block (hst.get 7).bk_at 0; have r3 : w5.cell? ⟨w.heap.size, 2, none⟩ = some (.int .i64 b2) := cell_of_block (hst.get 7).bk_at 2; have r4 : w5.cell? ⟨w.heap.size, 3, none⟩ = some (.slice A nl c) := cell_of_block (hst.get 7).bk_at 3; have r1 : w5.cell? ⟨w.heap.size, 1, none⟩ = some (.int .i64 b1) := cell_of_block (hst.get 7).bk_at 1; clear hst hsz hu2)
        | (go_at_call 57; refine (HOW.out _ HUD.out).mono ?_; rintro x w4 ⟨A', c', rfl, hs⟩; have h9 := (St.of_new HS.out hs).1; have d0 : w4.cell? ⟨e, 0, none⟩ = some (.map (some m)) := cell_of_block (h9.get 1).bk_at 0; have d1 : w4.cell? ⟨w.heap.size, 1, none⟩ = some (.int .i64 b1) := cell_of_block (h9.get 6).bk_at 1; have d2 : w4.cell? ⟨w.heap.size, 0, none⟩ = some (.int .i64 b0) := cell_of_block (h9.get 6).bk_at 0; have d3 : w4.cell? ⟨w.heap.size, 2, none⟩ = some (.int .i64 b2) := cell_of_block (h9.get 6).bk_at 2; have d4 : w4.cell? ⟨w.heap.size, 3, none⟩ = some (.slice A nl c) := cell_of_block (h9.get 6).bk_at 3; have n0 := World.new_ne w4 _ d0; have n1 := World.new_ne w4 _ d1; have l0 := World.block_lt_of_cell? w4 _ d0; have l1 := World.block_lt_of_cell? w4 _ d1; have hl4 := HLK.out _ _ (h9.get 2); have h10 := h9.alloc #[.int .i64 b0, .int .i64 b1, .int .i64 b2, .slice A' nl c'] 88; have hl5 := HLK.out _ _ (h10.get 3); have HS2 := Lib.hid (h10.get 4); have HRD := Lib.hid (Rd.of_block (sz := 4) (m := 1) h10.bk_at rfl (by simp [Value.oneCell'])); clear h9 h10 hs))
      all_goals
        have HEPS := Lib.hid (deliver_shut HE.out.1 HE.out.2.1 HE.out.2.2.1 HE.out.2.2.2.1 HE.out.2.2.2.2.1 hn HNL.out HS4.out)
        go_wp2_with fail
        go_ret
        exact ⟨_, _, rfl, HEPS.out, fun b hb => find_put E _ hb⟩
end
end Go.Proofs.Ytdhgmnnkbjhpaaa.Eps

/- Take. -/
namespace Go.Proofs.Ytdhgmnnkbjhpaaa.Eps
set_option linter.unusedVariables false
set_option linter.unusedSimpArgs false
open Go.RowKit Go.Proofs.Ytdhgmnnkbjhpaaa.Sep Go.Proofs.Ytdhgmnnkbjhpaaa.Mp Go.Proofs.Ytdhgmnnkbjhpaaa.Given Go.Proofs.YtdhgmnnkbjhpaaaW.PrintWords
open Go.Maps (Keyed)
section
variable {P0 : Nat → Prop} {w0 w w' : World} {F : List Rg} {e : Nat} {E : List EP}
theorem take_shut {y : EP} {b : Option Addr × Nat} {bs : List (Option Addr × Nat)} {q : MS} {ms : List MS} {V : Value} {b1 : Int} {m : Nat} (ho : Oke E) (hp : E.Perm (y :: delE E b1)) (hk : y.k = b1) (hq : y.ms = q :: ms) (hbs : bs.length = ms.length)
    (h : St P0 w0 w (mp 3 m (putM (E.map ent) (kA b1) V) :: slc 88 4 V ms.length (rcs mcf ms bs) :: bk e 85 #[.map (some m)] :: big (rps mpf (q :: ms) (b :: bs)) :: big ((delE E b1).map prt) :: F)) :
    St P0 w0 w (eps e (putE E ⟨b1, V, ms⟩) :: F) := by
  have h1 : St P0 w0 w (mpf q b :: (rps mpf ms bs ++ (slc 88 4 V ms.length (rcs mcf ms bs) :: mp 3 m _ :: bk e 85 _ :: big ((delE E b1).map prt) :: F))) := (((h.get 1).get 3)).big_open
  have h2 : St P0 w0 w (slc 88 4 V ms.length (rcs mcf ms bs) :: big (rps mpf ms bs) :: mp 3 m _ :: bk e 85 _ :: big ((delE E b1).map prt) :: F) := (St.big_shut h1.drop).get 1
  have h3 : St P0 w0 w (prt ⟨b1, V, ms⟩ :: mp 3 m _ :: bk e 85 _ :: big ((delE E b1).map prt) :: F) := row_shut hbs h2
  have h4' : St P0 w0 w (prt ⟨b1, V, ms⟩ :: big ((delE E b1).map prt) :: mp 3 m _ :: bk e 85 _ :: F) := (h3.get 3).get 1
  have hq' := put_perm E ⟨b1, V, ms⟩
  have h5 := area_perm hq'.symm (area_in h4')
  have h6 : St P0 w0 w (bk e 85 _ :: mp 3 m _ :: big _ :: F) := ((h5.get 2).get 2).get 1
  have h7 := ends_shut h6
  rw [show putM (E.map ent) (kA b1) V = (putE E ⟨b1, V, ms⟩).map ent from put_ent E ⟨b1, V, ms⟩] at h7
  refine eps_shut (oke_put ho _ ?_ ?_) h7
  · have := hp.length_eq
    have := ho.len
    simp only [List.length_cons] at *
    omega
  · have := ho.few y (hp.mem_iff.2 (.head _))
    rw [hq] at this
    simp only [List.length_cons] at this
    show ms.length ≤ 4
    omega
abbrev mval (a0 a1 a2 : Int) (A : Option Addr) (n c : Nat) : Value := .agg #[.int .i64 a0, .int .i64 a1, .int .i64 a2, .slice A n c]
set_option maxHeartbeats 16000000 in
set_option maxRecDepth 100000 in
theorem Take_q (h : St P0 w0 w (eps e E :: F)) (b1 : Int) (wa : (Lit.int .i64 b1).wf = true) :
    Calls Try.prog 40 #[.pointer (some ⟨e, 0, none⟩), .int .i64 b1] w fun x w' =>
      ∃ a0 a1 a2 A n c f E', x = .returned (.tuple #[mval a0 a1 a2 A n c, .int .i64 f]) ∧ St P0 w0 w' (eps e E' :: F) ∧ ∀ b, b ≠ b1 → findE E' b = findE E b := by
  have h0 : St P0 w0 _ (eps e E :: bk w.heap.size 88 #[.int .i64 0, .int .i64 0, .int .i64 0, .slice none 0 0] :: F) := (h.alloc #[.int .i64 0, .int .i64 0, .int .i64 0, .slice none 0 0] 88).get 1
  have HS0 := Lib.hid h0
  have HW := Lib.hid (wrong_q h0 b1 wa)
  have HK := Lib.hid (kofI wa)
  clear h h0
  cases hf : findE E b1 with
  | none =>
    rw [hf] at HW
    simp only [Option.isSome_none, Bool.false_eq_true, if_false] at HW
    go_enter Try.func40, Try.ntmps40
    go_wp2_with fail
    refine HW.out.mono ?_
    rintro x w1 ⟨rfl, hu⟩
    have h1 := HS0.out.more hu
    have hb := h1.get 1
    have p0 : w1.cell? ⟨w.heap.size, 0, none⟩ = some (.int .i64 0) := cell_of_block hb.bk_at 0
    have p1 : w1.cell? ⟨w.heap.size, 1, none⟩ = some (.int .i64 0) := cell_of_block hb.bk_at 1
    have p2 : w1.cell? ⟨w.heap.size, 2, none⟩ = some (.int .i64 0) := cell_of_block hb.bk_at 2
    have p3 : w1.cell? ⟨w.heap.size, 3, none⟩ = some (.slice none 0 0) := cell_of_block hb.bk_at 3
    have f0 : w1.frozen? ⟨w.heap.size, 0, none⟩ = false := free_of_block hb.bk_at 0
    have f1 : w1.frozen? ⟨w.heap.size, 1, none⟩ = false := free_of_block hb.bk_at 1
    have f2 : w1.frozen? ⟨w.heap.size, 2, none⟩ = false := free_of_block hb.bk_at 2
    have f3 : w1.frozen? ⟨w.heap.size, 3, none⟩ = false := free_of_block hb.bk_at 3
    have HS1 := Lib.hid h1
    clear h1 hb hu hf HW HS0
    go_wp2_with fail
    (try simp only [Exit.inBlock, Exit.then])
    refine bodyPost_ret (v := .tuple #[mval 0 0 0 none 0 0, .int .i64 4]) ?_ rfl ?_
    · rw [results_cell_tmp (fn := Try.f40) rfl]
      go_simp
    · exact ⟨0, 0, 0, none, 0, 0, 4, E, rfl, (((((HS1.out.get 1).set 0 (.int .i64 0)).set 1 (.int .i64 0)).set 2 (.int .i64 0)).set 3 (.slice none 0 0)).drop, fun _ _ => rfl⟩
  | some y =>
    rw [hf] at HW
    simp only [Option.isSome_some, if_true] at HW
    go_enter Try.func40, Try.ntmps40
    go_wp2_with fail
    refine HW.out.mono ?_
    rintro x w1 ⟨rfl, hu⟩
    have h1 := HS0.out.more hu
    have hb := h1.get 1
    have p0 : w1.cell? ⟨w.heap.size, 0, none⟩ = some (.int .i64 0) := cell_of_block hb.bk_at 0
    have p1 : w1.cell? ⟨w.heap.size, 1, none⟩ = some (.int .i64 0) := cell_of_block hb.bk_at 1
    have p2 : w1.cell? ⟨w.heap.size, 2, none⟩ = some (.int .i64 0) := cell_of_block hb.bk_at 2
    have p3 : w1.cell? ⟨w.heap.size, 3, none⟩ = some (.slice none 0 0) := cell_of_block hb.bk_at 3
    have f0 : w1.frozen? ⟨w.heap.size, 0, none⟩ = false := free_of_block hb.bk_at 0
    have f1 : w1.frozen? ⟨w.heap.size, 1, none⟩ = false := free_of_block hb.bk_at 1
    have f2 : w1.frozen? ⟨w.heap.size, 2, none⟩ = false := free_of_block hb.bk_at 2
    have f3 : w1.frozen? ⟨w.heap.size, 3, none⟩ = false := free_of_block hb.bk_at 3
    obtain ⟨ho, h5⟩ := eps_any h1
    obtain ⟨hyk, hym, hp⟩ := find_perm ho.nodup hf
    have h6 := area_out (area_perm hp (h5.get 1))
    obtain ⟨A1, c1, hv, hc1, hm1⟩ : ∃ A1 c1, y.v = .slice A1 y.ms.length c1 ∧ y.ms.length ≤ c1 ∧ c1 ≤ maxLen := row_form h6
    obtain ⟨bs, hbs, h7⟩ := row_any h6
    obtain ⟨m, h8⟩ := ends_any (h7.get 3)
    have c0 : w1.cell? ⟨e, 0, none⟩ = some (.map (some m)) := cell_of_block h8.bk_at 0
    have hlk : lookM (E.map ent) (kA b1) = some y.v := by rw [look_ent, hf]; rfl
    have hl := mp_get (h8.get 1) klawI Try.underlying83 (zrow w1) HK.out
    rw [hlk, hv] at hl
    simp only [Option.getD_some] at hl
    have HE : Hid (Oke E ∧ E.Perm (y :: delE E b1) ∧ y.k = b1) := Lib.hid ⟨ho, hp, hyk⟩
    have HF := Lib.hid hf
    cases hms : y.ms with
    | nil =>
      rw [hms] at hl
      simp only [List.length_nil] at hl
      have HS1 := Lib.hid h1
      clear h1 hb hu hf HW HS0 h5 h6 h7 h8 hlk hv ho hp hyk hym hbs hms hc1 hm1
      go_wp2_with fail
      (try simp only [Exit.inBlock, Exit.then])
      refine bodyPost_ret (v := .tuple #[mval 0 0 0 none 0 0, .int .i64 6]) ?_ rfl ?_
      · rw [results_cell_tmp (fn := Try.f40) rfl]
        go_simp
      · exact ⟨0, 0, 0, none, 0, 0, 6, E, rfl, (((((HS1.out.get 1).set 0 (.int .i64 0)).set 1 (.int .i64 0)).set 2 (.int .i64 0)).set 3 (.slice none 0 0)).drop, fun _ _ => rfl⟩
    | cons q ms =>
      cases bs with
      | nil => rw [hms] at hbs; simp at hbs
      | cons b bs =>
      rw [hv, hms] at h8
      have hst1 := (h8.get 1).drew
      obtain ⟨P, ⟨Q, Q2, _, _, _, hX1, _⟩, _⟩ := St.step (L := [slc 88 4 (.slice A1 (q :: ms).length c1) (q :: ms).length (rcs mcf (q :: ms) (b :: bs))]) (hst1.get 2)
      obtain ⟨t0, ht0, hz0, hz1, hz2⟩ := info_of' info88
      obtain ⟨A', hrun, -⟩ := slc_drop Try.underlying91 ht0 hz1 hX1 1 (by simp) (by have := ho.few y hym; rw [hms] at this; omega)
      obtain ⟨wu, hu1, hu2, -⟩ := mp_store (v := .slice A' ((q :: ms).length - 1) (c1 - 1)) hst1 klawI Try.underlying83 (by rw [List.length_map]; have := ho.len; unfold maxLen; omega) HK.out
      have hln : (q :: ms).length - 1 = ms.length := by simp
      rw [hln] at hu1 hu2 hrun
      have z0 : wu.cell? ⟨e, 0, none⟩ = some (.map (some m)) := cell_of_block (hu2.get 1).bk_at 0
      have hbr := hu2.get 5
      have r0 : wu.cell? ⟨w.heap.size, 0, none⟩ = some (.int .i64 0) := cell_of_block hbr.bk_at 0
      have r1 : wu.cell? ⟨w.heap.size, 1, none⟩ = some (.int .i64 0) := cell_of_block hbr.bk_at 1
      have r2 : wu.cell? ⟨w.heap.size, 2, none⟩ = some (.int .i64 0) := cell_of_block hbr.bk_at 2
      have r3 : wu.cell? ⟨w.heap.size, 3, none⟩ = some (.slice none 0 0) := cell_of_block hbr.bk_at 3
      have u0 : wu.frozen? ⟨w.heap.size, 0, none⟩ = false := free_of_block hbr.bk_at 0
      have u1 : wu.frozen? ⟨w.heap.size, 1, none⟩ = false := free_of_block hbr.bk_at 1
      have u2 : wu.frozen? ⟨w.heap.size, 2, none⟩ = false := free_of_block hbr.bk_at 2
      have u3 : wu.frozen? ⟨w.heap.size, 3, none⟩ = false := free_of_block hbr.bk_at 3
      obtain ⟨P', ⟨Q', Q2', _, _, _, hX2, _⟩, _⟩ := St.step (L := [slc 88 4 (.slice A1 (q :: ms).length c1) (q :: ms).length (rcs mcf (q :: ms) (b :: bs))]) (hu2.get 2)
      obtain ⟨g, o, hA, _, _, _, hcel, _⟩ := slc_cells hX2 (by simp)
      subst hA
      have k0 : wu.cell? ⟨g, o, none⟩ = some (.int .i64 q.a0) := hcel 0 _ rfl
      have k1 : wu.cell? ⟨g, o + 1, none⟩ = some (.int .i64 q.a1) := hcel 1 _ rfl
      have k2 : wu.cell? ⟨g, o + 2, none⟩ = some (.int .i64 q.a2) := hcel 2 _ rfl
      have k3 : wu.cell? ⟨g, o + 3, none⟩ = some (.slice b.1 q.b.length b.2) := hcel 3 _ rfl
      have HS4 := Lib.hid hu2
      have hlm : (q :: ms).length = ms.length + 1 := rfl
      rw [hms, hlm] at hl
      rw [hlm] at hrun
      have hr1 : ∀ W : World, (Instr.slice 91 (.slice (some ⟨g, o, none⟩) (ms.length + 1) c1) (some (.int .i64 1)) none none).run Try.prog W = .ok (.slice A' ms.length (c1 - 1)) W := hrun
      have c0d : w1.drew.cell? ⟨e, 0, none⟩ = some (.map (some m)) := cell_of_block (hst1.get 1).bk_at 0
      have HR := Lib.hid hr1
      have HBS : Hid (bs.length = ms.length) := Lib.hid (by have := hbs; rw [hms] at this; simpa using this)
      have HMS := Lib.hid hms
      have HC1 : Hid ((q :: ms).length ≤ c1 ∧ ms.length ≤ 4) := Lib.hid ⟨by rw [← hms]; exact hc1, by have := ho.few y hym; rw [hms] at this; simp only [List.length_cons] at this; omega⟩
      generalize hnn : ms.length = n at *
      have HNN := Lib.hid hnn
      clear hnn
      clear h1 hb hu hf HW HS0 h5 h6 h7 h8 hlk hv ho hp hyk hym hbs hms hc1 hm1 hst1 hX1 hrun hu2 hbr hX2 hcel hlm hln
      go_wp2_with fail
      go_region_held3 (fun wx => wx.cell? ⟨e, 0, none⟩ = some (.map (some m))) (first | exact c0d | exact z0 | go_keep) (fail)
      all_goals
        go_wp2_with fail
        (try simp only [Exit.inBlock, Exit.then])
        refine bodyPost_ret (v := .tuple #[mval q.a0 q.a1 q.a2 b.1 q.b.length b.2, .int .i64 0]) ?_ rfl ?_
        · rw [results_cell_tmp (fn := Try.f40) rfl]
          go_simp
        · have h9 := (((((HS4.out.get 5).set 0 (.int .i64 q.a0)).set 1 (.int .i64 q.a1)).set 2 (.int .i64 q.a2)).set 3 (.slice b.1 q.b.length b.2)).drop
          obtain ⟨hfr, Qa, Ra, hqa, hra, hda, hX, hLa⟩ := h9.get 2
          obtain ⟨A3, hrun2, hX3⟩ := slc_drop Try.underlying91 ht0 hz1 hX 1 (by simp) (by have := HC1.out.2; have := HNN.out; simp only [List.length_cons]; omega)
          have hNN := HNN.out
          subst hNN
          have e0 : (Instr.slice 91 (.slice (some ⟨g, o, none⟩) (ms.length + 1) c1) (some (.int .i64 1)) none none).run Try.prog w1 = .ok (.slice A3 ((q :: ms).length - 1) (c1 - 1)) w1 := hrun2 w1
          have e1 := e0.symm.trans (HR.out w1)
          injection e1 with e2 e3
          injection e2 with e4 e5 e6
          subst e4
          have h10 : St P0 w0 _ (slc 88 4 (.slice A3 ms.length (c1 - 1)) ms.length (rcs mcf ms bs) :: _) := ⟨hfr, Qa, Ra, hqa, hra, hda, hX3, hLa⟩
          exact ⟨_, _, _, _, _, _, _, _, rfl, take_shut HE.out.1 HE.out.2.1 HE.out.2.2 HMS.out HBS.out (h10.get 1), fun b hb => find_put E _ hb⟩
end
end Go.Proofs.Ytdhgmnnkbjhpaaa.Eps

/- do of the laws of endpoints. -/
namespace Go.Proofs.Ytdhgmnnkbjhpaaa.Eps
set_option linter.unusedVariables false
set_option linter.unusedSimpArgs false
open Go.RowKit Go.Proofs.Ytdhgmnnkbjhpaaa.Sep Go.Proofs.Ytdhgmnnkbjhpaaa.Mp Go.Proofs.Ytdhgmnnkbjhpaaa.Given Go.Proofs.YtdhgmnnkbjhpaaaW.PrintWords
def DoP (P0 : Nat → Prop) (w0 : World) (F : List Rg) (e : Nat) (E : List EP) (k a b1 : Int) (x : Ending) (w' : World) : Prop := ∃ a' m0 m1 m2 mA mn mc f E', x = .returned (.tuple #[.int .i64 a', mval m0 m1 m2 mA mn mc, .int .i64 f]) ∧ St P0 w0 w' (eps e E' :: F) ∧ ∀ b, b ≠ (if k = 0 then a' else if k = 2 then b1 else a) → findE E' b = findE E b
section
variable {P0 : Nat → Prop} {w0 w w' : World} {F : List Rg} {e : Nat} {E : List EP}
set_option maxHeartbeats 16000000 in
set_option maxRecDepth 100000 in
theorem do_q (h : St P0 w0 w (eps e E :: F)) (k a b0 b1 b2 : Int) {A : Option Addr} {c : Nat} {l : List Int} (hr : Kd.C (Kd.int .i64) w A l.length l) (hc : l.length ≤ c) (hb : l.length ≤ 1000) (wa : (Lit.int .i64 a).wf = true) (wb : (Lit.int .i64 b1).wf = true) :
    Calls Try.prog 15 #[.pointer (some ⟨e, 0, none⟩), .agg #[.int .i64 k, .int .i64 a, .int .i64 b0, .int .i64 b1, .int .i64 b2, .slice A l.length c]] w fun x w' =>
      DoP P0 w0 F e E k a b1 x w' := by
  have h0 := (h.allocU (.cells #[.int .i64 k, .int .i64 a, .int .i64 b0, .int .i64 b1, .int .i64 b2, .slice A l.length c] 32)).alloc #[.int .i64 0, .int .i64 0, .int .i64 0, .slice none 0 0] 30
  rw [World.size_alloc] at h0
  have h2 := h0.get 1
  have hu := ((Up.refl w).alloc (.cells #[.int .i64 k, .int .i64 a, .int .i64 b0, .int .i64 b1, .int .i64 b2, .slice A l.length c] 32)).alloc (.cells #[.int .i64 0, .int .i64 0, .int .i64 0, .slice none 0 0] 30)
  have HO := Lib.hid (Open_q h2 a wa)
  have HC := Lib.hid (Close_q h2 a wa)
  have HD := Lib.hid (Deliver_q h2 b0 b1 b2 (Kd.C_below hr hu) hc hb wb)
  have HT := Lib.hid (Take_q h2 a wa)
  generalize l.length = nl at *
  clear h h0 h2 hu hr hc hb
  rcases (by omega : k = 0 ∨ k = 1 ∨ k = 2 ∨ (k ≠ 0 ∧ k ≠ 1 ∧ k ≠ 2)) with rfl | rfl | rfl | ⟨h0, h1, h2⟩
  · go_enter Try.func15, Try.ntmps15
    go_wp2_with fail
    refine HO.out.mono ?_
    rintro x w1 ⟨a', f, E', rfl, h1, hfd⟩
    have hb := h1.get 1
    have p0 : w1.cell? ⟨w.heap.size + 1, 0, none⟩ = some (.int .i64 0) := cell_of_block hb.bk_at 0
    have p1 : w1.cell? ⟨w.heap.size + 1, 1, none⟩ = some (.int .i64 0) := cell_of_block hb.bk_at 1
    have p2 : w1.cell? ⟨w.heap.size + 1, 2, none⟩ = some (.int .i64 0) := cell_of_block hb.bk_at 2
    have p3 : w1.cell? ⟨w.heap.size + 1, 3, none⟩ = some (.slice none 0 0) := cell_of_block hb.bk_at 3
    have f0 : w1.frozen? ⟨w.heap.size + 1, 0, none⟩ = false := free_of_block hb.bk_at 0
    have f1 : w1.frozen? ⟨w.heap.size + 1, 1, none⟩ = false := free_of_block hb.bk_at 1
    have f2 : w1.frozen? ⟨w.heap.size + 1, 2, none⟩ = false := free_of_block hb.bk_at 2
    have f3 : w1.frozen? ⟨w.heap.size + 1, 3, none⟩ = false := free_of_block hb.bk_at 3
    have HS1 := Lib.hid hb
    have HFD := Lib.hid hfd
    clear hb h1 hfd
    go_wp2_with fail
    (try simp only [Exit.inBlock, Exit.then])
    refine bodyPost_ret (v := .tuple #[.int .i64 a', mval 0 0 0 none 0 0, .int .i64 f]) ?_ rfl ?_
    · rw [results_tct (fn := Try.f15) rfl]
      go_simp
    · unfold DoP
      exact ⟨a', _, _, _, _, _, _, f, E', rfl, ((((HS1.out.set 0 (.int .i64 0)).set 1 (.int .i64 0)).set 2 (.int .i64 0)).set 3 (.slice none 0 0)).drop, fun b hb => HFD.out b (by simpa using hb)⟩
  · go_enter Try.func15, Try.ntmps15
    go_wp2_with fail
    refine HC.out.mono ?_
    rintro x w1 ⟨f, E', rfl, h1, hfd⟩
    have hb := h1.get 1
    have p0 : w1.cell? ⟨w.heap.size + 1, 0, none⟩ = some (.int .i64 0) := cell_of_block hb.bk_at 0
    have p1 : w1.cell? ⟨w.heap.size + 1, 1, none⟩ = some (.int .i64 0) := cell_of_block hb.bk_at 1
    have p2 : w1.cell? ⟨w.heap.size + 1, 2, none⟩ = some (.int .i64 0) := cell_of_block hb.bk_at 2
    have p3 : w1.cell? ⟨w.heap.size + 1, 3, none⟩ = some (.slice none 0 0) := cell_of_block hb.bk_at 3
    have f0 : w1.frozen? ⟨w.heap.size + 1, 0, none⟩ = false := free_of_block hb.bk_at 0
    have f1 : w1.frozen? ⟨w.heap.size + 1, 1, none⟩ = false := free_of_block hb.bk_at 1
    have f2 : w1.frozen? ⟨w.heap.size + 1, 2, none⟩ = false := free_of_block hb.bk_at 2
    have f3 : w1.frozen? ⟨w.heap.size + 1, 3, none⟩ = false := free_of_block hb.bk_at 3
    have HS1 := Lib.hid hb
    have HFD := Lib.hid hfd
    clear hb h1 hfd
    go_wp2_with fail
    (try simp only [Exit.inBlock, Exit.then])
    refine bodyPost_ret (v := .tuple #[.int .i64 0, mval 0 0 0 none 0 0, .int .i64 f]) ?_ rfl ?_
    · rw [results_tct (fn := Try.f15) rfl]
      go_simp
    · unfold DoP
      exact ⟨0, _, _, _, _, _, _, f, E', rfl, ((((HS1.out.set 0 (.int .i64 0)).set 1 (.int .i64 0)).set 2 (.int .i64 0)).set 3 (.slice none 0 0)).drop, fun b hb => HFD.out b (by simpa using hb)⟩
  · go_enter Try.func15, Try.ntmps15
    go_wp2_with fail
    refine HD.out.mono ?_
    rintro x w1 ⟨f, E', rfl, h1, hfd⟩
    have hb := h1.get 1
    have p0 : w1.cell? ⟨w.heap.size + 1, 0, none⟩ = some (.int .i64 0) := cell_of_block hb.bk_at 0
    have p1 : w1.cell? ⟨w.heap.size + 1, 1, none⟩ = some (.int .i64 0) := cell_of_block hb.bk_at 1
    have p2 : w1.cell? ⟨w.heap.size + 1, 2, none⟩ = some (.int .i64 0) := cell_of_block hb.bk_at 2
    have p3 : w1.cell? ⟨w.heap.size + 1, 3, none⟩ = some (.slice none 0 0) := cell_of_block hb.bk_at 3
    have f0 : w1.frozen? ⟨w.heap.size + 1, 0, none⟩ = false := free_of_block hb.bk_at 0
    have f1 : w1.frozen? ⟨w.heap.size + 1, 1, none⟩ = false := free_of_block hb.bk_at 1
    have f2 : w1.frozen? ⟨w.heap.size + 1, 2, none⟩ = false := free_of_block hb.bk_at 2
    have f3 : w1.frozen? ⟨w.heap.size + 1, 3, none⟩ = false := free_of_block hb.bk_at 3
    have HS1 := Lib.hid hb
    have HFD := Lib.hid hfd
    clear hb h1 hfd
    go_wp2_with fail
    (try simp only [Exit.inBlock, Exit.then])
    refine bodyPost_ret (v := .tuple #[.int .i64 0, mval 0 0 0 none 0 0, .int .i64 f]) ?_ rfl ?_
    · rw [results_tct (fn := Try.f15) rfl]
      go_simp
    · unfold DoP
      exact ⟨0, _, _, _, _, _, _, f, E', rfl, ((((HS1.out.set 0 (.int .i64 0)).set 1 (.int .i64 0)).set 2 (.int .i64 0)).set 3 (.slice none 0 0)).drop, fun b hb => HFD.out b (by simpa using hb)⟩
  · have e0 : (k == 0) = false := beq_eq_false_iff_ne.2 h0
    have e1 : (k == 1) = false := beq_eq_false_iff_ne.2 h1
    have e2 : (k == 2) = false := beq_eq_false_iff_ne.2 h2
    have HK0 := Lib.hid h0
    have HK2 := Lib.hid h2
    clear h0 h1 h2
    go_enter Try.func15, Try.ntmps15
    go_upto_region 10 with (go_at_call 40; refine HT.out.mono ?_; rintro x w1 ⟨a0, a1, a2, A2, n2, c2, f, E', rfl, h1, hfd⟩; have hb := h1.get 1; have p0 : w1.cell? ⟨w.heap.size + 1, 0, none⟩ = some (.int .i64 0) := cell_of_block hb.bk_at 0; have p1 : w1.cell? ⟨w.heap.size + 1, 1, none⟩ = some (.int .i64 0) := cell_of_block hb.bk_at 1; have p2 : w1.cell? ⟨w.heap.size + 1, 2, none⟩ = some (.int .i64 0) := cell_of_block hb.bk_at 2; have p3 : w1.cell? ⟨w.heap.size + 1, 3, none⟩ = some (.slice none 0 0) := cell_of_block hb.bk_at 3; have f0 : w1.frozen? ⟨w.heap.size + 1, 0, none⟩ = false := free_of_block hb.bk_at 0; have f1 : w1.frozen? ⟨w.heap.size + 1, 1, none⟩ = false := free_of_block hb.bk_at 1; have f2 : w1.frozen? ⟨w.heap.size + 1, 2, none⟩ = false := free_of_block hb.bk_at 2; have f3 : w1.frozen? ⟨w.heap.size + 1, 3, none⟩ = false := free_of_block hb.bk_at 3; have HS1 := Lib.hid hb; have HFD := Lib.hid hfd; clear hb h1 hfd)
    have lp := World.block_lt_of_cell? w1 _ p0
    go_region
    all_goals
      go_wp2
      (try simp only [Exit.inBlock, Exit.then])
      refine bodyPost_ret (v := .tuple #[.int .i64 0, mval a0 a1 a2 A2 n2 c2, .int .i64 f]) ?_ rfl ?_
      · rw [results_tct (fn := Try.f15) rfl]
        go_simp
      · unfold DoP
        exact ⟨0, _, _, _, _, _, _, f, E', rfl, ((((((HS1.out.set 0 (.int .i64 a0)).set 1 (.int .i64 a1)).set 2 (.int .i64 a2)).set 3 (.slice A2 n2 c2)).drop).allocU _).drew, fun b hb => HFD.out b (by rw [if_neg HK0.out, if_neg HK2.out] at hb; exact hb)⟩
end
end Go.Proofs.Ytdhgmnnkbjhpaaa.Eps
