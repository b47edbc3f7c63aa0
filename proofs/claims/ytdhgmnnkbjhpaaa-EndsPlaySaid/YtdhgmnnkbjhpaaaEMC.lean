/- EMC: the texts Eq1, Eq4, Eq5, Eq6 in one (merge.py). -/
import Derived.Test.YtdhgmnnkbjhpaaaEMB
/- The endpoints with their messages, exactly: the plain model; Has, Waits, Full, Open, Close. -/
namespace Go.Proofs.Ytdhgmnnkbjhpaaa.Epx
set_option linter.unusedVariables false
set_option linter.unusedSimpArgs false
open Go.RowKit Go.Proofs.Ytdhgmnnkbjhpaaa.Sep Go.Proofs.Ytdhgmnnkbjhpaaa.Mp Go.Proofs.Ytdhgmnnkbjhpaaa.Given Go.Proofs.Ytdhgmnnkbjhpaaa.Eps
/-! ### 1. Plain -/
structure EL where
  k : Int
  ms : List MS
abbrev pl (x : EP) : EL := ⟨x.k, x.ms⟩
def m0 : MS := ⟨0, 0, 0, []⟩
def findL (L : List EL) (a : Int) : Option EL := L.find? fun x => decide (x.k = a)
def delL (L : List EL) (a : Int) : List EL := L.filter fun x => !decide (x.k = a)
def insL (x : EL) : List EL → List EL
  | [] => [x]
  | y :: r => if x.k < y.k then x :: y :: r else y :: insL x r
def putL (L : List EL) (x : EL) : List EL := insL x (delL L x.k)
def freeN : Nat → Int → List EL → Int
  | 0, a, _ => a
  | k + 1, a, L => if (findL L a).isSome = true then freeN k (a + 1) L else a
def freeL (L : List EL) : Int := freeN 100 16 L
def openL (L : List EL) (a : Int) : List EL × Int × Int :=
  if a < 0 ∨ 65536 ≤ a then (L, 0, 2) else if (findL L a).isSome = true then (L, 0, 16) else if 32 ≤ L.length then (L, 0, 17) else
    (putL L ⟨if a = 0 then freeL L else a, []⟩, if a = 0 then freeL L else a, 0)
def closeL (L : List EL) (a : Int) : List EL × Int := if (findL L a).isSome = true then (delL L a, 0) else (L, 4)
def delivL (L : List EL) (m : MS) : List EL × Int :=
  if hwrong m.a0 m.a1 m.a2 m.b = 0 then match findL L m.a1 with
    | none => (L, 4)
    | some y => if 4 ≤ y.ms.length then (L, 5) else (putL L ⟨m.a1, y.ms ++ [m]⟩, 0)
  else (L, 2)
def takeL (L : List EL) (a : Int) : List EL × MS × Int := match findL L a with
  | none => (L, m0, 4)
  | some y => match y.ms with
    | [] => (L, m0, 6)
    | q :: ms => (putL L ⟨a, ms⟩, q, 0)
def doL (L : List EL) (k a : Int) (m : MS) : List EL × Int × MS × Int :=
  if k = 0 then ((openL L a).1, (openL L a).2.1, m0, (openL L a).2.2) else if k = 1 then ((closeL L a).1, 0, m0, (closeL L a).2) else if k = 2 then ((delivL L m).1, 0, m0, (delivL L m).2) else
    ((takeL L a).1, 0, (takeL L a).2.1, (takeL L a).2.2)
def cntL (L : List EL) (a : Int) : Nat := match findL L a with | none => 0 | some x => x.ms.length
theorem find_pl (E : List EP) (a : Int) : findL (E.map pl) a = (findE E a).map pl := by
  unfold findL findE
  rw [List.find?_map]
  rfl
theorem del_pl (E : List EP) (a : Int) : delL (E.map pl) a = (delE E a).map pl := by
  unfold delL delE
  rw [List.filter_map]
  rfl
theorem ins_pl (x : EP) : ∀ E : List EP, insL (pl x) (E.map pl) = (insE x E).map pl
  | [] => rfl
  | y :: r => by
    simp only [List.map_cons, insL, insE]
    by_cases h : x.k < y.k
    · rw [if_pos h, if_pos h]
      rfl
    · rw [if_neg h, if_neg h, ins_pl x r]
      rfl
theorem put_pl (E : List EP) (x : EP) : putL (E.map pl) (pl x) = (putE E x).map pl := by
  unfold putL putE
  rw [del_pl]
  exact ins_pl x _
theorem cnt_pl (E : List EP) (a : Int) : cntL (E.map pl) a = cntE E a := by
  unfold cntL cntE
  rw [find_pl]
  cases findE E a <;> rfl
theorem some_pl (E : List EP) (a : Int) : (findL (E.map pl) a).isSome = (findE E a).isSome := by rw [find_pl, Option.isSome_map]
theorem freeN_is (L : List EL) : ∀ (k j : Nat) (a : Int), j < k → (∀ i < j, (findL L (a + (i : Int))).isSome = true) → (findL L (a + (j : Int))).isSome = false → freeN k a L = a + (j : Int)
  | 0, j, a, h, _, _ => by omega
  | k + 1, 0, a, _, _, h => by
    simp only [freeN]
    rw [if_neg (by simpa using h)]
    simp
  | k + 1, j + 1, a, hj, h, hn => by
    simp only [freeN]
    have h0 := h 0 (by omega)
    rw [if_pos (by simpa using h0), freeN_is L k j (a + 1) (by omega) (fun i hi => by
      have := h (i + 1) (by omega)
      rw [show a + 1 + (i : Int) = a + ((i + 1 : Nat) : Int) by push_cast; omega]
      exact this) (by
      rw [show a + 1 + (j : Int) = a + ((j + 1 : Nat) : Int) by push_cast; omega]
      exact hn)]
    push_cast
    omega
/-! ### 2. The part -/
def ep (e : Nat) (L : List EL) : Rg := ex fun E : List EP => big [eps e E, pu (E.map pl = L)]
section
variable {P0 : Nat → Prop} {w0 w w' : World} {F : List Rg} {e : Nat} {L : List EL}
theorem ep_any (h : St P0 w0 w (ep e L :: F)) : ∃ E : List EP, E.map pl = L ∧ St P0 w0 w (eps e E :: F) := by
  obtain ⟨E, h2⟩ := h.ex_open
  have h3 : St P0 w0 w (pu (E.map pl = L) :: eps e E :: F) := (h2.big_open).get 1
  exact ⟨E, h3.pu_open⟩
theorem ep_shut {E : List EP} (hm : E.map pl = L) (h : St P0 w0 w (eps e E :: F)) : St P0 w0 w (ep e L :: F) := by
  have h1 : St P0 w0 w (_ :: pu (E.map pl = L) :: F) := (St.pu_shut hm h).put 1
  exact St.ex_shut E (St.big_shut (M := [_, pu _]) h1)
theorem ep_start (h : St P0 w0 w (ends e [] :: F)) : St P0 w0 w (ep e [] :: F) := by
  refine ep_shut (E := []) rfl ?_
  have h1 : St P0 w0 w (big ((([] : List EP)).map prt) :: ends e [] :: F) := St.big_shut (M := []) h
  have h2 : St P0 w0 w (ends e ((([] : List EP)).map ent) :: big ((([] : List EP)).map prt) :: F) := h1.get 1
  exact eps_shut ⟨List.nodup_nil, Nat.zero_le _, fun x hx => by simp at hx⟩ h2
/-- What the plain endpoints keep. -/
structure Okl (L : List EL) : Prop where
  nodup : (L.map (·.k)).Nodup
  len : L.length ≤ 32
  few : ∀ x ∈ L, x.ms.length ≤ 4
theorem ep_ok (h : St P0 w0 w (ep e L :: F)) : Okl L := by
  obtain ⟨E, rfl, h1⟩ := ep_any h
  obtain ⟨ho, -⟩ := eps_any h1
  refine ⟨by rw [List.map_map]; exact ho.nodup, by rw [List.length_map]; exact ho.len, fun x hx => ?_⟩
  obtain ⟨y, hy, rfl⟩ := List.mem_map.1 hx
  exact ho.few y hy
theorem Has_x (h : St P0 w0 w (ep e L :: F)) (a : Int) (wa : (Lit.int .i64 a).wf = true) : Calls Try.prog 18 #[.pointer (some ⟨e, 0, none⟩), .int .i64 a] w fun x w' =>
    x = .returned (.bool (findL L a).isSome) ∧ Up w w' := by
  obtain ⟨E, rfl, h1⟩ := ep_any h
  rw [some_pl]
  exact Has_q h1 a wa
theorem Waits_x (h : St P0 w0 w (ep e L :: F)) (a : Int) (wa : (Lit.int .i64 a).wf = true) : Calls Try.prog 16 #[.pointer (some ⟨e, 0, none⟩), .int .i64 a] w fun x w' =>
    x = .returned (.int .i64 (cntL L a : Int)) ∧ Up w w' := by
  obtain ⟨E, rfl, h1⟩ := ep_any h
  rw [cnt_pl]
  exact Waits_q h1 a wa
theorem Full_x (h : St P0 w0 w (ep e L :: F)) (a : Int) (wa : (Lit.int .i64 a).wf = true) : Calls Try.prog 35 #[.pointer (some ⟨e, 0, none⟩), .int .i64 a] w fun x w' =>
    x = .returned (.bool (decide (4 ≤ cntL L a))) ∧ Up w w' := by
  obtain ⟨E, rfl, h1⟩ := ep_any h
  rw [cnt_pl]
  exact Full_q h1 a wa
/-! ### 3. Open, Close -/
set_option maxHeartbeats 4000000 in
set_option maxRecDepth 100000 in
theorem open_nox {M : List Ent} (h : St P0 w0 w (ends e M :: F)) (a : Int) (wa : (Lit.int .i64 a).wf = true) (hb : a < 0 ∨ 65536 ≤ a ∨ (lookM M (kA a)).isSome = true ∨ 32 ≤ M.length) :
    Calls Try.prog 19 #[.pointer (some ⟨e, 0, none⟩), .int .i64 a] w fun x w' => x = .returned (.tuple #[.int .i64 0, .int .i64 (if a < 0 ∨ 65536 ≤ a then 2 else if (lookM M (kA a)).isSome = true then 16 else 17)]) ∧ Up w w' := by
  by_cases h0 : a < 0
  · rw [if_pos (.inl h0)]
    clear h hb
    go_enter Try.func19, Try.ntmps19
    go_wp2
    go_ret2
    exact ⟨rfl, Up.refl w⟩
  by_cases h6 : 65536 ≤ a
  · rw [if_pos (.inr h6)]
    clear h hb
    go_enter Try.func19, Try.ntmps19
    go_wp2
    go_ret2
    exact ⟨rfl, Up.refl w⟩
  rw [if_neg (by omega)]
  have hh := Has_st h a wa
  cases hs : (lookM M (kA a)).isSome with
  | true =>
    rw [hs] at hh
    rw [if_pos rfl]
    have HH := Lib.hid hh
    clear h hb hh hs
    go_enter Try.func19, Try.ntmps19
    go_wp2_with fail
    refine HH.out.mono ?_
    rintro x w1 ⟨rfl, hu⟩
    have HU := Lib.hid hu
    clear hu
    go_wp2_with fail
    go_ret2
    exact ⟨rfl, HU.out⟩
  | false =>
    rw [hs] at hh hb
    rw [if_neg (by decide)]
    have hl : 32 ≤ M.length := by
      rcases hb with h | h | h | h
      · exact absurd h h0
      · exact absurd h h6
      · cases h
      · exact h
    have HH := Lib.hid hh
    have HS := Lib.hid h
    have HLN := Lib.hid (fun (wx : World) (m : Nat) (F : List Rg) (h : St P0 w0 wx (mp 3 m M :: F)) (ty : TypeId) => mp_len h Try.underlying83 ty)
    clear h hb hh hs
    go_enter Try.func19, Try.ntmps19
    go_wp2_with fail
    refine HH.out.mono ?_
    rintro x w1 ⟨rfl, hu⟩
    have HU := Lib.hid hu
    obtain ⟨m2, h4⟩ := ends_any (HS.out.more hu)
    have c0 : w1.cell? ⟨e, 0, none⟩ = some (.map (some m2)) := cell_of_block h4.bk_at 0
    have hlen := fun ty => HLN.out w1 m2 _ (h4.get 1) ty
    generalize M.length = n at hlen hl
    clear h4 hu HH HS
    go_wp2_with fail
    go_ret2
    exact ⟨rfl, HU.out⟩
theorem Open_x (h : St P0 w0 w (ep e L :: F)) (a : Int) (wa : (Lit.int .i64 a).wf = true) :
    Calls Try.prog 19 #[.pointer (some ⟨e, 0, none⟩), .int .i64 a] w fun x w' => x = .returned (.tuple #[.int .i64 (openL L a).2.1, .int .i64 (openL L a).2.2]) ∧ St P0 w0 w' (ep e (openL L a).1 :: F) := by
  obtain ⟨E, rfl, h'⟩ := ep_any h
  obtain ⟨ho, h1⟩ := eps_any h'
  by_cases hb : a < 0 ∨ 65536 ≤ a ∨ (lookM (E.map ent) (kA a)).isSome = true ∨ 32 ≤ (E.map ent).length
  · refine (open_nox h1 a wa hb).mono ?_
    rintro x w' ⟨rfl, hu⟩
    have ho2 : openL (E.map pl) a = (E.map pl, 0, if a < 0 ∨ 65536 ≤ a then 2 else if (lookM (E.map ent) (kA a)).isSome = true then 16 else 17) := by
      unfold openL
      rw [some_pl, has_ent]
      by_cases c1 : a < 0 ∨ 65536 ≤ a
      · rw [if_pos c1, if_pos c1]
      rw [if_neg c1, if_neg c1]
      by_cases c2 : (findE E a).isSome = true
      · rw [if_pos c2, if_pos c2]
      rw [if_neg c2, if_neg c2, if_pos ?_]
      rw [has_ent] at hb
      rcases hb with h | h | h | h
      · exact absurd (.inl h) c1
      · exact absurd (.inr h) c1
      · exact absurd h c2
      · simpa using h
    rw [ho2]
    exact ⟨rfl, h.more hu⟩
  · have hn : (findE E a).isSome = false := by
      rw [← has_ent]
      exact Bool.eq_false_iff.2 fun e => hb (.inr (.inr (.inl e)))
    have hl : (E.map ent).length < 32 := Nat.lt_of_not_le fun e => hb (.inr (.inr (.inr e)))
    have hl' : E.length < 32 := by rwa [List.length_map] at hl
    have h0 : 0 ≤ a := Int.not_lt.1 fun e => hb (.inl e)
    have h6 : a < 65536 := Int.not_le.1 fun e => hb (.inr (.inl e))
    have ho2 : openL (E.map pl) a = (putL (E.map pl) ⟨if a = 0 then freeL (E.map pl) else a, []⟩, if a = 0 then freeL (E.map pl) else a, 0) := by
      unfold openL
      rw [if_neg (by omega), some_pl, if_neg (by rw [hn]; decide), if_neg (by rw [List.length_map]; omega)]
    rw [ho2]
    by_cases ha : a = 0
    · subst ha
      obtain ⟨j, hj, hy, hz⟩ := free_is ho hl'
      have hfr : freeL (E.map pl) = 16 + (j : Int) := by
        have hj2 : j < 33 := by
          refine Classical.byContradiction fun hc => ?_
          have h33 := sub_len ((List.range 33).map fun j : Nat => 16 + (j : Int)) (E.map (·.k)) (by decide) (fun x hx => by
            obtain ⟨i, hi, rfl⟩ := List.mem_map.1 hx
            have hi2 := List.mem_range.1 hi
            obtain ⟨y, hy2⟩ := Option.isSome_iff_exists.1 (hy i (by omega))
            unfold findE at hy2
            have hk0 := List.find?_some hy2
            have hk := of_decide_eq_true hk0
            exact List.mem_map.2 ⟨y, List.mem_of_find?_eq_some hy2, hk⟩)
          simp only [List.length_map, List.length_range] at h33
          omega
        exact freeN_is _ 100 j 16 (by omega) (fun i hi => by rw [some_pl]; exact hy i hi) (by rw [some_pl]; exact hz)
      rw [if_pos rfl, hfr]
      refine (open_new h1 hl (by rw [has_ent]; exact hn) j hj (fun i hi => by rw [has_ent]; exact hy i hi) (by rw [has_ent]; exact hz)).mono ?_
      rintro x w' ⟨rfl, hs⟩
      have hz' : findE E (16 + (j : Int)) = none := Option.not_isSome_iff_eq_none.1 (by rw [hz]; decide)
      exact ⟨rfl, ep_shut (put_pl E ⟨16 + (j : Int), nilV, []⟩).symm (eps_new hz' ho hl' hs)⟩
    · rw [if_neg ha]
      refine (open_at h1 hl a ha h0 h6 (by rw [has_ent]; exact hn)).mono ?_
      rintro x w' ⟨rfl, hs⟩
      have hz' : findE E a = none := Option.not_isSome_iff_eq_none.1 (by rw [hn]; decide)
      exact ⟨rfl, ep_shut (put_pl E ⟨a, nilV, []⟩).symm (eps_new hz' ho hl' hs)⟩
theorem Close_x (h : St P0 w0 w (ep e L :: F)) (a : Int) (wa : (Lit.int .i64 a).wf = true) :
    Calls Try.prog 38 #[.pointer (some ⟨e, 0, none⟩), .int .i64 a] w fun x w' => x = .returned (.int .i64 (closeL L a).2) ∧ St P0 w0 w' (ep e (closeL L a).1 :: F) := by
  obtain ⟨E, rfl, h'⟩ := ep_any h
  obtain ⟨ho, h1⟩ := eps_any h'
  unfold closeL
  rw [some_pl]
  cases hf : findE E a with
  | none =>
    rw [if_neg (by simp)]
    refine (close_no h1 a wa (by rw [has_ent, hf]; rfl)).mono ?_
    rintro x w' ⟨rfl, hu⟩
    exact ⟨rfl, h.more hu⟩
  | some y =>
    rw [if_pos (show (some y).isSome = true from rfl)]
    refine (close_yes h1 a wa (by rw [has_ent, hf]; rfl)).mono ?_
    rintro x w' ⟨rfl, hs⟩
    rw [del_ent] at hs
    obtain ⟨_, _, hp⟩ := find_perm ho.nodup hf
    exact ⟨rfl, ep_shut (del_pl E a).symm (eps_shut (oke_del ho a) (((area_out (area_perm hp (hs.get 1))).drop).get 1))⟩
end
end Go.Proofs.Ytdhgmnnkbjhpaaa.Epx

/- Deliver, told exactly; written by mkeq.py. -/
namespace Go.Proofs.Ytdhgmnnkbjhpaaa.Epx
set_option linter.unusedVariables false
set_option linter.unusedSimpArgs false
open Go.RowKit Go.Proofs.Ytdhgmnnkbjhpaaa.Sep Go.Proofs.Ytdhgmnnkbjhpaaa.Mp Go.Proofs.Ytdhgmnnkbjhpaaa.Given Go.Proofs.YtdhgmnnkbjhpaaaW.PrintWords Go.Proofs.Ytdhgmnnkbjhpaaa.Eps
open Go.Maps (Keyed)
section
variable {P0 : Nat → Prop} {w0 w w' : World} {F : List Rg} {e : Nat} {L : List EL} {E : List EP}
theorem deliv_cases (E : List EP) (b0 b1 b2 : Int) (l : List Int) :
    (hwrong b0 b1 b2 l ≠ 0 → delivL (E.map pl) ⟨b0, b1, b2, l⟩ = (E.map pl, 2)) ∧
    (hwrong b0 b1 b2 l = 0 → (findE E b1 = none → delivL (E.map pl) ⟨b0, b1, b2, l⟩ = (E.map pl, 4)) ∧
      (∀ y, findE E b1 = some y → (4 ≤ y.ms.length → delivL (E.map pl) ⟨b0, b1, b2, l⟩ = (E.map pl, 5)) ∧
        (∀ V, ¬ 4 ≤ y.ms.length → delivL (E.map pl) ⟨b0, b1, b2, l⟩ = ((putE E ⟨b1, V, y.ms ++ [⟨b0, b1, b2, l⟩]⟩).map pl, 0)))) := by
  unfold delivL
  dsimp only
  rw [find_pl]
  refine ⟨fun h => if_neg h, fun h => ⟨fun hf => by rw [if_pos h, hf]; rfl, fun y hf => ⟨fun h4 => ?_, fun V h4 => ?_⟩⟩⟩
  · rw [if_pos h, hf]
    exact if_pos h4
  · rw [if_pos h, hf]
    refine (if_neg h4).trans ?_
    rw [← put_pl]
set_option maxHeartbeats 16000000 in
set_option maxRecDepth 100000 in
theorem Deliver_e (h : St P0 w0 w (eps e E :: F)) (b0 b1 b2 : Int) {A : Option Addr} {c : Nat} {l : List Int} (hr : Kd.C (Kd.int .i64) w A l.length l) (hc : l.length ≤ c) (hb : l.length ≤ 1000) (wa : (Lit.int .i64 b1).wf = true) :
    Calls Try.prog 39 #[.pointer (some ⟨e, 0, none⟩), .agg #[.int .i64 b0, .int .i64 b1, .int .i64 b2, .slice A l.length c]] w fun x w' =>
      ∃ f E', x = .returned (.int .i64 f) ∧ St P0 w0 w' (eps e E' :: F) ∧ delivL (E.map pl) ⟨b0, b1, b2, l⟩ = (E'.map pl, f) := by
  have HDC := Lib.hid (deliv_cases E b0 b1 b2 l)
  have hsa := h.alloc #[.int .i64 b0, .int .i64 b1, .int .i64 b2, .slice A l.length c] 88
  have HSA : Hid (St P0 w0 _ (eps e E :: bk w.heap.size 88 #[.int .i64 b0, .int .i64 b1, .int .i64 b2, .slice A l.length c] :: F)) := Lib.hid (hsa.get 1)
  have HU0 : Hid (Up w (w.alloc (.cells #[.int .i64 b0, .int .i64 b1, .int .i64 b2, .slice A l.length c] 88))) := Lib.hid ((Up.refl w).alloc _)
  have HRC := Lib.hid hr
  have HRI := Lib.hid (Right_u b0 b1 b2 (Kd.C_below hr HU0.out) hc)
  have HOW := Lib.hid (fun (wx : World) (hu : Up w wx) => own_u b0 b1 b2 (Kd.C_below hr hu) hc hb)
  obtain ⟨nl, hnl⟩ : ∃ n, l.length = n := ⟨_, rfl⟩
  have HNL := Lib.hid hnl
  rw [hnl] at HRI HSA HU0 HOW ⊢
  clear h hsa hr hc hb hnl
  by_cases hR : hwrong b0 b1 b2 l = 0
  case neg =>
    have hR' : (hwrong b0 b1 b2 l == 0) = false := beq_eq_false_iff_ne.2 hR
    rw [hR'] at HRI
    have HX := Lib.hid (HDC.out.1 hR)
    clear hR hR'
    go_enter Try.func39, Try.ntmps39
    go_wp2_with fail
    refine HRI.out.mono ?_
    rintro x w1 ⟨rfl, hu⟩
    have HS1 := Lib.hid ((HSA.out.cut 1).more hu)
    clear hu
    go_wp2_with fail
    go_ret
    exact ⟨_, E, rfl, HS1.out, HX.out⟩
  rw [hR] at HRI
  have HDC := Lib.hid (HDC.out.2 hR)
  clear hR
  have HWR := Lib.hid (fun (wx : World) (F : List Rg) (h : St P0 w0 wx (eps e E :: F)) => wrong_q h b1 wa)
  have HFU := Lib.hid (fun (wx : World) (F : List Rg) (h : St P0 w0 wx (eps e E :: F)) => Full_q h b1 wa)
  have HK := Lib.hid (kofI wa)
  go_enter Try.func39, Try.ntmps39
  go_wp2_with fail
  refine HRI.out.mono ?_
  rintro x w1 ⟨rfl, hu⟩
  have h1 := HSA.out.more hu
  have HU1 := Lib.hid (HU0.out.trans hu)
  have k1 : w1.cell? ⟨w.heap.size, 1, none⟩ = some (.int .i64 b1) := cell_of_block (h1.get 1).bk_at 1
  have HS1 := Lib.hid h1
  clear h1 hu HRI HSA HU0
  go_wp2_with fail
  refine (HWR.out _ _ HS1.out).mono ?_
  rintro x w2 ⟨rfl, hu⟩
  have h2 := HS1.out.more hu
  have HU2 := Lib.hid (HU1.out.trans hu)
  have k2 : w2.cell? ⟨w.heap.size, 1, none⟩ = some (.int .i64 b1) := cell_of_block (h2.get 1).bk_at 1
  have HS2 := Lib.hid h2
  clear h2 hu HS1 HU1 k1 HWR
  cases hf : findE E b1 with
  | none =>
    simp only [Option.isSome_none, Bool.false_eq_true, if_false]
    have HX := Lib.hid (HDC.out.1 hf)
    clear hf
    go_wp2_with fail
    go_ret
    exact ⟨_, E, rfl, HS2.out.cut 1, HX.out⟩
  | some y =>
    simp only [Option.isSome_some, if_true]
    go_wp2_with fail
    refine (HFU.out _ _ HS2.out).mono ?_
    rintro x w3 ⟨rfl, hu⟩
    have h3 := HS2.out.more hu
    have HU3 := Lib.hid (HU2.out.trans hu)
    clear hu HS2 HU2 k2 HFU
    have hcn : cntE E b1 = y.ms.length := by unfold cntE; rw [hf]
    by_cases h4 : 4 ≤ cntE E b1
    · rw [decide_eq_true h4]
      have HS3 := Lib.hid (h3.cut 1)
      have HX := Lib.hid ((HDC.out.2 y hf).1 (by rw [← hcn]; exact h4))
      clear h3 hf hcn h4
      go_wp2_with fail
      go_ret
      exact ⟨_, E, rfl, HS3.out, HX.out⟩
    · rw [decide_eq_false h4]
      have HX := Lib.hid (fun V => (HDC.out.2 y hf).2 V (by rw [← hcn]; exact h4))
      obtain ⟨ho, h5⟩ := eps_any h3
      obtain ⟨hyk, hym, hp⟩ := find_perm ho.nodup hf
      have h6 := area_out (area_perm hp (h5.get 1))
      obtain ⟨bs, hbs, h7⟩ := row_any h6
      obtain ⟨m, h8⟩ := ends_any (h7.get 3)
      obtain ⟨A1, c1, hv, hc1, hm1⟩ : ∃ A1 c1, y.v = .slice A1 y.ms.length c1 ∧ y.ms.length ≤ c1 ∧ c1 ≤ maxLen := row_form h6
      have hnv : cntE E b1 = y.ms.length := hcn
      have hlk : lookM (E.map ent) (kA b1) = some y.v := by rw [look_ent, hf]; rfl
      generalize hn4 : y.ms.length = n at *
      have hn : n < 4 := by omega
      rw [hv] at h8 hlk
      have h9 := h8.drewN 1
      have c0 : w3.drew.cell? ⟨e, 0, none⟩ = some (.map (some m)) := cell_of_block h8.drew.bk_at 0
      have hbx := (h8.get 5).drew
      have k0 : w3.drew.cell? ⟨w.heap.size, 0, none⟩ = some (.int .i64 b0) := cell_of_block hbx.bk_at 0
      have k1 : w3.drew.cell? ⟨w.heap.size, 1, none⟩ = some (.int .i64 b1) := cell_of_block hbx.bk_at 1
      have k2 : w3.drew.cell? ⟨w.heap.size, 2, none⟩ = some (.int .i64 b2) := cell_of_block hbx.bk_at 2
      have k3 : w3.drew.cell? ⟨w.heap.size, 3, none⟩ = some (.slice A nl c) := cell_of_block hbx.bk_at 3
      have HS := Lib.hid (h8.drew)
      have HLK := Lib.hid (fun (wx : World) (F : List Rg) (h : St P0 w0 wx (mp 3 m (E.map ent) :: F)) => mp_get h klawI Try.underlying83 (zrow wx) HK.out)
      rw [hlk] at HLK
      simp only [Option.getD_some] at HLK
      have hl1 := HLK.out _ _ (HS.out.get 1)
      have HUD := Lib.hid (HU3.out.drew)
      have HE : Hid (Oke E ∧ E.Perm (y :: delE E b1) ∧ y.k = b1 ∧ y.ms.length = n ∧ bs.length = n ∧ findE E b1 = some y) := Lib.hid ⟨ho, hp, hyk, hn4, hbs, hf⟩
      have HML : Hid ((E.map ent).length < maxLen) := Lib.hid (by rw [List.length_map]; have := ho.len; unfold maxLen; omega)
      obtain ⟨t0, ht0, hz0, hz1, hz2⟩ := info_of' info88
      clear h3 h5 h6 h7 h8 h9 hbx hlk hv ho hyk hym hp hnv hcn hf h4 hbs hn4 HU3
      go_wp2_with fail
      go_region_held3 (fun wx => wx.cell? ⟨e, 0, none⟩ = some (.map (some m)) ∧ wx.cell? ⟨w.heap.size, 0, none⟩ = some (.int .i64 b0) ∧ wx.cell? ⟨w.heap.size, 1, none⟩ = some (.int .i64 b1) ∧ wx.cell? ⟨w.heap.size, 2, none⟩ = some (.int .i64 b2) ∧ wx.cell? ⟨w.heap.size, 3, none⟩ = some (.slice A nl c)) (first | exact ⟨c0, k0, k1, k2, k3⟩ | exact ⟨d0, d2, d1, d3, d4⟩ | exact ⟨r0, r2, r1, r3, r4⟩ | exact ⟨z0, z1, z2, z3, z4⟩ | go_keep) (first
        | (refine St.step_append 88 t0 (.agg #[.int .i64 0, .int .i64 0, .int .i64 0, .slice none 0 0]) 4 48 HS2.out (by rfl) _ _ 91 (by rfl) Try.underlying91 ht0 hz0 hz1 hz2 (by rfl) (by decide) (by rfl) (some ⟨w4.heap.size, 0, none⟩) 1 1 [.int .i64 b0, .int .i64 b1, .int .i64 b2, .slice A' nl c'] (by rfl) HRD.out (by unfold maxLen; omega) (by omega) ?_; intro A4 c4 w5 hst hsz; obtain ⟨wu, hu1, hu2, -⟩ := mp_store (v := .slice A4 (n + 1) c4) (hst.get 4) klawI Try.underlying83 HML.out HK.out; have HS4 := Lib.hid hu2; have z0 : wu.cell? ⟨e, 0, none⟩ = some (.map (some m)) := cell_of_block (hu2.get 4).bk_at 0; have z1 : wu.cell? ⟨w.heap.size, 0, none⟩ = some (.int .i64 b0) := cell_of_block (hu2.get 7).bk_at 0; have z2 : wu.cell? ⟨w.heap.size, 1, none⟩ = some (.int .i64 b1) := cell_of_block (hu2.get 7).bk_at 1; have z3 : wu.cell? ⟨w.heap.size, 2, none⟩ = some (.int .i64 b2) := cell_of_block (hu2.get 7).bk_at 2; have z4 : wu.cell? ⟨w.heap.size, 3, none⟩ = some (.slice A nl c) := cell_of_block (hu2.get 7).bk_at 3; have r0 : w5.cell? ⟨e, 0, none⟩ = some (.map (some m)) := cell_of_block (hst.get 3).bk_at 0; have r2 : w5.cell? ⟨w.heap.size, 0, none⟩ = some (.int .i64 b0) := cell_of_block (hst.get 7).bk_at 0; have r3 : w5.cell? ⟨w.heap.size, 2, none⟩ = some (.int .i64 b2) := cell_of_block (hst.get 7).bk_at 2; have r4 : w5.cell? ⟨w.heap.size, 3, none⟩ = some (.slice A nl c) := cell_of_block (hst.get 7).bk_at 3; have r1 : w5.cell? ⟨w.heap.size, 1, none⟩ = some (.int .i64 b1) := cell_of_block (hst.get 7).bk_at 1; clear hst hsz hu2)
        | (go_at_call 57; refine (HOW.out _ HUD.out).mono ?_; rintro x w4 ⟨A', c', rfl, hs⟩; have h9 := (St.of_new HS.out hs).1; have d0 : w4.cell? ⟨e, 0, none⟩ = some (.map (some m)) := cell_of_block (h9.get 1).bk_at 0; have d1 : w4.cell? ⟨w.heap.size, 1, none⟩ = some (.int .i64 b1) := cell_of_block (h9.get 6).bk_at 1; have d2 : w4.cell? ⟨w.heap.size, 0, none⟩ = some (.int .i64 b0) := cell_of_block (h9.get 6).bk_at 0; have d3 : w4.cell? ⟨w.heap.size, 2, none⟩ = some (.int .i64 b2) := cell_of_block (h9.get 6).bk_at 2; have d4 : w4.cell? ⟨w.heap.size, 3, none⟩ = some (.slice A nl c) := cell_of_block (h9.get 6).bk_at 3; have n0 := World.new_ne w4 _ d0; have n1 := World.new_ne w4 _ d1; have l0 := World.block_lt_of_cell? w4 _ d0; have l1 := World.block_lt_of_cell? w4 _ d1; have hl4 := HLK.out _ _ (h9.get 2); have h10 := h9.alloc #[.int .i64 b0, .int .i64 b1, .int .i64 b2, .slice A' nl c'] 88; have hl5 := HLK.out _ _ (h10.get 3); have HS2 := Lib.hid (h10.get 4); have HRD := Lib.hid (Rd.of_block (sz := 4) (m := 1) h10.bk_at rfl (by simp [Value.oneCell'])); clear h9 h10 hs))
      all_goals
        have HEPS := Lib.hid (deliver_shut HE.out.1 HE.out.2.1 HE.out.2.2.1 HE.out.2.2.2.1 HE.out.2.2.2.2.1 hn HNL.out HS4.out)
        go_wp2_with fail
        go_ret
        exact ⟨_, _, rfl, HEPS.out, HX.out _⟩
theorem Deliver_x (h : St P0 w0 w (ep e L :: F)) (b0 b1 b2 : Int) {A : Option Addr} {c : Nat} {l : List Int} (hr : Kd.C (Kd.int .i64) w A l.length l) (hc : l.length ≤ c) (hb : l.length ≤ 1000) (wa : (Lit.int .i64 b1).wf = true) :
    Calls Try.prog 39 #[.pointer (some ⟨e, 0, none⟩), .agg #[.int .i64 b0, .int .i64 b1, .int .i64 b2, .slice A l.length c]] w fun x w' =>
      x = .returned (.int .i64 (delivL L ⟨b0, b1, b2, l⟩).2) ∧ St P0 w0 w' (ep e (delivL L ⟨b0, b1, b2, l⟩).1 :: F) := by
  obtain ⟨E, rfl, h1⟩ := ep_any h
  refine (Deliver_e h1 b0 b1 b2 hr hc hb wa).mono ?_
  rintro x w' ⟨f, E', rfl, hs, hd⟩
  rw [hd]
  exact ⟨rfl, ep_shut rfl hs⟩
end
end Go.Proofs.Ytdhgmnnkbjhpaaa.Epx

/- Take, told exactly; written by mkeq.py. -/
namespace Go.Proofs.Ytdhgmnnkbjhpaaa.Epx
set_option linter.unusedVariables false
set_option linter.unusedSimpArgs false
open Go.RowKit Go.Proofs.Ytdhgmnnkbjhpaaa.Sep Go.Proofs.Ytdhgmnnkbjhpaaa.Mp Go.Proofs.Ytdhgmnnkbjhpaaa.Given Go.Proofs.YtdhgmnnkbjhpaaaW.PrintWords Go.Proofs.Ytdhgmnnkbjhpaaa.Eps
open Go.Maps (Keyed)
section
variable {P0 : Nat → Prop} {w0 w w' : World} {F : List Rg} {e : Nat} {L : List EL} {E : List EP}
theorem take_cases (E : List EP) (b1 : Int) : (findE E b1 = none → takeL (E.map pl) b1 = (E.map pl, m0, 4)) ∧
    (∀ y, findE E b1 = some y → (y.ms = [] → takeL (E.map pl) b1 = (E.map pl, m0, 6)) ∧ (∀ q ms, y.ms = q :: ms → ∀ V, takeL (E.map pl) b1 = ((putE E ⟨b1, V, ms⟩).map pl, q, 0))) := by
  unfold takeL
  rw [find_pl]
  refine ⟨fun hf => by rw [hf]; rfl, fun y hf => ⟨fun hm => by rw [hf]; dsimp only [Option.map]; rw [hm], fun q ms hm V => ?_⟩⟩
  rw [hf]
  dsimp only [Option.map]
  rw [hm, ← put_pl]
theorem nil_words (h : St P0 w0 w (eps e E :: F)) : St P0 w0 w (eps e E :: mpf m0 (none, 0) :: F) :=
  (St.fresh (M := [mpf m0 (none, 0)]) h (Up.refl _) ⟨No, No, fun _ e => e.elim, fun _ e => e.elim, fun _ e => e.elim, slc_nil _ _ _ _, trivial⟩).get 1
theorem take_mid {A : Rg} {M F : List Rg} (h : St P0 w0 w (A :: (M ++ F))) : St P0 w0 w (M ++ (A :: F)) := h.perm List.perm_middle.symm
theorem take_shutx {y : EP} {b : Option Addr × Nat} {bs : List (Option Addr × Nat)} {q : MS} {ms : List MS} {V : Value} {b1 : Int} {m : Nat} (ho : Oke E) (hp : E.Perm (y :: delE E b1)) (hk : y.k = b1) (hq : y.ms = q :: ms) (hbs : bs.length = ms.length)
    (h : St P0 w0 w (mp 3 m (putM (E.map ent) (kA b1) V) :: slc 88 4 V ms.length (rcs mcf ms bs) :: bk e 85 #[.map (some m)] :: big (rps mpf (q :: ms) (b :: bs)) :: big ((delE E b1).map prt) :: F)) :
    St P0 w0 w (eps e (putE E ⟨b1, V, ms⟩) :: mpf q b :: F) := by
  have h1 : St P0 w0 w (mpf q b :: (rps mpf ms bs ++ (slc 88 4 V ms.length (rcs mcf ms bs) :: mp 3 m _ :: bk e 85 _ :: big ((delE E b1).map prt) :: F))) := (((h.get 1).get 3)).big_open
  have h2 : St P0 w0 w (slc 88 4 V ms.length (rcs mcf ms bs) :: big (rps mpf ms bs) :: mpf q b :: mp 3 m _ :: bk e 85 _ :: big ((delE E b1).map prt) :: F) := (St.big_shut (take_mid h1)).get 2
  have h3 : St P0 w0 w (prt ⟨b1, V, ms⟩ :: mpf q b :: mp 3 m _ :: bk e 85 _ :: big ((delE E b1).map prt) :: F) := row_shut hbs h2
  have h4' : St P0 w0 w (prt ⟨b1, V, ms⟩ :: big ((delE E b1).map prt) :: mpf q b :: mp 3 m _ :: bk e 85 _ :: F) := (h3.get 4).get 1
  have hq' := put_perm E ⟨b1, V, ms⟩
  have h5 := area_perm hq'.symm (area_in h4')
  have h6 : St P0 w0 w (bk e 85 _ :: mp 3 m _ :: big _ :: mpf q b :: F) := (h5.get 2).get 3
  have h7 := ends_shut h6
  rw [show putM (E.map ent) (kA b1) V = (putE E ⟨b1, V, ms⟩).map ent from put_ent E ⟨b1, V, ms⟩] at h7
  refine eps_shut (oke_put ho _ ?_ ?_) h7
  · have := hp.length_eq
    have := ho.len
    simp only [List.length_cons] at *
    omega
  · have := ho.few y (hp.mem_iff.2 (.head _))
    rw [hq] at this
    simp only [List.length_cons] at this
    show ms.length ≤ 4
    omega
set_option maxHeartbeats 16000000 in
set_option maxRecDepth 100000 in
theorem Take_e (h : St P0 w0 w (eps e E :: F)) (b1 : Int) (wa : (Lit.int .i64 b1).wf = true) :
    Calls Try.prog 40 #[.pointer (some ⟨e, 0, none⟩), .int .i64 b1] w fun x w' =>
      ∃ m A c f E', x = .returned (.tuple #[mval m.a0 m.a1 m.a2 A m.b.length c, .int .i64 f]) ∧ St P0 w0 w' (eps e E' :: mpf m (A, c) :: F) ∧ takeL (E.map pl) b1 = (E'.map pl, m, f) := by
  have HTC := Lib.hid (take_cases E b1)
  have h0 : St P0 w0 _ (eps e E :: bk w.heap.size 88 #[.int .i64 0, .int .i64 0, .int .i64 0, .slice none 0 0] :: F) := (h.alloc #[.int .i64 0, .int .i64 0, .int .i64 0, .slice none 0 0] 88).get 1
  have HS0 := Lib.hid h0
  have HW := Lib.hid (wrong_q h0 b1 wa)
  have HK := Lib.hid (kofI wa)
  clear h h0
  cases hf : findE E b1 with
  | none =>
    have HX := Lib.hid (HTC.out.1 hf)
    rw [hf] at HW
    simp only [Option.isSome_none, Bool.false_eq_true, if_false] at HW
    go_enter Try.func40, Try.ntmps40
    go_wp2_with fail
    refine HW.out.mono ?_
    rintro x w1 ⟨rfl, hu⟩
    have h1 := HS0.out.more hu
    have hb := h1.get 1
    have p0 : w1.cell? ⟨w.heap.size, 0, none⟩ = some (.int .i64 0) := cell_of_block hb.bk_at 0
    have p1 : w1.cell? ⟨w.heap.size, 1, none⟩ = some (.int .i64 0) := cell_of_block hb.bk_at 1
    have p2 : w1.cell? ⟨w.heap.size, 2, none⟩ = some (.int .i64 0) := cell_of_block hb.bk_at 2
    have p3 : w1.cell? ⟨w.heap.size, 3, none⟩ = some (.slice none 0 0) := cell_of_block hb.bk_at 3
    have f0 : w1.frozen? ⟨w.heap.size, 0, none⟩ = false := free_of_block hb.bk_at 0
    have f1 : w1.frozen? ⟨w.heap.size, 1, none⟩ = false := free_of_block hb.bk_at 1
    have f2 : w1.frozen? ⟨w.heap.size, 2, none⟩ = false := free_of_block hb.bk_at 2
    have f3 : w1.frozen? ⟨w.heap.size, 3, none⟩ = false := free_of_block hb.bk_at 3
    have HS1 := Lib.hid h1
    clear h1 hb hu hf HW HS0
    go_wp2_with fail
    (try simp only [Exit.inBlock, Exit.then])
    refine bodyPost_ret (v := .tuple #[mval 0 0 0 none 0 0, .int .i64 4]) ?_ rfl ?_
    · rw [results_cell_tmp (fn := Try.f40) rfl]
      go_simp
    · exact ⟨m0, none, 0, 4, E, rfl, nil_words ((((((HS1.out.get 1).set 0 (.int .i64 0)).set 1 (.int .i64 0)).set 2 (.int .i64 0)).set 3 (.slice none 0 0)).drop), HX.out⟩
  | some y =>
    rw [hf] at HW
    simp only [Option.isSome_some, if_true] at HW
    go_enter Try.func40, Try.ntmps40
    go_wp2_with fail
    refine HW.out.mono ?_
    rintro x w1 ⟨rfl, hu⟩
    have h1 := HS0.out.more hu
    have hb := h1.get 1
    have p0 : w1.cell? ⟨w.heap.size, 0, none⟩ = some (.int .i64 0) := cell_of_block hb.bk_at 0
    have p1 : w1.cell? ⟨w.heap.size, 1, none⟩ = some (.int .i64 0) := cell_of_block hb.bk_at 1
    have p2 : w1.cell? ⟨w.heap.size, 2, none⟩ = some (.int .i64 0) := cell_of_block hb.bk_at 2
    have p3 : w1.cell? ⟨w.heap.size, 3, none⟩ = some (.slice none 0 0) := cell_of_block hb.bk_at 3
    have f0 : w1.frozen? ⟨w.heap.size, 0, none⟩ = false := free_of_block hb.bk_at 0
    have f1 : w1.frozen? ⟨w.heap.size, 1, none⟩ = false := free_of_block hb.bk_at 1
    have f2 : w1.frozen? ⟨w.heap.size, 2, none⟩ = false := free_of_block hb.bk_at 2
    have f3 : w1.frozen? ⟨w.heap.size, 3, none⟩ = false := free_of_block hb.bk_at 3
    obtain ⟨ho, h5⟩ := eps_any h1
    obtain ⟨hyk, hym, hp⟩ := find_perm ho.nodup hf
    have h6 := area_out (area_perm hp (h5.get 1))
    obtain ⟨A1, c1, hv, hc1, hm1⟩ : ∃ A1 c1, y.v = .slice A1 y.ms.length c1 ∧ y.ms.length ≤ c1 ∧ c1 ≤ maxLen := row_form h6
    obtain ⟨bs, hbs, h7⟩ := row_any h6
    obtain ⟨m, h8⟩ := ends_any (h7.get 3)
    have c0 : w1.cell? ⟨e, 0, none⟩ = some (.map (some m)) := cell_of_block h8.bk_at 0
    have hlk : lookM (E.map ent) (kA b1) = some y.v := by rw [look_ent, hf]; rfl
    have hl := mp_get (h8.get 1) klawI Try.underlying83 (zrow w1) HK.out
    rw [hlk, hv] at hl
    simp only [Option.getD_some] at hl
    have HE : Hid (Oke E ∧ E.Perm (y :: delE E b1) ∧ y.k = b1) := Lib.hid ⟨ho, hp, hyk⟩
    have HF := Lib.hid hf
    have HT2 := Lib.hid (HTC.out.2 y hf)
    cases hms : y.ms with
    | nil =>
      rw [hms] at hl
      simp only [List.length_nil] at hl
      have HX := Lib.hid (HT2.out.1 hms)
      have HS1 := Lib.hid h1
      clear h1 hb hu hf HW HS0 h5 h6 h7 h8 hlk hv ho hp hyk hym hbs hms hc1 hm1
      go_wp2_with fail
      (try simp only [Exit.inBlock, Exit.then])
      refine bodyPost_ret (v := .tuple #[mval 0 0 0 none 0 0, .int .i64 6]) ?_ rfl ?_
      · rw [results_cell_tmp (fn := Try.f40) rfl]
        go_simp
      · exact ⟨m0, none, 0, 6, E, rfl, nil_words ((((((HS1.out.get 1).set 0 (.int .i64 0)).set 1 (.int .i64 0)).set 2 (.int .i64 0)).set 3 (.slice none 0 0)).drop), HX.out⟩
    | cons q ms =>
      cases bs with
      | nil => rw [hms] at hbs; simp at hbs
      | cons b bs =>
      rw [hv, hms] at h8
      have HX := Lib.hid (fun V => HT2.out.2 q ms hms V)
      have hst1 := (h8.get 1).drew
      obtain ⟨P, ⟨Q, Q2, _, _, _, hX1, _⟩, _⟩ := St.step (L := [slc 88 4 (.slice A1 (q :: ms).length c1) (q :: ms).length (rcs mcf (q :: ms) (b :: bs))]) (hst1.get 2)
      obtain ⟨t0, ht0, hz0, hz1, hz2⟩ := info_of' info88
      obtain ⟨A', hrun, -⟩ := slc_drop Try.underlying91 ht0 hz1 hX1 1 (by simp) (by have := ho.few y hym; rw [hms] at this; omega)
      obtain ⟨wu, hu1, hu2, -⟩ := mp_store (v := .slice A' ((q :: ms).length - 1) (c1 - 1)) hst1 klawI Try.underlying83 (by rw [List.length_map]; have := ho.len; unfold maxLen; omega) HK.out
      have hln : (q :: ms).length - 1 = ms.length := by simp
      rw [hln] at hu1 hu2 hrun
      have z0 : wu.cell? ⟨e, 0, none⟩ = some (.map (some m)) := cell_of_block (hu2.get 1).bk_at 0
      have hbr := hu2.get 5
      have r0 : wu.cell? ⟨w.heap.size, 0, none⟩ = some (.int .i64 0) := cell_of_block hbr.bk_at 0
      have r1 : wu.cell? ⟨w.heap.size, 1, none⟩ = some (.int .i64 0) := cell_of_block hbr.bk_at 1
      have r2 : wu.cell? ⟨w.heap.size, 2, none⟩ = some (.int .i64 0) := cell_of_block hbr.bk_at 2
      have r3 : wu.cell? ⟨w.heap.size, 3, none⟩ = some (.slice none 0 0) := cell_of_block hbr.bk_at 3
      have u0 : wu.frozen? ⟨w.heap.size, 0, none⟩ = false := free_of_block hbr.bk_at 0
      have u1 : wu.frozen? ⟨w.heap.size, 1, none⟩ = false := free_of_block hbr.bk_at 1
      have u2 : wu.frozen? ⟨w.heap.size, 2, none⟩ = false := free_of_block hbr.bk_at 2
      have u3 : wu.frozen? ⟨w.heap.size, 3, none⟩ = false := free_of_block hbr.bk_at 3
      obtain ⟨P', ⟨Q', Q2', _, _, _, hX2, _⟩, _⟩ := St.step (L := [slc 88 4 (.slice A1 (q :: ms).length c1) (q :: ms).length (rcs mcf (q :: ms) (b :: bs))]) (hu2.get 2)
      obtain ⟨g, o, hA, _, _, _, hcel, _⟩ := slc_cells hX2 (by simp)
      subst hA
      have k0 : wu.cell? ⟨g, o, none⟩ = some (.int .i64 q.a0) := hcel 0 _ rfl
      have k1 : wu.cell? ⟨g, o + 1, none⟩ = some (.int .i64 q.a1) := hcel 1 _ rfl
      have k2 : wu.cell? ⟨g, o + 2, none⟩ = some (.int .i64 q.a2) := hcel 2 _ rfl
      have k3 : wu.cell? ⟨g, o + 3, none⟩ = some (.slice b.1 q.b.length b.2) := hcel 3 _ rfl
      have HS4 := Lib.hid hu2
      have hlm : (q :: ms).length = ms.length + 1 := rfl
      rw [hms, hlm] at hl
      rw [hlm] at hrun
      have hr1 : ∀ W : World, (Instr.slice 91 (.slice (some ⟨g, o, none⟩) (ms.length + 1) c1) (some (.int .i64 1)) none none).run Try.prog W = .ok (.slice A' ms.length (c1 - 1)) W := hrun
      have c0d : w1.drew.cell? ⟨e, 0, none⟩ = some (.map (some m)) := cell_of_block (hst1.get 1).bk_at 0
      have HR := Lib.hid hr1
      have HBS : Hid (bs.length = ms.length) := Lib.hid (by have := hbs; rw [hms] at this; simpa using this)
      have HMS := Lib.hid hms
      have HC1 : Hid ((q :: ms).length ≤ c1 ∧ ms.length ≤ 4) := Lib.hid ⟨by rw [← hms]; exact hc1, by have := ho.few y hym; rw [hms] at this; simp only [List.length_cons] at this; omega⟩
      generalize hnn : ms.length = n at *
      have HNN := Lib.hid hnn
      clear hnn
      clear h1 hb hu hf HW HS0 h5 h6 h7 h8 hlk hv ho hp hyk hym hbs hms hc1 hm1 hst1 hX1 hrun hu2 hbr hX2 hcel hlm hln
      go_wp2_with fail
      go_region_held3 (fun wx => wx.cell? ⟨e, 0, none⟩ = some (.map (some m))) (first | exact c0d | exact z0 | go_keep) (fail)
      all_goals
        go_wp2_with fail
        (try simp only [Exit.inBlock, Exit.then])
        refine bodyPost_ret (v := .tuple #[mval q.a0 q.a1 q.a2 b.1 q.b.length b.2, .int .i64 0]) ?_ rfl ?_
        · rw [results_cell_tmp (fn := Try.f40) rfl]
          go_simp
        · have h9 := (((((HS4.out.get 5).set 0 (.int .i64 q.a0)).set 1 (.int .i64 q.a1)).set 2 (.int .i64 q.a2)).set 3 (.slice b.1 q.b.length b.2)).drop
          obtain ⟨hfr, Qa, Ra, hqa, hra, hda, hX, hLa⟩ := h9.get 2
          obtain ⟨A3, hrun2, hX3⟩ := slc_drop Try.underlying91 ht0 hz1 hX 1 (by simp) (by have := HC1.out.2; have := HNN.out; simp only [List.length_cons]; omega)
          have hNN := HNN.out
          subst hNN
          have e0 : (Instr.slice 91 (.slice (some ⟨g, o, none⟩) (ms.length + 1) c1) (some (.int .i64 1)) none none).run Try.prog w1 = .ok (.slice A3 ((q :: ms).length - 1) (c1 - 1)) w1 := hrun2 w1
          have e1 := e0.symm.trans (HR.out w1)
          injection e1 with e2 e3
          injection e2 with e4 e5 e6
          subst e4
          have h10 : St P0 w0 _ (slc 88 4 (.slice A3 ms.length (c1 - 1)) ms.length (rcs mcf ms bs) :: _) := ⟨hfr, Qa, Ra, hqa, hra, hda, hX3, hLa⟩
          exact ⟨q, _, _, _, _, rfl, take_shutx HE.out.1 HE.out.2.1 HE.out.2.2 HMS.out HBS.out (h10.get 1), HX.out _⟩
theorem Take_x (h : St P0 w0 w (ep e L :: F)) (b1 : Int) (wa : (Lit.int .i64 b1).wf = true) :
    Calls Try.prog 40 #[.pointer (some ⟨e, 0, none⟩), .int .i64 b1] w fun x w' => ∃ A c,
      x = .returned (.tuple #[mval (takeL L b1).2.1.a0 (takeL L b1).2.1.a1 (takeL L b1).2.1.a2 A (takeL L b1).2.1.b.length c, .int .i64 (takeL L b1).2.2]) ∧ St P0 w0 w' (ep e (takeL L b1).1 :: mpf (takeL L b1).2.1 (A, c) :: F) := by
  obtain ⟨E, rfl, h1⟩ := ep_any h
  refine (Take_e h1 b1 wa).mono ?_
  rintro x w' ⟨m, A, c, f, E', rfl, hs, hd⟩
  rw [hd]
  exact ⟨A, c, rfl, ep_shut rfl hs⟩
end
end Go.Proofs.Ytdhgmnnkbjhpaaa.Epx

/- do of the laws of endpoints, told exactly; written by mkeq.py. -/
namespace Go.Proofs.Ytdhgmnnkbjhpaaa.Epx
set_option linter.unusedVariables false
set_option linter.unusedSimpArgs false
open Go.RowKit Go.Proofs.Ytdhgmnnkbjhpaaa.Sep Go.Proofs.Ytdhgmnnkbjhpaaa.Mp Go.Proofs.Ytdhgmnnkbjhpaaa.Given Go.Proofs.YtdhgmnnkbjhpaaaW.PrintWords Go.Proofs.Ytdhgmnnkbjhpaaa.Eps
def DoX (P0 : Nat → Prop) (w0 : World) (F : List Rg) (e : Nat) (r : List EL × Int × MS × Int) (x : Ending) (w' : World) : Prop := ∃ A c, x = .returned (.tuple #[.int .i64 r.2.1, mval r.2.2.1.a0 r.2.2.1.a1 r.2.2.1.a2 A r.2.2.1.b.length c, .int .i64 r.2.2.2]) ∧ St P0 w0 w' (ep e r.1 :: mpf r.2.2.1 (A, c) :: F)
section
variable {P0 : Nat → Prop} {w0 w w' : World} {F : List Rg} {e : Nat} {L : List EL}
theorem nil_wordsx (h : St P0 w0 w (ep e L :: F)) : St P0 w0 w (ep e L :: mpf m0 (none, 0) :: F) :=
  (St.fresh (M := [mpf m0 (none, 0)]) h (Up.refl _) ⟨No, No, fun _ e => e.elim, fun _ e => e.elim, fun _ e => e.elim, slc_nil _ _ _ _, trivial⟩).get 1
theorem doL0 (L : List EL) (a : Int) (m : MS) : doL L 0 a m = ((openL L a).1, (openL L a).2.1, m0, (openL L a).2.2) := if_pos rfl
theorem doL1 (L : List EL) (a : Int) (m : MS) : doL L 1 a m = ((closeL L a).1, 0, m0, (closeL L a).2) := by
  unfold doL
  rw [if_neg (by decide), if_pos rfl]
theorem doL2 (L : List EL) (a : Int) (m : MS) : doL L 2 a m = ((delivL L m).1, 0, m0, (delivL L m).2) := by
  unfold doL
  rw [if_neg (by decide), if_neg (by decide), if_pos rfl]
theorem doL3 (L : List EL) {k : Int} (a : Int) (m : MS) (h0 : k ≠ 0) (h1 : k ≠ 1) (h2 : k ≠ 2) : doL L k a m = ((takeL L a).1, 0, (takeL L a).2.1, (takeL L a).2.2) := by
  unfold doL
  rw [if_neg h0, if_neg h1, if_neg h2]
set_option maxHeartbeats 16000000 in
set_option maxRecDepth 100000 in
theorem do_x (h : St P0 w0 w (ep e L :: F)) (k a b0 b1 b2 : Int) {A : Option Addr} {c : Nat} {l : List Int} (hr : Kd.C (Kd.int .i64) w A l.length l) (hc : l.length ≤ c) (hb : l.length ≤ 1000) (wa : (Lit.int .i64 a).wf = true) (wb : (Lit.int .i64 b1).wf = true) :
    Calls Try.prog 15 #[.pointer (some ⟨e, 0, none⟩), .agg #[.int .i64 k, .int .i64 a, .int .i64 b0, .int .i64 b1, .int .i64 b2, .slice A l.length c]] w fun x w' =>
      DoX P0 w0 F e (doL L k a ⟨b0, b1, b2, l⟩) x w' := by
  have h0 := (h.allocU (.cells #[.int .i64 k, .int .i64 a, .int .i64 b0, .int .i64 b1, .int .i64 b2, .slice A l.length c] 32)).alloc #[.int .i64 0, .int .i64 0, .int .i64 0, .slice none 0 0] 30
  rw [World.size_alloc] at h0
  have h2 := h0.get 1
  have hu := ((Up.refl w).alloc (.cells #[.int .i64 k, .int .i64 a, .int .i64 b0, .int .i64 b1, .int .i64 b2, .slice A l.length c] 32)).alloc (.cells #[.int .i64 0, .int .i64 0, .int .i64 0, .slice none 0 0] 30)
  have HO := Lib.hid (Open_x h2 a wa)
  have HC := Lib.hid (Close_x h2 a wa)
  have HD := Lib.hid (Deliver_x h2 b0 b1 b2 (Kd.C_below hr hu) hc hb wb)
  have HT := Lib.hid (Take_x h2 a wa)
  generalize l.length = nl at *
  clear h h0 h2 hu hr hc hb
  have HD0 := Lib.hid (doL0 L a ⟨b0, b1, b2, l⟩)
  have HD1 := Lib.hid (doL1 L a ⟨b0, b1, b2, l⟩)
  have HD2 := Lib.hid (doL2 L a ⟨b0, b1, b2, l⟩)
  have HD3 := Lib.hid (fun h0 h1 h2 => doL3 L (k := k) a ⟨b0, b1, b2, l⟩ h0 h1 h2)
  rcases (by omega : k = 0 ∨ k = 1 ∨ k = 2 ∨ (k ≠ 0 ∧ k ≠ 1 ∧ k ≠ 2)) with rfl | rfl | rfl | ⟨h0, h1, h2⟩
  · rw [HD0.out]
    generalize openL L a = r at *
    obtain ⟨L', a', f⟩ := r
    dsimp only at *
    clear HD0 HD1 HD2 HD3
    go_enter Try.func15, Try.ntmps15
    go_wp2_with fail
    refine HO.out.mono ?_
    rintro x w1 ⟨rfl, h1⟩
    have hb := h1.get 1
    have p0 : w1.cell? ⟨w.heap.size + 1, 0, none⟩ = some (.int .i64 0) := cell_of_block hb.bk_at 0
    have p1 : w1.cell? ⟨w.heap.size + 1, 1, none⟩ = some (.int .i64 0) := cell_of_block hb.bk_at 1
    have p2 : w1.cell? ⟨w.heap.size + 1, 2, none⟩ = some (.int .i64 0) := cell_of_block hb.bk_at 2
    have p3 : w1.cell? ⟨w.heap.size + 1, 3, none⟩ = some (.slice none 0 0) := cell_of_block hb.bk_at 3
    have f0 : w1.frozen? ⟨w.heap.size + 1, 0, none⟩ = false := free_of_block hb.bk_at 0
    have f1 : w1.frozen? ⟨w.heap.size + 1, 1, none⟩ = false := free_of_block hb.bk_at 1
    have f2 : w1.frozen? ⟨w.heap.size + 1, 2, none⟩ = false := free_of_block hb.bk_at 2
    have f3 : w1.frozen? ⟨w.heap.size + 1, 3, none⟩ = false := free_of_block hb.bk_at 3
    have HS1 := Lib.hid hb
    clear hb h1
    go_wp2_with fail
    (try simp only [Exit.inBlock, Exit.then])
    refine bodyPost_ret (v := .tuple #[.int .i64 a', mval 0 0 0 none 0 0, .int .i64 f]) ?_ rfl ?_
    · rw [results_tct (fn := Try.f15) rfl]
      go_simp
    · unfold DoX
      exact ⟨none, 0, rfl, nil_wordsx (((((HS1.out.set 0 (.int .i64 0)).set 1 (.int .i64 0)).set 2 (.int .i64 0)).set 3 (.slice none 0 0)).drop)⟩
  · rw [HD1.out]
    generalize closeL L a = r at *
    obtain ⟨L', f⟩ := r
    dsimp only at *
    clear HD0 HD1 HD2 HD3
    go_enter Try.func15, Try.ntmps15
    go_wp2_with fail
    refine HC.out.mono ?_
    rintro x w1 ⟨rfl, h1⟩
    have hb := h1.get 1
    have p0 : w1.cell? ⟨w.heap.size + 1, 0, none⟩ = some (.int .i64 0) := cell_of_block hb.bk_at 0
    have p1 : w1.cell? ⟨w.heap.size + 1, 1, none⟩ = some (.int .i64 0) := cell_of_block hb.bk_at 1
    have p2 : w1.cell? ⟨w.heap.size + 1, 2, none⟩ = some (.int .i64 0) := cell_of_block hb.bk_at 2
    have p3 : w1.cell? ⟨w.heap.size + 1, 3, none⟩ = some (.slice none 0 0) := cell_of_block hb.bk_at 3
    have f0 : w1.frozen? ⟨w.heap.size + 1, 0, none⟩ = false := free_of_block hb.bk_at 0
    have f1 : w1.frozen? ⟨w.heap.size + 1, 1, none⟩ = false := free_of_block hb.bk_at 1
    have f2 : w1.frozen? ⟨w.heap.size + 1, 2, none⟩ = false := free_of_block hb.bk_at 2
    have f3 : w1.frozen? ⟨w.heap.size + 1, 3, none⟩ = false := free_of_block hb.bk_at 3
    have HS1 := Lib.hid hb
    clear hb h1
    go_wp2_with fail
    (try simp only [Exit.inBlock, Exit.then])
    refine bodyPost_ret (v := .tuple #[.int .i64 0, mval 0 0 0 none 0 0, .int .i64 f]) ?_ rfl ?_
    · rw [results_tct (fn := Try.f15) rfl]
      go_simp
    · unfold DoX
      exact ⟨none, 0, rfl, nil_wordsx (((((HS1.out.set 0 (.int .i64 0)).set 1 (.int .i64 0)).set 2 (.int .i64 0)).set 3 (.slice none 0 0)).drop)⟩
  · rw [HD2.out]
    generalize delivL L _ = r at *
    obtain ⟨L', f⟩ := r
    dsimp only at *
    clear HD0 HD1 HD2 HD3
    go_enter Try.func15, Try.ntmps15
    go_wp2_with fail
    refine HD.out.mono ?_
    rintro x w1 ⟨rfl, h1⟩
    have hb := h1.get 1
    have p0 : w1.cell? ⟨w.heap.size + 1, 0, none⟩ = some (.int .i64 0) := cell_of_block hb.bk_at 0
    have p1 : w1.cell? ⟨w.heap.size + 1, 1, none⟩ = some (.int .i64 0) := cell_of_block hb.bk_at 1
    have p2 : w1.cell? ⟨w.heap.size + 1, 2, none⟩ = some (.int .i64 0) := cell_of_block hb.bk_at 2
    have p3 : w1.cell? ⟨w.heap.size + 1, 3, none⟩ = some (.slice none 0 0) := cell_of_block hb.bk_at 3
    have f0 : w1.frozen? ⟨w.heap.size + 1, 0, none⟩ = false := free_of_block hb.bk_at 0
    have f1 : w1.frozen? ⟨w.heap.size + 1, 1, none⟩ = false := free_of_block hb.bk_at 1
    have f2 : w1.frozen? ⟨w.heap.size + 1, 2, none⟩ = false := free_of_block hb.bk_at 2
    have f3 : w1.frozen? ⟨w.heap.size + 1, 3, none⟩ = false := free_of_block hb.bk_at 3
    have HS1 := Lib.hid hb
    clear hb h1
    go_wp2_with fail
    (try simp only [Exit.inBlock, Exit.then])
    refine bodyPost_ret (v := .tuple #[.int .i64 0, mval 0 0 0 none 0 0, .int .i64 f]) ?_ rfl ?_
    · rw [results_tct (fn := Try.f15) rfl]
      go_simp
    · unfold DoX
      exact ⟨none, 0, rfl, nil_wordsx (((((HS1.out.set 0 (.int .i64 0)).set 1 (.int .i64 0)).set 2 (.int .i64 0)).set 3 (.slice none 0 0)).drop)⟩
  · rw [HD3.out h0 h1 h2]
    generalize takeL L a = r at *
    obtain ⟨L', ⟨a0, a1, a2, l2⟩, f⟩ := r
    dsimp only at *
    obtain ⟨n2, hn2⟩ : ∃ n, l2.length = n := ⟨_, rfl⟩
    rw [hn2] at HT
    have HN2 := Lib.hid hn2
    clear hn2
    have e0 : (k == 0) = false := beq_eq_false_iff_ne.2 h0
    have e1 : (k == 1) = false := beq_eq_false_iff_ne.2 h1
    have e2 : (k == 2) = false := beq_eq_false_iff_ne.2 h2
    clear h0 h1 h2 HD0 HD1 HD2 HD3
    go_enter Try.func15, Try.ntmps15
    go_upto_region 10 with (go_at_call 40; refine HT.out.mono ?_; rintro x w1 ⟨A2, c2, rfl, h1⟩; have hb := h1.get 2; have p0 : w1.cell? ⟨w.heap.size + 1, 0, none⟩ = some (.int .i64 0) := cell_of_block hb.bk_at 0; have p1 : w1.cell? ⟨w.heap.size + 1, 1, none⟩ = some (.int .i64 0) := cell_of_block hb.bk_at 1; have p2 : w1.cell? ⟨w.heap.size + 1, 2, none⟩ = some (.int .i64 0) := cell_of_block hb.bk_at 2; have p3 : w1.cell? ⟨w.heap.size + 1, 3, none⟩ = some (.slice none 0 0) := cell_of_block hb.bk_at 3; have f0 : w1.frozen? ⟨w.heap.size + 1, 0, none⟩ = false := free_of_block hb.bk_at 0; have f1 : w1.frozen? ⟨w.heap.size + 1, 1, none⟩ = false := free_of_block hb.bk_at 1; have f2 : w1.frozen? ⟨w.heap.size + 1, 2, none⟩ = false := free_of_block hb.bk_at 2; have f3 : w1.frozen? ⟨w.heap.size + 1, 3, none⟩ = false := free_of_block hb.bk_at 3; have HS1 := Lib.hid hb; clear hb h1)
    have lp := World.block_lt_of_cell? w1 _ p0
    go_region
    all_goals
      go_wp2
      (try simp only [Exit.inBlock, Exit.then])
      refine bodyPost_ret (v := .tuple #[.int .i64 0, mval a0 a1 a2 A2 n2 c2, .int .i64 f]) ?_ rfl ?_
      · rw [results_tct (fn := Try.f15) rfl]
        go_simp
      · unfold DoX
        have en := HN2.out
        exact ⟨A2, c2, by dsimp only; rw [en], ((((((HS1.out.set 0 (.int .i64 a0)).set 1 (.int .i64 a1)).set 2 (.int .i64 a2)).set 3 (.slice A2 n2 c2)).drop).allocU _).drew⟩
end
end Go.Proofs.Ytdhgmnnkbjhpaaa.Epx
