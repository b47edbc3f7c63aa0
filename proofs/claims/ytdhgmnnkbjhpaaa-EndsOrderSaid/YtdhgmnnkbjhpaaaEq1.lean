/- The endpoints with their messages, exactly: the plain model; Has, Waits, Full, Open, Close. -/
import Derived.Test.YtdhgmnnkbjhpaaaEap6
namespace Go.Proofs.Ytdhgmnnkbjhpaaa.Epx
set_option linter.unusedVariables false
set_option linter.unusedSimpArgs false
open Go.RowKit Go.Proofs.Ytdhgmnnkbjhpaaa.Sep Go.Proofs.Ytdhgmnnkbjhpaaa.Mp Go.Proofs.Ytdhgmnnkbjhpaaa.Given Go.Proofs.Ytdhgmnnkbjhpaaa.Eps
/-! ### 1. Plain -/
structure EL where
  k : Int
  ms : List MS
abbrev pl (x : EP) : EL := ⟨x.k, x.ms⟩
def m0 : MS := ⟨0, 0, 0, []⟩
def findL (L : List EL) (a : Int) : Option EL := L.find? fun x => decide (x.k = a)
def delL (L : List EL) (a : Int) : List EL := L.filter fun x => !decide (x.k = a)
def insL (x : EL) : List EL → List EL
  | [] => [x]
  | y :: r => if x.k < y.k then x :: y :: r else y :: insL x r
def putL (L : List EL) (x : EL) : List EL := insL x (delL L x.k)
def freeN : Nat → Int → List EL → Int
  | 0, a, _ => a
  | k + 1, a, L => if (findL L a).isSome = true then freeN k (a + 1) L else a
def freeL (L : List EL) : Int := freeN 100 16 L
def openL (L : List EL) (a : Int) : List EL × Int × Int :=
  if a < 0 ∨ 65536 ≤ a then (L, 0, 2) else if (findL L a).isSome = true then (L, 0, 16) else if 32 ≤ L.length then (L, 0, 17) else
    (putL L ⟨if a = 0 then freeL L else a, []⟩, if a = 0 then freeL L else a, 0)
def closeL (L : List EL) (a : Int) : List EL × Int := if (findL L a).isSome = true then (delL L a, 0) else (L, 4)
def delivL (L : List EL) (m : MS) : List EL × Int :=
  if hwrong m.a0 m.a1 m.a2 m.b = 0 then match findL L m.a1 with
    | none => (L, 4)
    | some y => if 4 ≤ y.ms.length then (L, 5) else (putL L ⟨m.a1, y.ms ++ [m]⟩, 0)
  else (L, 2)
def takeL (L : List EL) (a : Int) : List EL × MS × Int := match findL L a with
  | none => (L, m0, 4)
  | some y => match y.ms with
    | [] => (L, m0, 6)
    | q :: ms => (putL L ⟨a, ms⟩, q, 0)
def doL (L : List EL) (k a : Int) (m : MS) : List EL × Int × MS × Int :=
  if k = 0 then ((openL L a).1, (openL L a).2.1, m0, (openL L a).2.2) else if k = 1 then ((closeL L a).1, 0, m0, (closeL L a).2) else if k = 2 then ((delivL L m).1, 0, m0, (delivL L m).2) else
    ((takeL L a).1, 0, (takeL L a).2.1, (takeL L a).2.2)
def cntL (L : List EL) (a : Int) : Nat := match findL L a with | none => 0 | some x => x.ms.length
theorem find_pl (E : List EP) (a : Int) : findL (E.map pl) a = (findE E a).map pl := by
  unfold findL findE
  rw [List.find?_map]
  rfl
theorem del_pl (E : List EP) (a : Int) : delL (E.map pl) a = (delE E a).map pl := by
  unfold delL delE
  rw [List.filter_map]
  rfl
theorem ins_pl (x : EP) : ∀ E : List EP, insL (pl x) (E.map pl) = (insE x E).map pl
  | [] => rfl
  | y :: r => by
    simp only [List.map_cons, insL, insE]
    by_cases h : x.k < y.k
    · rw [if_pos h, if_pos h]
      rfl
    · rw [if_neg h, if_neg h, ins_pl x r]
      rfl
theorem put_pl (E : List EP) (x : EP) : putL (E.map pl) (pl x) = (putE E x).map pl := by
  unfold putL putE
  rw [del_pl]
  exact ins_pl x _
theorem cnt_pl (E : List EP) (a : Int) : cntL (E.map pl) a = cntE E a := by
  unfold cntL cntE
  rw [find_pl]
  cases findE E a <;> rfl
theorem some_pl (E : List EP) (a : Int) : (findL (E.map pl) a).isSome = (findE E a).isSome := by rw [find_pl, Option.isSome_map]
theorem freeN_is (L : List EL) : ∀ (k j : Nat) (a : Int), j < k → (∀ i < j, (findL L (a + (i : Int))).isSome = true) → (findL L (a + (j : Int))).isSome = false → freeN k a L = a + (j : Int)
  | 0, j, a, h, _, _ => by omega
  | k + 1, 0, a, _, _, h => by
    simp only [freeN]
    rw [if_neg (by simpa using h)]
    simp
  | k + 1, j + 1, a, hj, h, hn => by
    simp only [freeN]
    have h0 := h 0 (by omega)
    rw [if_pos (by simpa using h0), freeN_is L k j (a + 1) (by omega) (fun i hi => by
      have := h (i + 1) (by omega)
      rw [show a + 1 + (i : Int) = a + ((i + 1 : Nat) : Int) by push_cast; omega]
      exact this) (by
      rw [show a + 1 + (j : Int) = a + ((j + 1 : Nat) : Int) by push_cast; omega]
      exact hn)]
    push_cast
    omega
/-! ### 2. The part -/
def ep (e : Nat) (L : List EL) : Rg := ex fun E : List EP => big [eps e E, pu (E.map pl = L)]
section
variable {P0 : Nat → Prop} {w0 w w' : World} {F : List Rg} {e : Nat} {L : List EL}
theorem ep_any (h : St P0 w0 w (ep e L :: F)) : ∃ E : List EP, E.map pl = L ∧ St P0 w0 w (eps e E :: F) := by
  obtain ⟨E, h2⟩ := h.ex_open
  have h3 : St P0 w0 w (pu (E.map pl = L) :: eps e E :: F) := (h2.big_open).get 1
  exact ⟨E, h3.pu_open⟩
theorem ep_shut {E : List EP} (hm : E.map pl = L) (h : St P0 w0 w (eps e E :: F)) : St P0 w0 w (ep e L :: F) := by
  have h1 : St P0 w0 w (_ :: pu (E.map pl = L) :: F) := (St.pu_shut hm h).put 1
  exact St.ex_shut E (St.big_shut (M := [_, pu _]) h1)
theorem ep_start (h : St P0 w0 w (ends e [] :: F)) : St P0 w0 w (ep e [] :: F) := by
  refine ep_shut (E := []) rfl ?_
  have h1 : St P0 w0 w (big ((([] : List EP)).map prt) :: ends e [] :: F) := St.big_shut (M := []) h
  have h2 : St P0 w0 w (ends e ((([] : List EP)).map ent) :: big ((([] : List EP)).map prt) :: F) := h1.get 1
  exact eps_shut ⟨List.nodup_nil, Nat.zero_le _, fun x hx => by simp at hx⟩ h2
/-- What the plain endpoints keep. -/
structure Okl (L : List EL) : Prop where
  nodup : (L.map (·.k)).Nodup
  len : L.length ≤ 32
  few : ∀ x ∈ L, x.ms.length ≤ 4
theorem ep_ok (h : St P0 w0 w (ep e L :: F)) : Okl L := by
  obtain ⟨E, rfl, h1⟩ := ep_any h
  obtain ⟨ho, -⟩ := eps_any h1
  refine ⟨by rw [List.map_map]; exact ho.nodup, by rw [List.length_map]; exact ho.len, fun x hx => ?_⟩
  obtain ⟨y, hy, rfl⟩ := List.mem_map.1 hx
  exact ho.few y hy
theorem Has_x (h : St P0 w0 w (ep e L :: F)) (a : Int) (wa : (Lit.int .i64 a).wf = true) : Calls Try.prog 18 #[.pointer (some ⟨e, 0, none⟩), .int .i64 a] w fun x w' =>
    x = .returned (.bool (findL L a).isSome) ∧ Up w w' := by
  obtain ⟨E, rfl, h1⟩ := ep_any h
  rw [some_pl]
  exact Has_q h1 a wa
theorem Waits_x (h : St P0 w0 w (ep e L :: F)) (a : Int) (wa : (Lit.int .i64 a).wf = true) : Calls Try.prog 16 #[.pointer (some ⟨e, 0, none⟩), .int .i64 a] w fun x w' =>
    x = .returned (.int .i64 (cntL L a : Int)) ∧ Up w w' := by
  obtain ⟨E, rfl, h1⟩ := ep_any h
  rw [cnt_pl]
  exact Waits_q h1 a wa
theorem Full_x (h : St P0 w0 w (ep e L :: F)) (a : Int) (wa : (Lit.int .i64 a).wf = true) : Calls Try.prog 35 #[.pointer (some ⟨e, 0, none⟩), .int .i64 a] w fun x w' =>
    x = .returned (.bool (decide (4 ≤ cntL L a))) ∧ Up w w' := by
  obtain ⟨E, rfl, h1⟩ := ep_any h
  rw [cnt_pl]
  exact Full_q h1 a wa
/-! ### 3. Open, Close -/
set_option maxHeartbeats 4000000 in
set_option maxRecDepth 100000 in
theorem open_nox {M : List Ent} (h : St P0 w0 w (ends e M :: F)) (a : Int) (wa : (Lit.int .i64 a).wf = true) (hb : a < 0 ∨ 65536 ≤ a ∨ (lookM M (kA a)).isSome = true ∨ 32 ≤ M.length) :
    Calls Try.prog 19 #[.pointer (some ⟨e, 0, none⟩), .int .i64 a] w fun x w' => x = .returned (.tuple #[.int .i64 0, .int .i64 (if a < 0 ∨ 65536 ≤ a then 2 else if (lookM M (kA a)).isSome = true then 16 else 17)]) ∧ Up w w' := by
  by_cases h0 : a < 0
  · rw [if_pos (.inl h0)]
    clear h hb
    go_enter Try.func19, Try.ntmps19
    go_wp2
    go_ret2
    exact ⟨rfl, Up.refl w⟩
  by_cases h6 : 65536 ≤ a
  · rw [if_pos (.inr h6)]
    clear h hb
    go_enter Try.func19, Try.ntmps19
    go_wp2
    go_ret2
    exact ⟨rfl, Up.refl w⟩
  rw [if_neg (by omega)]
  have hh := Has_st h a wa
  cases hs : (lookM M (kA a)).isSome with
  | true =>
    rw [hs] at hh
    rw [if_pos rfl]
    have HH := Lib.hid hh
    clear h hb hh hs
    go_enter Try.func19, Try.ntmps19
    go_wp2_with fail
    refine HH.out.mono ?_
    rintro x w1 ⟨rfl, hu⟩
    have HU := Lib.hid hu
    clear hu
    go_wp2_with fail
    go_ret2
    exact ⟨rfl, HU.out⟩
  | false =>
    rw [hs] at hh hb
    rw [if_neg (by decide)]
    have hl : 32 ≤ M.length := by
      rcases hb with h | h | h | h
      · exact absurd h h0
      · exact absurd h h6
      · cases h
      · exact h
    have HH := Lib.hid hh
    have HS := Lib.hid h
    have HLN := Lib.hid (fun (wx : World) (m : Nat) (F : List Rg) (h : St P0 w0 wx (mp 3 m M :: F)) (ty : TypeId) => mp_len h Try.underlying83 ty)
    clear h hb hh hs
    go_enter Try.func19, Try.ntmps19
    go_wp2_with fail
    refine HH.out.mono ?_
    rintro x w1 ⟨rfl, hu⟩
    have HU := Lib.hid hu
    obtain ⟨m2, h4⟩ := ends_any (HS.out.more hu)
    have c0 : w1.cell? ⟨e, 0, none⟩ = some (.map (some m2)) := cell_of_block h4.bk_at 0
    have hlen := fun ty => HLN.out w1 m2 _ (h4.get 1) ty
    generalize M.length = n at hlen hl
    clear h4 hu HH HS
    go_wp2_with fail
    go_ret2
    exact ⟨rfl, HU.out⟩
theorem Open_x (h : St P0 w0 w (ep e L :: F)) (a : Int) (wa : (Lit.int .i64 a).wf = true) :
    Calls Try.prog 19 #[.pointer (some ⟨e, 0, none⟩), .int .i64 a] w fun x w' => x = .returned (.tuple #[.int .i64 (openL L a).2.1, .int .i64 (openL L a).2.2]) ∧ St P0 w0 w' (ep e (openL L a).1 :: F) := by
  obtain ⟨E, rfl, h'⟩ := ep_any h
  obtain ⟨ho, h1⟩ := eps_any h'
  by_cases hb : a < 0 ∨ 65536 ≤ a ∨ (lookM (E.map ent) (kA a)).isSome = true ∨ 32 ≤ (E.map ent).length
  · refine (open_nox h1 a wa hb).mono ?_
    rintro x w' ⟨rfl, hu⟩
    have ho2 : openL (E.map pl) a = (E.map pl, 0, if a < 0 ∨ 65536 ≤ a then 2 else if (lookM (E.map ent) (kA a)).isSome = true then 16 else 17) := by
      unfold openL
      rw [some_pl, has_ent]
      by_cases c1 : a < 0 ∨ 65536 ≤ a
      · rw [if_pos c1, if_pos c1]
      rw [if_neg c1, if_neg c1]
      by_cases c2 : (findE E a).isSome = true
      · rw [if_pos c2, if_pos c2]
      rw [if_neg c2, if_neg c2, if_pos ?_]
      rw [has_ent] at hb
      rcases hb with h | h | h | h
      · exact absurd (.inl h) c1
      · exact absurd (.inr h) c1
      · exact absurd h c2
      · simpa using h
    rw [ho2]
    exact ⟨rfl, h.more hu⟩
  · have hn : (findE E a).isSome = false := by
      rw [← has_ent]
      exact Bool.eq_false_iff.2 fun e => hb (.inr (.inr (.inl e)))
    have hl : (E.map ent).length < 32 := Nat.lt_of_not_le fun e => hb (.inr (.inr (.inr e)))
    have hl' : E.length < 32 := by rwa [List.length_map] at hl
    have h0 : 0 ≤ a := Int.not_lt.1 fun e => hb (.inl e)
    have h6 : a < 65536 := Int.not_le.1 fun e => hb (.inr (.inl e))
    have ho2 : openL (E.map pl) a = (putL (E.map pl) ⟨if a = 0 then freeL (E.map pl) else a, []⟩, if a = 0 then freeL (E.map pl) else a, 0) := by
      unfold openL
      rw [if_neg (by omega), some_pl, if_neg (by rw [hn]; decide), if_neg (by rw [List.length_map]; omega)]
    rw [ho2]
    by_cases ha : a = 0
    · subst ha
      obtain ⟨j, hj, hy, hz⟩ := free_is ho hl'
      have hfr : freeL (E.map pl) = 16 + (j : Int) := by
        have hj2 : j < 33 := by
          refine Classical.byContradiction fun hc => ?_
          have h33 := sub_len ((List.range 33).map fun j : Nat => 16 + (j : Int)) (E.map (·.k)) (by decide) (fun x hx => by
            obtain ⟨i, hi, rfl⟩ := List.mem_map.1 hx
            have hi2 := List.mem_range.1 hi
            obtain ⟨y, hy2⟩ := Option.isSome_iff_exists.1 (hy i (by omega))
            unfold findE at hy2
            have hk0 := List.find?_some hy2
            have hk := of_decide_eq_true hk0
            exact List.mem_map.2 ⟨y, List.mem_of_find?_eq_some hy2, hk⟩)
          simp only [List.length_map, List.length_range] at h33
          omega
        exact freeN_is _ 100 j 16 (by omega) (fun i hi => by rw [some_pl]; exact hy i hi) (by rw [some_pl]; exact hz)
      rw [if_pos rfl, hfr]
      refine (open_new h1 hl (by rw [has_ent]; exact hn) j hj (fun i hi => by rw [has_ent]; exact hy i hi) (by rw [has_ent]; exact hz)).mono ?_
      rintro x w' ⟨rfl, hs⟩
      have hz' : findE E (16 + (j : Int)) = none := Option.not_isSome_iff_eq_none.1 (by rw [hz]; decide)
      exact ⟨rfl, ep_shut (put_pl E ⟨16 + (j : Int), nilV, []⟩).symm (eps_new hz' ho hl' hs)⟩
    · rw [if_neg ha]
      refine (open_at h1 hl a ha h0 h6 (by rw [has_ent]; exact hn)).mono ?_
      rintro x w' ⟨rfl, hs⟩
      have hz' : findE E a = none := Option.not_isSome_iff_eq_none.1 (by rw [hn]; decide)
      exact ⟨rfl, ep_shut (put_pl E ⟨a, nilV, []⟩).symm (eps_new hz' ho hl' hs)⟩
theorem Close_x (h : St P0 w0 w (ep e L :: F)) (a : Int) (wa : (Lit.int .i64 a).wf = true) :
    Calls Try.prog 38 #[.pointer (some ⟨e, 0, none⟩), .int .i64 a] w fun x w' => x = .returned (.int .i64 (closeL L a).2) ∧ St P0 w0 w' (ep e (closeL L a).1 :: F) := by
  obtain ⟨E, rfl, h'⟩ := ep_any h
  obtain ⟨ho, h1⟩ := eps_any h'
  unfold closeL
  rw [some_pl]
  cases hf : findE E a with
  | none =>
    rw [if_neg (by simp)]
    refine (close_no h1 a wa (by rw [has_ent, hf]; rfl)).mono ?_
    rintro x w' ⟨rfl, hu⟩
    exact ⟨rfl, h.more hu⟩
  | some y =>
    rw [if_pos (show (some y).isSome = true from rfl)]
    refine (close_yes h1 a wa (by rw [has_ent, hf]; rfl)).mono ?_
    rintro x w' ⟨rfl, hs⟩
    rw [del_ent] at hs
    obtain ⟨_, _, hp⟩ := find_perm ho.nodup hf
    exact ⟨rfl, ep_shut (del_pl E a).symm (eps_shut (oke_del ho a) (((area_out (area_perm hp (hs.get 1))).drop).get 1))⟩
end
end Go.Proofs.Ytdhgmnnkbjhpaaa.Epx
