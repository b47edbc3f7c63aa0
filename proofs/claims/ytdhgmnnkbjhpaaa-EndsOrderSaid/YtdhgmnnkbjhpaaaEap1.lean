/- The endpoints with their messages: the model, the part of memory; Has, Waits, Full, wrong. -/
import Derived.Test.YtdhgmnnkbjhpaaaEnds2
import Derived.Test.YtdhgmnnkbjhpaaaRow
namespace Go.Proofs.Ytdhgmnnkbjhpaaa.Eps
set_option linter.unusedVariables false
set_option linter.unusedSimpArgs false
open Go.RowKit Go.Proofs.Ytdhgmnnkbjhpaaa.Sep Go.Proofs.Ytdhgmnnkbjhpaaa.Mp
open Go.Maps (Keyed)

/-! ### 1. Plain -/
structure MS where
  a0 : Int
  a1 : Int
  a2 : Int
  b : List Int
structure EP where
  k : Int
  v : Value
  ms : List MS
abbrev ent (x : EP) : Ent := (kA x.k, x.v)
def findE (E : List EP) (a : Int) : Option EP := E.find? fun x => decide (x.k = a)
def delE (E : List EP) (a : Int) : List EP := E.filter fun x => !decide (x.k = a)
def insE (x : EP) : List EP → List EP
  | [] => [x]
  | y :: r => if x.k < y.k then x :: y :: r else y :: insE x r
def putE (E : List EP) (x : EP) : List EP := insE x (delE E x.k)
theorem same_I' (a b : Int) : (kA a).sameKey (kA b) = decide (a = b) := by
  show decide (IntKind.i64 = IntKind.i64 ∧ a = b) = _
  simp
theorem look_ent (E : List EP) (a : Int) : lookM (E.map ent) (kA a) = (findE E a).map (·.v) := by
  unfold lookM findE
  induction E with
  | nil => rfl
  | cons x E ih =>
    simp only [List.map_cons, List.find?_cons]
    rw [same_I']
    cases decide (x.k = a)
    · exact ih
    · rfl
theorem del_ent (E : List EP) (a : Int) : delM (E.map ent) (kA a) = (delE E a).map ent := by
  unfold delM delE
  rw [List.filter_map]
  congr 1
  apply List.filter_congr
  intro x _
  simp only [Function.comp]
  rw [same_I']
theorem ins_ent (x : EP) : ∀ E : List EP, insM (ent x) (E.map ent) = (insE x E).map ent
  | [] => rfl
  | y :: r => by
    simp only [List.map_cons, insM, insE]
    show (if decide (x.k < y.k) = true then _ else _) = _
    by_cases h : x.k < y.k
    · rw [if_pos h, if_pos (decide_eq_true h)]
      rfl
    · rw [if_neg h, if_neg (by simpa using h), ins_ent x r]
      rfl
theorem put_ent (E : List EP) (x : EP) : putM (E.map ent) (kA x.k) x.v = (putE E x).map ent := by
  unfold putM putE
  rw [del_ent]
  exact ins_ent x _
theorem insE_perm (x : EP) : ∀ E : List EP, (insE x E).Perm (x :: E)
  | [] => List.Perm.refl _
  | y :: r => by
    unfold insE
    split
    · exact List.Perm.refl _
    · exact ((insE_perm x r).cons y).trans (List.Perm.swap x y r)
/-- The addresses are apart. -/
structure Oke (E : List EP) : Prop where
  nodup : (E.map (·.k)).Nodup
  len : E.length ≤ 32
  few : ∀ x ∈ E, x.ms.length ≤ 4
theorem find_perm {E : List EP} (h : (E.map (·.k)).Nodup) {a : Int} {x : EP} (hf : findE E a = some x) : x.k = a ∧ x ∈ E ∧ E.Perm (x :: delE E a) := by
  have hk : x.k = a := by
    have := List.find?_some hf
    exact of_decide_eq_true this
  have hm := List.mem_of_find?_eq_some hf
  refine ⟨hk, hm, ?_⟩
  clear hf
  induction E with
  | nil => simp at hm
  | cons y r ih =>
    simp only [List.map_cons, List.nodup_cons] at h
    rcases List.mem_cons.1 hm with rfl | hm
    · have hd : delE (x :: r) a = r := by
        unfold delE
        rw [List.filter_cons_of_neg (by simp [hk]), List.filter_eq_self]
        intro z hz
        have : z.k ≠ a := fun e => h.1 (by rw [hk, ← e]; exact List.mem_map_of_mem hz)
        simpa using this
      rw [hd]
    · have hne : y.k ≠ a := fun e => h.1 (by rw [e, ← hk]; exact List.mem_map_of_mem hm)
      have hd : delE (y :: r) a = y :: delE r a := by
        unfold delE
        rw [List.filter_cons_of_pos (by simpa using hne)]
      rw [hd]
      exact ((ih h.2 hm).cons y).trans (List.Perm.swap x y _)
theorem del_none {E : List EP} {a : Int} (h : findE E a = none) : delE E a = E := by
  unfold findE at h
  rw [List.find?_eq_none] at h
  unfold delE
  rw [List.filter_eq_self]
  intro x hx
  have := h x hx
  simpa using this
theorem find_del (E : List EP) (a b : Int) (hab : b ≠ a) : findE (delE E a) b = findE E b := by
  unfold findE delE
  induction E with
  | nil => rfl
  | cons x r ih =>
    by_cases hx : x.k = a
    · rw [List.filter_cons_of_neg (by simp [hx]), ih, List.find?_cons, decide_eq_false (by omega : ¬ x.k = b)]
    · rw [List.filter_cons_of_pos (by simp [hx]), List.find?_cons, List.find?_cons, ih]
theorem find_ins (x : EP) : ∀ (E : List EP) (b : Int), b ≠ x.k → findE (insE x E) b = findE E b
  | [], b, h => by
    unfold insE findE
    rw [List.find?_cons, decide_eq_false (by omega : ¬ x.k = b)]
  | y :: r, b, h => by
    unfold insE
    split
    · unfold findE
      rw [List.find?_cons, decide_eq_false (by omega : ¬ x.k = b)]
    · have ih := find_ins x r b h
      unfold findE at ih ⊢
      rw [List.find?_cons, List.find?_cons, ih]
theorem find_put (E : List EP) (x : EP) {b : Int} (h : b ≠ x.k) : findE (putE E x) b = findE E b := by
  unfold putE
  rw [find_ins x _ b h, find_del E x.k b h]
theorem put_perm (E : List EP) (x : EP) : (putE E x).Perm (x :: delE E x.k) := insE_perm x _
theorem oke_del {E : List EP} (h : Oke E) (a : Int) : Oke (delE E a) :=
  ⟨(List.Sublist.map _ List.filter_sublist).nodup h.nodup, Nat.le_trans (List.length_filter_le _ _) h.len, fun x hx => h.few x (List.mem_filter.1 hx).1⟩
theorem oke_put {E : List EP} (h : Oke E) (x : EP) (hl : (delE E x.k).length < 32) (hm : x.ms.length ≤ 4) : Oke (putE E x) := by
  have hp := put_perm E x
  refine ⟨(hp.map (·.k)).nodup_iff.2 ?_, by rw [hp.length_eq, List.length_cons]; omega, fun y hy => ?_⟩
  · rw [List.map_cons, List.nodup_cons]
    refine ⟨fun hm => ?_, (oke_del h x.k).nodup⟩
    obtain ⟨y, hy, e⟩ := List.mem_map.1 hm
    have := (List.mem_filter.1 hy).2
    simp [e] at this
  · rcases List.mem_cons.1 (hp.mem_iff.1 hy) with rfl | hy
    · exact hm
    · exact h.few y (List.mem_filter.1 hy).1
/-! ### 2. The part -/
def mcf (x : MS) (b : Option Addr × Nat) : List Value := [.int .i64 x.a0, .int .i64 x.a1, .int .i64 x.a2, .slice b.1 x.b.length b.2]
def mpf (x : MS) (b : Option Addr × Nat) : Rg := slc 3 1 (.slice b.1 x.b.length b.2) x.b.length (x.b.map (Value.int .i64))
def prt (x : EP) : Rg := row 88 4 mcf mpf x.v x.ms
def eps (e : Nat) (E : List EP) : Rg := big [ends e (E.map ent), big (E.map prt), pu (Oke E)]
section
variable {P0 : Nat → Prop} {w0 w w' : World} {F : List Rg} {e : Nat} {E : List EP}
theorem eps_any (h : St P0 w0 w (eps e E :: F)) : Oke E ∧ St P0 w0 w (ends e (E.map ent) :: big (E.map prt) :: F) := by
  have h2 : St P0 w0 w (pu (Oke E) :: ends e (E.map ent) :: big (E.map prt) :: F) := (h.big_open).get 2
  exact h2.pu_open
theorem eps_shut (ho : Oke E) (h : St P0 w0 w (ends e (E.map ent) :: big (E.map prt) :: F)) : St P0 w0 w (eps e E :: F) := by
  have h1 : St P0 w0 w (_ :: _ :: pu (Oke E) :: F) := (St.pu_shut ho h).put 2
  exact St.big_shut (M := [_, _, pu _]) h1
theorem area_perm {E' : List EP} (hp : E.Perm E') (h : St P0 w0 w (big (E.map prt) :: F)) : St P0 w0 w (big (E'.map prt) :: F) :=
  St.big_shut (h.big_open.perm ((hp.map prt).append_right F))
theorem area_out {x : EP} (h : St P0 w0 w (big ((x :: E).map prt) :: F)) : St P0 w0 w (prt x :: big (E.map prt) :: F) := by
  have h1 : St P0 w0 w (prt x :: (E.map prt ++ F)) := h.big_open
  have h2 : St P0 w0 w (E.map prt ++ (prt x :: F)) := h1.perm List.perm_middle.symm
  exact (St.big_shut h2).get 1
theorem area_in {x : EP} (h : St P0 w0 w (prt x :: big (E.map prt) :: F)) : St P0 w0 w (big ((x :: E).map prt) :: F) := by
  have h1 : St P0 w0 w (big (E.map prt) :: prt x :: F) := h.get 1
  have h2 : St P0 w0 w (E.map prt ++ (prt x :: F)) := h1.big_open
  have h3 : St P0 w0 w (prt x :: (E.map prt ++ F)) := h2.perm List.perm_middle
  exact St.big_shut (M := prt x :: E.map prt) h3
end
end Go.Proofs.Ytdhgmnnkbjhpaaa.Eps
