/- What a call of the laws does to the table; what a name's place is then. -/
import Derived.Test.YtdhgmnnkbjhpaaaNdrop
namespace Go.Proofs.Ytdhgmnnkbjhpaaa.Ntab
set_option linter.unusedVariables false
set_option linter.unusedSimpArgs false
open Go.RowKit Go.Proofs.Ytdhgmnnkbjhpaaa.Sep Go.Proofs.Ytdhgmnnkbjhpaaa.Mp Go.Proofs.Ytdhgmnnkbjhpaaa.PNamesPlay Go.Proofs.Ytdhgmnnkbjhpaaa.NoteOk Go.Proofs.YtdhgmnnkbjhpaaaW.PrintWords
open Go.Maps (Keyed)

/-! ### 1. Plain -/
theorem find_none {L : List S66} {s : ByteArray} : findN L s = none ↔ ∀ x ∈ L, ky x.f0 ≠ ky s := by
  unfold findN
  rw [List.find?_eq_none]
  simp
theorem find_filter {L : List S66} (h : L.Pairwise fun x y => bytesBefore (ky x.f0) (ky y.f0) = true) (p : S66 → Bool) (s : ByteArray) : findN (L.filter p) s = match findN L s with | none => none | some x => if p x = true then some x else none := by
  cases hf : findN L s with
  | none =>
    rw [find_none] at hf ⊢
    exact fun x hx => hf x (List.mem_filter.1 hx).1
  | some x =>
    obtain ⟨hx, rfl⟩ := find_mem hf
    dsimp only
    by_cases hp : p x = true
    · rw [if_pos hp]
      exact find_self (h.filter _) (List.mem_filter.2 ⟨hx, hp⟩)
    · rw [if_neg hp, find_none]
      intro y hy e
      obtain ⟨hy1, hy2⟩ := List.mem_filter.1 hy
      have := same_name h hy1 hx e
      rw [this] at hy2
      exact hp hy2
theorem find_put {L : List S66} (h : Okt L) (x : S66) (hn : findN L x.f0 = none) (hl : L.length < 32) (hx : x.f0.size ≤ 8) (s : ByteArray) : findN (putN L x) s = if ky s = ky x.f0 then some x else findN L s := by
  have ho := okt_put h x hn hl hx
  have hm : x ∈ putN L x := (insN_mem x x _).2 (.inl rfl)
  by_cases e : ky s = ky x.f0
  · rw [if_pos e, ky_inj e]
    exact find_self ho.rise hm
  · rw [if_neg e]
    cases hf : findN L s with
    | none =>
      rw [find_none] at hf ⊢
      intro y hy
      rcases (insN_mem x y _).1 hy with rfl | hy
      · exact Ne.symm e
      · exact hf y (delN_mem.1 hy).1
    | some y =>
      obtain ⟨hy, rfl⟩ := find_mem hf
      exact find_self ho.rise ((insN_mem x y _).2 (.inr (by rw [delN_none hn]; exact hy)))
theorem find_del {L : List S66} (h : Okt L) (t s : ByteArray) : findN (delN L t) s = if ky s = ky t then none else findN L s := by
  unfold delN
  rw [find_filter h.rise]
  by_cases e : ky s = ky t
  · rw [if_pos e]
    cases hf : findN L s with
    | none => rfl
    | some x =>
      obtain ⟨hx, rfl⟩ := find_mem hf
      dsimp only
      rw [if_neg (by simp [e])]
  · rw [if_neg e]
    cases hf : findN L s with
    | none => rfl
    | some x =>
      obtain ⟨hx, rfl⟩ := find_mem hf
      dsimp only
      rw [if_pos (by simpa using e)]
/-- A call: the table then, what is told, the error. -/
def doN (L : List S66) (k core : Int) (g : Bool) (s : ByteArray) (a : Int) : List S66 × Int × Int :=
  if k = 1 then (dropN L core, ((ofN L core).length : Int), 0) else ((tellN L core g s a).1, 0, (tellN L core g s a).2)
theorem do_ok {L : List S66} (h : Okt L) (k core : Int) (g : Bool) (s : ByteArray) (a : Int) : Okt (doN L k core g s a).1 := by
  unfold doN
  split
  · exact okt_filter h _
  · exact tell_ok h core g s a
/-- What the law keeps of its name. -/
structure Own (L : List S66) (name : ByteArray) (has : Bool) (own : S66) : Prop where
  yes : has = true → findN L name = some own
  no : has = false → findN L name = none
/-- The five ways of a round. -/
theorem first_step {L : List S66} (h : Okt L) {name : ByteArray} {has : Bool} {own : S66} (ho : Own L name has own) (k core : Int) (g : Bool) (s : ByteArray) (a : Int) :
    (k = 1 ∧ (doN L k core g s a).2.2 = 0 ∧ Own (doN L k core g s a).1 name (has && own.f1 != core) own) ∨
    (k ≠ 1 ∧ (s ≠ name ∨ (doN L k core g s a).2.2 ≠ 0) ∧ Own (doN L k core g s a).1 name has own) ∨
    (k ≠ 1 ∧ s = name ∧ (doN L k core g s a).2.2 = 0 ∧ g = true ∧ has = true ∧ own = ⟨s, core, a⟩ ∧ Own (doN L k core g s a).1 name false own) ∨
    (k ≠ 1 ∧ s = name ∧ (doN L k core g s a).2.2 = 0 ∧ g = false ∧ (has = true → own = ⟨s, core, a⟩) ∧ Own (doN L k core g s a).1 name true ⟨s, core, a⟩) := by
  by_cases k1 : k = 1
  · refine .inl ⟨k1, by unfold doN; rw [if_pos k1], ?_⟩
    unfold doN
    rw [if_pos k1]
    show Own (dropN L core) name _ own
    unfold dropN
    have hff := find_filter h.rise (fun x => !(x.f1 == core)) name
    cases has with
    | true =>
      rw [ho.yes rfl] at hff
      dsimp only at hff
      by_cases e : own.f1 = core
      · rw [if_neg (by simp [e])] at hff
        exact ⟨fun h => by simp [e] at h, fun _ => hff⟩
      · rw [if_pos (by simpa using e)] at hff
        exact ⟨fun _ => hff, fun h => by simp [e] at h⟩
    | false =>
      rw [ho.no rfl] at hff
      exact ⟨fun h => by simp at h, fun _ => hff⟩
  refine .inr ?_
  have ed : doN L k core g s a = ((tellN L core g s a).1, 0, (tellN L core g s a).2) := by unfold doN; rw [if_neg k1]
  rw [ed]
  dsimp only
  by_cases e0 : (tellN L core g s a).2 = 0
  case neg =>
    have hL : (tellN L core g s a).1 = L := by
      unfold tellN at e0 ⊢
      split
      · rfl
      next h1 =>
      rw [if_neg h1] at e0
      split
      · rfl
      next h2 =>
      rw [if_neg h2] at e0
      unfold tellY at e0 ⊢
      split
      next hf =>
        rw [hf] at e0
        dsimp only at e0
        split
        · rfl
        next h3 =>
        rw [if_neg h3] at e0
        split
        · rfl
        next h4 => rw [if_neg h4] at e0; exact absurd rfl e0
      next x hf =>
        rw [hf] at e0
        dsimp only at e0
        split
        next h3 =>
          rw [if_pos h3] at e0
          split at e0 <;> exact absurd rfl e0
        next h3 => split <;> rfl
    rw [hL]
    exact .inl ⟨k1, .inr e0, ho⟩
  case pos =>
    -- told
    have hn : ¬ (core < 0 ∨ 8 ≤ core) ∧ ncode (bytesOf s) a = 0 ∧ tellN L core g s a = tellY L core g s a := by
      unfold tellN at e0 ⊢
      by_cases h1 : core < 0 ∨ 8 ≤ core
      · rw [if_pos h1] at e0; cases e0
      · rw [if_neg h1] at e0 ⊢
        by_cases h2 : ncode (bytesOf s) a = 0
        · rw [if_neg (by simpa using h2)]
          exact ⟨h1, h2, rfl⟩
        · rw [if_pos h2] at e0; cases e0
    obtain ⟨h1, h2, h3⟩ := hn
    rw [h3] at e0 ⊢
    have hs8 : s.size ≤ 8 := by
      have := (nameOk_iff.1 (ncode_0.1 h2).1).2.2
      rwa [bytesOf_length] at this
    by_cases es : s = name
    · subst es
      refine .inr ?_
      unfold tellY at e0 ⊢
      cases hf : findN L s with
      | none =>
        rw [hf] at e0
        dsimp only at e0 ⊢
        have hh : has = false := by
          cases has with
          | true => rw [ho.yes rfl] at hf; cases hf
          | false => rfl
        subst hh
        cases g with
        | true => cases e0
        | false =>
          simp only [Bool.false_eq_true, if_false] at e0 ⊢
          by_cases h4 : 32 ≤ L.length
          · rw [if_pos h4] at e0; cases e0
          · rw [if_neg h4]
            refine .inr ⟨k1, (by first | rfl | trivial), (by first | rfl | trivial), (by first | rfl | trivial), fun h => (by cases h), ?_⟩
            have hfp := find_put h ⟨s, core, a⟩ hf (by omega) hs8 s
            rw [if_pos rfl] at hfp
            exact ⟨fun _ => hfp, fun h => by cases h⟩
      | some x =>
        rw [hf] at e0
        dsimp only at e0 ⊢
        have hh : has = true ∧ own = x := by
          cases has with
          | true => rw [ho.yes rfl] at hf; cases hf; exact ⟨rfl, rfl⟩
          | false => rw [ho.no rfl] at hf; cases hf
        obtain ⟨rfl, rfl⟩ := hh
        have hx0 := (find_mem hf).2
        by_cases h4 : own.f1 = core ∧ own.f2 = a
        · rw [if_pos h4]
          have hx : own = ⟨s, core, a⟩ := by
            cases own
            simp only at h4 hx0
            rw [h4.1, h4.2, hx0]
          cases g with
          | true =>
            simp only [if_true]
            refine .inl ⟨k1, (by first | rfl | trivial), (by first | rfl | trivial), (by first | rfl | trivial), (by first | rfl | trivial), hx, fun h => (by cases h), fun _ => ?_⟩
            have := find_del h s s
            rwa [if_pos rfl] at this
          | false =>
            simp only [Bool.false_eq_true, if_false]
            refine .inr ⟨k1, (by first | rfl | trivial), (by first | rfl | trivial), (by first | rfl | trivial), fun _ => hx, fun _ => ?_, fun h => by cases h⟩
            rw [hf, hx]
        · rw [if_neg h4] at e0
          split at e0 <;> cases e0
    · refine .inl ⟨k1, .inl es, ?_⟩
      have hky : ky name ≠ ky s := fun e => es (ky_inj e.symm)
      have hsame : findN (tellY L core g s a).1 name = findN L name := by
        unfold tellY at e0 ⊢
        cases hf : findN L s with
        | none =>
          rw [hf] at e0
          dsimp only at e0 ⊢
          split
          · rfl
          split
          · rfl
          · rw [find_put h ⟨s, core, a⟩ hf (by omega) hs8, if_neg hky]
        | some x =>
          rw [hf] at e0
          dsimp only at e0 ⊢
          split
          · split
            · rw [find_del h, if_neg hky]
            · rfl
          · split <;> rfl
      exact ⟨fun e => by rw [hsame]; exact ho.yes e, fun e => by rw [hsame]; exact ho.no e⟩
end Go.Proofs.Ytdhgmnnkbjhpaaa.Ntab
