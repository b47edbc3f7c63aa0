/- The table of names: the plain model, the part of memory; New and Find. -/
import Derived.Test.YtdhgmnnkbjhpaaaNmap
import Derived.Test.YtdhgmnnkbjhpaaaNoteOk
import Derived.Carry
import Derived.StringKeys
import Derived.Deep.Cut
import Derived.Deep.QuietTactic
import Derived.BigQuiet
import Derived.Deep.RegionHeld3
import Derived.Deep.RegionLaw
import Derived.RegionTactic
namespace Go.Proofs.Ytdhgmnnkbjhpaaa.Ntab
set_option linter.unusedVariables false
set_option linter.unusedSimpArgs false
open Go.RowKit Go.Proofs.Ytdhgmnnkbjhpaaa.Sep Go.Proofs.Ytdhgmnnkbjhpaaa.Mp Go.Proofs.Ytdhgmnnkbjhpaaa.PNamesPlay Go.Proofs.Ytdhgmnnkbjhpaaa.NoteOk Go.Proofs.YtdhgmnnkbjhpaaaW.PrintWords
open Go.Maps (Keyed)

/-! ### 1. The model -/
abbrev ky (s : ByteArray) : List UInt8 := s.data.toList
theorem ky_inj {a b : ByteArray} (h : ky a = ky b) : a = b := by
  apply ByteArray.ext
  exact Array.toList_inj.1 h
def pv (x : S66) : Value := .agg #[.int .i64 x.f1, .int .i64 x.f2]
def ent (x : S66) : Ent := (.string (ky x.f0), pv x)
def findN (L : List S66) (s : ByteArray) : Option S66 := L.find? fun x => ky x.f0 == ky s
def delN (L : List S66) (s : ByteArray) : List S66 := L.filter fun x => !(ky x.f0 == ky s)
def insN (x : S66) : List S66 → List S66
  | [] => [x]
  | y :: r => if bytesBefore (ky x.f0) (ky y.f0) then x :: y :: r else y :: insN x r
def putN (L : List S66) (x : S66) : List S66 := insN x (delN L x.f0)
/-- What is told, rightly. -/
def tellY (L : List S66) (core : Int) (g : Bool) (s : ByteArray) (a : Int) : List S66 × Int :=
  match findN L s with
  | none => if g = true then (L, 15) else if 32 ≤ L.length then (L, 17) else (putN L ⟨s, core, a⟩, 0)
  | some x => if x.f1 = core ∧ x.f2 = a then (if g = true then (delN L s, 0) else (L, 0)) else (if g = true then (L, 15) else (L, 16))
/-- What a core tells. -/
def tellN (L : List S66) (core : Int) (g : Bool) (s : ByteArray) (a : Int) : List S66 × Int :=
  if core < 0 ∨ 8 ≤ core then (L, 3) else if ncode (bytesOf s) a ≠ 0 then (L, 2) else tellY L core g s a
theorem look_ent (L : List S66) (s : ByteArray) : lookM (L.map ent) (.string (ky s)) = (findN L s).map pv := by
  unfold lookM findN
  induction L with
  | nil => rfl
  | cons x L ih =>
    simp only [List.map_cons, List.find?_cons]
    show Option.map _ (match ky x.f0 == ky s with | true => some (ent x) | false => _) = _
    cases h : ky x.f0 == ky s
    · exact ih
    · rfl
theorem del_ent (L : List S66) (s : ByteArray) : delM (L.map ent) (.string (ky s)) = (delN L s).map ent := by
  unfold delM delN
  rw [List.filter_map]
  rfl
theorem ins_ent (x : S66) : ∀ L : List S66, insM (ent x) (L.map ent) = (insN x L).map ent
  | [] => rfl
  | y :: r => by
    simp only [List.map_cons, insM, insN]
    show (if bytesBefore (ky x.f0) (ky y.f0) = true then _ else _) = _
    split
    · rfl
    · rw [ins_ent x r]
      rfl
theorem put_ent (L : List S66) (x : S66) : putM (L.map ent) (.string (ky x.f0)) (pv x) = (putN L x).map ent := by
  unfold putM putN
  rw [del_ent]
  exact ins_ent x _
/-- The names are right, and rise. -/
structure Okt (L : List S66) : Prop where
  rise : L.Pairwise fun x y => bytesBefore (ky x.f0) (ky y.f0) = true
  len : L.length ≤ 32
  name : ∀ x ∈ L, x.f0.size ≤ 8
theorem insN_mem (x y : S66) : ∀ L : List S66, y ∈ insN x L ↔ y = x ∨ y ∈ L
  | [] => by simp [insN]
  | z :: r => by
    unfold insN
    split
    · simp
    · simp only [List.mem_cons, insN_mem x y r]
      constructor
      · rintro (h | h | h)
        · exact .inr (.inl h)
        · exact .inl h
        · exact .inr (.inr h)
      · rintro (h | h | h)
        · exact .inr (.inl h)
        · exact .inl h
        · exact .inr (.inr h)
theorem insN_len (x : S66) : ∀ L : List S66, (insN x L).length = L.length + 1
  | [] => rfl
  | y :: r => by
    unfold insN
    split
    · rfl
    · simp [insN_len x r]
theorem insN_rise (x : S66) : ∀ L : List S66, L.Pairwise (fun x y => bytesBefore (ky x.f0) (ky y.f0) = true) → (∀ y ∈ L, ky y.f0 ≠ ky x.f0) → (insN x L).Pairwise fun x y => bytesBefore (ky x.f0) (ky y.f0) = true
  | [], _, _ => by simp [insN]
  | y :: r, h, hne => by
    obtain ⟨h1, h2⟩ := List.pairwise_cons.1 h
    unfold insN
    split
    · rename_i hb
      refine List.pairwise_cons.2 ⟨fun z hz => ?_, h⟩
      rcases List.mem_cons.1 hz with rfl | hz
      · exact hb
      · exact WideShapes.bytes_trans _ _ _ hb (h1 z hz)
    · rename_i hb
      refine List.pairwise_cons.2 ⟨fun z hz => ?_, insN_rise x r h2 (fun z hz => hne z (.tail _ hz))⟩
      rcases (insN_mem x z r).1 hz with rfl | hz
      · rcases WideAt.bytes_total _ _ (hne y (.head _)) with e | e
        · exact e
        · exact absurd e hb
      · exact h1 z hz
theorem delN_mem {L : List S66} {s : ByteArray} {y : S66} : y ∈ delN L s ↔ y ∈ L ∧ ky y.f0 ≠ ky s := by
  unfold delN
  rw [List.mem_filter]
  simp
theorem okt_del {L : List S66} (h : Okt L) (s : ByteArray) : Okt (delN L s) :=
  ⟨h.rise.filter _, Nat.le_trans (List.length_filter_le _ _) h.len, fun x hx => h.name x (delN_mem.1 hx).1⟩
theorem delN_none {L : List S66} {s : ByteArray} (h : findN L s = none) : delN L s = L := by
  unfold findN at h
  unfold delN
  rw [List.find?_eq_none] at h
  rw [List.filter_eq_self]
  intro x hx
  have := h x hx
  simpa using this
theorem okt_put {L : List S66} (h : Okt L) (x : S66) (hn : findN L x.f0 = none) (hl : L.length < 32) (hx : x.f0.size ≤ 8) : Okt (putN L x) := by
  unfold putN
  have hd := delN_none hn
  refine ⟨insN_rise x _ (okt_del h x.f0).rise fun y hy => (delN_mem.1 hy).2, by rw [insN_len, hd]; omega, fun y hy => ?_⟩
  rcases (insN_mem x y _).1 hy with rfl | hy
  · exact hx
  · exact h.name y (delN_mem.1 hy).1
/-- What stands there already is put there again: nothing changes. -/
theorem putN_same : ∀ {L : List S66} {x : S66}, L.Pairwise (fun x y => bytesBefore (ky x.f0) (ky y.f0) = true) → x ∈ L → putN L x = L
  | [], x, _, h => by simp at h
  | y :: r, x, h, hx => by
    obtain ⟨h1, h2⟩ := List.pairwise_cons.1 h
    unfold putN delN
    rcases List.mem_cons.1 hx with rfl | hx
    · rw [List.filter_cons_of_neg (by simp)]
      have hd : (r.filter fun z => !(ky z.f0 == ky x.f0)) = r := by
        rw [List.filter_eq_self]
        intro z hz
        have hb := h1 z hz
        by_cases e : ky z.f0 = ky x.f0
        · rw [e, WideAt.bytes_irrefl] at hb
          cases hb
        · simpa using e
      rw [hd]
      cases r with
      | nil => rfl
      | cons z r =>
        unfold insN
        rw [if_pos (h1 z (.head _))]
    · have hb := h1 x hx
      have hne : ¬ ky y.f0 = ky x.f0 := fun e => by
        rw [e, WideAt.bytes_irrefl] at hb
        cases hb
      rw [List.filter_cons_of_pos (by simpa using hne)]
      unfold insN
      have hnb : bytesBefore (ky x.f0) (ky y.f0) = false := by
        cases hbb : bytesBefore (ky x.f0) (ky y.f0)
        · rfl
        · have := WideShapes.bytes_trans _ _ _ hb hbb
          rw [WideAt.bytes_irrefl] at this
          cases this
      rw [hnb]
      simp only [Bool.false_eq_true, if_false]
      exact congrArg (y :: ·) (putN_same h2 hx)
theorem find_mem {L : List S66} {s : ByteArray} {x : S66} (h : findN L s = some x) : x ∈ L ∧ x.f0 = s := by
  unfold findN at h
  have h1 := List.find?_some h
  exact ⟨List.mem_of_find?_eq_some h, ky_inj (by simpa using h1)⟩
theorem tell_ok {L : List S66} (h : Okt L) (core : Int) (g : Bool) (s : ByteArray) (a : Int) : Okt (tellN L core g s a).1 := by
  unfold tellN
  split
  · exact h
  split
  · exact h
  next hn =>
  have hs : s.size ≤ 8 := by
    have := (nameOk_iff.1 (ncode_0.1 (Decidable.not_not.1 hn)).1).2.2
    rwa [bytesOf_length] at this
  unfold tellY
  split
  next hf =>
    split
    · exact h
    split
    · exact h
    · exact okt_put h ⟨s, core, a⟩ hf (by omega) hs
  next x hf =>
    split <;> split <;> first | exact h | exact okt_del h s

/-! ### 2. The part -/
theorem klaw : Keyed Try.prog 9 := Go.Maps.string_keyed Try.underlying9
theorem kof {s : ByteArray} (hs : s.size ≤ maxLen) : keyOf Try.prog 9 (.string s) = some (.string (ky s)) := Go.WideMaps.keyOf_string_mk Try.underlying9 hs
theorem zplace (w : World) : (zeroValue 103).run Try.prog w = .ok (.agg #[.int .i64 0, .int .i64 0]) w := by kernel_rfl
def tab (t : Nat) (L : List S66) : Rg := ex fun m : Nat => big [bk t 100 #[.map (some m)], mp 9 m (L.map ent), pu (Okt L)]
section
variable {P0 : Nat → Prop} {w0 w w' : World} {F : List Rg} {t : Nat} {L : List S66}
theorem tab_any (h : St P0 w0 w (tab t L :: F)) : ∃ m, Okt L ∧ St P0 w0 w (bk t 100 #[.map (some m)] :: mp 9 m (L.map ent) :: F) := by
  obtain ⟨m, h2⟩ := h.ex_open
  have h3 : St P0 w0 w (pu (Okt L) :: bk t 100 #[.map (some m)] :: mp 9 m (L.map ent) :: F) := (h2.big_open).get 2
  exact ⟨m, h3.pu_open⟩
theorem tab_shut {m : Nat} (hm : Okt L) (h : St P0 w0 w (bk t 100 #[.map (some m)] :: mp 9 m (L.map ent) :: F)) : St P0 w0 w (tab t L :: F) := by
  have h1 : St P0 w0 w (_ :: _ :: pu (Okt L) :: F) := (St.pu_shut hm h).put 2
  exact St.ex_shut m (St.big_shut (M := [_, _, pu _]) h1)
theorem New_st (h : St P0 w0 w F) : Calls Try.prog 21 #[] w fun e w' => ∃ t, e = .returned (.pointer (some ⟨t, 0, none⟩)) ∧ St P0 w0 w' (tab t [] :: F) := by
  have hmm := @run_makeMap Try.prog
  have h1 := (mp_new 9 h).alloc #[.map (some w.heap.size)] 100
  rw [World.size_alloc] at h1
  have HS := Lib.hid (tab_shut (L := []) ⟨List.Pairwise.nil, by simp, fun x hx => by simp at hx⟩ h1)
  clear h h1
  go_enter Try.func21, Try.ntmps21
  go_wp2
  go_ret
  exact ⟨_, rfl, HS.out⟩
/-- What Find tells. -/
def fndV (L : List S66) (s : ByteArray) : Value := match findN L s with
  | none => .tuple #[.int .i64 0, .int .i64 0, .bool false]
  | some x => .tuple #[.int .i64 x.f1, .int .i64 x.f2, .bool true]
set_option maxHeartbeats 4000000 in
set_option maxRecDepth 100000 in
theorem Find_st (h : St P0 w0 w (tab t L :: F)) (s : ByteArray) (hs : s.size ≤ maxLen) : Calls Try.prog 30 #[.pointer (some ⟨t, 0, none⟩), .string s] w fun e w' =>
    e = .returned (fndV L s) ∧ Up w w' := by
  obtain ⟨m, hm, h1⟩ := tab_any h
  have hl := mp_look (h1.get 1) klaw Try.underlying98 (zplace w) (kof hs)
  rw [look_ent] at hl
  have c0 : w.cell? ⟨t, 0, none⟩ = some (.map (some m)) := cell_of_block h1.bk_at 0
  unfold fndV
  cases hf : findN L s with
  | none =>
    rw [hf] at hl
    simp only [Option.map_none, Option.getD_none, Option.isSome_none] at hl
    clear h h1 hm hs hf
    go_enter Try.func30, Try.ntmps30
    go_wp2
    go_quiet (fail)
    go_wp2
    go_ret3
    exact ⟨rfl, ((Up.refl w).alloc _).drewN _⟩
  | some x =>
    rw [hf] at hl
    simp only [Option.map_some, Option.getD_some, Option.isSome_some, pv] at hl
    obtain ⟨x0, x1, x2⟩ := x
    clear h h1 hm hs hf
    go_enter Try.func30, Try.ntmps30
    go_wp2
    go_quiet (fail)
    go_wp2
    go_ret3
    exact ⟨rfl, ((Up.refl w).alloc _).drewN _⟩
end
end Go.Proofs.Ytdhgmnnkbjhpaaa.Ntab
