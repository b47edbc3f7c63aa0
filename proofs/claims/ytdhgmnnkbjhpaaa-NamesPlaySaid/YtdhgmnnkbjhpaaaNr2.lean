/- The reference of names: its table, that is read; its contracts. -/
import Derived.Test.YtdhgmnnkbjhpaaaNr1
namespace Go.Proofs.Ytdhgmnnkbjhpaaa.Ntab
set_option linter.unusedVariables false
set_option linter.unusedSimpArgs false
open Go.RowKit Go.Proofs.Ytdhgmnnkbjhpaaa.Sep Go.Proofs.Ytdhgmnnkbjhpaaa.Mp Go.Proofs.Ytdhgmnnkbjhpaaa.PNamesPlay Go.Proofs.Ytdhgmnnkbjhpaaa.NoteOk Go.Proofs.YtdhgmnnkbjhpaaaW.PrintWords
open Go.Maps (Keyed)

theorem info_of' {P : Program} {t : TypeId} {z : Value} {n b : Nat} (h : (P.info? t).map (fun i => (i.zero, i.size, i.bytes)) = some (some z, n, b)) : ∃ i, P.info? t = some i ∧ i.zero = some z ∧ i.size = n ∧ i.bytes = b := by
  cases hi : P.info? t with
  | none => rw [hi] at h; cases h
  | some i =>
    rw [hi] at h
    simp at h
    exact ⟨i, rfl, h.1, h.2.1, h.2.2⟩
abbrev cl3 (x : S66) : List Value := [.string x.f0, .int .i64 x.f1, .int .i64 x.f2]
def cs3 : List S66 → List Value
  | [] => []
  | x :: r => .string x.f0 :: .int .i64 x.f1 :: .int .i64 x.f2 :: cs3 r
theorem cs3_len : ∀ L : List S66, (cs3 L).length = L.length * 3
  | [] => rfl
  | x :: r => by
    simp only [cs3, List.length_cons, cs3_len r]
    omega
theorem cs3_app : ∀ L M : List S66, cs3 (L ++ M) = cs3 L ++ cs3 M
  | [], M => rfl
  | x :: r, M => by simp only [cs3, List.cons_append, cs3_app r M]
theorem cs3_one : ∀ (L : List S66), ∀ u ∈ cs3 L, u.oneCell' = true
  | [], u, h => by simp [cs3] at h
  | x :: r, u, h => by
    simp only [cs3, List.mem_cons] at h
    rcases h with rfl | rfl | rfl | h
    · rfl
    · rfl
    · rfl
    · exact cs3_one r u h
theorem cs3_at : ∀ (L : List S66) (j i : Nat), i < 3 → (cs3 L)[j * 3 + i]? = L[j]?.bind fun x => (cl3 x)[i]?
  | [], j, i, hi => by simp [cs3]
  | x :: r, 0, i, hi => by
    rcases (by omega : i = 0 ∨ i = 1 ∨ i = 2) with rfl | rfl | rfl <;> rfl
  | x :: r, j + 1, i, hi => by
    have e : (j + 1) * 3 + i = j * 3 + i + 1 + 1 + 1 := by omega
    rw [e]
    simp only [cs3, List.getElem?_cons_succ]
    exact cs3_at r j i hi
theorem rd_of_C {w : World} {A : Option Addr} {n : Nat} {L : List S66} (h : Kd.C k66 w A n L) : Rd w 3 A n (cs3 L) := by
  obtain ⟨rfl, _, hc⟩ := h
  refine ⟨cs3_len L, cs3_one L, fun h0 => ?_⟩
  obtain ⟨ad, hA, hx⟩ := hc h0
  refine ⟨ad, hA, fun j u hu => ?_⟩
  have hj : j = j / 3 * 3 + j % 3 := by omega
  rw [hj, cs3_at L (j / 3) (j % 3) (by omega)] at hu
  obtain ⟨x, h1, h2⟩ := Option.bind_eq_some_iff.1 hu
  obtain ⟨cs, hl, hK, hc⟩ := hx _ x h1
  obtain rfl := k66_open hK
  rw [hj]
  exact hc _ u h2
theorem C_of_rd {w : World} {A : Option Addr} {n : Nat} {L : List S66} (h : Rd w 3 A n (cs3 L)) (hm : n ≤ maxLen) : Kd.C k66 w A n L := by
  obtain ⟨hl, _, hc⟩ := h
  rw [cs3_len] at hl
  obtain rfl : L.length = n := by omega
  refine ⟨rfl, by unfold maxLen at hm; omega, fun h0 => ?_⟩
  obtain ⟨ad, hA, hx⟩ := hc h0
  refine ⟨ad, hA, fun j x hjx => ⟨cl3 x, rfl, k66_mk w x, fun i u hu => ?_⟩⟩
  have hi : i < 3 := (List.getElem?_eq_some_iff.1 hu).1
  refine hx _ u ?_
  show (cs3 L)[j * 3 + i]? = _
  rw [cs3_at L j i hi, hjx]
  exact hu
theorem C_take {w : World} {A : Option Addr} {n : Nat} {L : List S66} (h : Kd.C k66 w A n L) {i : Nat} (hi : i ≤ n) : Kd.C k66 w A i (L.take i) := by
  obtain ⟨rfl, h1, hc⟩ := h
  refine ⟨by simp; omega, by omega, fun h0 => ?_⟩
  obtain ⟨ad, hA, hx⟩ := hc (by omega)
  refine ⟨ad, hA, fun j x hjx => hx j x ?_⟩
  obtain ⟨hj, rfl⟩ := List.getElem?_eq_some_iff.1 hjx
  rw [List.length_take] at hj
  rw [List.getElem_take]
  exact List.getElem?_eq_getElem _
theorem C_dropC {w : World} {A A' : Option Addr} {n c : Nat} {L : List S66} (h : Kd.C k66 w A n L) {i : Nat} (hi : i ≤ n) (hc : n ≤ c) (hA' : A' = if c = i then A else A.map (·.add (i * 3))) : Kd.C k66 w A' (n - i) (L.drop i) := by
  obtain ⟨rfl, h1, hc1⟩ := h
  refine ⟨by simp, by omega, fun h0 => ?_⟩
  obtain ⟨ad, hA, hx⟩ := hc1 (by omega)
  rw [if_neg (by omega), hA] at hA'
  refine ⟨ad.add (i * 3), hA', fun j x hjx => ?_⟩
  rw [List.getElem?_drop] at hjx
  obtain ⟨cs, e1, e2, e3⟩ := hx _ x hjx
  refine ⟨cs, e1, e2, fun q u hu => ?_⟩
  have := e3 q u hu
  show w.cell? ((ad.add (i * 3)).add (j * 3 + q)) = _
  rw [Addr.add_add, ← this]
  show _ = w.cell? (ad.add ((i + j) * 3 + q))
  congr 2
  omega
/-- The reference's table: a list that is read. -/
structure Tb (w : World) (A : Option Addr) (c : Nat) (L : List S66) : Prop where
  row : Kd.C k66 w A L.length L
  le : L.length ≤ c
  max : c ≤ maxLen
theorem Tb.up {w w' : World} {A : Option Addr} {c : Nat} {L : List S66} (h : Tb w A c L) (hu : Up w w') : Tb w' A c L := ⟨Kd.C_below h.row hu, h.le, h.max⟩
abbrev rt (A : Option Addr) (c : Nat) (L : List S66) : Rg := slc 66 3 (.slice A L.length c) L.length (cs3 L)
/-- The same table, or a new one in memory of its own. -/
def NewT (w w' : World) (A A' : Option Addr) (c c' : Nat) (L L' : List S66) : Prop := (A' = A ∧ c' = c ∧ L' = L) ∨ (rt A' c' L').X w' (fun k => w.heap.size ≤ k)
theorem NewT.before {v w w' : World} {A A' : Option Addr} {c c' : Nat} {L L' : List S66} (h : NewT w w' A A' c c' L L') (hu : Up v w) : NewT v w' A A' c c' L L' := by
  rcases h with h | h
  · exact .inl h
  · exact .inr ((rt A' c' L').mono h fun k hk => Nat.le_trans hu.size hk)
section
variable {P0 : Nat → Prop} {w0 w w' : World} {F : List Rg} {A A' : Option Addr} {c c' : Nat} {L L' : List S66}
theorem St.newT (h : St P0 w0 w (rt A c L :: F)) (hu : Up w w') (hn : NewT w w' A A' c c' L L') : St P0 w0 w' (rt A' c' L' :: F) := by
  rcases hn with ⟨rfl, rfl, rfl⟩ | hn
  · exact h.more hu
  · exact h.drop.fresh (M := [rt A' c' L']) hu ⟨fun k => w.heap.size ≤ k, No, fun _ e => e, fun _ e => e.elim, fun _ _ e => e.elim, hn, trivial⟩
theorem tb_of_X {P : Nat → Prop} (h3 : (rt A c L).X w P) : Tb w A c L := by
  obtain ⟨A7, c7, e7, h4, h5⟩ := slc_form h3
  cases e7
  exact ⟨C_of_rd (slc_rd h3 (cs3_one _)) (by omega), h4, h5⟩
theorem tb_of_st (h : St P0 w0 w (rt A c L :: F)) : Tb w A c L := by
  obtain ⟨P, ⟨Q, Q2, _, _, _, h3, _⟩, _⟩ := St.step (L := [rt A c L]) h
  exact tb_of_X h3
theorem newT_of_st {v : World} (hu : Up v w0) (h : St No w0 w (rt A' c' L' :: F)) : NewT v w A A' c c' L L' := by
  obtain ⟨Q, Q2, hq, _, _, h3, _⟩ := h.2
  refine .inr ((rt A' c' L').mono h3 fun k hk => ?_)
  rcases (hq k hk).1 with e | e
  · exact e.elim
  · exact Nat.le_trans hu.size e
end
/-- Names that are read. -/
structure Nb (w : World) (A : Option Addr) (c : Nat) (l : List ByteArray) : Prop where
  row : Kd.C Kd.string w A l.length l
  le : l.length ≤ c
theorem Nb.up {w w' : World} {A : Option Addr} {c : Nat} {l : List ByteArray} (h : Nb w A c l) (hu : Up w w') : Nb w' A c l := ⟨Kd.C_below h.row hu, h.le⟩
theorem nb_of_nms {P0 : Nat → Prop} {w0 w : World} {F : List Rg} {v : Value} {l : List ByteArray} (h : St P0 w0 w (nms v l :: F)) : ∃ A c, v = .slice A l.length c ∧ Nb w A c l := by
  obtain ⟨P, ⟨Q, Q2, _, _, _, h3, _⟩, _⟩ := St.step (L := [nms v l]) h
  obtain ⟨A, c, rfl, h4, h5⟩ := slc_form h3
  refine ⟨A, c, rfl, ⟨rfl, by unfold maxLen at h5; omega, fun h0 => ?_⟩, h4⟩
  obtain ⟨g, o, rfl, _, _, _, hc, _⟩ := slc_cells h3 h0
  refine ⟨_, rfl, fun j x hjx => ⟨[.string x], rfl, rfl, fun i u hu => ?_⟩⟩
  have hi : i < 1 := (List.getElem?_eq_some_iff.1 hu).1
  obtain rfl : i = 0 := by omega
  have hu' : u = .string x := by simpa using hu.symm
  subst hu'
  rw [Addr.add_mid]
  refine hc _ _ ?_
  show (strs l)[j * 1 + 0]? = _
  unfold strs
  rw [Nat.mul_one, Nat.add_zero, List.getElem?_map, hjx]
  rfl
theorem rfind_u {A : Option Addr} {c : Nat} {L : List S66} {w : World} (h : Tb w A c L) (hb : L.length ≤ 1000) (s : ByteArray) : Calls Try.prog 31 #[.slice A L.length c, .string s] w fun e w' => e = .returned (.int .i64 (if placeN L s < L.length then (placeN L s : Int) else -1)) ∧ Up w w' :=
  (switchyardref29_Find.calls 1001 A c L s _ w h.row h.le (find_f L s hb)).mono (by rintro e w' ⟨rfl, hd⟩; exact ⟨rfl, Drawn0.below hd⟩)
theorem rdrop_u {A : Option Addr} {c : Nat} {L : List S66} {w : World} (h : Tb w A c L) (hb : L.length ≤ 1000) (core : Int) : Calls Try.prog 47 #[.slice A L.length c, .int .i64 core] w fun e w' => ∃ A' c', e = .returned (.tuple #[.slice A' (dropN L core).length c', .int .i64 ((ofN L core).length : Int)]) ∧ Tb w' A' c' (dropN L core) ∧ NewT w w' A A' c c' L (dropN L core) ∧ Up w w' := by
  refine (switchyardref29_Drop.calls 1001 A c L core _ _ w h.row h.le (drop_f L core hb)).mono ?_
  rintro e w' ⟨v, rfl, hr, hu⟩
  obtain ⟨A', c', rfl, h1, h2⟩ := Kd.R_reads hr
  obtain ⟨inner, ho⟩ := Kd.R_own hr
  have h0 := ho.2
  have hX : (slc 66 3 (.slice A' (dropN L core).length c') (dropN L core).length inner).X w' (fun k => w.heap.size ≤ k) := by
    refine slc_of_own ho fun k hk => ?_
    rcases h0 with ⟨e, _⟩ | ⟨g, cap, cur, e, hg, _⟩
    · rw [e] at hk
      cases hk
    · rw [e] at hk
      cases hk
      exact hg
  have hin : inner = cs3 (dropN L core) := by
    have hl := (slc_one hX).1
    refine List.ext_getElem? fun j => ?_
    by_cases hj : j < (dropN L core).length * 3
    · have hn : 0 < (dropN L core).length := by omega
      obtain ⟨g, o, hA, _, _, _, hc, _⟩ := slc_cells hX hn
      have hr2 := rd_of_C h2
      obtain ⟨ad, hA2, hc2⟩ := hr2.2.2 hn
      rw [hA] at hA2
      cases hA2
      obtain ⟨u1, hu1⟩ : ∃ u, inner[j]? = some u := ⟨_, List.getElem?_eq_getElem (by rw [hl]; exact hj)⟩
      obtain ⟨u2, hu2⟩ : ∃ u, (cs3 (dropN L core))[j]? = some u := ⟨_, List.getElem?_eq_getElem (by rw [cs3_len]; exact hj)⟩
      have e1 := hc j _ hu1
      have e2 := hc2 j _ hu2
      rw [Addr.add_mid, e1] at e2
      rw [hu1, hu2, e2]
    · rw [List.getElem?_eq_none (by rw [hl]; omega), List.getElem?_eq_none (by rw [cs3_len]; omega)]
  subst hin
  exact ⟨A', c', rfl, tb_of_X hX, .inr hX, hu⟩
theorem rof_u {A : Option Addr} {c : Nat} {L : List S66} {w : World} (h : Tb w A c L) (hb : L.length ≤ 1000) (core : Int) : Calls Try.prog 29 #[.slice A L.length c, .int .i64 core] w fun e w' => ∃ A' c', e = .returned (.slice A' (namesOf (ofR L core)).length c') ∧ Nb w' A' c' (namesOf (ofR L core)) ∧ Up w w' := by
  refine (switchyardref29_Of.calls 1001 A c L core _ w h.row h.le (of_f L core hb)).mono ?_
  rintro e w' ⟨v, rfl, hr, hu⟩
  obtain ⟨A', c', rfl, h1, h2⟩ := Kd.R_reads hr
  exact ⟨A', c', rfl, ⟨h2, h1⟩, hu⟩
theorem rsame_u {A B : Option Addr} {c d : Nat} {l : List ByteArray} {w : World} (h : Nb w A c l) (h2 : Nb w B d l) (hb : l.length ≤ 1000) : Calls Try.prog 28 #[.slice A l.length c, .slice B l.length d] w fun e w' => e = .returned (.bool true) ∧ Up w w' :=
  (switchyardref29_SameNames.calls 1001 A c l B d l _ w h.row h.le h2.row h2.le (same_f l hb)).mono (by rintro e w' ⟨rfl, hd⟩; exact ⟨rfl, Drawn0.below hd⟩)
theorem rwrite_u (g : Bool) (s : ByteArray) (a : Int) (hs : s.size ≤ 1000) (w : World) : Calls Try.prog 65 #[.agg #[.bool g, .string s, .int .i64 a]] w fun e w' => ∃ r0 r1 r2 Av nv cv, e = .returned (.tuple #[.agg #[.int .i64 r0, .int .i64 r1, .int .i64 r2, .slice Av nv cv], .int .i64 (ncode (bytesOf s) a)]) ∧ Up w w' := by
  obtain ⟨⟨r0, r1, r2, r3, r4⟩, hr⟩ : ∃ r, nwr g (bytesOf s) a = r := ⟨_, rfl⟩
  have h4 := nwr_code g (bytesOf s) a
  rw [hr] at h4
  have hf := rWrite g s a hs (s.size + 4) (by omega)
  rw [hr] at hf
  refine (switchyardref27_Write.calls (s.size + 4) g s a r0 r1 r2 r3 r4 w hf).mono ?_
  rintro e w' ⟨v, rfl, hR, hu⟩
  rw [← h4]
  obtain ⟨A', c', rfl, _⟩ := Kd.R_reads hR
  exact ⟨_, _, _, _, _, _, rfl, hu⟩
end Go.Proofs.Ytdhgmnnkbjhpaaa.Ntab
