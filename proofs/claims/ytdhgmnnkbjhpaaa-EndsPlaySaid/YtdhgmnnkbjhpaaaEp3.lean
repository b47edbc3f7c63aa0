/- EndsPlay: the reference's list beside the arguments, as one part; contracts of Do, Find, Same, List. -/
import Derived.Test.YtdhgmnnkbjhpaaaEp2
import Derived.Test.YtdhgmnnkbjhpaaaPEndsPlayx1
import Derived.Test.YtdhgmnnkbjhpaaaIterI
namespace Go.Proofs.Ytdhgmnnkbjhpaaa.Epp
set_option linter.unusedVariables false
set_option linter.unusedSimpArgs false
open Go.RowKit Go.Proofs.Ytdhgmnnkbjhpaaa.Sep Go.Proofs.Ytdhgmnnkbjhpaaa.Mp Go.Proofs.Ytdhgmnnkbjhpaaa.Given Go.Proofs.Ytdhgmnnkbjhpaaa.Eps Go.Proofs.Ytdhgmnnkbjhpaaa.Epx Go.Proofs.Ytdhgmnnkbjhpaaa.PEndsPlay Go.Proofs.YtdhgmnnkbjhpaaaW.PrintWords
open Go.Maps (Keyed)
open Go.Sort
/-! ### 1. The part -/
def Al : Nat → Prop := fun _ => True
/-- What lay in the first world, as it was then; and a list and words that are read (they may lead there). -/
def ol (w0 : World) (v : Value) (L : List S79) (u : Value) (l : List Int) : Rg where
  X w P := (∀ k, k < w0.heap.size → P k ∧ w.heap[k]? = w0.heap[k]?) ∧ Kd.V k79 79 w 0 P v L ∧ Kd.V (Kd.int .i64) 3 w 0 P u l
  move := fun {w w' P} h hm => by
    refine ⟨fun k hk => ⟨(h.1 k hk).1, ?_⟩, Kd.V_step h.2.1 hm, Kd.V_step h.2.2 hm⟩
    have h1 := (h.1 k hk).2
    have h2 : k < w.heap.size := by
      rw [Array.getElem?_eq_getElem hk] at h1
      exact (Array.getElem?_eq_some_iff.1 h1).1
    rw [hm k (h.1 k hk).1 h2, h1]
  bound := fun {w P} h => ⟨fun k hk => by
    have h1 := (h.1 k hk).2
    have h2 : k < w.heap.size := by
      rw [Array.getElem?_eq_getElem hk] at h1
      exact (Array.getElem?_eq_some_iff.1 h1).1
    exact ⟨⟨(h.1 k hk).1, h2⟩, h1⟩, Kd.V_bound h.2.1, Kd.V_bound h.2.2⟩
  mono := fun {w P P'} h hP => ⟨fun k hk => ⟨hP k (h.1 k hk).1, (h.1 k hk).2⟩, Kd.V_mono h.2.1 hP, Kd.V_mono h.2.2 hP⟩
section
variable {w0 w w' : World} {F : List Rg} {v u : Value} {L : List S79} {l : List Int}
theorem ol_up (h : St Al w0 w (ol w0 v L u l :: F)) : Up w0 w := by
  obtain ⟨hf, Q, R, hq, hr, hd, hX, hF⟩ := h
  exact ⟨hf.os, hf.tape, hf.output, hf.size, fun k hk => (hX.1 k hk).2⟩
theorem ol_start (w : World) : St Al w w [ol w (.slice none 0 0) [] (.slice none 0 0) []] :=
  St.start (P := Al) ⟨Al, No, fun _ h => h, fun _ e => e.elim, fun _ _ e => e.elim, ⟨fun k hk => ⟨trivial, rfl⟩, Kd.V_nil _ _ _ _ _, Kd.V_nil _ _ _ _ _⟩, trivial⟩
theorem ol_form (h : St Al w0 w (ol w0 v L u l :: F)) : ∃ A c, v = .slice A L.length c ∧ L.length ≤ c ∧ Kd.C k79 w A L.length L := by
  obtain ⟨hf, Q, R, hq, hr, hd, hX, hF⟩ := h
  obtain ⟨A, c, rfl⟩ := Kd.V_slice hX.2.1
  have := Kd.V_reads' hX.2.1
  exact ⟨A, c, rfl, this.2.1, this.2.2⟩
theorem ol_words (h : St Al w0 w (ol w0 v L u l :: F)) : ∃ A c, u = .slice A l.length c ∧ l.length ≤ c ∧ Kd.C (Kd.int .i64) w A l.length l := by
  obtain ⟨hf, Q, R, hq, hr, hd, hX, hF⟩ := h
  obtain ⟨A, c, rfl⟩ := Kd.V_slice hX.2.2
  have := Kd.V_reads' hX.2.2
  exact ⟨A, c, rfl, this.2.1, this.2.2⟩
end
/-! ### 2. Contracts -/
section
variable {w0 w w' : World} {F : List Rg} {v u : Value} {l : List Int} {L : List EL}
theorem RDo_x {A : Option Addr} {n c : Nat} (h : St Al w0 w (ol w0 (.slice A n c) (RL L) u l :: F)) (ho : Okp L) (kd a : Int) (m : MS) {A5 : Option Addr} {c5 : Nat} (hr5 : Kd.C (Kd.int .i64) w0 A5 m.b.length m.b) (hc5 : m.b.length ≤ c5) :
    Calls Try.prog 34 #[.slice A n c, .agg #[.int .i64 kd, .int .i64 a, .int .i64 m.a0, .int .i64 m.a1, .int .i64 m.a2, .slice A5 m.b.length c5]] w fun x w' => ∃ A' c' B cB,
      x = .returned (.tuple #[.slice A' (doL L kd a m).1.length c', .int .i64 (doL L kd a m).2.1, mval (doL L kd a m).2.2.1.a0 (doL L kd a m).2.2.1.a1 (doL L kd a m).2.2.1.a2 B (doL L kd a m).2.2.1.b.length cB, .int .i64 (doL L kd a m).2.2.2]) ∧
      St Al w0 w' (ol w0 (.slice A' (doL L kd a m).1.length c') (RL (doL L kd a m).1) (.slice B (doL L kd a m).2.2.1.b.length cB) (doL L kd a m).2.2.1.b :: F) := by
  obtain ⟨hf, Q, R, hq, hr, hd, ⟨hold, hV, hU⟩, hF⟩ := h
  have hn := (Kd.V_at hV).1
  subst hn
  have hw : Kd.V (Kd.int .i64) 3 w w.heap.size (fun k => k < w0.heap.size) (.slice A5 m.b.length c5) m.b :=
    Kd.V_mk hc5 (Kd.F_step (Kd.C_F (Kd.heap_int .i64) hr5) (fun k hk _ => (hold k hk).2))
  refine (switchyardref28_Do.calls 300 Q A c (RL L) kd a m.a0 m.a1 m.a2 (fun k => k < w0.heap.size) A5 c5 m.b _ _ _ _ _ _ _ w (Kd.V_map hV (fun _ h => h)) hw (do_f ho kd a m (by omega))).mono ?_
  rintro x w' ⟨v0, v5, rfl, hV', hU', hb⟩
  have hu : Up w w' := hb
  obtain ⟨A', c', rfl⟩ := Kd.V_slice hV'
  obtain ⟨B, cB, rfl⟩ := Kd.V_slice hU'
  have el : (RL (doL L kd a m).1).length = (doL L kd a m).1.length := by rw [List.length_map]
  rw [el] at hV'
  refine ⟨A', c', B, cB, by rw [el], hf.trans (Fr.of_up (S := No) hu) (fun _ e _ => e.elim), fun k => (Q k ∨ w.heap.size ≤ k) ∧ k < w'.heap.size, R, ?_, ?_, ?_, ?_, hF.move fun k hk hlt => hu.block k hlt⟩
  · exact fun k hk => ⟨.inl trivial, hk.2⟩
  · exact fun k hk => ⟨.inl trivial, Nat.lt_of_lt_of_le (hr k hk).2 hu.size⟩
  · rintro k ⟨e | e, _⟩ hk
    · exact hd k e hk
    · have := (hr k hk).2
      omega
  · refine (ol w0 _ _ _ _).bound (P := fun k => Q k ∨ w.heap.size ≤ k) ⟨fun k hk => ⟨.inl (hold k hk).1, ?_⟩, ?_, ?_⟩
    · have h1 := (hold k hk).2
      have h2 : k < w.heap.size := by
        rw [Array.getElem?_eq_getElem hk] at h1
        exact (Array.getElem?_eq_some_iff.1 h1).1
      rw [hu.block k h2, h1]
    · refine Kd.V_map hV' (fun _ hh => Kd.F_mono hh fun k hk => ?_)
      rcases hk with (e | e) | e
      · exact .inl e
      · exact .inl (hold k e).1
      · exact .inr e
    · refine Kd.V_map hU' (fun _ hh => Kd.F_mono hh fun k hk => ?_)
      rcases hk with (e | e) | e
      · exact .inl e
      · exact .inl (hold k e).1
      · exact .inr e
theorem RFind_x {A : Option Addr} {c : Nat} (hc : L.length ≤ c) (hr : Kd.C k79 w A L.length (RL L)) (hL : L.length ≤ 40) (a : Int) : Calls Try.prog 37 #[.slice A L.length c, .int .i64 a] w fun x w' => x = .returned (.int .i64 (placeI L a)) ∧ Up w w' := by
  have el : (RL L).length = L.length := by rw [List.length_map]
  have h := switchyardref28_Find.calls 100 A c (RL L) a (placeI L a) w (by rw [el]; exact hr) (by rw [el]; exact hc) (find_f hL a (by omega))
  rw [el] at h
  refine h.mono ?_
  rintro x w' ⟨rfl, hd⟩
  exact ⟨rfl, hd.below⟩
theorem words_C {l : List Int} {A : Option Addr} {c : Nat} {w : World} {P : Nat → Prop} (h : (slc 3 1 (.slice A l.length c) l.length (l.map (Value.int .i64))).X w P) : l.length ≤ c ∧ Kd.C (Kd.int .i64) w A l.length l := by
  obtain ⟨A', c', e, h1, h2⟩ := slc_form h
  cases e
  refine ⟨h1, ⟨rfl, by unfold maxLen at h2; omega, fun h0 => ?_⟩⟩
  obtain ⟨g, o, rfl, _, _, _, hc, _⟩ := slc_cells h h0
  refine ⟨_, rfl, fun j x hx => ⟨[.int .i64 x], rfl, rfl, fun i u hu => ?_⟩⟩
  have hi : i < 1 := (List.getElem?_eq_some_iff.1 hu).1
  obtain rfl : i = 0 := by omega
  obtain rfl : Value.int .i64 x = u := by simpa using hu
  have h3 := hc j (.int .i64 x) (by rw [List.getElem?_map, hx]; rfl)
  have h4 : w.cell? ((⟨g, o, none⟩ : Addr).add (j * 1 + 0)) = some (.int .i64 x) := by rw [Nat.mul_one, Nat.add_zero, Addr.add_mid]; exact h3
  exact h4
theorem same_l (b0 b1 b2 : Int) (l : List Int) (hb : l.length ≤ 1000) : ∀ (d i k : Nat), i + d = l.length → d < k → switchyardref26_Same.l0 k (i : Int) b0 b1 b2 l b0 b1 b2 l = some true
  | 0, i, k, hi, hk => by
    obtain ⟨k, rfl⟩ : ∃ q, k = q + 1 := ⟨k - 1, by omega⟩
    simp only [switchyardref26_Same.l0]
    rw [if_neg (by omega)]
  | d + 1, i, k, hi, hk => by
    obtain ⟨k, rfl⟩ : ∃ q, k = q + 1 := ⟨k - 1, by omega⟩
    simp only [switchyardref26_Same.l0]
    rw [if_pos (by omega), if_pos (by omega), if_pos (by omega), if_pos trivial, stepP (by omega)]
    exact same_l b0 b1 b2 l hb d (i + 1) k (by omega) (by omega)
theorem same_u (b0 b1 b2 : Int) {l : List Int} {A A' : Option Addr} {c c' : Nat} {w : World} (h1 : Kd.C (Kd.int .i64) w A l.length l) (c1 : l.length ≤ c) (h2 : Kd.C (Kd.int .i64) w A' l.length l) (c2 : l.length ≤ c') (hb : l.length ≤ 1000) :
    Calls Try.prog 17 #[mval b0 b1 b2 A l.length c, mval b0 b1 b2 A' l.length c'] w fun x w' => x = .returned (.bool true) ∧ Up w w' := by
  refine switchyardref26_Same.calls 1002 b0 b1 b2 A c l b0 b1 b2 A' c' l true w h1 c1 h2 c2 ?_
  unfold switchyardref26_Same.f
  rw [if_pos rfl, if_pos rfl, if_pos rfl]
  simp only [switchyardref26_Same.j0]
  rw [if_neg (by simp)]
  exact same_l b0 b1 b2 l hb l.length 0 1001 (by omega) (by omega)
theorem lsame_l (l : List Int) (hb : l.length ≤ 1000) : ∀ (d i k : Nat), i + d = l.length → d < k → switchyardref03_Same.l0 k l l (i : Int) = some true
  | 0, i, k, hi, hk => by
    obtain ⟨k, rfl⟩ : ∃ q, k = q + 1 := ⟨k - 1, by omega⟩
    simp only [switchyardref03_Same.l0]
    rw [if_neg (by omega)]
  | d + 1, i, k, hi, hk => by
    obtain ⟨k, rfl⟩ : ∃ q, k = q + 1 := ⟨k - 1, by omega⟩
    simp only [switchyardref03_Same.l0]
    rw [if_pos (by omega), if_pos (by omega), if_pos (by omega), if_pos trivial, stepP (by omega)]
    exact lsame_l l hb d (i + 1) k (by omega) (by omega)
theorem lsame_u {l : List Int} {A A' : Option Addr} {c c' : Nat} {w : World} (h1 : Kd.C (Kd.int .i64) w A l.length l) (c1 : l.length ≤ c) (h2 : Kd.C (Kd.int .i64) w A' l.length l) (c2 : l.length ≤ c') (hb : l.length ≤ 1000) :
    Calls Try.prog 36 #[.slice A l.length c, .slice A' l.length c'] w fun x w' => x = .returned (.bool true) ∧ Up w w' := by
  refine (switchyardref03_Same.calls 1002 A c l A' c' l true w h1 c1 h2 c2 ?_).mono ?_
  · unfold switchyardref03_Same.f
    rw [if_pos rfl]
    exact lsame_l l hb l.length 0 1002 (by omega) (by omega)
  · rintro x w' ⟨rfl, hd⟩
    exact ⟨rfl, hd.below⟩
end
/-! ### 3. List -/
theorem keysI_ent (E : List EP) : intKeys (dm (E.map ent)) = E.map (·.k) := by
  simp [intKeys, dm, List.map_map]
  intro x hx
  rfl
theorem sort_keys {L : List EL} (h : L.Pairwise (fun x y => x.k < y.k)) {ss : List Int} (hp : ss.Perm (L.map (·.k))) : ss.mergeSort (fun x y => decide (x ≤ y)) = L.map (·.k) := by
  have htr : ∀ a b c : Int, decide (a ≤ b) = true → decide (b ≤ c) = true → decide (a ≤ c) = true := fun a b c h1 h2 => by
    simp only [decide_eq_true_eq] at *
    omega
  have htot : ∀ a b : Int, (decide (a ≤ b) || decide (b ≤ a)) = true := fun a b => by
    simp only [Bool.or_eq_true, decide_eq_true_eq]
    omega
  have h1 := List.pairwise_mergeSort (le := fun x y : Int => decide (x ≤ y)) htr htot ss
  have h2 : (L.map (·.k)).Pairwise (fun x y => decide (x ≤ y) = true) := by
    rw [List.pairwise_map]
    refine h.imp fun h => ?_
    simp only [decide_eq_true_eq]
    omega
  refine List.Perm.eq_of_pairwise (le := fun x y : Int => decide (x ≤ y) = true) ?_ h1 h2 ((List.mergeSort_perm ss _).trans hp)
  intro a b _ _ h3 h4
  simp only [decide_eq_true_eq] at h3 h4
  omega
abbrev ints (v : Value) (l : List Int) : Rg := slc 3 1 v l.length (l.map (Value.int .i64))
section
variable {P0 : Nat → Prop} {w0 w w' : World} {F : List Rg} {e : Nat} {L : List EL}
set_option maxRecDepth 100000 in
theorem List_x (h : St P0 w0 w (ep e L :: F)) (ho : Okp L) : Calls Try.prog 20 #[.pointer (some ⟨e, 0, none⟩)] w fun x w' =>
    ∃ A c, x = .returned (.slice A L.length c) ∧ St P0 w0 w' (ints (.slice A L.length c) (L.map (·.k)) :: ep e L :: F) ∧ Up w w' := by
  obtain ⟨E, hE, h0⟩ := ep_any h
  obtain ⟨m, h1⟩ := ends_any (eps_any h0).2
  have c0 : w.cell? ⟨e, 0, none⟩ = some (.map (some m)) := cell_of_block h1.bk_at 0
  have hown := mp_owns (h1.get 1)
  have hlen : E.length = L.length := by rw [← hE, List.length_map]
  have cK := Lib.hid (callsIn_wide.1 (Try.maps_KeysI (some m) w))
  have cS := Lib.hid (callsIn_wide.1 (Try.slices_SortedI m _ _ _ w hown (by rw [dm_size, List.length_map, hlen]; have := ho.len; unfold maxLen; omega) (by rw [dm_size, List.length_map, hlen]; have := ho.len; omega)))
  have HKL := Lib.hid (show intKeys (dm (E.map ent)) = L.map (·.k) from by rw [keysI_ent, ← hE, List.map_map]; rfl)
  have HO := Lib.hid ho
  have HS := Lib.hid h
  clear h h1 hown ho h0 hE hlen
  go_enter Try.func20, Try.ntmps20
  go_wp2_with (first
    | (go_at_call 43; refine cK.out.mono ?_; rintro x w1 ⟨rfl, rfl⟩)
    | (go_at_call 42; refine cS.out.mono ?_; rintro x w2 ⟨v, ss, rfl, hS, hrow, hnil, hb⟩; have HP := Lib.hid hS; have HR := Lib.hid hrow; have HB := Lib.hid hb; clear hS hrow hnil hb))
  go_ret
  have hu : Up w w2 := ((Up.refl w).alloc (.cells #[.map (some m)] 83)).trans HB.out
  have hp := HP.out
  rw [HKL.out] at hp
  have hs := sort_keys HO.out.rise hp
  have hl : ss.length = (L.map (·.k)).length := hp.length_eq
  have hrow := HR.out
  rw [hs, hl] at hrow
  have hX : (ints v (L.map (·.k))).X w2 (fun k => w.heap.size ≤ k) := by
    refine slc_of_own hrow fun k hk => ?_
    rcases hrow.2 with ⟨e, _⟩ | ⟨g, cap, cur, e, hg, _⟩
    · rw [e] at hk
      cases hk
    · rw [e] at hk
      cases hk
      rw [World.size_alloc] at hg
      show w.heap.size ≤ g
      omega
  obtain ⟨A, c, rfl, _⟩ := slc_form hX
  have e2 : Value.slice A (L.map (·.k)).length c = Value.slice A L.length c := by rw [List.length_map]
  rw [e2] at hX
  exact ⟨A, c, congrArg Ending.returned e2, HS.out.fresh (M := [ints (.slice A L.length c) (L.map (fun x : EL => x.k))]) hu ⟨fun k => w.heap.size ≤ k, No, fun _ e => e, fun _ e => e.elim, fun _ _ e => e.elim, hX, trivial⟩, hu⟩
end
end Go.Proofs.Ytdhgmnnkbjhpaaa.Epp
