/- The reference of endpoints: Open, Close, Deliver, Take, Do are the model's. -/
import Derived.Test.YtdhgmnnkbjhpaaaEp1
import Derived.Test.YtdhgmnnkbjhpaaaPEndsPlayx11
namespace Go.Proofs.Ytdhgmnnkbjhpaaa.Epp
set_option linter.unusedVariables false
set_option linter.unusedSimpArgs false
open Go.RowKit Go.Proofs.Ytdhgmnnkbjhpaaa.Sep Go.Proofs.Ytdhgmnnkbjhpaaa.Mp Go.Proofs.Ytdhgmnnkbjhpaaa.Given Go.Proofs.Ytdhgmnnkbjhpaaa.Eps Go.Proofs.Ytdhgmnnkbjhpaaa.Epx Go.Proofs.Ytdhgmnnkbjhpaaa.PEndsPlay Go.Proofs.YtdhgmnnkbjhpaaaW.PrintWords
/-! ### 1. Sorted -/
theorem nodup_of {L : List EL} (h : L.Pairwise (fun x y => x.k < y.k)) : (L.map (·.k)).Nodup := by
  unfold List.Nodup
  rw [List.pairwise_map]
  exact h.imp fun h => by omega
theorem okp_del {L : List EL} (h : Okp L) (a : Int) : Okp (delL L a) :=
  ⟨h.rise.filter _, Nat.le_trans (List.length_filter_le _ _) h.len, fun x hx => h.few x (List.mem_filter.1 hx).1, fun x hx => h.pos x (List.mem_filter.1 hx).1⟩
theorem mem_ins (x : EL) : ∀ (L : List EL) (z : EL), z ∈ insL x L → z = x ∨ z ∈ L
  | [], z, h => .inl (List.mem_singleton.1 h)
  | y :: r, z, h => by
    unfold insL at h
    split at h
    · rcases List.mem_cons.1 h with e | h
      · exact .inl e
      · exact .inr h
    · rcases List.mem_cons.1 h with e | h
      · exact .inr (by rw [e]; exact .head _)
      · rcases mem_ins x r z h with e | h
        · exact .inl e
        · exact .inr (.tail _ h)
theorem len_ins (x : EL) : ∀ L : List EL, (insL x L).length = L.length + 1
  | [] => rfl
  | y :: r => by
    unfold insL
    split
    · rfl
    · simp [len_ins x r]
theorem rise_ins (x : EL) : ∀ L : List EL, L.Pairwise (fun x y => x.k < y.k) → (∀ y ∈ L, y.k ≠ x.k) → (insL x L).Pairwise (fun x y => x.k < y.k)
  | [], _, _ => by simp [insL]
  | y :: r, h, hn => by
    obtain ⟨h1, h2⟩ := List.pairwise_cons.1 h
    unfold insL
    by_cases hx : x.k < y.k
    · rw [if_pos hx]
      refine List.pairwise_cons.2 ⟨fun z hz => ?_, h⟩
      rcases List.mem_cons.1 hz with rfl | hz
      · exact hx
      · have := h1 z hz
        omega
    · rw [if_neg hx]
      refine List.pairwise_cons.2 ⟨fun z hz => ?_, rise_ins x r h2 fun z hz => hn z (.tail _ hz)⟩
      rcases mem_ins x r z hz with rfl | hz
      · have := hn y (.head _)
        omega
      · exact h1 z hz
theorem okp_put {L : List EL} (h : Okp L) (x : EL) (hl : (delL L x.k).length < 32) (hm : x.ms.length ≤ 4) (hp : 0 < x.k ∧ x.k ≤ 65535) : Okp (putL L x) := by
  have hd := okp_del h x.k
  refine ⟨rise_ins x _ hd.rise fun y hy => by simpa using (List.mem_filter.1 hy).2, by unfold putL; rw [len_ins]; omega, fun z hz => ?_, fun z hz => ?_⟩
  · rcases mem_ins x _ z hz with rfl | hz
    · exact hm
    · exact hd.few z hz
  · rcases mem_ins x _ z hz with rfl | hz
    · exact hp
    · exact hd.pos z hz
theorem find_pos {L : List EL} {a : Int} {y : EL} (h : findL L a = some y) : y.k = a ∧ y ∈ L := by
  have h1 := List.find?_some h
  exact ⟨of_decide_eq_true h1, List.mem_of_find?_eq_some h⟩
theorem len_del {L : List EL} {a : Int} {y : EL} (h : findL L a = some y) : (delL L a).length < L.length := by
  obtain ⟨hk, hm⟩ := find_pos h
  refine Nat.lt_of_le_of_ne (List.length_filter_le _ _) fun e => ?_
  have := List.filter_eq_self.1 (List.filter_sublist.eq_of_length e) y hm
  simp [hk] at this
/-! ### 2. Open, Close -/
theorem free_at {L : List EL} (h : Okp L) (hl : L.length < 32) : ∃ j : Nat, j ≤ 32 ∧ (∀ i < j, (findL L (16 + (i : Int))).isSome = true) ∧ (findL L (16 + (j : Int))).isSome = false := by
  have hx : ∃ j, j < 33 ∧ (fun i : Nat => (findL L (16 + (i : Int))).isSome) j = false := by
    refine Classical.byContradiction fun hn => ?_
    have hall : ∀ j : Nat, j < 33 → (findL L (16 + (j : Int))).isSome = true := fun j hj => by
      cases hp : (findL L (16 + (j : Int))).isSome with
      | true => rfl
      | false => exact absurd ⟨j, hj, hp⟩ hn
    have h33 := sub_len ((List.range 33).map fun j : Nat => 16 + (j : Int)) (L.map (·.k)) (by decide) (fun x hx => by
      obtain ⟨j, hj, rfl⟩ := List.mem_map.1 hx
      obtain ⟨y, hy⟩ := Option.isSome_iff_exists.1 (hall j (List.mem_range.1 hj))
      obtain ⟨hk, hm⟩ := find_pos hy
      exact List.mem_map.2 ⟨y, hm, hk⟩)
    simp only [List.length_map, List.length_range] at h33
    omega
  obtain ⟨j, h1, h2, h3⟩ := least 33 hx
  exact ⟨j, by omega, h3, h2⟩
theorem place_neg {L : List EL} {a : Int} (h : (findL L a).isSome = false) : placeI L a = -1 := place_none (Option.not_isSome_iff_eq_none.1 (by rw [h]; decide))
theorem place_nn {L : List EL} {a : Int} (h : (findL L a).isSome = true) : 0 ≤ placeI L a := by
  obtain ⟨y, hy⟩ := Option.isSome_iff_exists.1 h
  obtain ⟨_, _, e⟩ := place_some hy
  omega
theorem open_l {L : List EL} (hb : L.length ≤ 32) : ∀ (j k : Nat) (a : Int), 16 ≤ a → a + (j : Int) ≤ 1000 → j ≤ 32 → j + 150 ≤ k → (∀ i < j, (findL L (a + (i : Int))).isSome = true) → (findL L (a + (j : Int))).isSome = false → switchyardref28_Open.l0 k (RL L) a = some (RL (putL L ⟨a + (j : Int), []⟩), a + (j : Int), 0)
  | 0, k, a, h1, h2, h3, hk, _, hn => by
    obtain ⟨k, rfl⟩ : ∃ q, k = q + 1 := ⟨k - 1, by omega⟩
    have hn' : (findL L a).isSome = false := by simpa using hn
    simp only [switchyardref28_Open.l0]
    rw [find_f (by omega) a (by omega), Option.bind_some, place_neg hn', if_neg (by omega)]
    have hp := put_f (L := L) (by omega) a [] (k := k) (by omega)
    rw [List.map_nil] at hp
    rw [hp, Option.bind_some]
    simp
  | j + 1, k, a, h1, h2, h3, hk, hs, hn => by
    obtain ⟨k, rfl⟩ : ∃ q, k = q + 1 := ⟨k - 1, by omega⟩
    have h0 : (findL L a).isSome = true := by simpa using hs 0 (by omega)
    simp only [switchyardref28_Open.l0]
    rw [find_f (by omega) a (by omega), Option.bind_some, if_pos (place_nn h0), show wrap64 (a + 1) = a + 1 by unfold wrap64; omega]
    rw [open_l hb j k (a + 1) (by omega) (by omega) (by omega) (by omega) (fun i hi => by
      have := hs (i + 1) (by omega)
      rwa [show a + ((i + 1 : Nat) : Int) = a + 1 + (i : Int) by push_cast; omega] at this) (by rwa [show a + ((j + 1 : Nat) : Int) = a + 1 + (j : Int) by push_cast; omega] at hn)]
    rw [show a + ((j + 1 : Nat) : Int) = a + 1 + (j : Int) by push_cast; omega]
theorem open_f {L : List EL} (h : Okp L) (a : Int) {k : Nat} (hk : 300 ≤ k) : switchyardref28_Open.f k (RL L) a = some (RL (openL L a).1, (openL L a).2.1, (openL L a).2.2) := by
  have hL := h.len
  obtain ⟨k, rfl⟩ : ∃ q, k = q + 1 + 1 := ⟨k - 2, by omega⟩
  have hj1 : ∀ b, ¬ (a < 0 ∨ 65536 ≤ a) → b = (findL L a).isSome → switchyardref28_Open.j1 (k + 1) (RL L) a b = some (RL (openL L a).1, (openL L a).2.1, (openL L a).2.2) := by
    intro b hc hb
    have ho : openL L a = if (findL L a).isSome = true then (L, 0, 16) else if 32 ≤ L.length then (L, 0, 17) else (putL L ⟨if a = 0 then freeL L else a, []⟩, if a = 0 then freeL L else a, 0) := if_neg hc
    rw [ho]
    simp only [switchyardref28_Open.j1]
    by_cases c1 : (findL L a).isSome = true
    · rw [if_pos (by rw [hb]; exact c1), if_pos c1]
    rw [if_neg (by rw [hb]; exact c1), if_neg c1]
    by_cases c2 : 32 ≤ L.length
    · rw [if_pos (by rw [List.length_map]; omega), if_pos c2]
    rw [if_neg (by rw [List.length_map]; omega), if_neg c2]
    by_cases c3 : a = 0
    · obtain ⟨j, hj, hy, hn⟩ := free_at h (by omega)
      have hf : freeL L = 16 + (j : Int) := freeN_is L 100 j 16 (by omega) hy hn
      rw [if_pos c3, if_pos c3, hf]
      exact open_l hL j k 16 (by omega) (by omega) hj (by omega) hy hn
    · rw [if_neg c3, if_neg c3]
      have hp := put_f (L := L) (by omega) a [] (k := k) (by omega)
      rw [List.map_nil] at hp
      rw [hp, Option.bind_some]
  unfold switchyardref28_Open.f
  by_cases c0 : a < 0
  · have ho : openL L a = (L, 0, 2) := if_pos (.inl c0)
    rw [if_pos c0, ho]
    simp only [switchyardref28_Open.j0]
    rw [if_pos trivial]
  rw [if_neg c0]
  simp only [switchyardref28_Open.j0]
  by_cases c6 : a > 65535
  · have ho : openL L a = (L, 0, 2) := if_pos (.inr (by omega))
    rw [if_pos (decide_eq_true c6), ho]
  rw [if_neg (by simpa using c6)]
  by_cases cp : a > 0
  · rw [if_pos cp, find_f (by omega) a (by omega), Option.bind_some]
    refine hj1 _ (by omega) ?_
    cases hs : (findL L a).isSome with
    | true => exact decide_eq_true (place_nn hs)
    | false => exact decide_eq_false (by rw [place_neg hs]; omega)
  · rw [if_neg cp]
    refine hj1 _ (by omega) ?_
    cases hs : (findL L a).isSome with
    | false => rfl
    | true =>
      obtain ⟨y, hy⟩ := Option.isSome_iff_exists.1 hs
      obtain ⟨hk, hm⟩ := find_pos hy
      have := (h.pos y hm).1
      omega
theorem close_f {L : List EL} (h : Okp L) (a : Int) {k : Nat} (hk : 300 ≤ k) : switchyardref28_Close.f k (RL L) a = some (RL (closeL L a).1, (closeL L a).2) := by
  have hL := h.len
  unfold switchyardref28_Close.f closeL
  rw [find_f (by omega) a (by omega), Option.bind_some]
  cases hs : (findL L a).isSome with
  | true =>
    have := place_nn hs
    rw [if_neg (by omega), if_pos rfl, without_f (by omega) a (by omega), Option.bind_some]
  | false =>
    rw [place_neg hs, if_pos (by omega), if_neg (by decide)]
/-! ### 3. Deliver, Take -/
theorem word_f (a : Int) : switchyardref26_word.f a = some (!oddI a) := by
  unfold switchyardref26_word.f oddI wd
  by_cases h0 : a ≥ 0
  · rw [if_pos h0]
    by_cases h6 : a ≤ 65535
    · rw [decide_eq_true h6, show a % 65536 = a by omega]
      simp
    · rw [decide_eq_false h6]
      have : a ≠ a % 65536 := by omega
      simp [bne, this]
  · rw [if_neg h0]
    have : a ≠ a % 65536 := by omega
    simp [bne, this]
theorem right_l (b0 b1 b2 : Int) (l : List Int) (hb : l.length ≤ 1000) : ∀ (d i k : Nat), i + d = l.length → d < k → switchyardref26_Right.l0 k (i : Int) b0 b1 b2 l = some (!((l.drop i).any oddI))
  | 0, i, k, hi, hk => by
    obtain ⟨k, rfl⟩ : ∃ q, k = q + 1 := ⟨k - 1, by omega⟩
    simp only [switchyardref26_Right.l0]
    rw [if_neg (by omega), List.drop_eq_nil_of_le (by omega)]
    rfl
  | d + 1, i, k, hi, hk => by
    obtain ⟨k, rfl⟩ : ∃ q, k = q + 1 := ⟨k - 1, by omega⟩
    have h : i < l.length := by omega
    have e : rd l (i : Int) = l[i] := by simp [rd, List.getD_eq_getElem?_getD, List.getElem?_eq_getElem h]
    simp only [switchyardref26_Right.l0]
    rw [if_pos (by omega), if_pos (by omega), word_f, Option.bind_some, stepP (by omega), e, List.drop_eq_getElem_cons h, List.any_cons]
    by_cases ho : oddI l[i] = true
    · rw [ho]
      rfl
    · rw [Bool.not_eq_true] at ho
      rw [ho, if_pos (show (!false) = true from rfl), right_l b0 b1 b2 l hb d (i + 1) k (by omega) (by omega)]
      rfl
theorem right_f (b0 b1 b2 : Int) (l : List Int) {k : Nat} (hk : 300 ≤ k) : switchyardref26_Right.f k b0 b1 b2 l = some (decide (hwrong b0 b1 b2 l = 0)) := by
  obtain ⟨k, rfl⟩ : ∃ q, k = q + 1 := ⟨k - 1, by omega⟩
  unfold switchyardref26_Right.f hwrong
  have hj : switchyardref26_Right.j0 (k + 1) true b0 b1 b2 l = some false := by
    simp only [switchyardref26_Right.j0]
    rw [if_pos trivial]
  have hif : ∀ {p : Prop} [Decidable p], p → decide ((if 5 < l.length then (18 : Int) else if p then 2 else 0) = 0) = false := fun hp => by
    rw [if_pos hp]
    split <;> decide
  by_cases c0 : b0 < 0
  · rw [if_pos c0, hj, hif (.inl c0)]
  rw [if_neg c0]
  by_cases c1 : b0 > 2
  · rw [if_pos c1, hj, hif (.inr (.inl c1))]
  rw [if_neg c1, word_f, Option.bind_some]
  by_cases c2 : oddI b1 = true
  · rw [if_neg (by simp [c2]), hj, hif (.inr (.inr (.inl c2)))]
  rw [if_pos (by simpa using c2), word_f, Option.bind_some]
  by_cases c3 : oddI b2 = true
  · rw [if_neg (by simp [c3]), hj, hif (.inr (.inr (.inr (.inl c3))))]
  rw [if_pos (by simpa using c3)]
  by_cases c5 : 5 < l.length
  · rw [decide_eq_true (by omega : (l.length : Int) > 5), hj, if_pos c5]
    rfl
  · rw [decide_eq_false (by omega : ¬ (l.length : Int) > 5), if_neg c5]
    simp only [switchyardref26_Right.j0]
    rw [if_neg (by decide)]
    have hr := right_l b0 b1 b2 l (by omega) l.length 0 k (by omega) (by omega)
    rw [List.drop_zero] at hr
    rw [show ((0 : Nat) : Int) = 0 from rfl] at hr
    rw [hr]
    by_cases c4 : l.any oddI = true
    · rw [if_pos (.inr (.inr (.inr (.inr c4)))), c4]
      rfl
    · rw [if_neg (by
        rintro (h | h | h | h | h)
        · exact c0 h
        · exact c1 h
        · exact c2 h
        · exact c3 h
        · exact c4 h)]
      rw [Bool.not_eq_true] at c4
      rw [c4]
      rfl
theorem deliv_f {L : List EL} (h : Okp L) (m : MS) {k : Nat} (hk : 300 ≤ k) : switchyardref28_Deliver.f k (RL L) m.a0 m.a1 m.a2 m.b = some (RL (delivL L m).1, (delivL L m).2) := by
  have hL := h.len
  unfold switchyardref28_Deliver.f delivL
  rw [right_f _ _ _ _ hk, Option.bind_some]
  by_cases c : hwrong m.a0 m.a1 m.a2 m.b = 0
  · rw [decide_eq_true c, if_pos c, if_pos rfl, find_f (by omega) _ (by omega), Option.bind_some]
    cases hf : findL L m.a1 with
    | none => rw [place_none hf, if_pos (by omega)]
    | some y =>
      obtain ⟨hp, hy, e⟩ := place_some hf
      rw [e, if_neg (by omega), if_pos (by omega), if_pos (by rw [List.length_map]; omega), rd79 hp, hy]
      dsimp only
      by_cases c4 : 4 ≤ y.ms.length
      · rw [if_pos (by rw [List.length_map]; omega), if_pos c4]
      · have h3 := put_f (L := L) (by omega) m.a1 (y.ms ++ [m]) (k := k) (by omega)
        rw [List.map_append] at h3
        rw [if_neg (by rw [List.length_map]; omega), if_neg c4, if_pos (by simp; omega), Option.bind_some, if_pos (by simp; omega), List.nil_append]
        rw [show (y.ms.map toS ++ [(⟨m.a0, m.a1, m.a2, m.b⟩ : S30)]) = y.ms.map toS ++ [m].map toS from rfl, h3, Option.bind_some]
  · rw [decide_eq_false c, if_neg c, if_neg (by decide)]
theorem take_f {L : List EL} (h : Okp L) (a : Int) {k : Nat} (hk : 300 ≤ k) : switchyardref28_Take.f k (RL L) a = some (RL (takeL L a).1, (takeL L a).2.1.a0, (takeL L a).2.1.a1, (takeL L a).2.1.a2, (takeL L a).2.1.b, (takeL L a).2.2) := by
  have hL := h.len
  unfold switchyardref28_Take.f takeL
  rw [find_f (by omega) _ (by omega), Option.bind_some]
  cases hf : findL L a with
  | none => rw [place_none hf, if_pos (by omega)]; rfl
  | some y =>
    obtain ⟨hp, hy, e⟩ := place_some hf
    rw [e, if_neg (by omega), if_pos (by omega), if_pos (by rw [List.length_map]; omega), rd79 hp, hy]
    obtain ⟨yk, yms⟩ := y
    dsimp only
    cases yms with
    | nil => rw [if_pos (by simp)]; rfl
    | cons q ms =>
      rw [if_neg (by simp only [List.map_cons, List.length_cons]; omega), if_pos (by simp only [List.map_cons, List.length_cons]; omega), if_pos (by simp only [List.map_cons, List.length_cons]; omega)]
      have h3 := put_f (L := L) (by omega) a ms (k := k) (by omega)
      rw [show ((q :: ms).map toS).drop 1 = ms.map toS from rfl, h3, Option.bind_some]
      rfl
theorem do_f {L : List EL} (h : Okp L) (kd a : Int) (m : MS) {k : Nat} (hk : 300 ≤ k) : switchyardref28_Do.f k (RL L) kd a m.a0 m.a1 m.a2 m.b = some (RL (doL L kd a m).1, (doL L kd a m).2.1, (doL L kd a m).2.2.1.a0, (doL L kd a m).2.2.1.a1, (doL L kd a m).2.2.1.a2, (doL L kd a m).2.2.1.b, (doL L kd a m).2.2.2) := by
  unfold switchyardref28_Do.f
  by_cases h0 : kd = 0
  · subst h0
    rw [if_pos rfl, open_f h a hk, Option.bind_some, doL0]
    rfl
  rw [if_neg h0]
  by_cases h1 : kd = 1
  · subst h1
    rw [if_pos rfl, close_f h a hk, Option.bind_some, doL1]
    rfl
  rw [if_neg h1]
  by_cases h2 : kd = 2
  · subst h2
    rw [if_pos rfl, deliv_f h m hk, Option.bind_some, doL2]
    rfl
  rw [if_neg h2, take_f h a hk, Option.bind_some, doL3 L a m h0 h1 h2]
/-! ### 4. What is kept -/
theorem okp_open {L : List EL} (h : Okp L) (a : Int) : Okp (openL L a).1 := by
  unfold openL
  by_cases c1 : a < 0 ∨ 65536 ≤ a
  · rw [if_pos c1]; exact h
  rw [if_neg c1]
  by_cases c2 : (findL L a).isSome = true
  · rw [if_pos c2]; exact h
  rw [if_neg c2]
  by_cases c3 : 32 ≤ L.length
  · rw [if_pos c3]; exact h
  rw [if_neg c3]
  dsimp only
  refine okp_put h _ ?_ (Nat.zero_le _) ?_
  · exact Nat.lt_of_le_of_lt (List.length_filter_le _ _) (by omega)
  · dsimp only
    by_cases c4 : a = 0
    · obtain ⟨j, hj, hy, hn⟩ := free_at h (by omega)
      have hf : freeL L = 16 + (j : Int) := freeN_is L 100 j 16 (by omega) hy hn
      rw [if_pos c4, hf]
      omega
    · rw [if_neg c4]
      omega
theorem okp_do {L : List EL} (h : Okp L) (kd a : Int) (m : MS) : Okp (doL L kd a m).1 := by
  have hL := h.len
  by_cases h0 : kd = 0
  · subst h0
    rw [doL0]
    exact okp_open h a
  by_cases h1 : kd = 1
  · subst h1
    rw [doL1]
    unfold closeL
    dsimp only
    split
    · exact okp_del h a
    · exact h
  by_cases h2 : kd = 2
  · subst h2
    rw [doL2]
    unfold delivL
    dsimp only
    split
    · cases hf : findL L m.a1 with
      | none => exact h
      | some y =>
        dsimp only
        have hp := find_pos hf
        have hd := len_del hf
        split
        · exact h
        · exact okp_put h _ (by dsimp only; omega) (by simp; omega) (by have := h.pos y hp.2; rw [hp.1] at this; exact this)
    · exact h
  · rw [doL3 L a m h0 h1 h2]
    unfold takeL
    cases hf : findL L a with
    | none => exact h
    | some y =>
      have hp := find_pos hf
      have hd := len_del hf
      dsimp only
      cases hm : y.ms with
      | nil => exact h
      | cons q ms => exact okp_put h _ (by dsimp only; omega) (by have := h.few y hp.2; rw [hm] at this; simp only [List.length_cons] at this; show ms.length ≤ 4; omega) (by have := h.pos y hp.2; rw [hp.1] at this; exact this)
end Go.Proofs.Ytdhgmnnkbjhpaaa.Epp
