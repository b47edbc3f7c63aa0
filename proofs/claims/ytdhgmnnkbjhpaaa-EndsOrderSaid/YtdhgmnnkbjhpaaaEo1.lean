/- EndsOrder: the plain law; messages that are only read; Same of like messages. -/
import Derived.Test.YtdhgmnnkbjhpaaaEofew
namespace Go.Proofs.Ytdhgmnnkbjhpaaa.Eor
set_option linter.unusedVariables false
set_option linter.unusedSimpArgs false
open Go.RowKit Go.Proofs.Ytdhgmnnkbjhpaaa.Sep Go.Proofs.Ytdhgmnnkbjhpaaa.Mp Go.Proofs.Ytdhgmnnkbjhpaaa.Given Go.Proofs.Ytdhgmnnkbjhpaaa.Eps Go.Proofs.Ytdhgmnnkbjhpaaa.Epx Go.Proofs.Ytdhgmnnkbjhpaaa.PEndsOrder Go.Proofs.YtdhgmnnkbjhpaaaW.PrintWords
/-! ### 1. Plain -/
theorem find_delL (L : List EL) (a b : Int) : findL (delL L a) b = if b = a then none else findL L b := by
  unfold findL delL
  induction L with
  | nil => simp
  | cons x r ih =>
    by_cases hx : x.k = a
    · rw [List.filter_cons_of_neg (by simp [hx]), ih]
      by_cases hb : b = a
      · rw [if_pos hb, if_pos hb]
      · rw [if_neg hb, if_neg hb, List.find?_cons, decide_eq_false (by omega : ¬ x.k = b)]
    · rw [List.filter_cons_of_pos (by simp [hx]), List.find?_cons, List.find?_cons, ih]
      by_cases hb : b = a
      · rw [if_pos hb, if_pos hb, decide_eq_false (by omega : ¬ x.k = b)]
      · rw [if_neg hb, if_neg hb]
theorem find_insL (x : EL) : ∀ (L : List EL) (b : Int), (∀ y ∈ L, y.k ≠ x.k) → findL (insL x L) b = if b = x.k then some x else findL L b
  | [], b, _ => by
    unfold insL findL
    by_cases hb : b = x.k
    · rw [if_pos hb, List.find?_cons, decide_eq_true hb.symm]
    · rw [if_neg hb, List.find?_cons, decide_eq_false (fun e => hb e.symm)]
  | y :: r, b, h => by
    have hy := h y (.head _)
    unfold insL
    split
    · unfold findL
      by_cases hb : b = x.k
      · rw [if_pos hb, List.find?_cons, decide_eq_true hb.symm]
      · rw [if_neg hb, List.find?_cons, decide_eq_false (fun e => hb e.symm)]
    · have ih := find_insL x r b (fun z hz => h z (.tail _ hz))
      unfold findL at ih ⊢
      rw [List.find?_cons, List.find?_cons, ih]
      by_cases hb : b = x.k
      · rw [if_pos hb, if_pos hb, decide_eq_false (by omega : ¬ y.k = b)]
      · rw [if_neg hb, if_neg hb]
theorem find_putL (L : List EL) (x : EL) (b : Int) : findL (putL L x) b = if b = x.k then some x else findL L b := by
  unfold putL
  rw [find_insL x _ b (fun y hy => by simpa using (List.mem_filter.1 hy).2), find_delL]
  by_cases hb : b = x.k
  · rw [if_pos hb, if_pos hb]
  · rw [if_neg hb, if_neg hb, if_neg hb]
theorem open_no {L : List EL} {a : Int} (h : (openL L a).2.2 ≠ 0) : (openL L a).1 = L := by
  unfold openL at *
  by_cases c1 : a < 0 ∨ 65536 ≤ a
  · rw [if_pos c1]
  rw [if_neg c1] at h ⊢
  by_cases c2 : (findL L a).isSome = true
  · rw [if_pos c2]
  rw [if_neg c2] at h ⊢
  by_cases c3 : 32 ≤ L.length
  · rw [if_pos c3]
  rw [if_neg c3] at h
  exact absurd rfl h
theorem open_yes {L : List EL} {a : Int} (h : (openL L a).2.2 = 0) (b : Int) : findL (openL L a).1 b = if b = (openL L a).2.1 then some ⟨b, []⟩ else findL L b := by
  unfold openL at *
  by_cases c1 : a < 0 ∨ 65536 ≤ a
  · rw [if_pos c1] at h
    cases h
  rw [if_neg c1] at h ⊢
  by_cases c2 : (findL L a).isSome = true
  · rw [if_pos c2] at h
    cases h
  rw [if_neg c2] at h ⊢
  by_cases c3 : 32 ≤ L.length
  · rw [if_pos c3] at h
    cases h
  rw [if_neg c3, find_putL]
  dsimp only
  generalize (if a = 0 then freeL L else a) = x
  by_cases e : b = x
  · rw [if_pos e, if_pos e, e]
  · rw [if_neg e, if_neg e]
theorem close_no {L : List EL} {a : Int} (h : (closeL L a).2 ≠ 0) : (closeL L a).1 = L := by
  unfold closeL at *
  split at h
  · exact absurd rfl h
  · rename_i c1
    rw [if_neg c1]
theorem close_yes {L : List EL} {a : Int} (h : (closeL L a).2 = 0) (b : Int) : findL (closeL L a).1 b = if b = a then none else findL L b := by
  unfold closeL at *
  split at h
  · rename_i c1
    rw [if_pos c1, find_delL]
  · cases h
theorem deliv_no {L : List EL} {m : MS} (h : (delivL L m).2 ≠ 0) : (delivL L m).1 = L := by
  unfold delivL at *
  split at h
  · rename_i c1
    rw [if_pos c1]
    cases hf : findL L m.a1 with
    | none => rfl
    | some y =>
      rw [hf] at h
      dsimp only at h ⊢
      split at h
      · rename_i c2
        rw [if_pos c2]
      · exact absurd rfl h
  · rename_i c1
    rw [if_neg c1]
theorem deliv_yes {L : List EL} {m : MS} (h : (delivL L m).2 = 0) : ∃ y, findL L m.a1 = some y ∧ ∀ b, findL (delivL L m).1 b = if b = m.a1 then some ⟨m.a1, y.ms ++ [m]⟩ else findL L b := by
  unfold delivL at *
  split at h
  · rename_i c1
    rw [if_pos c1]
    cases hf : findL L m.a1 with
    | none =>
      rw [hf] at h
      cases h
    | some y =>
      rw [hf] at h
      dsimp only at h ⊢
      split at h
      · cases h
      · rename_i c2
        rw [if_neg c2]
        exact ⟨y, rfl, fun b => find_putL L _ b⟩
  · cases h
theorem take_no {L : List EL} {a : Int} (h : (takeL L a).2.2 ≠ 0) : (takeL L a).1 = L := by
  unfold takeL at *
  cases hf : findL L a with
  | none => rfl
  | some y =>
    rw [hf] at h
    dsimp only at h ⊢
    cases hm : y.ms with
    | nil => rfl
    | cons q ms =>
      rw [hm] at h
      exact absurd rfl h
theorem take_yes {L : List EL} {a : Int} (h : (takeL L a).2.2 = 0) : ∃ y ms, findL L a = some y ∧ y.ms = (takeL L a).2.1 :: ms ∧ ∀ b, findL (takeL L a).1 b = if b = a then some ⟨a, ms⟩ else findL L b := by
  unfold takeL at *
  cases hf : findL L a with
  | none =>
    rw [hf] at h
    cases h
  | some y =>
    rw [hf] at h
    dsimp only at h ⊢
    cases hm : y.ms with
    | nil =>
      rw [hm] at h
      cases h
    | cons q ms => exact ⟨y, ms, rfl, hm, fun b => find_putL L _ b⟩
/-- The messages at an address. -/
def msL (L : List EL) (a : Int) : List MS := match findL L a with | none => [] | some x => x.ms
theorem cnt_ms (L : List EL) (a : Int) : cntL L a = (msL L a).length := by
  unfold cntL msL
  cases findL L a <;> rfl
theorem ms_of {L L' : List EL} {a : Int} (h : findL L' a = findL L a) : msL L' a = msL L a := by unfold msL; rw [h]
/-- What a call does to the messages at an address. -/
theorem ord_step (L : List EL) (k a addr : Int) (m : MS) (L' : List EL) (a' : Int) (q : MS) (f : Int) (hd : doL L k a m = (L', a', q, f)) :
    (f ≠ 0 → msL L' addr = msL L addr) ∧ (f = 0 → k = 0 → a' = addr → msL L' addr = []) ∧ (f = 0 → k = 0 → a' ≠ addr → msL L' addr = msL L addr) ∧ (f = 0 → k = 1 → a = addr → msL L' addr = []) ∧ (f = 0 → k = 1 → a ≠ addr → msL L' addr = msL L addr) ∧
    (f = 0 → k = 2 → m.a1 = addr → msL L' addr = msL L addr ++ [m]) ∧ (f = 0 → k = 2 → m.a1 ≠ addr → msL L' addr = msL L addr) ∧
    (f = 0 → k ≠ 0 → k ≠ 1 → k ≠ 2 → a = addr → msL L addr = q :: msL L' addr) ∧ (f = 0 → k ≠ 0 → k ≠ 1 → k ≠ 2 → a ≠ addr → msL L' addr = msL L addr) := by
  by_cases h0 : k = 0
  · subst h0
    rw [doL0] at hd
    cases hd
    refine ⟨fun h => by rw [open_no h], fun h _ e => ?_, fun h _ e => ?_, fun _ h => absurd h (by decide), fun _ h => absurd h (by decide), fun _ h => absurd h (by decide), fun _ h => absurd h (by decide), fun _ h => absurd rfl h, fun _ h => absurd rfl h⟩
    · unfold msL
      rw [open_yes h, if_pos e.symm]
    · exact ms_of (by rw [open_yes h, if_neg (fun e' => e e'.symm)])
  by_cases h1 : k = 1
  · subst h1
    rw [doL1] at hd
    cases hd
    refine ⟨fun h => by rw [close_no h], fun _ h => absurd h (by decide), fun _ h => absurd h (by decide), fun h _ e => ?_, fun h _ e => ?_, fun _ h => absurd h (by decide), fun _ h => absurd h (by decide), fun _ _ h => absurd rfl h, fun _ _ h => absurd rfl h⟩
    · unfold msL
      rw [close_yes h, if_pos e.symm]
    · exact ms_of (by rw [close_yes h, if_neg (fun e' => e e'.symm)])
  by_cases h2 : k = 2
  · subst h2
    rw [doL2] at hd
    cases hd
    refine ⟨fun h => by rw [deliv_no h], fun _ h => absurd h (by decide), fun _ h => absurd h (by decide), fun _ h => absurd h (by decide), fun _ h => absurd h (by decide), fun h _ e => ?_, fun h _ e => ?_, fun _ _ _ h => absurd rfl h, fun _ _ _ h => absurd rfl h⟩
    · obtain ⟨y, hy, hb⟩ := deliv_yes h
      unfold msL
      rw [hb, if_pos e.symm, ← e, hy]
    · obtain ⟨y, hy, hb⟩ := deliv_yes h
      exact ms_of (by rw [hb, if_neg (fun e' => e e'.symm)])
  · rw [doL3 L a m h0 h1 h2] at hd
    cases hd
    refine ⟨fun h => by rw [take_no h], fun _ h => absurd h h0, fun _ h => absurd h h0, fun _ h => absurd h h1, fun _ h => absurd h h1, fun _ h => absurd h h2, fun _ h => absurd h h2, fun h _ _ _ e => ?_, fun h _ _ _ e => ?_⟩
    · obtain ⟨y, ms, hy, hm, hb⟩ := take_yes h
      have e1 : msL L addr = y.ms := by unfold msL; rw [← e, hy]
      have e2 : msL (takeL L a).1 addr = ms := by unfold msL; rw [hb, if_pos e.symm]
      rw [e1, e2, hm]
    · obtain ⟨y, ms, hy, hm, hb⟩ := take_yes h
      exact ms_of (by rw [hb, if_neg (fun e' => e e'.symm)])
/-! ### 2. Messages that are only read; Same -/
theorem words_C {l : List Int} {A : Option Addr} {c : Nat} {w : World} {P : Nat → Prop} (h : (slc 3 1 (.slice A l.length c) l.length (l.map (Value.int .i64))).X w P) : l.length ≤ c ∧ Kd.C (Kd.int .i64) w A l.length l := by
  obtain ⟨A', c', e, h1, h2⟩ := slc_form h
  cases e
  refine ⟨h1, ⟨rfl, by unfold maxLen at h2; omega, fun h0 => ?_⟩⟩
  obtain ⟨g, o, rfl, _, _, _, hc, _⟩ := slc_cells h h0
  refine ⟨_, rfl, fun j x hx => ⟨[.int .i64 x], rfl, rfl, fun i u hu => ?_⟩⟩
  have hi : i < 1 := (List.getElem?_eq_some_iff.1 hu).1
  obtain rfl : i = 0 := by omega
  obtain rfl : Value.int .i64 x = u := by simpa using hu
  have h3 := hc j (.int .i64 x) (by rw [List.getElem?_map, hx]; rfl)
  have h4 : w.cell? ((⟨g, o, none⟩ : Addr).add (j * 1 + 0)) = some (.int .i64 x) := by rw [Nat.mul_one, Nat.add_zero, Addr.add_mid]; exact h3
  exact h4
theorem rd_self (l : List Int) (i : Int) : rd l i = rd l i := rfl
theorem same_l (b0 b1 b2 : Int) (l : List Int) (hb : l.length ≤ 1000) : ∀ (d i k : Nat), i + d = l.length → d < k → switchyardref26_Same.l0 k (i : Int) b0 b1 b2 l b0 b1 b2 l = some true
  | 0, i, k, hi, hk => by
    obtain ⟨k, rfl⟩ : ∃ q, k = q + 1 := ⟨k - 1, by omega⟩
    simp only [switchyardref26_Same.l0]
    rw [if_neg (by omega)]
  | d + 1, i, k, hi, hk => by
    obtain ⟨k, rfl⟩ : ∃ q, k = q + 1 := ⟨k - 1, by omega⟩
    simp only [switchyardref26_Same.l0]
    rw [if_pos (by omega), if_pos (by omega), if_pos (by omega), if_pos trivial, stepE (by omega)]
    exact same_l b0 b1 b2 l hb d (i + 1) k (by omega) (by omega)
theorem same_u (b0 b1 b2 : Int) {l : List Int} {A A' : Option Addr} {c c' : Nat} {w : World} (h1 : Kd.C (Kd.int .i64) w A l.length l) (c1 : l.length ≤ c) (h2 : Kd.C (Kd.int .i64) w A' l.length l) (c2 : l.length ≤ c') (hb : l.length ≤ 1000) :
    Calls Try.prog 17 #[mval b0 b1 b2 A l.length c, mval b0 b1 b2 A' l.length c'] w fun x w' => x = .returned (.bool true) ∧ Up w w' := by
  refine switchyardref26_Same.calls 1002 b0 b1 b2 A c l b0 b1 b2 A' c' l true w h1 c1 h2 c2 ?_
  unfold switchyardref26_Same.f
  rw [if_pos rfl, if_pos rfl, if_pos rfl]
  simp only [switchyardref26_Same.j0]
  rw [if_neg (by simp)]
  exact same_l b0 b1 b2 l hb l.length 0 1001 (by omega) (by omega)
end Go.Proofs.Ytdhgmnnkbjhpaaa.Eor
