/- The reference of endpoints: what it computes. -/
import Derived.Test.YtdhgmnnkbjhpaaaEMC
import Derived.Test.YtdhgmnnkbjhpaaaPEndsPlayx8
namespace Go.Proofs.Ytdhgmnnkbjhpaaa.Epp
set_option linter.unusedVariables false
set_option linter.unusedSimpArgs false
open Go.RowKit Go.Proofs.Ytdhgmnnkbjhpaaa.Sep Go.Proofs.Ytdhgmnnkbjhpaaa.Mp Go.Proofs.Ytdhgmnnkbjhpaaa.Given Go.Proofs.Ytdhgmnnkbjhpaaa.Eps Go.Proofs.Ytdhgmnnkbjhpaaa.Epx Go.Proofs.Ytdhgmnnkbjhpaaa.PEndsPlay Go.Proofs.YtdhgmnnkbjhpaaaW.PrintWords
theorem stepP {i : Nat} (h : i ≤ 1000000) : wrap64 ((i : Int) + 1) = ((i + 1 : Nat) : Int) := by unfold wrap64; omega
abbrev toS (m : MS) : S30 := ⟨m.a0, m.a1, m.a2, m.b⟩
abbrev toR (x : EL) : S79 := ⟨x.k, x.ms.map toS⟩
abbrev RL (L : List EL) : List S79 := L.map toR
structure Okp (L : List EL) : Prop where
  rise : L.Pairwise (fun x y => x.k < y.k)
  len : L.length ≤ 32
  few : ∀ x ∈ L, x.ms.length ≤ 4
  pos : ∀ x ∈ L, 0 < x.k ∧ x.k ≤ 65535
theorem rd79 {L : List EL} {i : Nat} (h : i < L.length) : rd_T79 (RL L) (i : Int) = toR L[i] := by
  have h2 : i < (RL L).length := by simpa using h
  unfold rd_T79
  rw [Int.toNat_natCast, List.getD_eq_getElem?_getD, List.getElem?_eq_getElem h2]
  simp
/-! ### 1. Find -/
def placeL : List EL → Int → Nat
  | [], _ => 0
  | x :: r, a => if x.k = a then 0 else placeL r a + 1
theorem place_le : ∀ (L : List EL) (a : Int), placeL L a ≤ L.length
  | [], _ => Nat.le_refl _
  | x :: r, a => by
    unfold placeL
    have := place_le r a
    split
    · omega
    · simp; omega
theorem place_find : ∀ (L : List EL) (a : Int), findL L a = L[placeL L a]?
  | [], _ => rfl
  | x :: r, a => by
    unfold findL placeL
    rw [List.find?_cons]
    by_cases e : x.k = a
    · rw [if_pos e, decide_eq_true e]
      rfl
    · rw [if_neg e, decide_eq_false e, List.getElem?_cons_succ]
      exact place_find r a
def placeI (L : List EL) (a : Int) : Int := if placeL L a < L.length then (placeL L a : Int) else -1
theorem find_l (L : List EL) (a : Int) (hb : L.length ≤ 1000) : ∀ (d i k : Nat), i + d = L.length → d < k → switchyardref28_Find.l0 k (RL L) a i = some (if placeL (L.drop i) a < d then ((i + placeL (L.drop i) a : Nat) : Int) else -1)
  | 0, i, k, hi, hk => by
    obtain ⟨k, rfl⟩ : ∃ q, k = q + 1 := ⟨k - 1, by omega⟩
    simp only [switchyardref28_Find.l0]
    rw [if_neg (by rw [List.length_map]; omega), if_neg (by omega)]
  | d + 1, i, k, hi, hk => by
    obtain ⟨k, rfl⟩ : ∃ q, k = q + 1 := ⟨k - 1, by omega⟩
    have h : i < L.length := by omega
    simp only [switchyardref28_Find.l0]
    rw [if_pos (by rw [List.length_map]; omega), if_pos (by omega), rd79 h, stepP (by omega), find_l L a hb d (i + 1) k (by omega) (by omega), List.drop_eq_getElem_cons h]
    have hp : placeL (L[i] :: L.drop (i + 1)) a = if (L[i]).k = a then 0 else placeL (L.drop (i + 1)) a + 1 := rfl
    rw [hp]
    by_cases e : (L[i]).k = a
    · rw [if_pos e, if_pos e, if_pos (by omega)]
      rfl
    · rw [if_neg e, if_neg e]
      by_cases e2 : placeL (L.drop (i + 1)) a < d
      · rw [if_pos e2, if_pos (by omega)]
        congr 2
        omega
      · rw [if_neg e2, if_neg (by omega)]
theorem find_f {L : List EL} (hb : L.length ≤ 40) (a : Int) {k : Nat} (hk : 100 ≤ k) : switchyardref28_Find.f k (RL L) a = some (placeI L a) := by
  have := find_l L a (by omega) L.length 0 k (by omega) (by omega)
  rw [List.drop_zero, Nat.zero_add] at this
  exact this
theorem place_none {L : List EL} {a : Int} (h : findL L a = none) : placeI L a = -1 := by
  rw [place_find] at h
  have := List.getElem?_eq_none_iff.1 h
  unfold placeI
  rw [if_neg (by omega)]
theorem place_some {L : List EL} {a : Int} {x : EL} (h : findL L a = some x) : ∃ hp : placeL L a < L.length, L[placeL L a] = x ∧ placeI L a = (placeL L a : Int) := by
  rw [place_find] at h
  obtain ⟨hp, e⟩ := List.getElem?_eq_some_iff.1 h
  exact ⟨hp, e, if_pos hp⟩
/-! ### 2. without, put -/
theorem without_l (L : List EL) (a : Int) (hb : L.length ≤ 1000) : ∀ (d i k : Nat) (out : List EL), i + d = L.length → out.length ≤ i → d < k → switchyardref28_without.l0 k (RL L) a (RL out) i = some (RL (out ++ delL (L.drop i) a))
  | 0, i, k, out, hi, ho, hk => by
    obtain ⟨k, rfl⟩ : ∃ q, k = q + 1 := ⟨k - 1, by omega⟩
    simp only [switchyardref28_without.l0]
    rw [if_neg (by rw [List.length_map]; omega), List.drop_eq_nil_of_le (by omega)]
    simp [delL]
  | d + 1, i, k, out, hi, ho, hk => by
    obtain ⟨k, rfl⟩ : ∃ q, k = q + 1 := ⟨k - 1, by omega⟩
    have h : i < L.length := by omega
    simp only [switchyardref28_without.l0]
    rw [if_pos (by rw [List.length_map]; omega), if_pos (by omega), rd79 h, stepP (by omega), List.drop_eq_getElem_cons h]
    by_cases e : (L[i]).k = a
    · rw [if_pos e, without_l L a hb d (i + 1) k out (by omega) (by omega) (by omega)]
      unfold delL
      rw [List.filter_cons_of_neg (by simp [e])]
    · rw [if_neg e, if_pos (by rw [List.length_map]; omega)]
      have e2 : RL out ++ [(⟨(toR L[i]).f0, (toR L[i]).f1⟩ : S79)] = RL (out ++ [L[i]]) := by simp
      rw [e2, without_l L a hb d (i + 1) k (out ++ [L[i]]) (by omega) (by simp; omega) (by omega)]
      unfold delL
      rw [List.filter_cons_of_pos (by simpa using e), List.append_assoc]
      rfl
theorem without_f {L : List EL} (hb : L.length ≤ 40) (a : Int) {k : Nat} (hk : 100 ≤ k) : switchyardref28_without.f k (RL L) a = some (RL (delL L a)) := by
  have := without_l L a (by omega) L.length 0 k [] (by omega) (Nat.zero_le _) (by omega)
  rw [List.drop_zero, List.nil_append] at this
  exact this
def atL : List EL → Int → Nat
  | [], _ => 0
  | x :: r, a => if x.k < a then atL r a + 1 else 0
theorem at_le : ∀ (L : List EL) (a : Int), atL L a ≤ L.length
  | [], _ => Nat.le_refl _
  | x :: r, a => by
    unfold atL
    have := at_le r a
    split
    · simp; omega
    · omega
theorem at_put (x : EL) : ∀ L : List EL, (∀ y ∈ L, y.k ≠ x.k) → insL x L = L.take (atL L x.k) ++ x :: L.drop (atL L x.k)
  | [], _ => rfl
  | y :: r, h => by
    unfold insL atL
    have ht := h y (.head _)
    by_cases hb : y.k < x.k
    · rw [if_neg (by omega), if_pos hb, List.take_succ_cons, List.drop_succ_cons, at_put x r fun z hz => h z (.tail _ hz)]
      rfl
    · rw [if_pos (by omega), if_neg hb]
      rfl
theorem at_get : ∀ (L : List EL) (a : Int) (j : Nat), j ≤ atL L a → ∀ (h : j < L.length), ((L[j]).k < a ↔ j < atL L a)
  | [], a, j, _, h => by simp at h
  | x :: r, a, 0, hj, h => by
    unfold atL
    by_cases hb : x.k < a
    · rw [if_pos hb]
      simpa using hb
    · rw [if_neg hb]
      simpa using hb
  | x :: r, a, j + 1, hj, h => by
    unfold atL at hj ⊢
    by_cases hb : x.k < a
    · rw [if_pos hb] at hj ⊢
      have := at_get r a j (by omega) (by simpa using h)
      rw [List.getElem_cons_succ, this]
      omega
    · rw [if_neg hb] at hj
      omega
theorem put_l (M : List EL) (a : Int) (ms : List MS) (hb : M.length ≤ 1000) : ∀ (d i k : Nat), i + d = M.length → i ≤ atL M a → d < k → switchyardref28_put.l0 k (RL M) i a (ms.map toS) = some (RL (M.take (atL M a) ++ ⟨a, ms⟩ :: M.drop (atL M a)))
  | 0, i, k, hi, ha, hk => by
    obtain ⟨k, rfl⟩ : ∃ q, k = q + 1 := ⟨k - 1, by omega⟩
    have h1 := at_le M a
    have e : atL M a = i := by omega
    have e3 : (RL M).length = i := by rw [List.length_map]; omega
    simp only [switchyardref28_put.l0, Option.bind_some]
    rw [if_neg (by omega), if_pos (by omega), if_pos (by omega), if_pos (by simp; omega), if_pos (by simp; omega), if_pos (by simp; omega), Int.toNat_natCast, e]
    simp
  | d + 1, i, k, hi, ha, hk => by
    obtain ⟨k, rfl⟩ : ∃ q, k = q + 1 := ⟨k - 1, by omega⟩
    have h : i < M.length := by omega
    have hg := at_get M a i ha h
    have e3 : (RL M).length = M.length := by rw [List.length_map]
    simp only [switchyardref28_put.l0, Option.bind_some]
    rw [if_pos (by omega), if_pos (by omega), rd79 h, stepP (by omega)]
    by_cases hlt : (M[i]).k < a
    · rw [if_pos hlt, put_l M a ms hb d (i + 1) k (by omega) (by have := hg.1 hlt; omega) (by omega)]
    · have e : atL M a = i := by
        have := mt hg.2 hlt
        omega
      rw [if_neg hlt, if_pos (by omega), if_pos (by simp; omega), if_pos (by simp; omega), if_pos (by simp; omega), Int.toNat_natCast, e]
      simp
theorem put_f {L : List EL} (hb : L.length ≤ 40) (a : Int) (ms : List MS) {k : Nat} (hk : 100 ≤ k) : switchyardref28_put.f k (RL L) a (ms.map toS) = some (RL (putL L ⟨a, ms⟩)) := by
  unfold switchyardref28_put.f
  rw [without_f hb a hk, Option.bind_some]
  have hl : (delL L a).length ≤ 40 := Nat.le_trans (List.length_filter_le _ _) hb
  have h := put_l (delL L a) a ms (by omega) (delL L a).length 0 k (by omega) (Nat.zero_le _) (by omega)
  rw [show ((0 : Nat) : Int) = 0 from rfl] at h
  rw [h]
  unfold putL
  rw [at_put ⟨a, ms⟩ (delL L a) (fun y hy => by simpa using (List.mem_filter.1 hy).2)]
end Go.Proofs.Ytdhgmnnkbjhpaaa.Epp
