/- The reference of names: what it computes. -/
import Derived.Test.YtdhgmnnkbjhpaaaNfirst1
import Derived.Test.YtdhgmnnkbjhpaaaPNamesPlayx8
import Derived.Test.YtdhgmnnkbjhpaaaPNamesPlayx10
namespace Go.Proofs.Ytdhgmnnkbjhpaaa.Ntab
set_option linter.unusedVariables false
set_option linter.unusedSimpArgs false
open Go.RowKit Go.Proofs.Ytdhgmnnkbjhpaaa.Sep Go.Proofs.Ytdhgmnnkbjhpaaa.Mp Go.Proofs.Ytdhgmnnkbjhpaaa.PNamesPlay Go.Proofs.Ytdhgmnnkbjhpaaa.NoteOk Go.Proofs.YtdhgmnnkbjhpaaaW.PrintWords
open Go.Maps (Keyed)

theorem toList_ky {a b : ByteArray} : a.toList = b.toList ↔ ky a = ky b := by rw [ByteArray.toList_eq, ByteArray.toList_eq]
theorem rd66 {L : List S66} {i : Nat} (h : i < L.length) : rd_T66 L (i : Int) = L[i] := by simp [rd_T66, List.getD_eq_getElem?_getD, List.getElem?_eq_getElem h]
/-! ### 1. Find -/
def placeN : List S66 → ByteArray → Nat
  | [], _ => 0
  | x :: r, s => if ky x.f0 = ky s then 0 else placeN r s + 1
theorem place_le : ∀ (L : List S66) (s : ByteArray), placeN L s ≤ L.length
  | [], _ => Nat.le_refl _
  | x :: r, s => by
    unfold placeN
    have := place_le r s
    split
    · omega
    · simp; omega
theorem place_find : ∀ (L : List S66) (s : ByteArray), findN L s = L[placeN L s]?
  | [], _ => rfl
  | x :: r, s => by
    unfold findN placeN
    rw [List.find?_cons]
    by_cases e : ky x.f0 = ky s
    · rw [if_pos e, e]
      simp
    · rw [if_neg e, beq_eq_false_iff_ne.2 e, List.getElem?_cons_succ]
      exact place_find r s
theorem find_l (L : List S66) (s : ByteArray) (hb : L.length ≤ 1000) : ∀ (d i k : Nat), i + d = L.length → d < k → switchyardref29_Find.l0 k L s i = some (if placeN (L.drop i) s < d then ((i + placeN (L.drop i) s : Nat) : Int) else -1)
  | 0, i, k, hi, hk => by
    obtain ⟨k, rfl⟩ : ∃ q, k = q + 1 := ⟨k - 1, by omega⟩
    simp only [switchyardref29_Find.l0]
    rw [if_neg (by omega), if_neg (by omega)]
  | d + 1, i, k, hi, hk => by
    obtain ⟨k, rfl⟩ : ∃ q, k = q + 1 := ⟨k - 1, by omega⟩
    have h : i < L.length := by omega
    simp only [switchyardref29_Find.l0]
    rw [if_pos (by omega), if_pos (by omega), rd66 h, step64 (by omega), find_l L s hb d (i + 1) k (by omega) (by omega), List.drop_eq_getElem_cons h]
    have hp : placeN (L[i] :: L.drop (i + 1)) s = if ky (L[i]).f0 = ky s then 0 else placeN (L.drop (i + 1)) s + 1 := rfl
    rw [hp]
    by_cases e : ky (L[i]).f0 = ky s
    · rw [if_pos (toList_ky.2 e), if_pos e, if_pos (by omega)]
      rfl
    · rw [if_neg (fun h => e (toList_ky.1 h)), if_neg e]
      by_cases e2 : placeN (L.drop (i + 1)) s < d
      · rw [if_pos e2, if_pos (by omega)]
        congr 2
        omega
      · rw [if_neg e2, if_neg (by omega)]
theorem find_f (L : List S66) (s : ByteArray) (hb : L.length ≤ 1000) : switchyardref29_Find.f 1001 L s = some (if placeN L s < L.length then (placeN L s : Int) else -1) := by
  have := find_l L s hb L.length 0 1001 (by omega) (by omega)
  rw [List.drop_zero, Nat.zero_add] at this
  exact this
theorem place_none {L : List S66} {s : ByteArray} (h : findN L s = none) : ¬ placeN L s < L.length := by
  rw [place_find] at h
  have := List.getElem?_eq_none_iff.1 h
  omega
theorem place_some {L : List S66} {s : ByteArray} {x : S66} (h : findN L s = some x) : ∃ hp : placeN L s < L.length, L[placeN L s] = x := by
  rw [place_find] at h
  exact List.getElem?_eq_some_iff.1 h
theorem place_del : ∀ {L : List S66} {s : ByteArray}, L.Pairwise (fun x y => bytesBefore (ky x.f0) (ky y.f0) = true) → placeN L s < L.length → L.take (placeN L s) ++ L.drop (placeN L s + 1) = delN L s
  | [], s, _, hp => by simp at hp
  | x :: r, s, h, hp => by
    obtain ⟨h1, h2⟩ := List.pairwise_cons.1 h
    unfold placeN at hp ⊢
    unfold delN
    by_cases e : ky x.f0 = ky s
    · rw [if_pos e, List.filter_cons_of_neg (by simpa using e)]
      rw [List.take_zero, List.nil_append, Nat.zero_add, List.drop_succ_cons, List.drop_zero]
      symm
      rw [List.filter_eq_self]
      intro z hz
      have hb := h1 z hz
      have : ¬ ky z.f0 = ky s := fun e2 => by
        rw [e, e2, WideAt.bytes_irrefl] at hb
        cases hb
      simpa using this
    · rw [if_neg e] at hp ⊢
      rw [List.filter_cons_of_pos (by simpa using e), List.take_succ_cons, List.drop_succ_cons, List.cons_append]
      rw [place_del h2 (by simp only [List.length_cons] at hp; omega)]
      rfl
/-! ### 2. Where a name goes -/
def atN : List S66 → ByteArray → Nat
  | [], _ => 0
  | x :: r, s => if bytesBefore (ky x.f0) (ky s) = true then atN r s + 1 else 0
theorem at_le : ∀ (L : List S66) (s : ByteArray), atN L s ≤ L.length
  | [], _ => Nat.le_refl _
  | x :: r, s => by
    unfold atN
    have := at_le r s
    split
    · simp; omega
    · omega
theorem at_put (x : S66) : ∀ L : List S66, (∀ y ∈ L, ky y.f0 ≠ ky x.f0) → insN x L = L.take (atN L x.f0) ++ x :: L.drop (atN L x.f0)
  | [], _ => rfl
  | y :: r, h => by
    unfold insN atN
    have ht := WideAt.bytes_total _ _ (h y (.head _))
    by_cases hb : bytesBefore (ky y.f0) (ky x.f0) = true
    · have hn : ¬ bytesBefore (ky x.f0) (ky y.f0) = true := fun h2 => by
        have := WideShapes.bytes_trans _ _ _ hb h2
        rw [WideAt.bytes_irrefl] at this
        cases this
      rw [if_neg hn, if_pos hb, List.take_succ_cons, List.drop_succ_cons, at_put x r fun z hz => h z (.tail _ hz)]
      rfl
    · rw [if_neg hb]
      rcases ht with h2 | h2
      · exact absurd h2 hb
      · rw [if_pos h2]
        rfl
theorem put_at {L : List S66} {x : S66} (h : findN L x.f0 = none) : putN L x = L.take (atN L x.f0) ++ x :: L.drop (atN L x.f0) := by
  unfold putN
  rw [delN_none h]
  exact at_put x L (find_none.1 h)
theorem at_get : ∀ (L : List S66) (s : ByteArray) (j : Nat), j ≤ atN L s → ∀ (h : j < L.length), bytesBefore (ky (L[j]).f0) (ky s) = decide (j < atN L s)
  | [], s, j, _, h => by simp at h
  | x :: r, s, 0, hj, h => by
    unfold atN
    by_cases hb : bytesBefore (ky x.f0) (ky s) = true
    · rw [if_pos hb]
      simpa using hb
    · rw [if_neg hb]
      simpa using hb
  | x :: r, s, j + 1, hj, h => by
    unfold atN at hj ⊢
    by_cases hb : bytesBefore (ky x.f0) (ky s) = true
    · rw [if_pos hb] at hj ⊢
      have := at_get r s j (by omega) (by simpa using h)
      rw [List.getElem_cons_succ, this]
      simp
    · rw [if_neg hb] at hj
      omega
/-! ### 3. Drop, Of -/
theorem snoc_take {α : Type} (p : α → Bool) (L : List α) {i : Nat} (h : i < L.length) : (L.take (i + 1)).filter p = (L.take i).filter p ++ (if p L[i] = true then [L[i]] else []) := by
  rw [List.take_succ_eq_append_getElem h, List.filter_append]
  by_cases hp : p L[i] = true <;> simp [hp]
theorem drop_l (L : List S66) (core : Int) (hb : L.length ≤ 1000) : ∀ (d i k : Nat), i + d = L.length → d < k → switchyardref29_Drop.l0 k L core (dropN (L.take i) core) i = some (dropN L core, wrap64 ((L.length : Int) - ((dropN L core).length : Int)))
  | 0, i, k, hi, hk => by
    obtain ⟨k, rfl⟩ : ∃ q, k = q + 1 := ⟨k - 1, by omega⟩
    simp only [switchyardref29_Drop.l0]
    rw [if_neg (by omega), List.take_of_length_le (by omega)]
  | d + 1, i, k, hi, hk => by
    obtain ⟨k, rfl⟩ : ∃ q, k = q + 1 := ⟨k - 1, by omega⟩
    have h : i < L.length := by omega
    have hl : (dropN (L.take i) core).length ≤ i := Nat.le_trans (List.length_filter_le _ _) (by simp; omega)
    have hs : dropN (L.take (i + 1)) core = dropN (L.take i) core ++ (if (!((L[i]).f1 == core)) = true then [L[i]] else []) := snoc_take _ L h
    simp only [switchyardref29_Drop.l0]
    rw [if_pos (by omega), if_pos (by omega), rd66 h, step64 (by omega)]
    by_cases e : (L[i]).f1 = core
    · rw [if_pos e]
      rw [← drop_l L core hb d (i + 1) k (by omega) (by omega), hs]
      simp [e]
    · rw [if_neg e, if_pos (by omega)]
      rw [← drop_l L core hb d (i + 1) k (by omega) (by omega), hs]
      simp [e]
theorem of_drop (L : List S66) (core : Int) : (ofN L core).length + (dropN L core).length = L.length := by
  unfold ofN dropN
  induction L with
  | nil => rfl
  | cons x r ih =>
    simp only [List.filter_cons]
    by_cases e : (x.f1 == core) = true
    · rw [e]
      simp only [if_true, Bool.not_true, Bool.false_eq_true, if_false, List.length_cons]
      omega
    · rw [Bool.eq_false_iff.2 e]
      simp only [Bool.not_false, if_true, Bool.false_eq_true, if_false, List.length_cons]
      omega
theorem drop_f (L : List S66) (core : Int) (hb : L.length ≤ 1000) : switchyardref29_Drop.f 1001 L core = some (dropN L core, ((ofN L core).length : Int)) := by
  have := drop_l L core hb L.length 0 1001 (by omega) (by omega)
  have h2 := of_drop L core
  rw [w64' (by omega) (by omega)] at this
  unfold switchyardref29_Drop.f
  refine Eq.trans this ?_
  congr 2
  omega
/-- Of: below 0 all names. -/
def ofR (L : List S66) (core : Int) : List S66 := L.filter fun x => decide (core < 0) || x.f1 == core
theorem of_l (L : List S66) (core : Int) (hb : L.length ≤ 1000) : ∀ (d i k : Nat), i + d = L.length → d < k → switchyardref29_Of.l0 k L core (namesOf (ofR (L.take i) core)) i = some (namesOf (ofR L core))
  | 0, i, k, hi, hk => by
    obtain ⟨k, rfl⟩ : ∃ q, k = q + 1 := ⟨k - 1, by omega⟩
    simp only [switchyardref29_Of.l0]
    rw [if_neg (by omega), List.take_of_length_le (by omega)]
  | d + 1, i, k, hi, hk => by
    obtain ⟨k, rfl⟩ : ∃ q, k = q + 1 := ⟨k - 1, by omega⟩
    have h : i < L.length := by omega
    have hl : (namesOf (ofR (L.take i) core)).length ≤ i := by
      rw [List.length_map]
      exact Nat.le_trans (List.length_filter_le _ _) (by simp; omega)
    have hs : ofR (L.take (i + 1)) core = ofR (L.take i) core ++ (if (decide (core < 0) || (L[i]).f1 == core) = true then [L[i]] else []) := snoc_take _ L h
    have ih := of_l L core hb d (i + 1) k (by omega) (by omega)
    rw [hs] at ih
    simp only [switchyardref29_Of.l0]
    rw [if_pos (by omega), rd66 h, step64 (by omega)]
    by_cases e0 : core < 0
    · rw [if_pos e0, if_pos (by omega), if_pos (by omega), ← ih]
      simp [e0]
    · rw [if_neg e0, if_pos (by omega)]
      by_cases e : (L[i]).f1 = core
      · rw [if_pos e, if_pos (by omega), ← ih]
        simp [e]
      · rw [if_neg e, ← ih]
        simp [e, e0]
theorem of_f (L : List S66) (core : Int) (hb : L.length ≤ 1000) : switchyardref29_Of.f 1001 L core = some (namesOf (ofR L core)) := of_l L core hb L.length 0 1001 (by omega) (by omega)
theorem ofR_all (L : List S66) {core : Int} (h : core < 0) : ofR L core = L := by
  unfold ofR
  rw [List.filter_eq_self]
  simp [h]
theorem ofR_core (L : List S66) {core : Int} (h : ¬ core < 0) : ofR L core = ofN L core := by
  unfold ofR ofN
  simp [h]
/-! ### 4. SameNames, of the same -/
theorem same_l (l : List ByteArray) (hb : l.length ≤ 1000) : ∀ (d i k : Nat), i + d = l.length → d < k → switchyardref29_SameNames.l0 k l l i = some true
  | 0, i, k, hi, hk => by
    obtain ⟨k, rfl⟩ : ∃ q, k = q + 1 := ⟨k - 1, by omega⟩
    simp only [switchyardref29_SameNames.l0]
    rw [if_neg (by omega)]
  | d + 1, i, k, hi, hk => by
    obtain ⟨k, rfl⟩ : ∃ q, k = q + 1 := ⟨k - 1, by omega⟩
    simp only [switchyardref29_SameNames.l0]
    rw [if_pos (by omega), if_pos (by omega), if_pos (by omega), step64 (by omega)]
    refine (if_pos trivial).trans ?_
    exact same_l l hb d (i + 1) k (by omega) (by omega)
theorem same_f (l : List ByteArray) (hb : l.length ≤ 1000) : switchyardref29_SameNames.f 1001 l l = some true := by
  unfold switchyardref29_SameNames.f
  rw [if_pos rfl]
  exact same_l l hb l.length 0 1001 (by omega) (by omega)
theorem less_before : ∀ a b : List UInt8, Op.bytesLess a b = bytesBefore a b
  | [], [] => rfl
  | [], _ :: _ => rfl
  | _ :: _, [] => rfl
  | a :: r, b :: s => by
    unfold Op.bytesLess bytesBefore
    rw [less_before r s]
end Go.Proofs.Ytdhgmnnkbjhpaaa.Ntab
