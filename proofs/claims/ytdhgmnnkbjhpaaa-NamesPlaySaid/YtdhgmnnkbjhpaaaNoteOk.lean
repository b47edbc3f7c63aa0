/- What a right note is: the program's note_Right and the reference's Write, by their printed functions. No condition. -/
import Derived.Test.YtdhgmnnkbjhpaaaPNamesPlayx7
import Derived.Test.YtdhgmnnkbjhpaaaPNamesPlayx9
import Derived.Test.YtdhgmnnkbjhpaaaBase
namespace Go.Proofs.Ytdhgmnnkbjhpaaa.NoteOk
set_option linter.unusedVariables false
set_option linter.unusedSimpArgs false
open Go.RowKit Go.Proofs.YtdhgmnnkbjhpaaaW.PrintWords Go.Proofs.Ytdhgmnnkbjhpaaa.PNamesPlay

theorem w64' {n : Int} (h0 : -4294967296 ≤ n) (h1 : n ≤ 4294967296) : wrap64 n = n := by unfold wrap64; omega
theorem step64 {i : Nat} (h : i ≤ 1000000) : wrap64 ((i : Int) + 1) = ((i + 1 : Nat) : Int) := by rw [w64' (by omega) (by omega)]; omega
theorem bt_bd (s : ByteArray) (i : Int) : 0 ≤ bt s i ∧ bt s i < 256 := by
  unfold bt
  split
  · rename_i h
    have := (s[i.toNat]'h).toNat_lt
    omega
  · omega
theorem drop_bytes {s : ByteArray} {i : Nat} (h : i < s.size) : (bytesOf s).drop i = bt s i :: (bytesOf s).drop (i + 1) := by
  have h' : i < (bytesOf s).length := by rw [bytesOf_length]; exact h
  have e1 : rd (bytesOf s) i = (bytesOf s)[i] := by simp [rd, List.getD_eq_getElem?_getD, List.getElem?_eq_getElem h']
  rw [List.drop_eq_getElem_cons h', ← e1, rd_bytesOf]
theorem drop_end {s : ByteArray} {i : Nat} (h : s.size ≤ i) : (bytesOf s).drop i = [] := List.drop_eq_nil_of_le (by rw [bytesOf_length]; exact h)
def okc (c : Int) : Bool := (decide (97 ≤ c) && decide (c ≤ 122)) || (decide (48 ≤ c) && decide (c ≤ 57))
def nameOk (b : List Int) : Bool := b.all okc && decide (1 ≤ b.length) && decide (b.length ≤ 8)
theorem nameOk_iff {b : List Int} : nameOk b = true ↔ (∀ x ∈ b, okc x = true) ∧ 1 ≤ b.length ∧ b.length ≤ 8 := by
  simp [nameOk, and_assoc]
theorem okc_bd {c : Int} (h : okc c = true) : 1 ≤ c ∧ c < 256 := by
  simp [okc] at h
  omega
def pack : List Int → List Int
  | [] => []
  | [a] => [a * 256]
  | a :: b :: t => (a * 256 + b) :: pack t
theorem pack_len : ∀ b : List Int, (pack b).length ≤ (b.length + 1) / 2
  | [] => by simp [pack]
  | [a] => by simp [pack]
  | a :: b :: t => by
    have := pack_len t
    simp only [pack, List.length_cons]
    omega
def nwr (g : Bool) (b : List Int) (a : Int) : Int × Int × Int × List Int × Int := if nameOk b = true then (if a < 1 ∨ 65535 < a then (0, 0, 0, [], 2) else (if g = true then 2 else 1, 0, a, pack b, 0)) else (0, 0, 0, [], 15)
def ncode (b : List Int) (a : Int) : Int := if nameOk b = true then (if a < 1 ∨ 65535 < a then 2 else 0) else 15
theorem nwr_code (g : Bool) (b : List Int) (a : Int) : (nwr g b a).2.2.2.2 = ncode b a := by
  unfold nwr ncode
  split
  · split <;> rfl
  · rfl
theorem ncode_0 {b : List Int} {a : Int} : ncode b a = 0 ↔ nameOk b = true ∧ 1 ≤ a ∧ a ≤ 65535 := by
  unfold ncode
  split
  · split
    · constructor
      · intro h; cases h
      · intro h; omega
    · exact ⟨fun _ => ⟨by assumption, by omega⟩, fun _ => rfl⟩
  · constructor
    · intro h; cases h
    · intro h; exact absurd h.1 (by assumption)
theorem nwr_yes {g : Bool} {b : List Int} {a : Int} (h : ncode b a = 0) : nwr g b a = (if g = true then 2 else 1, 0, a, pack b, 0) := by
  obtain ⟨h1, h2, h3⟩ := ncode_0.1 h
  unfold nwr
  rw [if_pos h1, if_neg (by omega)]
theorem nwr_no {g : Bool} {b : List Int} {a : Int} (h : ¬ ncode b a = 0) : nwr g b a = (0, 0, 0, [], ncode b a) := by
  unfold nwr ncode at *
  split
  · rename_i hn
    rw [if_pos hn] at h
    split
    · rfl
    · rename_i hc; rw [if_neg hc] at h; exact absurd rfl h
  · rfl
theorem size_0 {s : ByteArray} (h : s.data.toList = []) : s.size = 0 := by
  have := congrArg List.length h
  simp only [Array.length_toList, List.length_nil] at this
  exact this
theorem size_1 {s : ByteArray} (h : ¬ s.data.toList = []) : 1 ≤ s.size := by
  rcases Nat.eq_zero_or_pos s.size with e | e
  · exact absurd (List.eq_nil_of_length_eq_zero (by rw [Array.length_toList]; exact e)) h
  · exact e
theorem nName_l (s : ByteArray) (hb : s.size ≤ 1000) : ∀ (d i k : Nat), i + d = s.size → d < k → note_Name.l0 k s (s.size : Int) i = some (((bytesOf s).drop i).all okc && (decide (1 ≤ s.size) && decide (s.size ≤ 8)))
  | 0, i, k, hi, hk => by
    obtain ⟨k, rfl⟩ : ∃ q, k = q + 1 := ⟨k - 1, by omega⟩
    simp only [note_Name.l0]
    rw [if_neg (by omega), drop_end (by omega), ByteArray.toList_eq]
    by_cases h : s.data.toList = []
    · have h0 : s.size = 0 := by
        exact size_0 h
      rw [if_pos h]
      simp [h0]
    · have h0 : 1 ≤ s.size := by
        exact size_1 h
      rw [if_neg h]
      simp only [List.all_nil, Bool.true_and, h0, decide_true]
      congr 1
      rw [Bool.eq_iff_iff]
      simp only [decide_eq_true_eq]
      omega
  | d + 1, i, k, hi, hk => by
    obtain ⟨k, rfl⟩ : ∃ q, k = q + 1 := ⟨k - 1, by omega⟩
    simp only [note_Name.l0]
    rw [if_pos (by omega), if_pos (by omega), if_pos (by omega), step64 (by omega), drop_bytes (by omega), List.all_cons, nName_l s hb d (i + 1) k (by omega) (by omega)]
    cases h : okc (bt s i) with
    | true =>
      have h' := h
      simp only [okc, Bool.or_eq_true, Bool.and_eq_true, decide_eq_true_eq] at h'
      simp only [Bool.true_and]
      by_cases c1 : bt s i < 97
      · rw [if_pos c1, if_neg (by omega), if_neg (by omega)]
      · rw [if_neg c1, if_neg (by omega)]
    | false =>
      have h' : ¬ (okc (bt s i) = true) := by rw [h]; decide
      simp only [okc, Bool.or_eq_true, Bool.and_eq_true, decide_eq_true_eq] at h'
      simp only [Bool.false_and]
      by_cases c1 : bt s i < 97
      · rw [if_pos c1]
        by_cases c2 : bt s i < 48
        · rw [if_pos c2]
        · rw [if_neg c2, if_pos (by omega)]
      · rw [if_neg c1, if_pos (by omega)]
        by_cases c2 : bt s i < 48
        · rw [if_pos c2]
        · rw [if_neg c2, if_pos (by omega)]
theorem nName (s : ByteArray) (hb : s.size ≤ 1000) (k : Nat) (hk : s.size < k) : note_Name.f k s = some (nameOk (bytesOf s)) := by
  have h := nName_l s hb s.size 0 k (by omega) hk
  unfold note_Name.f
  refine Eq.trans h ?_
  simp only [List.drop_zero, nameOk, bytesOf_length, Bool.and_assoc]
theorem nWrong (g : Bool) (s : ByteArray) (a : Int) (hb : s.size ≤ 1000) (k : Nat) (hk : s.size < k) : note_wrong.f k g s a = some (ncode (bytesOf s) a) := by
  unfold note_wrong.f
  rw [nName s hb k hk]
  simp only [Option.bind_some]
  unfold ncode
  split
  · by_cases h1 : a < 1
    · rw [if_pos h1, if_pos (.inl h1)]
    · rw [if_neg h1]
      by_cases h2 : a ≥ 65536
      · rw [if_pos h2, if_pos (.inr (by omega))]
      · rw [if_neg h2, if_neg (by omega)]
  · rfl
theorem nRight (g : Bool) (s : ByteArray) (a : Int) (hb : s.size ≤ 1000) (k : Nat) (hk : s.size < k) : note_Right.f k g s a = some (ncode (bytesOf s) a == 0) := by
  unfold note_Right.f
  rw [nWrong g s a hb k hk]
  rfl
theorem rName_l (s : ByteArray) (hb : s.size ≤ 1000) : ∀ (d i k : Nat), i + d = s.size → d < k → switchyardref27_Name.l0 k s i = some (((bytesOf s).drop i).all okc)
  | 0, i, k, hi, hk => by
    obtain ⟨k, rfl⟩ : ∃ q, k = q + 1 := ⟨k - 1, by omega⟩
    simp only [switchyardref27_Name.l0]
    rw [if_neg (by omega), drop_end (by omega)]
    rfl
  | d + 1, i, k, hi, hk => by
    obtain ⟨k, rfl⟩ : ∃ q, k = q + 1 := ⟨k - 1, by omega⟩
    simp only [switchyardref27_Name.l0]
    rw [if_pos (by omega), if_pos (by omega), step64 (by omega), drop_bytes (by omega), List.all_cons, rName_l s hb d (i + 1) k (by omega) (by omega)]
    cases h : okc (bt s i) with
    | true =>
      have h' := h
      simp only [okc, Bool.or_eq_true, Bool.and_eq_true, decide_eq_true_eq] at h'
      simp only [Bool.true_and]
      by_cases c1 : bt s i ≥ 97
      · rw [if_pos c1, if_pos (by omega)]
      · rw [if_neg c1, if_pos (by omega), if_pos (by omega)]
    | false =>
      have h' : ¬ (okc (bt s i) = true) := by rw [h]; decide
      simp only [okc, Bool.or_eq_true, Bool.and_eq_true, decide_eq_true_eq] at h'
      simp only [Bool.false_and]
      by_cases c1 : bt s i ≥ 97
      · rw [if_pos c1, if_neg (by omega), if_pos (by omega), if_neg (by omega)]
      · rw [if_neg c1]
        by_cases c2 : bt s i ≥ 48
        · rw [if_pos c2, if_neg (by omega)]
        · rw [if_neg c2]
theorem rName (s : ByteArray) (hb : s.size ≤ 1000) (k : Nat) (hk : s.size + 1 < k) : switchyardref27_Name.f k s = some (nameOk (bytesOf s)) := by
  obtain ⟨k, rfl⟩ : ∃ q, k = q + 1 := ⟨k - 1, by omega⟩
  have h : switchyardref27_Name.l0 k s 0 = some ((bytesOf s).all okc) := rName_l s hb s.size 0 k (by omega) (by omega)
  unfold switchyardref27_Name.f
  simp only [switchyardref27_Name.j0, if_true, h]
  unfold nameOk
  rw [bytesOf_length]
  by_cases h1 : (s.size : Int) < 1
  · rw [if_pos h1]
    have : ¬ 1 ≤ s.size := by omega
    simp [this]
  · rw [if_neg h1]
    have h1' : 1 ≤ s.size := by omega
    by_cases h8 : (s.size : Int) > 8
    · rw [if_pos (by simp; omega)]
      have : ¬ s.size ≤ 8 := by omega
      simp [this]
    · rw [if_neg (by simp; omega)]
      have : s.size ≤ 8 := by omega
      simp [this, h1']
theorem rW_l (s : ByteArray) (hb : s.size ≤ 1000) (g : Bool) (a x0 x1 x2 : Int) : ∀ (d i k : Nat) (B : List Int), B.length ≤ i → i + d = s.size ∨ (d = 0 ∧ s.size ≤ i ∧ i ≤ 1001) → d < k →
    switchyardref27_Write.l0 k i g s a x0 x1 x2 B = some (x0, x1, x2, B ++ pack ((bytesOf s).drop i), 0) := by
  intro d
  induction d using Nat.strongRecOn with
  | ind d ih =>
    intro i k B hB hi hk
    obtain ⟨k, rfl⟩ : ∃ q, k = q + 1 := ⟨k - 1, by omega⟩
    simp only [switchyardref27_Write.l0]
    by_cases hd : d = 0
    · rw [if_neg (by omega), drop_end (by omega)]
      simp [pack]
    · have hb0 := bt_bd s i
      have e2 : wrap64 ((i : Int) + 2) = ((i + 2 : Nat) : Int) := by rw [w64' (by omega) (by omega)]; omega
      rw [if_pos (by omega), if_pos (by omega), step64 (by omega), w64' (n := bt s i) (by omega) (by omega), w64' (n := 256 * bt s i) (by omega) (by omega), e2]
      by_cases hd1 : d = 1
      · rw [if_neg (by omega), if_pos (by omega), ih 0 (by omega) (i + 2) k _ (by simp; omega) (.inr ⟨rfl, by omega, by omega⟩) (by omega), drop_bytes (i := i) (by omega), drop_end (i := i + 1) (by omega), drop_end (i := i + 2) (by omega)]
        simp [pack, Int.mul_comm]
      · have hb1 := bt_bd s ((i + 1 : Nat) : Int)
        rw [if_pos (by omega), if_pos (by omega), if_pos (by omega), w64' (n := bt s ((i + 1 : Nat) : Int)) (by omega) (by omega), w64' (by omega) (by omega), ih (d - 2) (by omega) (i + 2) k _ (by simp; omega) (.inl (by omega)) (by omega), drop_bytes (i := i) (by omega), drop_bytes (i := i + 1) (by omega)]
        simp [pack, Int.mul_comm]
theorem rWrite (g : Bool) (s : ByteArray) (a : Int) (hb : s.size ≤ 1000) (k : Nat) (hk : s.size + 3 < k) : switchyardref27_Write.f k g s a = some (nwr g (bytesOf s) a) := by
  obtain ⟨k, rfl⟩ : ∃ q, k = q + 2 := ⟨k - 2, by omega⟩
  have hl' : ∀ x0 x1 x2, switchyardref27_Write.l0 k 0 g s a x0 x1 x2 ([] : List Int) = some (x0, x1, x2, pack (bytesOf s), 0) := fun x0 x1 x2 => rW_l s hb g a x0 x1 x2 s.size 0 k [] (by simp) (.inl (by omega)) (by omega)
  unfold switchyardref27_Write.f
  rw [rName s hb _ (by omega)]
  simp only [Option.bind_some, switchyardref27_Write.j0, switchyardref27_Write.j1, hl', if_true]
  unfold nwr
  split
  · by_cases h1 : a < 1
    · rw [if_pos h1, if_pos (.inl h1)]
    · rw [if_neg h1]
      by_cases h2 : a > 65535
      · rw [if_pos (by simp; omega), if_pos (.inr (by omega))]
      · have hd : decide (a > 65535) = false := by simp; omega
        have hc : ¬ (a < 1 ∨ 65535 < a) := by omega
        simp only [hd, Bool.false_eq_true, if_false, hc]
        cases g <;> rfl
  · rfl
end Go.Proofs.Ytdhgmnnkbjhpaaa.NoteOk
