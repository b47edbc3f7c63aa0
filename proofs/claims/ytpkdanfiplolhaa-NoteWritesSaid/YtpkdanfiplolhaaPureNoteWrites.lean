/- The pure statement of NoteWrites: for any note and any text the law's function comes to true. -/
import Derived.Test.YtpkdanfiplolhaaPNoteWritesx
import Derived.Test.YtpkdanfiplolhaaNoteLaw
namespace Go.Proofs.Ytpkdanfiplolhaa.Pure
set_option linter.unusedVariables false
set_option linter.unusedSimpArgs false
open Go.RowKit Go.Proofs.Ytpkdanfiplolhaa.Given Go.Proofs.Ytpkdanfiplolhaa.HeadLaw Go.Proofs.Ytpkdanfiplolhaa.NoteLaw Go.Proofs.Ytpkdanfiplolhaa.PNoteWrites Go.Proofs.YtpkdanfiplolhaaW.PrintWords Go.Proofs.YtpkdanfiplolhaaW.PrintLast
theorem eqI_l (l m : List Int) (hl : l.length = m.length) (hb : l.length ≤ 1000) : ∀ (d i k : Nat), i + d = l.length → d < k → slices_Equal_int_int.l0 k l m (l.length : Int) i = some (decide (l.drop i = m.drop i))
  | 0, i, k, hi, hk => by
    obtain ⟨k, rfl⟩ : ∃ q, k = q + 1 := ⟨k - 1, by omega⟩
    simp only [slices_Equal_int_int.l0]
    rw [if_neg (by omega), List.drop_eq_nil_of_le (by omega), List.drop_eq_nil_of_le (by omega)]
    simp
  | d + 1, i, k, hi, hk => by
    obtain ⟨k, rfl⟩ : ∃ q, k = q + 1 := ⟨k - 1, by omega⟩
    simp only [slices_Equal_int_int.l0]
    rw [if_pos (by omega), if_pos (by omega), if_pos (by omega), if_pos (by omega), step64 (by omega), drop_step (by omega) (by omega)]
    by_cases h : rd l i = rd m i
    · rw [if_pos h, eqI_l l m hl hb d (i + 1) k (by omega) (by omega)]
      simp [h]
    · rw [if_neg h]
      simp [h]
theorem eqI (l m : List Int) (hb : l.length ≤ 1000) (k : Nat) (hk : l.length < k) : slices_Equal_int_int.f k l m = some (decide (l = m)) := by
  unfold slices_Equal_int_int.f
  by_cases h : l.length = m.length
  · rw [if_pos (by omega)]
    exact eqI_l l m h hb l.length 0 k (by omega) hk
  · rw [if_neg (by omega)]
    have : l ≠ m := fun e => h (by rw [e])
    simp [this]
theorem hSame (a0 a1 a2 : Int) (l : List Int) (b0 b1 b2 : Int) (m : List Int) (hb : l.length ≤ 1000) (k : Nat) (hk : l.length < k) : head_Same.f k a0 a1 a2 l b0 b1 b2 m = some (decide (a0 = b0 ∧ a1 = b1 ∧ a2 = b2 ∧ l = m)) := by
  unfold head_Same.f
  rw [eqI l m hb k hk]
  by_cases h0 : a0 = b0 <;> by_cases h1 : a1 = b1 <;> by_cases h2 : a2 = b2 <;> simp [h0, h1, h2]
theorem rS_l (a0 a1 a2 b0 b1 b2 : Int) (l m : List Int) (hl : l.length = m.length) (hb : l.length ≤ 1000) : ∀ (d i k : Nat), i + d = l.length → d < k → switchyardref26_Same.l0 k i a0 a1 a2 l b0 b1 b2 m = some (decide (l.drop i = m.drop i))
  | 0, i, k, hi, hk => by
    obtain ⟨k, rfl⟩ : ∃ q, k = q + 1 := ⟨k - 1, by omega⟩
    simp only [switchyardref26_Same.l0]
    rw [if_neg (by omega), List.drop_eq_nil_of_le (by omega), List.drop_eq_nil_of_le (by omega)]
    simp
  | d + 1, i, k, hi, hk => by
    obtain ⟨k, rfl⟩ : ∃ q, k = q + 1 := ⟨k - 1, by omega⟩
    simp only [switchyardref26_Same.l0]
    rw [if_pos (by omega), if_pos (by omega), if_pos (by omega), step64 (by omega), drop_step (by omega) (by omega)]
    by_cases h : rd l i = rd m i
    · rw [if_pos h, rS_l a0 a1 a2 b0 b1 b2 l m hl hb d (i + 1) k (by omega) (by omega)]
      simp [h]
    · rw [if_neg h]
      simp [h]
theorem rSame (a0 a1 a2 : Int) (l : List Int) (b0 b1 b2 : Int) (m : List Int) (hb : l.length ≤ 1000) (k : Nat) (hk : l.length + 1 < k) : switchyardref26_Same.f k a0 a1 a2 l b0 b1 b2 m = some (decide (a0 = b0 ∧ a1 = b1 ∧ a2 = b2 ∧ l = m)) := by
  obtain ⟨k, rfl⟩ : ∃ q, k = q + 1 := ⟨k - 1, by omega⟩
  unfold switchyardref26_Same.f
  simp only [switchyardref26_Same.j0, if_true]
  by_cases h : l.length = m.length
  · have e : ((l.length : Int) != (m.length : Int)) = false := by simp [h]
    have e2 := rS_l a0 a1 a2 b0 b1 b2 l m h hb l.length 0 k (by omega) (by omega)
    have e3 : switchyardref26_Same.l0 k 0 a0 a1 a2 l b0 b1 b2 m = some (decide (l = m)) := e2
    simp only [e, e3, Bool.false_eq_true, if_false]
    by_cases h0 : a0 = b0 <;> by_cases h1 : a1 = b1 <;> by_cases h2 : a2 = b2 <;> simp [h0, h1, h2]
  · have e : ((l.length : Int) != (m.length : Int)) = true := by simp; omega
    have hne : l ≠ m := fun e => h (by rw [e])
    simp only [e, if_true]
    by_cases h0 : a0 = b0 <;> by_cases h1 : a1 = b1 <;> by_cases h2 : a2 = b2 <;> simp [h0, h1, h2, hne]
theorem nName_l (s : ByteArray) (hb : s.size ≤ 1000) : ∀ (d i k : Nat), i + d = s.size → d < k → note_Name.l0 k s (s.size : Int) i = some (((bytesOf s).drop i).all okc && (decide (1 ≤ s.size) && decide (s.size ≤ 8)))
  | 0, i, k, hi, hk => by
    obtain ⟨k, rfl⟩ : ∃ q, k = q + 1 := ⟨k - 1, by omega⟩
    simp only [note_Name.l0]
    rw [if_neg (by omega), drop_end (by omega), ByteArray.toList_eq]
    by_cases h : s.data.toList = []
    · have h0 : s.size = 0 := by
        exact size_0 h
      rw [if_pos h]
      simp [h0]
    · have h0 : 1 ≤ s.size := by
        exact size_1 h
      rw [if_neg h]
      simp only [List.all_nil, Bool.true_and, h0, decide_true]
      congr 1
      rw [Bool.eq_iff_iff]
      simp only [decide_eq_true_eq]
      omega
  | d + 1, i, k, hi, hk => by
    obtain ⟨k, rfl⟩ : ∃ q, k = q + 1 := ⟨k - 1, by omega⟩
    simp only [note_Name.l0]
    rw [if_pos (by omega), if_pos (by omega), if_pos (by omega), step64 (by omega), drop_bytes (by omega), List.all_cons, nName_l s hb d (i + 1) k (by omega) (by omega)]
    cases h : okc (bt s i) with
    | true =>
      have h' := h
      simp only [okc, Bool.or_eq_true, Bool.and_eq_true, decide_eq_true_eq] at h'
      simp only [Bool.true_and]
      by_cases c1 : bt s i < 97
      · rw [if_pos c1, if_neg (by omega), if_neg (by omega)]
      · rw [if_neg c1, if_neg (by omega)]
    | false =>
      have h' : ¬ (okc (bt s i) = true) := by rw [h]; decide
      simp only [okc, Bool.or_eq_true, Bool.and_eq_true, decide_eq_true_eq] at h'
      simp only [Bool.false_and]
      by_cases c1 : bt s i < 97
      · rw [if_pos c1]
        by_cases c2 : bt s i < 48
        · rw [if_pos c2]
        · rw [if_neg c2, if_pos (by omega)]
      · rw [if_neg c1, if_pos (by omega)]
        by_cases c2 : bt s i < 48
        · rw [if_pos c2]
        · rw [if_neg c2, if_pos (by omega)]
theorem nName (s : ByteArray) (hb : s.size ≤ 1000) (k : Nat) (hk : s.size < k) : note_Name.f k s = some (nameOk (bytesOf s)) := by
  have h := nName_l s hb s.size 0 k (by omega) hk
  unfold note_Name.f
  refine Eq.trans h ?_
  simp only [List.drop_zero, nameOk, bytesOf_length, Bool.and_assoc]
theorem nWrong (g : Bool) (s : ByteArray) (a : Int) (hb : s.size ≤ 1000) (k : Nat) (hk : s.size < k) : note_wrong.f k g s a = some (ncode (bytesOf s) a) := by
  unfold note_wrong.f
  rw [nName s hb k hk]
  simp only [Option.bind_some]
  unfold ncode
  split
  · by_cases h1 : a < 1
    · rw [if_pos h1, if_pos (.inl h1)]
    · rw [if_neg h1]
      by_cases h2 : a ≥ 65536
      · rw [if_pos h2, if_pos (.inr (by omega))]
      · rw [if_neg h2, if_neg (by omega)]
  · rfl
theorem nW_l (s : ByteArray) (hb : s.size ≤ 1000) (g : Bool) (a x0 x1 x2 : Int) : ∀ (d i k : Nat) (B : List Int), i % 2 = 0 → B.length = i / 2 → i + d = s.size → d < k →
    note_Write.l0 k (s.size : Int) i g s a x0 x1 x2 B = some (x0, x1, x2, B ++ pack ((bytesOf s).drop i), 0) := by
  intro d
  induction d using Nat.strongRecOn with
  | ind d ih =>
    intro i k B h2 hB hi hk
    obtain ⟨k, rfl⟩ : ∃ q, k = q + 1 := ⟨k - 1, by omega⟩
    simp only [note_Write.l0]
    by_cases hd : d = 0
    · rw [if_neg (by omega), drop_end (by omega)]
      simp [pack]
    · have hb0 := bt_bd s i
      have et : Int.tmod (i : Int) 2 = 0 := by rw [Int.tmod_eq_emod_of_nonneg (by omega)]; omega
      rw [if_pos (by omega), if_pos et, if_pos (by omega), if_pos (by omega), if_pos (by omega), step64 (by omega), w64' (n := bt s i) (by omega) (by omega), w64' (by omega) (by omega)]
      obtain ⟨k, rfl⟩ : ∃ q, k = q + 1 := ⟨k - 1, by omega⟩
      simp only [note_Write.l0]
      by_cases hd1 : d = 1
      · rw [if_neg (by omega), drop_bytes (by omega), drop_end (by omega)]
        simp [pack]
      · have hb1 := bt_bd s ((i + 1 : Nat) : Int)
        have et1 : ¬ Int.tmod ((i + 1 : Nat) : Int) 2 = 0 := by rw [Int.tmod_eq_emod_of_nonneg (by omega)]; omega
        have ed : Int.tdiv ((i + 1 : Nat) : Int) 2 = ((i / 2 : Nat) : Int) := by rw [Int.tdiv_eq_ediv_of_nonneg (by omega)]; omega
        have hlen : (B ++ [bt s i * 256]).length = i / 2 + 1 := by simp [hB]
        have er : rd (B ++ [bt s i * 256]) ((i / 2 : Nat) : Int) = bt s i * 256 := by
          simp [rd, ← hB]
        have es : ∀ y, (B ++ [bt s i * 256]).set (((i / 2 : Nat) : Int)).toNat y = B ++ [y] := by
          intro y
          rw [Int.toNat_natCast, ← hB]
          simp
        rw [if_pos (by omega), if_neg et1, ed, w64' (n := ((i / 2 : Nat) : Int)) (by omega) (by omega), if_pos (by omega), if_pos (by omega), if_pos (by omega), if_pos (by omega), step64 (by omega), w64' (n := bt s ((i + 1 : Nat) : Int)) (by omega) (by omega), er, or_256 _ _ (by omega) (by omega) (by omega) (by omega), es]
        rw [ih (d - 2) (by omega) (i + 1 + 1) k _ (by omega) (by simp [hB]; omega) (by omega) (by omega), drop_bytes (i := i) (by omega), drop_bytes (i := i + 1) (by omega)]
        simp [pack]
theorem nWrite (g : Bool) (s : ByteArray) (a : Int) (hb : s.size ≤ 1000) (k : Nat) (hk : s.size + 2 < k) : note_Write.f k g s a = some (nwr g (bytesOf s) a) := by
  obtain ⟨k, rfl⟩ : ∃ q, k = q + 1 := ⟨k - 1, by omega⟩
  have hl := fun x0 x1 x2 => nW_l s hb g a x0 x1 x2 s.size 0 k [] rfl rfl (by omega) (by omega)
  have hl' : ∀ x0 x1 x2, note_Write.l0 k (s.size : Int) 0 g s a x0 x1 x2 ([] : List Int) = some (x0, x1, x2, pack (bytesOf s), 0) := fun x0 x1 x2 => hl x0 x1 x2
  unfold note_Write.f
  rw [nWrong g s a hb (k + 1) (by omega)]
  simp only [Option.bind_some, note_Write.j0, hl']
  by_cases h : ncode (bytesOf s) a = 0
  · rw [if_pos h, nwr_yes h]
    split <;> rfl
  · rw [if_neg h, nwr_no h]
theorem alive {k : Nat} (hk : 20 ≤ k) : switchyardlaw27_alive.f k = some true := by
  unfold switchyardlaw27_alive.f
  have e : nwr false (bytesOf ⟨#[97, 98, 99]⟩) 7 = (1, 0, 7, [24930, 25344], 0) := by decide +kernel
  rw [nWrite false ⟨#[97, 98, 99]⟩ 7 (by simp [ByteArray.size]) k (by simp [ByteArray.size]; omega), e]
  simp only [Option.bind_some, if_true]
  rw [hSame _ _ _ _ _ _ _ _ (by simp) k (by simp; omega)]
  simp
theorem rName_l (s : ByteArray) (hb : s.size ≤ 1000) : ∀ (d i k : Nat), i + d = s.size → d < k → switchyardref27_Name.l0 k s i = some (((bytesOf s).drop i).all okc)
  | 0, i, k, hi, hk => by
    obtain ⟨k, rfl⟩ : ∃ q, k = q + 1 := ⟨k - 1, by omega⟩
    simp only [switchyardref27_Name.l0]
    rw [if_neg (by omega), drop_end (by omega)]
    rfl
  | d + 1, i, k, hi, hk => by
    obtain ⟨k, rfl⟩ : ∃ q, k = q + 1 := ⟨k - 1, by omega⟩
    simp only [switchyardref27_Name.l0]
    rw [if_pos (by omega), if_pos (by omega), step64 (by omega), drop_bytes (by omega), List.all_cons, rName_l s hb d (i + 1) k (by omega) (by omega)]
    cases h : okc (bt s i) with
    | true =>
      have h' := h
      simp only [okc, Bool.or_eq_true, Bool.and_eq_true, decide_eq_true_eq] at h'
      simp only [Bool.true_and]
      by_cases c1 : bt s i ≥ 97
      · rw [if_pos c1, if_pos (by omega)]
      · rw [if_neg c1, if_pos (by omega), if_pos (by omega)]
    | false =>
      have h' : ¬ (okc (bt s i) = true) := by rw [h]; decide
      simp only [okc, Bool.or_eq_true, Bool.and_eq_true, decide_eq_true_eq] at h'
      simp only [Bool.false_and]
      by_cases c1 : bt s i ≥ 97
      · rw [if_pos c1, if_neg (by omega), if_pos (by omega), if_neg (by omega)]
      · rw [if_neg c1]
        by_cases c2 : bt s i ≥ 48
        · rw [if_pos c2, if_neg (by omega)]
        · rw [if_neg c2]
theorem rName (s : ByteArray) (hb : s.size ≤ 1000) (k : Nat) (hk : s.size + 1 < k) : switchyardref27_Name.f k s = some (nameOk (bytesOf s)) := by
  obtain ⟨k, rfl⟩ : ∃ q, k = q + 1 := ⟨k - 1, by omega⟩
  have h : switchyardref27_Name.l0 k s 0 = some ((bytesOf s).all okc) := rName_l s hb s.size 0 k (by omega) (by omega)
  unfold switchyardref27_Name.f
  simp only [switchyardref27_Name.j0, if_true, h]
  unfold nameOk
  rw [bytesOf_length]
  by_cases h1 : (s.size : Int) < 1
  · rw [if_pos h1]
    have : ¬ 1 ≤ s.size := by omega
    simp [this]
  · rw [if_neg h1]
    have h1' : 1 ≤ s.size := by omega
    by_cases h8 : (s.size : Int) > 8
    · rw [if_pos (by simp; omega)]
      have : ¬ s.size ≤ 8 := by omega
      simp [this]
    · rw [if_neg (by simp; omega)]
      have : s.size ≤ 8 := by omega
      simp [this, h1']
theorem rW_l (s : ByteArray) (hb : s.size ≤ 1000) (g : Bool) (a x0 x1 x2 : Int) : ∀ (d i k : Nat) (B : List Int), B.length ≤ i → i + d = s.size ∨ (d = 0 ∧ s.size ≤ i ∧ i ≤ 1001) → d < k →
    switchyardref27_Write.l0 k i g s a x0 x1 x2 B = some (x0, x1, x2, B ++ pack ((bytesOf s).drop i), 0) := by
  intro d
  induction d using Nat.strongRecOn with
  | ind d ih =>
    intro i k B hB hi hk
    obtain ⟨k, rfl⟩ : ∃ q, k = q + 1 := ⟨k - 1, by omega⟩
    simp only [switchyardref27_Write.l0]
    by_cases hd : d = 0
    · rw [if_neg (by omega), drop_end (by omega)]
      simp [pack]
    · have hb0 := bt_bd s i
      have e2 : wrap64 ((i : Int) + 2) = ((i + 2 : Nat) : Int) := by rw [w64' (by omega) (by omega)]; omega
      rw [if_pos (by omega), if_pos (by omega), step64 (by omega), w64' (n := bt s i) (by omega) (by omega), w64' (n := 256 * bt s i) (by omega) (by omega), e2]
      by_cases hd1 : d = 1
      · rw [if_neg (by omega), if_pos (by omega), ih 0 (by omega) (i + 2) k _ (by simp; omega) (.inr ⟨rfl, by omega, by omega⟩) (by omega), drop_bytes (i := i) (by omega), drop_end (i := i + 1) (by omega), drop_end (i := i + 2) (by omega)]
        simp [pack, Int.mul_comm]
      · have hb1 := bt_bd s ((i + 1 : Nat) : Int)
        rw [if_pos (by omega), if_pos (by omega), if_pos (by omega), w64' (n := bt s ((i + 1 : Nat) : Int)) (by omega) (by omega), w64' (by omega) (by omega), ih (d - 2) (by omega) (i + 2) k _ (by simp; omega) (.inl (by omega)) (by omega), drop_bytes (i := i) (by omega), drop_bytes (i := i + 1) (by omega)]
        simp [pack, Int.mul_comm]
theorem rWrite (g : Bool) (s : ByteArray) (a : Int) (hb : s.size ≤ 1000) (k : Nat) (hk : s.size + 3 < k) : switchyardref27_Write.f k g s a = some (nwr g (bytesOf s) a) := by
  obtain ⟨k, rfl⟩ : ∃ q, k = q + 2 := ⟨k - 2, by omega⟩
  have hl' : ∀ x0 x1 x2, switchyardref27_Write.l0 k 0 g s a x0 x1 x2 ([] : List Int) = some (x0, x1, x2, pack (bytesOf s), 0) := fun x0 x1 x2 => rW_l s hb g a x0 x1 x2 s.size 0 k [] (by simp) (.inl (by omega)) (by omega)
  unfold switchyardref27_Write.f
  rw [rName s hb _ (by omega)]
  simp only [Option.bind_some, switchyardref27_Write.j0, switchyardref27_Write.j1, hl', if_true]
  unfold nwr
  split
  · by_cases h1 : a < 1
    · rw [if_pos h1, if_pos (.inl h1)]
    · rw [if_neg h1]
      by_cases h2 : a > 65535
      · rw [if_pos (by simp; omega), if_pos (.inr (by omega))]
      · have hd : decide (a > 65535) = false := by simp; omega
        have hc : ¬ (a < 1 ∨ 65535 < a) := by omega
        simp only [hd, Bool.false_eq_true, if_false, hc]
        cases g <;> rfl
  · rfl

theorem NoteWrites (g : Bool) (s : ByteArray) (a : Int) (t : ByteArray) : switchyardlaw27_NoteWrites.f 2000 g s a t = some true := by
  unfold switchyardlaw27_NoteWrites.f
  simp only [switchyardlaw27_NoteWrites.j0, if_true, alive (show 20 ≤ 1999 by omega), Option.bind_some]
  by_cases h : (s.size : Int) > 200
  · rw [if_pos h]
  · rw [if_neg h]
    by_cases h2 : (t.size : Int) > 200
    · rw [if_pos (by simp; omega)]
    · rw [if_neg (by simp; omega), nWrite g s a (by omega) 1999 (by omega), rWrite g s a (by omega) 1999 (by omega), nName t (by omega) 1999 (by omega), rName t (by omega) 1999 (by omega)]
      unfold note_Right.f
      rw [nWrong g s a (by omega) 1999 (by omega)]
      have h4 := nwr_len g (bytesOf s) a
      simp only [Option.bind_some]
      rw [rSame _ _ _ _ _ _ _ _ (by omega) 1999 (by omega)]
      simp [nwr_code]
end Go.Proofs.Ytpkdanfiplolhaa.Pure
