/- The pure statement of NoteReads: for any message the law's function comes to true. -/
import Derived.Test.YtpkdanfiplolhaaPNoteReadsx
import Derived.Test.YtpkdanfiplolhaaNoteLaw
namespace Go.Proofs.Ytpkdanfiplolhaa.Pure
set_option linter.unusedVariables false
set_option linter.unusedSimpArgs false
open Go.RowKit Go.Proofs.Ytpkdanfiplolhaa.Given Go.Proofs.Ytpkdanfiplolhaa.HeadLaw Go.Proofs.Ytpkdanfiplolhaa.NoteLaw Go.Proofs.Ytpkdanfiplolhaa.PNoteReads Go.Proofs.YtpkdanfiplolhaaW.PrintWords Go.Proofs.YtpkdanfiplolhaaW.PrintLast
theorem hRight (a0 a1 a2 : Int) (l : List Int) : head_Right.f a0 a1 a2 l = some (hwrong a0 a1 a2 l == 0) := rfl
theorem eqI_l (l m : List Int) (hl : l.length = m.length) (hb : l.length ≤ 1000) : ∀ (d i k : Nat), i + d = l.length → d < k → slices_Equal_int_int.l0 k l m (l.length : Int) i = some (decide (l.drop i = m.drop i))
  | 0, i, k, hi, hk => by
    obtain ⟨k, rfl⟩ : ∃ q, k = q + 1 := ⟨k - 1, by omega⟩
    simp only [slices_Equal_int_int.l0]
    rw [if_neg (by omega), List.drop_eq_nil_of_le (by omega), List.drop_eq_nil_of_le (by omega)]
    simp
  | d + 1, i, k, hi, hk => by
    obtain ⟨k, rfl⟩ : ∃ q, k = q + 1 := ⟨k - 1, by omega⟩
    simp only [slices_Equal_int_int.l0]
    rw [if_pos (by omega), if_pos (by omega), if_pos (by omega), if_pos (by omega), step64 (by omega), drop_step (by omega) (by omega)]
    by_cases h : rd l i = rd m i
    · rw [if_pos h, eqI_l l m hl hb d (i + 1) k (by omega) (by omega)]
      simp [h]
    · rw [if_neg h]
      simp [h]
theorem eqI (l m : List Int) (hb : l.length ≤ 1000) (k : Nat) (hk : l.length < k) : slices_Equal_int_int.f k l m = some (decide (l = m)) := by
  unfold slices_Equal_int_int.f
  by_cases h : l.length = m.length
  · rw [if_pos (by omega)]
    exact eqI_l l m h hb l.length 0 k (by omega) hk
  · rw [if_neg (by omega)]
    have : l ≠ m := fun e => h (by rw [e])
    simp [this]
theorem hSame (a0 a1 a2 : Int) (l : List Int) (b0 b1 b2 : Int) (m : List Int) (hb : l.length ≤ 1000) (k : Nat) (hk : l.length < k) : head_Same.f k a0 a1 a2 l b0 b1 b2 m = some (decide (a0 = b0 ∧ a1 = b1 ∧ a2 = b2 ∧ l = m)) := by
  unfold head_Same.f
  rw [eqI l m hb k hk]
  by_cases h0 : a0 = b0 <;> by_cases h1 : a1 = b1 <;> by_cases h2 : a2 = b2 <;> simp [h0, h1, h2]
theorem rS_l (a0 a1 a2 b0 b1 b2 : Int) (l m : List Int) (hl : l.length = m.length) (hb : l.length ≤ 1000) : ∀ (d i k : Nat), i + d = l.length → d < k → switchyardref26_Same.l0 k i a0 a1 a2 l b0 b1 b2 m = some (decide (l.drop i = m.drop i))
  | 0, i, k, hi, hk => by
    obtain ⟨k, rfl⟩ : ∃ q, k = q + 1 := ⟨k - 1, by omega⟩
    simp only [switchyardref26_Same.l0]
    rw [if_neg (by omega), List.drop_eq_nil_of_le (by omega), List.drop_eq_nil_of_le (by omega)]
    simp
  | d + 1, i, k, hi, hk => by
    obtain ⟨k, rfl⟩ : ∃ q, k = q + 1 := ⟨k - 1, by omega⟩
    simp only [switchyardref26_Same.l0]
    rw [if_pos (by omega), if_pos (by omega), if_pos (by omega), step64 (by omega), drop_step (by omega) (by omega)]
    by_cases h : rd l i = rd m i
    · rw [if_pos h, rS_l a0 a1 a2 b0 b1 b2 l m hl hb d (i + 1) k (by omega) (by omega)]
      simp [h]
    · rw [if_neg h]
      simp [h]
theorem rSame (a0 a1 a2 : Int) (l : List Int) (b0 b1 b2 : Int) (m : List Int) (hb : l.length ≤ 1000) (k : Nat) (hk : l.length + 1 < k) : switchyardref26_Same.f k a0 a1 a2 l b0 b1 b2 m = some (decide (a0 = b0 ∧ a1 = b1 ∧ a2 = b2 ∧ l = m)) := by
  obtain ⟨k, rfl⟩ : ∃ q, k = q + 1 := ⟨k - 1, by omega⟩
  unfold switchyardref26_Same.f
  simp only [switchyardref26_Same.j0, if_true]
  by_cases h : l.length = m.length
  · have e : ((l.length : Int) != (m.length : Int)) = false := by simp [h]
    have e2 := rS_l a0 a1 a2 b0 b1 b2 l m h hb l.length 0 k (by omega) (by omega)
    have e3 : switchyardref26_Same.l0 k 0 a0 a1 a2 l b0 b1 b2 m = some (decide (l = m)) := e2
    simp only [e, e3, Bool.false_eq_true, if_false]
    by_cases h0 : a0 = b0 <;> by_cases h1 : a1 = b1 <;> by_cases h2 : a2 = b2 <;> simp [h0, h1, h2]
  · have e : ((l.length : Int) != (m.length : Int)) = true := by simp; omega
    have hne : l ≠ m := fun e => h (by rw [e])
    simp only [e, if_true]
    by_cases h0 : a0 = b0 <;> by_cases h1 : a1 = b1 <;> by_cases h2 : a2 = b2 <;> simp [h0, h1, h2, hne]
theorem nName_l (s : ByteArray) (hb : s.size ≤ 1000) : ∀ (d i k : Nat), i + d = s.size → d < k → note_Name.l0 k s (s.size : Int) i = some (((bytesOf s).drop i).all okc && (decide (1 ≤ s.size) && decide (s.size ≤ 8)))
  | 0, i, k, hi, hk => by
    obtain ⟨k, rfl⟩ : ∃ q, k = q + 1 := ⟨k - 1, by omega⟩
    simp only [note_Name.l0]
    rw [if_neg (by omega), drop_end (by omega), ByteArray.toList_eq]
    by_cases h : s.data.toList = []
    · have h0 : s.size = 0 := by
        exact size_0 h
      rw [if_pos h]
      simp [h0]
    · have h0 : 1 ≤ s.size := by
        exact size_1 h
      rw [if_neg h]
      simp only [List.all_nil, Bool.true_and, h0, decide_true]
      congr 1
      rw [Bool.eq_iff_iff]
      simp only [decide_eq_true_eq]
      omega
  | d + 1, i, k, hi, hk => by
    obtain ⟨k, rfl⟩ : ∃ q, k = q + 1 := ⟨k - 1, by omega⟩
    simp only [note_Name.l0]
    rw [if_pos (by omega), if_pos (by omega), if_pos (by omega), step64 (by omega), drop_bytes (by omega), List.all_cons, nName_l s hb d (i + 1) k (by omega) (by omega)]
    cases h : okc (bt s i) with
    | true =>
      have h' := h
      simp only [okc, Bool.or_eq_true, Bool.and_eq_true, decide_eq_true_eq] at h'
      simp only [Bool.true_and]
      by_cases c1 : bt s i < 97
      · rw [if_pos c1, if_neg (by omega), if_neg (by omega)]
      · rw [if_neg c1, if_neg (by omega)]
    | false =>
      have h' : ¬ (okc (bt s i) = true) := by rw [h]; decide
      simp only [okc, Bool.or_eq_true, Bool.and_eq_true, decide_eq_true_eq] at h'
      simp only [Bool.false_and]
      by_cases c1 : bt s i < 97
      · rw [if_pos c1]
        by_cases c2 : bt s i < 48
        · rw [if_pos c2]
        · rw [if_neg c2, if_pos (by omega)]
      · rw [if_neg c1, if_pos (by omega)]
        by_cases c2 : bt s i < 48
        · rw [if_pos c2]
        · rw [if_neg c2, if_pos (by omega)]
theorem nName (s : ByteArray) (hb : s.size ≤ 1000) (k : Nat) (hk : s.size < k) : note_Name.f k s = some (nameOk (bytesOf s)) := by
  have h := nName_l s hb s.size 0 k (by omega) hk
  unfold note_Name.f
  refine Eq.trans h ?_
  simp only [List.drop_zero, nameOk, bytesOf_length, Bool.and_assoc]
theorem nWrong (g : Bool) (s : ByteArray) (a : Int) (hb : s.size ≤ 1000) (k : Nat) (hk : s.size < k) : note_wrong.f k g s a = some (ncode (bytesOf s) a) := by
  unfold note_wrong.f
  rw [nName s hb k hk]
  simp only [Option.bind_some]
  unfold ncode
  split
  · by_cases h1 : a < 1
    · rw [if_pos h1, if_pos (.inl h1)]
    · rw [if_neg h1]
      by_cases h2 : a ≥ 65536
      · rw [if_pos h2, if_pos (.inr (by omega))]
      · rw [if_neg h2, if_neg (by omega)]
  · rfl
theorem nW_l (s : ByteArray) (hb : s.size ≤ 1000) (g : Bool) (a x0 x1 x2 : Int) : ∀ (d i k : Nat) (B : List Int), i % 2 = 0 → B.length = i / 2 → i + d = s.size → d < k →
    note_Write.l0 k (s.size : Int) i g s a x0 x1 x2 B = some (x0, x1, x2, B ++ pack ((bytesOf s).drop i), 0) := by
  intro d
  induction d using Nat.strongRecOn with
  | ind d ih =>
    intro i k B h2 hB hi hk
    obtain ⟨k, rfl⟩ : ∃ q, k = q + 1 := ⟨k - 1, by omega⟩
    simp only [note_Write.l0]
    by_cases hd : d = 0
    · rw [if_neg (by omega), drop_end (by omega)]
      simp [pack]
    · have hb0 := bt_bd s i
      have et : Int.tmod (i : Int) 2 = 0 := by rw [Int.tmod_eq_emod_of_nonneg (by omega)]; omega
      rw [if_pos (by omega), if_pos et, if_pos (by omega), if_pos (by omega), if_pos (by omega), step64 (by omega), w64' (n := bt s i) (by omega) (by omega), w64' (by omega) (by omega)]
      obtain ⟨k, rfl⟩ : ∃ q, k = q + 1 := ⟨k - 1, by omega⟩
      simp only [note_Write.l0]
      by_cases hd1 : d = 1
      · rw [if_neg (by omega), drop_bytes (by omega), drop_end (by omega)]
        simp [pack]
      · have hb1 := bt_bd s ((i + 1 : Nat) : Int)
        have et1 : ¬ Int.tmod ((i + 1 : Nat) : Int) 2 = 0 := by rw [Int.tmod_eq_emod_of_nonneg (by omega)]; omega
        have ed : Int.tdiv ((i + 1 : Nat) : Int) 2 = ((i / 2 : Nat) : Int) := by rw [Int.tdiv_eq_ediv_of_nonneg (by omega)]; omega
        have hlen : (B ++ [bt s i * 256]).length = i / 2 + 1 := by simp [hB]
        have er : rd (B ++ [bt s i * 256]) ((i / 2 : Nat) : Int) = bt s i * 256 := by
          simp [rd, ← hB]
        have es : ∀ y, (B ++ [bt s i * 256]).set (((i / 2 : Nat) : Int)).toNat y = B ++ [y] := by
          intro y
          rw [Int.toNat_natCast, ← hB]
          simp
        rw [if_pos (by omega), if_neg et1, ed, w64' (n := ((i / 2 : Nat) : Int)) (by omega) (by omega), if_pos (by omega), if_pos (by omega), if_pos (by omega), if_pos (by omega), step64 (by omega), w64' (n := bt s ((i + 1 : Nat) : Int)) (by omega) (by omega), er, or_256 _ _ (by omega) (by omega) (by omega) (by omega), es]
        rw [ih (d - 2) (by omega) (i + 1 + 1) k _ (by omega) (by simp [hB]; omega) (by omega) (by omega), drop_bytes (i := i) (by omega), drop_bytes (i := i + 1) (by omega)]
        simp [pack]
theorem nWrite (g : Bool) (s : ByteArray) (a : Int) (hb : s.size ≤ 1000) (k : Nat) (hk : s.size + 2 < k) : note_Write.f k g s a = some (nwr g (bytesOf s) a) := by
  obtain ⟨k, rfl⟩ : ∃ q, k = q + 1 := ⟨k - 1, by omega⟩
  have hl := fun x0 x1 x2 => nW_l s hb g a x0 x1 x2 s.size 0 k [] rfl rfl (by omega) (by omega)
  have hl' : ∀ x0 x1 x2, note_Write.l0 k (s.size : Int) 0 g s a x0 x1 x2 ([] : List Int) = some (x0, x1, x2, pack (bytesOf s), 0) := fun x0 x1 x2 => hl x0 x1 x2
  unfold note_Write.f
  rw [nWrong g s a hb (k + 1) (by omega)]
  simp only [Option.bind_some, note_Write.j0, hl']
  by_cases h : ncode (bytesOf s) a = 0
  · rw [if_pos h, nwr_yes h]
    split <;> rfl
  · rw [if_neg h, nwr_no h]
theorem alive {k : Nat} (hk : 20 ≤ k) : switchyardlaw27_alive.f k = some true := by
  unfold switchyardlaw27_alive.f
  have e : nwr false (bytesOf ⟨#[97, 98, 99]⟩) 7 = (1, 0, 7, [24930, 25344], 0) := by decide +kernel
  rw [nWrite false ⟨#[97, 98, 99]⟩ 7 (by simp [ByteArray.size]) k (by simp [ByteArray.size]; omega), e]
  simp only [Option.bind_some, if_true]
  rw [hSame _ _ _ _ _ _ _ _ (by simp) k (by simp; omega)]
  simp
theorem rName_l (s : ByteArray) (hb : s.size ≤ 1000) : ∀ (d i k : Nat), i + d = s.size → d < k → switchyardref27_Name.l0 k s i = some (((bytesOf s).drop i).all okc)
  | 0, i, k, hi, hk => by
    obtain ⟨k, rfl⟩ : ∃ q, k = q + 1 := ⟨k - 1, by omega⟩
    simp only [switchyardref27_Name.l0]
    rw [if_neg (by omega), drop_end (by omega)]
    rfl
  | d + 1, i, k, hi, hk => by
    obtain ⟨k, rfl⟩ : ∃ q, k = q + 1 := ⟨k - 1, by omega⟩
    simp only [switchyardref27_Name.l0]
    rw [if_pos (by omega), if_pos (by omega), step64 (by omega), drop_bytes (by omega), List.all_cons, rName_l s hb d (i + 1) k (by omega) (by omega)]
    cases h : okc (bt s i) with
    | true =>
      have h' := h
      simp only [okc, Bool.or_eq_true, Bool.and_eq_true, decide_eq_true_eq] at h'
      simp only [Bool.true_and]
      by_cases c1 : bt s i ≥ 97
      · rw [if_pos c1, if_pos (by omega)]
      · rw [if_neg c1, if_pos (by omega), if_pos (by omega)]
    | false =>
      have h' : ¬ (okc (bt s i) = true) := by rw [h]; decide
      simp only [okc, Bool.or_eq_true, Bool.and_eq_true, decide_eq_true_eq] at h'
      simp only [Bool.false_and]
      by_cases c1 : bt s i ≥ 97
      · rw [if_pos c1, if_neg (by omega), if_pos (by omega), if_neg (by omega)]
      · rw [if_neg c1]
        by_cases c2 : bt s i ≥ 48
        · rw [if_pos c2, if_neg (by omega)]
        · rw [if_neg c2]
theorem rName (s : ByteArray) (hb : s.size ≤ 1000) (k : Nat) (hk : s.size + 1 < k) : switchyardref27_Name.f k s = some (nameOk (bytesOf s)) := by
  obtain ⟨k, rfl⟩ : ∃ q, k = q + 1 := ⟨k - 1, by omega⟩
  have h : switchyardref27_Name.l0 k s 0 = some ((bytesOf s).all okc) := rName_l s hb s.size 0 k (by omega) (by omega)
  unfold switchyardref27_Name.f
  simp only [switchyardref27_Name.j0, if_true, h]
  unfold nameOk
  rw [bytesOf_length]
  by_cases h1 : (s.size : Int) < 1
  · rw [if_pos h1]
    have : ¬ 1 ≤ s.size := by omega
    simp [this]
  · rw [if_neg h1]
    have h1' : 1 ≤ s.size := by omega
    by_cases h8 : (s.size : Int) > 8
    · rw [if_pos (by simp; omega)]
      have : ¬ s.size ≤ 8 := by omega
      simp [this]
    · rw [if_neg (by simp; omega)]
      have : s.size ≤ 8 := by omega
      simp [this, h1']
theorem rW_l (s : ByteArray) (hb : s.size ≤ 1000) (g : Bool) (a x0 x1 x2 : Int) : ∀ (d i k : Nat) (B : List Int), B.length ≤ i → i + d = s.size ∨ (d = 0 ∧ s.size ≤ i ∧ i ≤ 1001) → d < k →
    switchyardref27_Write.l0 k i g s a x0 x1 x2 B = some (x0, x1, x2, B ++ pack ((bytesOf s).drop i), 0) := by
  intro d
  induction d using Nat.strongRecOn with
  | ind d ih =>
    intro i k B hB hi hk
    obtain ⟨k, rfl⟩ : ∃ q, k = q + 1 := ⟨k - 1, by omega⟩
    simp only [switchyardref27_Write.l0]
    by_cases hd : d = 0
    · rw [if_neg (by omega), drop_end (by omega)]
      simp [pack]
    · have hb0 := bt_bd s i
      have e2 : wrap64 ((i : Int) + 2) = ((i + 2 : Nat) : Int) := by rw [w64' (by omega) (by omega)]; omega
      rw [if_pos (by omega), if_pos (by omega), step64 (by omega), w64' (n := bt s i) (by omega) (by omega), w64' (n := 256 * bt s i) (by omega) (by omega), e2]
      by_cases hd1 : d = 1
      · rw [if_neg (by omega), if_pos (by omega), ih 0 (by omega) (i + 2) k _ (by simp; omega) (.inr ⟨rfl, by omega, by omega⟩) (by omega), drop_bytes (i := i) (by omega), drop_end (i := i + 1) (by omega), drop_end (i := i + 2) (by omega)]
        simp [pack, Int.mul_comm]
      · have hb1 := bt_bd s ((i + 1 : Nat) : Int)
        rw [if_pos (by omega), if_pos (by omega), if_pos (by omega), w64' (n := bt s ((i + 1 : Nat) : Int)) (by omega) (by omega), w64' (by omega) (by omega), ih (d - 2) (by omega) (i + 2) k _ (by simp; omega) (.inl (by omega)) (by omega), drop_bytes (i := i) (by omega), drop_bytes (i := i + 1) (by omega)]
        simp [pack, Int.mul_comm]
theorem rWrite (g : Bool) (s : ByteArray) (a : Int) (hb : s.size ≤ 1000) (k : Nat) (hk : s.size + 3 < k) : switchyardref27_Write.f k g s a = some (nwr g (bytesOf s) a) := by
  obtain ⟨k, rfl⟩ : ∃ q, k = q + 2 := ⟨k - 2, by omega⟩
  have hl' : ∀ x0 x1 x2, switchyardref27_Write.l0 k 0 g s a x0 x1 x2 ([] : List Int) = some (x0, x1, x2, pack (bytesOf s), 0) := fun x0 x1 x2 => rW_l s hb g a x0 x1 x2 s.size 0 k [] (by simp) (.inl (by omega)) (by omega)
  unfold switchyardref27_Write.f
  rw [rName s hb _ (by omega)]
  simp only [Option.bind_some, switchyardref27_Write.j0, switchyardref27_Write.j1, hl', if_true]
  unfold nwr
  split
  · by_cases h1 : a < 1
    · rw [if_pos h1, if_pos (.inl h1)]
    · rw [if_neg h1]
      by_cases h2 : a > 65535
      · rw [if_pos (by simp; omega), if_pos (.inr (by omega))]
      · have hd : decide (a > 65535) = false := by simp; omega
        have hc : ¬ (a < 1 ∨ 65535 < a) := by omega
        simp only [hd, Bool.false_eq_true, if_false, hc]
        cases g <;> rfl
  · rfl
theorem nR_l (a0 a1 a2 : Int) (l : List Int) (hb : l.length ≤ 5) : ∀ (d i k : Nat) (B : List Int), B.length ≤ 2 * i → i + d = l.length → d + 100 < k →
    note_Read.l0 k B l (l.length : Int) i a0 a1 a2 l = some (nend a0 a1 a2 l (B ++ unpack (l.drop i)))
  | 0, i, k, B, hB, hi, hk => by
    obtain ⟨k, rfl⟩ : ∃ q, k = q + 1 := ⟨k - 1, by omega⟩
    simp only [note_Read.l0]
    rw [if_neg (by omega), List.drop_eq_nil_of_le (by omega)]
    simp only [unpack, List.append_nil]
    have hs : (strOfNums B).size ≤ 10 := by rw [strOfNums_size]; omega
    rw [nWrite _ _ _ (by omega) k (by omega)]
    have h4 := nwr_len (a0 == 2) (bytesOf (strOfNums B)) a2
    simp only [Option.bind_some]
    rw [hSame _ _ _ _ _ _ _ _ (by omega) k (by omega)]
    simp only [Option.bind_some, str_nil]
    unfold nend
    generalize hw : nwr (a0 == 2) (bytesOf (strOfNums B)) a2 = x
    obtain ⟨y0, y1, y2, m, e⟩ := x
    simp only [Prod.mk.injEq]
    by_cases he : e = 0
    · rw [if_pos he]
      by_cases h : y0 = a0 ∧ y1 = a1 ∧ y2 = a2 ∧ m = l
      · rw [if_pos (by simp [h]), if_pos ⟨h.1, h.2.1, h.2.2.1, h.2.2.2, he⟩]
      · rw [if_neg (by simpa using h), if_neg (fun x => h ⟨x.1, x.2.1, x.2.2.1, x.2.2.2.1⟩)]
    · rw [if_neg he, if_neg (fun x => he x.2.2.2.2)]
  | d + 1, i, k, B, hB, hi, hk => by
    obtain ⟨k, rfl⟩ : ∃ q, k = q + 1 := ⟨k - 1, by omega⟩
    have hil : i < l.length := by omega
    have e1 : rd l i = l[i] := by simp [rd, List.getD_eq_getElem?_getD, List.getElem?_eq_getElem hil]
    have ed : l.drop i = rd l i :: l.drop (i + 1) := by rw [e1]; exact List.drop_eq_getElem_cons hil
    simp only [note_Read.l0]
    rw [if_pos (by omega), if_pos (by omega), if_pos (by omega), if_pos (by omega), ed, step64 (by omega)]
    simp only [Option.bind_some, unpack]
    by_cases h : rd l i % 256 = 0
    · rw [if_pos h, if_pos h, nR_l a0 a1 a2 l hb d (i + 1) k _ (by simp; omega) (by omega) (by omega)]
      simp only [List.append_assoc, List.cons_append, List.nil_append]
    · rw [if_neg h, if_neg h, if_pos (by simp; omega), nR_l a0 a1 a2 l hb d (i + 1) k _ (by simp; omega) (by omega) (by omega)]
      simp only [List.append_assoc, List.cons_append, List.nil_append]
theorem nRead (a0 a1 a2 : Int) (l : List Int) (k : Nat) (hk : 200 < k) : note_Read.f k a0 a1 a2 l = some (nrd a0 a1 a2 l) := by
  unfold note_Read.f
  rw [hRight]
  simp only [Option.bind_some]
  by_cases h : hwrong a0 a1 a2 l = 0
  · have h5 := (hwrong_0.1 h).1
    have hl := nR_l a0 a1 a2 l h5 l.length 0 k [] (by simp) (by omega) (by omega)
    have hl' : note_Read.l0 k [] l (l.length : Int) 0 a0 a1 a2 l = _ := hl
    rw [if_pos (by simp [h]), hl']
    simp only [List.drop_zero, List.nil_append]
    rw [nend_nrd]
  · rw [if_neg (by simp [h]), nrd_no (fun x => h (nrd_hw x))]
    rfl
theorem rR_l (a0 a1 a2 : Int) (l : List Int) (hb : l.length ≤ 100) (hr : ∀ j : Nat, j < l.length → 0 ≤ rd l j ∧ rd l j ≤ 65535) (hw : hwrong a0 a1 a2 l = 0 ∨ True) : ∀ (d i k : Nat) (B : List Int), B.length ≤ 2 * i → i + d = l.length → 2 * d + 400 < k →
    switchyardref27_Read.l0 k i a0 a1 a2 l (a0 == 2) (strOfNums B) a2 = some (nend a0 a1 a2 l (B ++ unpack (l.drop i)))
  | 0, i, k, B, hB, hi, hk => by
    obtain ⟨k, rfl⟩ : ∃ q, k = q + 1 := ⟨k - 1, by omega⟩
    simp only [switchyardref27_Read.l0]
    rw [if_neg (by omega), List.drop_eq_nil_of_le (by omega)]
    simp only [unpack, List.append_nil]
    have hs : (strOfNums B).size ≤ 200 := by rw [strOfNums_size]; omega
    rw [rWrite _ _ _ (by omega) k (by omega)]
    have h4 := nwr_len (a0 == 2) (bytesOf (strOfNums B)) a2
    simp only [Option.bind_some]
    rw [rSame _ _ _ _ _ _ _ _ (by omega) k (by omega)]
    simp only [Option.bind_some, str_nil]
    unfold nend
    generalize hw : nwr (a0 == 2) (bytesOf (strOfNums B)) a2 = x
    obtain ⟨y0, y1, y2, m, e⟩ := x
    simp only [Prod.mk.injEq]
    by_cases he : e = 0
    · rw [if_pos he]
      by_cases h : y0 = a0 ∧ y1 = a1 ∧ y2 = a2 ∧ m = l
      · rw [if_pos (by simp [h]), if_pos ⟨h.1, h.2.1, h.2.2.1, h.2.2.2, he⟩]
      · rw [if_neg (by simpa using h), if_neg (fun x => h ⟨x.1, x.2.1, x.2.2.1, x.2.2.2.1⟩)]
    · rw [if_neg he, if_neg (fun x => he x.2.2.2.2)]
  | d + 1, i, k, B, hB, hi, hk => by
    obtain ⟨k, rfl⟩ : ∃ q, k = q + 2 := ⟨k - 2, by omega⟩
    have hil : i < l.length := by omega
    have e1 : rd l i = l[i] := by simp [rd, List.getD_eq_getElem?_getD, List.getElem?_eq_getElem hil]
    have ed : l.drop i = rd l i :: l.drop (i + 1) := by rw [e1]; exact List.drop_eq_getElem_cons hil
    have hx := hr i hil
    have e2 : Int.tdiv (rd l i) 256 = rd l i / 256 := Int.tdiv_eq_ediv_of_nonneg hx.1
    have e3 : Int.tmod (rd l i) 256 = rd l i % 256 := Int.tmod_eq_emod_of_nonneg hx.1
    have e4 : rd l i % 256 % 256 = rd l i % 256 := by omega
    simp only [switchyardref27_Read.l0]
    rw [if_pos (by omega), if_pos (by omega), if_neg (by omega)]
    have e5 : decide (rd l i > 65535) = false := by simp; omega
    simp only [switchyardref27_Read.j1, e5, Bool.false_eq_true, if_false, Option.bind_some, e2, e3, e4]
    rw [w64' (n := rd l i / 256) (by omega) (by omega), ed, step64 (by omega)]
    simp only [unpack, str_append, strOfNums_size]
    by_cases h : rd l i % 256 = 0
    · rw [if_pos h, if_neg (by omega), if_pos (by simp only [List.length_cons, List.length_nil]; omega), rR_l a0 a1 a2 l hb hr hw d (i + 1) k _ (by simp; omega) (by omega) (by omega)]
      simp only [List.append_assoc, List.cons_append, List.nil_append]
    · rw [if_neg h, if_pos (by omega), if_pos (by simp), if_pos (by simp; omega), rR_l a0 a1 a2 l hb hr hw d (i + 1) k _ (by simp; omega) (by omega) (by omega)]
      simp only [List.append_assoc, List.cons_append, List.nil_append]
/-- A word that is none is met. -/
theorem rR_bad (a0 a1 a2 : Int) (l : List Int) (hb : l.length ≤ 100) (j : Nat) (hj : j < l.length) (hbad : ¬ (0 ≤ rd l j ∧ rd l j ≤ 65535)) : ∀ (d i k : Nat) (B : List Int), B.length ≤ 2 * i → i + d = j → 2 * d + 400 < k →
    switchyardref27_Read.l0 k i a0 a1 a2 l (a0 == 2) (strOfNums B) a2 = some (false, strOfNums [], 0, 14) := by
  have main : ∀ (i k : Nat) (B : List Int), i < l.length → ¬ (0 ≤ rd l i ∧ rd l i ≤ 65535) → 100 < k → switchyardref27_Read.l0 k i a0 a1 a2 l (a0 == 2) (strOfNums B) a2 = some (false, strOfNums [], 0, 14) := by
    intro i k B hi hbad hk
    obtain ⟨k, rfl⟩ : ∃ q, k = q + 2 := ⟨k - 2, by omega⟩
    simp only [switchyardref27_Read.l0, switchyardref27_Read.j1, if_true]
    rw [if_pos (by omega), if_pos (by omega)]
    by_cases h0 : rd l i < 0
    · rw [if_pos h0]; rfl
    · rw [if_neg h0, if_pos (by simp; omega)]; rfl
  intro d
  induction d with
  | zero =>
    intro i k B hB hi hk
    obtain rfl : i = j := by omega
    exact main i k B hj hbad (by omega)
  | succ d ih =>
    intro i k B hB hi hk
    by_cases hx : 0 ≤ rd l i ∧ rd l i ≤ 65535
    · obtain ⟨k, rfl⟩ : ∃ q, k = q + 2 := ⟨k - 2, by omega⟩
      have e2 : Int.tdiv (rd l i) 256 = rd l i / 256 := Int.tdiv_eq_ediv_of_nonneg hx.1
      have e3 : Int.tmod (rd l i) 256 = rd l i % 256 := Int.tmod_eq_emod_of_nonneg hx.1
      have e4 : rd l i % 256 % 256 = rd l i % 256 := by omega
      simp only [switchyardref27_Read.l0]
      rw [if_pos (by omega), if_pos (by omega), if_neg (by omega)]
      have e5 : decide (rd l i > 65535) = false := by simp; omega
      simp only [switchyardref27_Read.j1, e5, Bool.false_eq_true, if_false, Option.bind_some, e2, e3, e4]
      rw [w64' (n := rd l i / 256) (by omega) (by omega), step64 (by omega)]
      simp only [str_append, strOfNums_size]
      by_cases h : rd l i % 256 = 0
      · rw [if_neg (by omega), if_pos (by simp only [List.length_cons, List.length_nil]; omega), ih (i + 1) k _ (by simp; omega) (by omega) (by omega)]
      · rw [if_pos (by omega), if_pos (by simp), if_pos (by simp; omega), ih (i + 1) k _ (by simp; omega) (by omega) (by omega)]
    · exact main i k B (by omega) hx (by omega)
theorem rRead (a0 a1 a2 : Int) (l : List Int) (hb : l.length ≤ 100) (k : Nat) (hk : 1000 < k) : switchyardref27_Read.f k a0 a1 a2 l = some (nrd a0 a1 a2 l) := by
  unfold switchyardref27_Read.f
  rw [str_nil]
  by_cases hr : ∀ j : Nat, j < l.length → 0 ≤ rd l j ∧ rd l j ≤ 65535
  · have hl := rR_l a0 a1 a2 l hb hr (.inr trivial) l.length 0 k [] (by simp) (by omega) (by omega)
    have hl' : switchyardref27_Read.l0 k 0 a0 a1 a2 l (a0 == 2) (strOfNums []) a2 = _ := hl
    rw [hl']
    simp only [List.drop_zero, List.nil_append]
    rw [nend_nrd]
  · obtain ⟨j, hj⟩ := Classical.not_forall.1 hr
    obtain ⟨hj1, hj2⟩ := Classical.not_imp.1 hj
    have hl' : switchyardref27_Read.l0 k 0 a0 a1 a2 l (a0 == 2) (strOfNums []) a2 = _ := rR_bad a0 a1 a2 l hb j hj1 hj2 j 0 k [] (by simp) (by omega) (by omega)
    rw [hl', nrd_no]
    intro h
    have hw := (hwrong_0.1 (nrd_hw h)).2.2.2
    have e1 : rd l j = l[j] := by simp [rd, List.getD_eq_getElem?_getD, List.getElem?_eq_getElem hj1]
    simp only [good, Bool.and_eq_true, Bool.not_eq_true', List.any_eq_false] at hw
    have := hw.2 l[j] (List.getElem_mem hj1)
    rw [Bool.not_eq_true, odd_not, ← e1] at this
    exact hj2 this

theorem NoteReads (a0 a1 a2 : Int) (l : List Int) : switchyardlaw27_NoteReads.f 2000 a0 a1 a2 l = some true := by
  unfold switchyardlaw27_NoteReads.f
  rw [alive (by omega)]
  by_cases h : (l.length : Int) > 100
  · rw [if_pos h]; rfl
  · rw [if_neg h, nRead a0 a1 a2 l 2000 (by omega), rRead a0 a1 a2 l (by omega) 2000 (by omega)]
    simp
end Go.Proofs.Ytpkdanfiplolhaa.Pure
