/- What a note's message is, and that it comes back: plain Lean. -/
import Derived.Test.YtpkdanfiplolhaaHeadLaw
import Derived.Test.YtpkdanfiplolhaaBase
import Derived.Laws.BytesArg
namespace Go.Proofs.Ytpkdanfiplolhaa.NoteLaw
set_option linter.unusedVariables false
set_option linter.unusedSimpArgs false
open Go.RowKit Go.Proofs.Ytpkdanfiplolhaa.Given Go.Proofs.Ytpkdanfiplolhaa.HeadLaw Go.Proofs.YtpkdanfiplolhaaW.PrintWords

theorem or_256 (x y : Int) (h0 : 0 ≤ x) (h1 : x < 65536) (h2 : 0 ≤ y) (h3 : y < 256) : bits .or .i64 (x * 256) y = x * 256 + y :=
  bits_join .i64 62 (by decide) (fun n a b => by rw [IntKind.wrap_i64]; have e : (2 : Int) ^ 62 = 4611686018427387904 := by decide
                                                 omega) 8 (x * 256) y (by omega) (by have e : (2 : Int) ^ 8 = 256 := by decide
                                                                                     omega) (by have e : (2 : Int) ^ 62 = 4611686018427387904 := by decide
                                                                                                omega) h2 (by have e : (2 : Int) ^ 8 = 256 := by decide
                                                                                                              omega) (by have e : (2 : Int) ^ 62 = 4611686018427387904 := by decide
                                                                                                                         omega)
theorem bt_bd (s : ByteArray) (i : Int) : 0 ≤ bt s i ∧ bt s i < 256 := by
  unfold bt
  split
  · rename_i h
    have := (s[i.toNat]'h).toNat_lt
    omega
  · omega
theorem bytes_bd {s : ByteArray} {x : Int} (h : x ∈ bytesOf s) : 0 ≤ x ∧ x < 256 := by
  obtain ⟨b, _, rfl⟩ := List.mem_map.1 h
  have := b.toNat_lt
  omega
theorem bytes_str (l : List Int) (h : ∀ x ∈ l, 0 ≤ x ∧ x < 256) : bytesOf (strOfNums l) = l := by
  unfold bytesOf
  rw [strOfNums_data, List.map_map]
  conv => rhs; rw [← List.map_id l]
  apply List.map_congr_left
  intro x hx
  have := h x hx
  simp only [Function.comp, id]
  have e : (UInt8.ofNat x.toNat).toNat = x.toNat := by
    rw [UInt8.toNat_ofNat']
    omega
  rw [e]
  omega
theorem str_bytes (s : ByteArray) : strOfNums (bytesOf s) = s := by
  have e : (bytesOf s).map (fun n => UInt8.ofNat n.toNat) = s.data.toList := by
    unfold bytesOf
    rw [List.map_map]
    conv => rhs; rw [← List.map_id s.data.toList]
    apply List.map_congr_left
    intro b _
    simp
  unfold strOfNums
  rw [e]
theorem str_append (l m : List Int) : strOfNums l ++ strOfNums m = strOfNums (l ++ m) := by
  apply ByteArray.ext
  rw [ByteArray.data_append]
  unfold strOfNums
  simp
theorem str_nil : (⟨#[]⟩ : ByteArray) = strOfNums [] := rfl
theorem drop_bytes {s : ByteArray} {i : Nat} (h : i < s.size) : (bytesOf s).drop i = bt s i :: (bytesOf s).drop (i + 1) := by
  have h' : i < (bytesOf s).length := by rw [bytesOf_length]; exact h
  have e1 : rd (bytesOf s) i = (bytesOf s)[i] := by simp [rd, List.getD_eq_getElem?_getD, List.getElem?_eq_getElem h']
  rw [List.drop_eq_getElem_cons h', ← e1, rd_bytesOf]
theorem drop_end {s : ByteArray} {i : Nat} (h : s.size ≤ i) : (bytesOf s).drop i = [] := List.drop_eq_nil_of_le (by rw [bytesOf_length]; exact h)

/-- A letter or a digit of a name. -/
def okc (c : Int) : Bool := (decide (97 ≤ c) && decide (c ≤ 122)) || (decide (48 ≤ c) && decide (c ≤ 57))
def nameOk (b : List Int) : Bool := b.all okc && decide (1 ≤ b.length) && decide (b.length ≤ 8)
theorem nameOk_iff {b : List Int} : nameOk b = true ↔ (∀ x ∈ b, okc x = true) ∧ 1 ≤ b.length ∧ b.length ≤ 8 := by
  simp [nameOk, and_assoc]
theorem okc_bd {c : Int} (h : okc c = true) : 1 ≤ c ∧ c < 256 := by
  simp [okc] at h
  omega
/-- Two bytes a word. -/
def pack : List Int → List Int
  | [] => []
  | [a] => [a * 256]
  | a :: b :: t => (a * 256 + b) :: pack t
def unpack : List Int → List Int
  | [] => []
  | w :: t => if w % 256 = 0 then (w / 256 % 256) :: unpack t else (w / 256 % 256) :: (w % 256) :: unpack t
theorem unpack_pack : ∀ b : List Int, (∀ x ∈ b, 1 ≤ x ∧ x < 256) → unpack (pack b) = b
  | [], _ => rfl
  | [a], h => by
    have := h a (by simp)
    simp only [pack, unpack]
    rw [if_pos (by omega)]
    congr 1
    omega
  | a :: b :: t, h => by
    have h1 := h a (by simp)
    have h2 := h b (by simp)
    have ih := unpack_pack t (fun x hx => h x (by simp [hx]))
    simp only [pack, unpack]
    rw [if_neg (by omega), ih]
    have e1 : (a * 256 + b) / 256 % 256 = a := by omega
    have e2 : (a * 256 + b) % 256 = b := by omega
    rw [e1, e2]
theorem unpack_bd : ∀ (l : List Int) (x : Int), x ∈ unpack l → 0 ≤ x ∧ x < 256
  | [], x, h => by simp [unpack] at h
  | w :: t, x, h => by
    simp only [unpack] at h
    split at h
    · rcases List.mem_cons.1 h with rfl | h
      · omega
      · exact unpack_bd t x h
    · rcases List.mem_cons.1 h with rfl | h
      · omega
      · rcases List.mem_cons.1 h with rfl | h
        · omega
        · exact unpack_bd t x h
theorem unpack_len : ∀ l : List Int, (unpack l).length ≤ 2 * l.length
  | [] => by simp [unpack]
  | w :: t => by
    have := unpack_len t
    simp only [unpack]
    split <;> simp only [List.length_cons] <;> omega
theorem pack_len : ∀ b : List Int, (pack b).length ≤ (b.length + 1) / 2
  | [] => by simp [pack]
  | [a] => by simp [pack]
  | a :: b :: t => by
    have := pack_len t
    simp only [pack, List.length_cons]
    omega
theorem pack_good : ∀ b : List Int, (∀ x ∈ b, 1 ≤ x ∧ x < 256) → (pack b).any oddI = false
  | [], _ => rfl
  | [a], h => by
    have := h a (by simp)
    simp [pack, odd_not]
    omega
  | a :: b :: t, h => by
    have h1 := h a (by simp)
    have h2 := h b (by simp)
    have ih := pack_good t (fun x hx => h x (by simp [hx]))
    have e : oddI (a * 256 + b) = false := (odd_not _).2 (by omega)
    simp only [pack, List.any_cons, ih, e, Bool.or_self]
/-- What is written of a note. -/
def nwr (g : Bool) (b : List Int) (a : Int) : Int × Int × Int × List Int × Int := if nameOk b = true then (if a < 1 ∨ 65535 < a then (0, 0, 0, [], 2) else (if g = true then 2 else 1, 0, a, pack b, 0)) else (0, 0, 0, [], 15)
def ncode (b : List Int) (a : Int) : Int := if nameOk b = true then (if a < 1 ∨ 65535 < a then 2 else 0) else 15
theorem nwr_code (g : Bool) (b : List Int) (a : Int) : (nwr g b a).2.2.2.2 = ncode b a := by
  unfold nwr ncode
  split
  · split <;> rfl
  · rfl
theorem ncode_0 {b : List Int} {a : Int} : ncode b a = 0 ↔ nameOk b = true ∧ 1 ≤ a ∧ a ≤ 65535 := by
  unfold ncode
  split
  · split
    · constructor
      · intro h; cases h
      · intro h; omega
    · exact ⟨fun _ => ⟨by assumption, by omega⟩, fun _ => rfl⟩
  · constructor
    · intro h; cases h
    · intro h; exact absurd h.1 (by assumption)
theorem nwr_yes {g : Bool} {b : List Int} {a : Int} (h : ncode b a = 0) : nwr g b a = (if g = true then 2 else 1, 0, a, pack b, 0) := by
  obtain ⟨h1, h2, h3⟩ := ncode_0.1 h
  unfold nwr
  rw [if_pos h1, if_neg (by omega)]
theorem nwr_no {g : Bool} {b : List Int} {a : Int} (h : ¬ ncode b a = 0) : nwr g b a = (0, 0, 0, [], ncode b a) := by
  unfold nwr ncode at *
  split
  · rename_i hn
    rw [if_pos hn] at h
    split
    · rfl
    · rename_i hc; rw [if_neg hc] at h; exact absurd rfl h
  · rfl
theorem nwr_len (g : Bool) (b : List Int) (a : Int) : (nwr g b a).2.2.2.1.length ≤ 4 := by
  by_cases h : ncode b a = 0
  · rw [nwr_yes h]
    have h1 := pack_len b
    have h2 := (nameOk_iff.1 (ncode_0.1 h).1).2.2
    show (pack b).length ≤ 4
    omega
  · rw [nwr_no h]
    simp
/-- What is written is a message. -/
theorem nwr_hw {g : Bool} {b : List Int} {a : Int} (h : ncode b a = 0) : hwrong (if g = true then 2 else 1) 0 a (pack b) = 0 := by
  obtain ⟨h1, h2, h3⟩ := ncode_0.1 h
  obtain ⟨k1, k2, k3⟩ := nameOk_iff.1 h1
  have hl := pack_len b
  refine hwrong_0.2 ⟨by omega, by split <;> omega, by split <;> omega, ?_⟩
  have e1 : oddI 0 = false := (odd_not 0).2 (by omega)
  have e2 : oddI a = false := (odd_not a).2 (by omega)
  simp only [good, e1, e2, pack_good b (fun x hx => okc_bd (k1 x hx)), Bool.not_false, Bool.and_self]
theorem unpack_nwr {b : List Int} {a : Int} (h : ncode b a = 0) : unpack (pack b) = b := unpack_pack b (fun x hx => okc_bd ((nameOk_iff.1 (ncode_0.1 h).1).1 x hx))
/-- The note of a message. -/
def nrd (a0 a1 a2 : Int) (l : List Int) : Bool × ByteArray × Int × Int := if nwr (a0 == 2) (unpack l) a2 = (a0, a1, a2, l, 0) then (a0 == 2, strOfNums (unpack l), a2, 0) else (false, strOfNums [], 0, 14)
/-- The note of a message, where the bytes told of it are b. -/
def nend (a0 a1 a2 : Int) (l b : List Int) : Bool × ByteArray × Int × Int := if nwr (a0 == 2) (bytesOf (strOfNums b)) a2 = (a0, a1, a2, l, 0) then (a0 == 2, strOfNums b, a2, 0) else (false, strOfNums [], 0, 14)
theorem nend_nrd (a0 a1 a2 : Int) (l : List Int) : nend a0 a1 a2 l (unpack l) = nrd a0 a1 a2 l := by
  unfold nend nrd
  simp only [bytes_str _ (unpack_bd l)]
theorem size_0 {s : ByteArray} (h : s.data.toList = []) : s.size = 0 := by
  have := congrArg List.length h
  simp only [Array.length_toList, List.length_nil] at this
  exact this
theorem size_1 {s : ByteArray} (h : ¬ s.data.toList = []) : 1 ≤ s.size := by
  rcases Nat.eq_zero_or_pos s.size with e | e
  · exact absurd (List.eq_nil_of_length_eq_zero (by rw [Array.length_toList]; exact e)) h
  · exact e
theorem nrd_hw {a0 a1 a2 : Int} {l : List Int} (h : nwr (a0 == 2) (unpack l) a2 = (a0, a1, a2, l, 0)) : hwrong a0 a1 a2 l = 0 := by
  have hc : ncode (unpack l) a2 = 0 := by rw [← nwr_code (a0 == 2), h]
  have := nwr_hw (g := a0 == 2) hc
  rw [nwr_yes hc] at h
  simp only [Prod.mk.injEq] at h
  obtain ⟨e0, e1, _, e3, _⟩ := h
  rw [e0, e3] at this
  rw [← e1]
  exact this
theorem nrd_yes {a0 a1 a2 : Int} {l : List Int} (h : nwr (a0 == 2) (unpack l) a2 = (a0, a1, a2, l, 0)) : nrd a0 a1 a2 l = (a0 == 2, strOfNums (unpack l), a2, 0) := if_pos h
theorem nrd_no {a0 a1 a2 : Int} {l : List Int} (h : ¬ nwr (a0 == 2) (unpack l) a2 = (a0, a1, a2, l, 0)) : nrd a0 a1 a2 l = (false, strOfNums [], 0, 14) := if_neg h
/-- What is written is read as it was. -/
theorem nrd_nwr {g : Bool} {s : ByteArray} {a : Int} (h : ncode (bytesOf s) a = 0) : nrd (if g = true then 2 else 1) 0 a (pack (bytesOf s)) = (g, s, a, 0) := by
  have e1 : ((if g = true then (2 : Int) else 1) == 2) = g := by cases g <;> rfl
  have e2 : nwr ((if g = true then (2 : Int) else 1) == 2) (unpack (pack (bytesOf s))) a = (if g = true then 2 else 1, 0, a, pack (bytesOf s), 0) := by rw [e1, unpack_nwr h, nwr_yes h]
  rw [nrd_yes e2, e1, unpack_nwr h, str_bytes]
/-- Unlike notes have unlike messages. -/
theorem nwr_inj {g g' : Bool} {s s' : ByteArray} {a a' : Int} (h : ncode (bytesOf s) a = 0) (h' : ncode (bytesOf s') a' = 0) (e : nwr g (bytesOf s) a = nwr g' (bytesOf s') a') : g = g' ∧ s = s' ∧ a = a' := by
  rw [nwr_yes h, nwr_yes h'] at e
  simp only [Prod.mk.injEq] at e
  obtain ⟨e0, _, e2, e3, _⟩ := e
  have h1 := nrd_nwr (g := g) h
  have h2 := nrd_nwr (g := g') h'
  rw [e0, e2, e3, h2] at h1
  simp only [Prod.mk.injEq] at h1
  exact ⟨h1.1.symm, h1.2.1.symm, e2⟩
end Go.Proofs.Ytpkdanfiplolhaa.NoteLaw
