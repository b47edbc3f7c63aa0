/- Lemmas that speak of no program: how worlds grow, masks by 'and', the digits of a word. No condition. -/
import Derived.WalkKit
import Derived.WalkLawsBesides
import Derived.WalkSpells
import Derived.KernelRfl
import Derived.Lib.Hide
import Derived.Deep.Draws
import Derived.Deep.QuietTactic
import Derived.Outline
import Derived.Laws.BytesArg
namespace Go.Proofs.Ytlefefcakffepaa
set_option linter.unusedVariables false
set_option linter.unusedSimpArgs false
open Go.RowKit

/-! ### 1. Worlds -/

/-- Whatever lay in 'w' lies in 'w'' as it did. -/
def Up (w w' : World) : Prop := Below w.heap.size w w'
theorem Up.refl (w : World) : Up w w := Below.refl _ _
theorem Up.trans {a b c : World} (h : Up a b) (k : Up b c) : Up a c := Below.trans h (Below.mono k h.size)
theorem Up.alloc {a w : World} (h : Up a w) (o : Obj) : Up a (w.alloc o) := Below.alloc h h.size o
theorem Up.drew {a w : World} (h : Up a w) : Up a w.drew := Below.drew h
theorem Up.drewN {a w : World} (h : Up a w) (n : Nat) : Up a (w.drewN n) := ⟨h.os, h.tape, h.output, h.size, h.block⟩
theorem Up.trans_grown {w w1 w2 : World} {row : Option Nat} (h : Up w w1) (hg : w1.grownBy w2 row) (hr : ∀ k, row = some k → w.heap.size ≤ k := by intro k hk; cases hk; first | exact Nat.le_refl _ | simp) : Up w w2 := Below.grown h hg h.size hr
theorem Up.setCell {a w : World} (h : Up a w) {p : Addr} (hp : a.heap.size ≤ p.block) (u : Value) : Up a (w.setCell p u) := Below.setCell h hp u

/-- The same world, some orders having been drawn. -/
def Drawn (w w' : World) : Prop := ∃ n, w' = w.drewN n
theorem Drawn.refl (w : World) : Drawn w w := ⟨0, rfl⟩
theorem Drawn.step {w w' : World} (h : Drawn w w') (n : Nat) : Drawn w (w'.drewN n) := by
  obtain ⟨m, rfl⟩ := h
  exact ⟨m + n, World.drewN_drewN ..⟩
theorem Drawn.up {w w' : World} (h : Drawn w w') : Up w w' := by
  obtain ⟨n, rfl⟩ := h
  exact (Up.refl w).drewN n

/-! ### 1b. A block known whole -/
theorem heap_setCell_same {w : World} {b i : Nat} {cs : Array Value} {t : TypeId} {fr : Nat × Nat} (h : w.heap[b]? = some (.cells cs t fr)) (v : Value) : (w.setCell ⟨b, i, none⟩ v).heap[b]? = some (.cells (cs.setIfInBounds i v) t fr) := by
  have hlt : b < w.heap.size := by
    rcases Nat.lt_or_ge b w.heap.size with h' | h'
    · exact h'
    · simp [Array.getElem?_eq_none h'] at h
  have h' : w.heap[b] = .cells cs t fr := by simpa [Array.getElem?_eq_getElem hlt] using h
  show (w.heap.modify b _)[b]? = _
  rw [Array.getElem?_eq_getElem (by simpa using hlt), Array.getElem_modify_self, h']
  rfl
theorem cell_of_block {w : World} {b : Nat} {cs : Array Value} {t : TypeId} {fr : Nat × Nat} (h : w.heap[b]? = some (.cells cs t fr)) (i : Nat) : w.cell? ⟨b, i, none⟩ = cs[i]? := by simp [World.cell?, h]
theorem free_of_block {w : World} {b : Nat} {cs : Array Value} {t : TypeId} (h : w.heap[b]? = some (.cells cs t (0, 0))) (i : Nat) : w.frozen? ⟨b, i, none⟩ = false := by simp [World.frozen?, h]
theorem block_new (w : World) (o : Obj) : (w.alloc o).heap[w.heap.size]? = some o := by
  show (w.heap.push o)[_]? = _
  simp
theorem block_up {a w : World} (h : Up a w) {b : Nat} {o : Obj} (hb : a.heap[b]? = some o) : w.heap[b]? = some o := by
  have hlt : b < a.heap.size := by
    rcases Nat.lt_or_ge b a.heap.size with h' | h'
    · exact h'
    · simp [Array.getElem?_eq_none h'] at hb
  exact (h.block b hlt).trans hb

/-! ### 2. Masks -/

theorem and_mask (n : Int) (j : Nat) (hj : j ≤ 62) : bits .and .i64 n (2 ^ j - 1) = n % 2 ^ j := by
  have hp : (2 : Int) ^ j = ((2 ^ j : Nat) : Int) := by simp
  have hq : (2 ^ j : Nat) ≤ 2 ^ 62 := Nat.pow_le_pow_right (by decide) hj
  have h0 : 0 < 2 ^ j := Nat.two_pow_pos j
  have hm : ((2 : Int) ^ j - 1) = ((2 ^ j - 1 : Nat) : Int) := by rw [Int.natCast_sub h0]; simp
  have h64 : IntKind.bits .i64 = 64 := rfl
  simp only [bits]
  rw [hm, BitVec.ofInt_natCast, BitVec.toNat_and, BitVec.toNat_ofNat, BitVec.toNat_ofInt, h64]
  have e1 : (2 ^ j - 1) % 2 ^ 64 = 2 ^ j - 1 := Nat.mod_eq_of_lt (by omega)
  rw [e1, Nat.and_two_pow_sub_one_eq_mod]
  have e2 : (((n % ((2 : Nat) ^ 64 : Nat)).toNat % 2 ^ j : Nat) : Int) = n % 2 ^ j := by
    rw [Int.natCast_emod, Int.toNat_of_nonneg (Int.emod_nonneg _ (by decide))]
    rw [hp]
    exact Int.emod_emod_of_dvd n (by exact_mod_cast Nat.pow_dvd_pow 2 (by omega))
  rw [e2, IntKind.wrap_i64]
  have a1 : 0 ≤ n % 2 ^ j := Int.emod_nonneg _ (by rw [hp]; omega)
  have a2 : n % 2 ^ j < 2 ^ j := Int.emod_lt_of_pos _ (by rw [hp]; omega)
  rw [hp] at a2 a1 ⊢
  omega

theorem tmod_k (a : Int) (n : Int) (hn : 0 < n) : (Int.tmod a n < 0 → Int.tmod a n + n = a % n) ∧ (¬ Int.tmod a n < 0 → Int.tmod a n = a % n) := by
  have h := @Int.tmod_eq_emod a n
  have h1 := Int.emod_nonneg a (show n ≠ 0 by omega)
  have h2 := Int.emod_lt_of_pos a hn
  split at h
  · constructor <;> intro h3 <;> omega
  · have h4 : ((n.natAbs : Nat) : Int) = n := by omega
    rename_i hh
    have : a % n ≠ 0 := fun e => hh (.inr (Int.dvd_of_emod_eq_zero e))
    constructor <;> intro h3 <;> omega

/-! ### 3. Words of sixteen bits -/

/-- A number's word. -/
def wd (n : Int) : Int := n % 65536
theorem wd_lo (n : Int) : 0 ≤ wd n := by unfold wd; omega
theorem wd_hi (n : Int) : wd n < 65536 := by unfold wd; omega
theorem wd_and (n : Int) : bits .and .i64 n 65535 = wd n := and_mask n 16 (by decide)
theorem wd_small {n : Int} (h0 : 0 ≤ n) (h1 : n < 65536) : wd n = n := by unfold wd; omega
def wadd (a b : Int) : Int := wd (wd a + wd b)
def wsub (a b : Int) : Int := wd (wd a - wd b)
def whead (a b : Int) : Int := wd (wsub b a + 32768) - 32768

/-- The sixteen digits. -/
def hexTab : ByteArray := { data := #[48, 49, 50, 51, 52, 53, 54, 55, 56, 57, 97, 98, 99, 100, 101, 102] }
def hexd (x : Int) : UInt8 := hexTab.data.toList.getD x.toNat 0
theorem hexd_at (x : Int) (h : x.toNat < 16) (h' : x.toNat < (ByteArray.mk #[48, 49, 50, 51, 52, 53, 54, 55, 56, 57, 97, 98, 99, 100, 101, 102]).size) :
    ((({ data := #[48, 49, 50, 51, 52, 53, 54, 55, 56, 57, 97, 98, 99, 100, 101, 102] } : ByteArray)[x.toNat]'h').toNat : Int) = ((hexd x).toNat : Int) := by
  have key : ∀ k, ∀ hk : k < 16, ∀ hk' : k < (ByteArray.mk #[48, 49, 50, 51, 52, 53, 54, 55, 56, 57, 97, 98, 99, 100, 101, 102]).size, ((({ data := #[48, 49, 50, 51, 52, 53, 54, 55, 56, 57, 97, 98, 99, 100, 101, 102] } : ByteArray)[k]'hk').toNat : Int) = ((hexTab.data.toList.getD k 0).toNat : Int) := by
    intro k hk hk'
    match k, hk with
    | 0, _ | 1, _ | 2, _ | 3, _ | 4, _ | 5, _ | 6, _ | 7, _ | 8, _ | 9, _ | 10, _ | 11, _ | 12, _ | 13, _ | 14, _ | 15, _ => rfl
    | n + 16, h => exact absurd h (by omega)
  exact key _ h h'
theorem cutd (x : Int) (h0 : 0 ≤ x) (h1 : x < 16) : ({ data := #[48, 49, 50, 51, 52, 53, 54, 55, 56, 57, 97, 98, 99, 100, 101, 102] } : ByteArray).extract x.toNat (x + 1).toNat = ⟨#[hexd x]⟩ := by
  have e : (x + 1).toNat = x.toNat + 1 := by omega
  unfold hexd
  rw [e]
  have h : x.toNat < 16 := by omega
  generalize x.toNat = k at h
  match k, h with
  | 0, _ | 1, _ | 2, _ | 3, _ | 4, _ | 5, _ | 6, _ | 7, _ | 8, _ | 9, _ | 10, _ | 11, _ | 12, _ | 13, _ | 14, _ | 15, _ => rfl
  | n + 16, h => exact absurd h (by omega)
theorem cat4 (a b c d : UInt8) : ((⟨#[a]⟩ : ByteArray) ++ (⟨#[b]⟩ ++ (⟨#[c]⟩ ++ (⟨#[d]⟩ ++ ⟨#[]⟩)))) = ⟨#[a, b, c, d]⟩ := by
  apply ByteArray.ext
  simp [ByteArray.data_append]
/-- The four digits of a word. -/
def hexs (b : Int) : ByteArray := ⟨#[hexd (b / 4096 % 16), hexd (b / 256 % 16), hexd (b / 16 % 16), hexd (b % 16)]⟩
theorem convert4 {P : Program} (w : World) (src e dst t : TypeId) (hs : P.underlying src = some (.slice e)) (he : P.underlying e = some (.int .u8)) (hd : P.underlying dst = some .string) (x0 x1 x2 x3 : UInt8) :
    (convert src dst (.slice (some ⟨w.heap.size, 0, none⟩) 4 4)).run P (w.alloc (.cells #[.int .u8 x0.toNat, .int .u8 x1.toNat, .int .u8 x2.toNat, .int .u8 x3.toNat] t)) =
      .ok (.string ⟨#[x0, x1, x2, x3]⟩) (w.alloc (.cells #[.int .u8 x0.toNat, .int .u8 x1.toNat, .int .u8 x2.toNat, .int .u8 x3.toNat] t)) := by
  have h := run_convert_bytes_arg (P := P) (w.alloc (.cells #[.int .u8 x0.toNat, .int .u8 x1.toNat, .int .u8 x2.toNat, .int .u8 x3.toNat] t)) src e hs he w.heap.size 0 4 4 [(x0.toNat : Int), x1.toNat, x2.toNat, x3.toNat] rfl ?_ dst hd
  · rw [h]; simp [strOfNums]
  · intro i hi
    match i, hi with
    | 0, _ | 1, _ | 2, _ | 3, _ => rw [World.cell?_alloc_at _ _ _ _ rfl]; rfl
    | n + 4, h => exact absurd h (by omega)

/-! ### 4. The word of four digits -/

/-- Byte i of a text (0 behind its end). -/
def bAt (s : ByteArray) (i : Nat) : Nat := if h : i < s.size then (s[i]'h).toNat else 0
theorem bAt_eq (s : ByteArray) (i : Nat) (h : i < s.size) : (s[i]'h).toNat = bAt s i := by simp [bAt, h]
theorem bAt_lt (s : ByteArray) (i : Nat) : bAt s i < 256 := by
  unfold bAt
  split
  · exact (s[i]).toNat_lt
  · omega
/-- A digit's value; below 0: it is none. -/
def dv (c : Nat) : Int := if 48 ≤ c ∧ c ≤ 57 then (c : Int) - 48 else if 97 ≤ c ∧ c ≤ 102 then (c : Int) - 87 else -1
theorem dv_hi (c : Nat) : dv c < 16 := by unfold dv; split <;> (try split) <;> omega
/-- The number of the first k digits. -/
def dn (s : ByteArray) : Nat → Int
  | 0 => 0
  | k + 1 => 16 * dn s k + dv (bAt s k)
/-- The first k bytes are digits. -/
def dok (s : ByteArray) : Nat → Bool
  | 0 => true
  | k + 1 => dok s k && decide (0 ≤ dv (bAt s k))
/-- What 'Read' tells. -/
def hread (s : ByteArray) : Int × Bool := if s.size = 4 ∧ dok s 4 = true then (dn s 4, true) else (0, false)
theorem dn_bd (s : ByteArray) : ∀ k, dok s k = true → 0 ≤ dn s k ∧ dn s k < 16 ^ k
  | 0, _ => by simp [dn]
  | k + 1, h => by
    simp only [dok, Bool.and_eq_true, decide_eq_true_eq] at h
    have ih := dn_bd s k h.1
    have hd := dv_hi (bAt s k)
    simp only [dn]
    have e : (16 : Int) ^ (k + 1) = 16 * 16 ^ k := by rw [Int.pow_succ]; omega
    rw [e]
    omega
theorem dok_mono (s : ByteArray) : ∀ {k n : Nat}, k ≤ n → dok s n = true → dok s k = true
  | k, 0, h, _ => by obtain rfl : k = 0 := by omega
                     rfl
  | k, n + 1, h, hn => by
    rcases Nat.lt_or_ge k (n + 1) with h' | h'
    · simp only [dok, Bool.and_eq_true] at hn
      exact dok_mono s (by omega) hn.1
    · obtain rfl : k = n + 1 := by omega
      exact hn
theorem hread_no {s : ByteArray} {k : Nat} (hk : k < 4) (h : dv (bAt s k) < 0) : hread s = (0, false) := by
  unfold hread
  rw [if_neg]
  rintro ⟨_, h2⟩
  have := dok_mono s (k := k + 1) (by omega) h2
  simp only [dok, Bool.and_eq_true, decide_eq_true_eq] at this
  omega
theorem hread_yes {s : ByteArray} (h : s.size = 4) (h2 : dok s 4 = true) : hread s = (dn s 4, true) := if_pos ⟨h, h2⟩
theorem hread_len {s : ByteArray} (h : s.size ≠ 4) : hread s = (0, false) := if_neg fun k => h k.1
theorem or_join (x y : Int) (h0 : 0 ≤ x) (h1 : x < 16777216) (h2 : 0 ≤ y) (h3 : y < 16) : bits .or .i64 (x * 16) y = x * 16 + y :=
  bits_join .i64 62 (by decide) (fun n a b => by rw [IntKind.wrap_i64]; have e : (2 : Int) ^ 62 = 4611686018427387904 := by decide
                                                 omega) 4 (x * 16) y (by omega) (by have e : (2 : Int) ^ 4 = 16 := by decide
                                                                                    omega) (by have e : (2 : Int) ^ 62 = 4611686018427387904 := by decide
                                                                                               omega) h2 (by have e : (2 : Int) ^ 4 = 16 := by decide
                                                                                                             omega) (by have e : (2 : Int) ^ 62 = 4611686018427387904 := by decide
                                                                                                                        omega)
theorem dv_dig {c : Nat} (h0 : (48 : Int) ≤ c) (h1 : (c : Int) ≤ 57) : dv c = (c : Int) - 48 := by unfold dv; rw [if_pos (by omega)]
theorem dv_let {c : Nat} (h0 : (97 : Int) ≤ c) (h1 : (c : Int) ≤ 102) : dv c = (c : Int) - 97 + 10 := by unfold dv; rw [if_neg (by omega), if_pos (by omega)]; omega
theorem dv_not {c : Nat} (h0 : (c : Int) < 48 ∨ (57 : Int) < c) (h1 : (c : Int) < 97 ∨ (102 : Int) < c) : dv c < 0 := by unfold dv; rw [if_neg (by omega), if_neg (by omega)]; omega
theorem dn_step {s : ByteArray} {k : Nat} {y : Int} (h0 : 0 ≤ dn s k) (h1 : dn s k < 4096) (hy : dv (bAt s k) = y) (h2 : 0 ≤ y) (h3 : y < 16) : Value.int .i64 (bits .or .i64 (dn s k * 16) y) = Value.int .i64 (dn s (k + 1)) := by
  rw [or_join _ _ h0 (by omega) h2 h3]
  simp only [dn, hy]
  congr 1
  omega
theorem dok_step {s : ByteArray} {k : Nat} {y : Int} (h : dok s k = true) (hy : dv (bAt s k) = y) (h2 : 0 ≤ y) : dok s (k + 1) = true := by simp [dok, h, hy, h2]
/-- A word's digits are read as the word. -/
theorem dv_hexd (x : Int) (h0 : 0 ≤ x) (h1 : x < 16) : dv (hexd x).toNat = x := by
  obtain ⟨n, rfl⟩ := Int.eq_ofNat_of_zero_le h0
  unfold hexd
  rw [Int.toNat_natCast]
  have h : n < 16 := by omega
  match n, h with
  | 0, _ | 1, _ | 2, _ | 3, _ | 4, _ | 5, _ | 6, _ | 7, _ | 8, _ | 9, _ | 10, _ | 11, _ | 12, _ | 13, _ | 14, _ | 15, _ => rfl
  | n + 16, h => exact absurd h (by omega)
theorem hexd_dv (c : UInt8) (h : 0 ≤ dv c.toNat) : hexd (dv c.toNat) = c := by
  have key : ∀ n : Fin 256, 0 ≤ dv n.val → hexd (dv n.val) = UInt8.ofNat n.val := by decide +kernel
  have := key ⟨c.toNat, c.toNat_lt⟩ h
  simpa using this
theorem hread_hexs (b : Int) (h0 : 0 ≤ b) (h1 : b < 65536) : hread (hexs b) = (b, true) := by
  have e0 : bAt (hexs b) 0 = (hexd (b / 4096 % 16)).toNat := rfl
  have e1 : bAt (hexs b) 1 = (hexd (b / 256 % 16)).toNat := rfl
  have e2 : bAt (hexs b) 2 = (hexd (b / 16 % 16)).toNat := rfl
  have e3 : bAt (hexs b) 3 = (hexd (b % 16)).toNat := rfl
  have hk : dok (hexs b) 4 = true := by
    simp only [dok, e0, e1, e2, e3, Bool.and_eq_true, decide_eq_true_eq, true_and]
    rw [dv_hexd _ (by omega) (by omega), dv_hexd _ (by omega) (by omega), dv_hexd _ (by omega) (by omega), dv_hexd _ (by omega) (by omega)]
    omega
  rw [hread_yes rfl hk]
  simp only [dn, e0, e1, e2, e3]
  rw [dv_hexd _ (by omega) (by omega), dv_hexd _ (by omega) (by omega), dv_hexd _ (by omega) (by omega), dv_hexd _ (by omega) (by omega)]
  congr 1
  omega
theorem bytes4 (s : ByteArray) (h : s.size = 4) : ∃ a b c d : UInt8, s = ⟨#[a, b, c, d]⟩ := by
  obtain ⟨⟨l⟩⟩ := s
  have : l.length = 4 := h
  match l, this with
  | [a, b, c, d], _ => exact ⟨a, b, c, d, rfl⟩
theorem hexs_hread (s : ByteArray) (h : (hread s).2 = true) : hexs (hread s).1 = s ∧ 0 ≤ (hread s).1 ∧ (hread s).1 < 65536 := by
  unfold hread at h ⊢
  split at h
  · rename_i hh
    rw [if_pos hh]
    obtain ⟨hs, hk⟩ := hh
    have hb := dn_bd s 4 hk
    have hp : (16 : Int) ^ 4 = 65536 := by decide
    refine ⟨?_, hb.1, by omega⟩
    obtain ⟨a, b, c, d, rfl⟩ := bytes4 s hs
    have e0 : bAt ⟨#[a, b, c, d]⟩ 0 = a.toNat := rfl
    have e1 : bAt ⟨#[a, b, c, d]⟩ 1 = b.toNat := rfl
    have e2 : bAt ⟨#[a, b, c, d]⟩ 2 = c.toNat := rfl
    have e3 : bAt ⟨#[a, b, c, d]⟩ 3 = d.toNat := rfl
    simp only [dok, e0, e1, e2, e3, Bool.and_eq_true, decide_eq_true_eq, true_and] at hk
    obtain ⟨⟨⟨k0, k1⟩, k2⟩, k3⟩ := hk
    have u0 := dv_hi a.toNat
    have u1 := dv_hi b.toNat
    have u2 := dv_hi c.toNat
    have u3 := dv_hi d.toNat
    simp only [dn, e0, e1, e2, e3, hexs]
    have f0 := hexd_dv a k0
    have f1 := hexd_dv b k1
    have f2 := hexd_dv c k2
    have f3 := hexd_dv d k3
    generalize dv a.toNat = x0 at *
    generalize dv b.toNat = x1 at *
    generalize dv c.toNat = x2 at *
    generalize dv d.toNat = x3 at *
    rw [show (16 * (16 * (16 * (16 * 0 + x0) + x1) + x2) + x3) / 4096 % 16 = x0 by omega, show (16 * (16 * (16 * (16 * 0 + x0) + x1) + x2) + x3) / 256 % 16 = x1 by omega,
      show (16 * (16 * (16 * (16 * 0 + x0) + x1) + x2) + x3) / 16 % 16 = x2 by omega, show (16 * (16 * (16 * (16 * 0 + x0) + x1) + x2) + x3) % 16 = x3 by omega, f0, f1, f2, f3]
  · simp at h
end Go.Proofs.Ytlefefcakffepaa
