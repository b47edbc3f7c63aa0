/- NamesFull, walked. -/
import Derived.Test.YtdhgmnnkbjhpaaaNlist
import Derived.Test.YtdhgmnnkbjhpaaaNnob
import Derived.Laws.IdiomStrings
import Derived.LoopTactic
namespace Go.Proofs.Ytdhgmnnkbjhpaaa.Ntab
set_option linter.unusedVariables false
set_option linter.unusedSimpArgs false
open Go.RowKit Go.Proofs.Ytdhgmnnkbjhpaaa.Sep Go.Proofs.Ytdhgmnnkbjhpaaa.Mp Go.Proofs.Ytdhgmnnkbjhpaaa.PNamesPlay Go.Proofs.Ytdhgmnnkbjhpaaa.NoteOk Go.Proofs.YtdhgmnnkbjhpaaaW.PrintWords
open Go.Maps (Keyed)

def nmOf (i : Nat) : ByteArray := ⟨#[110, UInt8.ofNat (97 + i % 10), UInt8.ofNat (97 + i / 10)]⟩
theorem nm_ok : ∀ i, i < 50 → ncode (bytesOf (nmOf i)) ((1 : Int) + i) = 0 := by decide
theorem nm_ne : ∀ i, i < 50 → ∀ j, j < i → ky (nmOf j) ≠ ky (nmOf i) := by
  intro i hi j hj h
  unfold ky nmOf at h
  simp only [List.cons.injEq, true_and, and_true] at h
  obtain ⟨h1, h2⟩ := h
  have e1 := congrArg UInt8.toNat h1
  have e2 := congrArg UInt8.toNat h2
  rw [UInt8.toNat_ofNat', UInt8.toNat_ofNat'] at e1 e2
  omega
/-- The table behind i names. -/
structure Fll (L : List S66) (i : Nat) : Prop where
  len : L.length = min i 32
  name : ∀ x ∈ L, ∃ j, j < i ∧ x.f0 = nmOf j
theorem fll_step {L : List S66} {i : Nat} (h : Fll L i) (hi : i < 50) : Fll (tellN L ((i : Int) % 8) false (nmOf i) ((1 : Int) + i)).1 (i + 1) ∧ (tellN L ((i : Int) % 8) false (nmOf i) ((1 : Int) + i)).2 = (if i < 32 then 0 else 17) := by
  have hn : findN L (nmOf i) = none := by
    unfold findN
    rw [List.find?_eq_none]
    intro x hx
    obtain ⟨j, hj, e⟩ := h.name x hx
    rw [e]
    have := nm_ne i hi j hj
    simpa using this
  have e : tellN L ((i : Int) % 8) false (nmOf i) ((1 : Int) + i) = if 32 ≤ L.length then (L, 17) else (putN L ⟨nmOf i, (i : Int) % 8, (1 : Int) + i⟩, 0) := by
    unfold tellN tellY
    rw [if_neg (by omega), if_neg (by rw [nm_ok i hi]; decide), hn]
    rfl
  rw [e]
  have hl := h.len
  by_cases h32 : 32 ≤ L.length
  · rw [if_pos h32, if_neg (by omega)]
    exact ⟨⟨by rw [hl]; omega, fun x hx => by obtain ⟨j, hj, e⟩ := h.name x hx; exact ⟨j, by omega, e⟩⟩, rfl⟩
  · rw [if_neg h32, if_pos (by omega)]
    refine ⟨⟨?_, fun x hx => ?_⟩, rfl⟩
    · show (putN L _).length = _
      unfold putN
      rw [insN_len, delN_none hn]
      omega
    · rcases (insN_mem _ x _).1 hx with rfl | hx
      · exact ⟨i, by omega, rfl⟩
      · obtain ⟨j, hj, e⟩ := h.name x (delN_mem.1 hx).1
        exact ⟨j, by omega, e⟩
set_option maxHeartbeats 4000000 in
set_option maxRecDepth 100000 in
theorem full_walk (n : Int) (w : World) (wn : (Lit.int .u8 n).wf = true) : Calls Try.prog 6 #[.int .u8 n] w fun e w' => e = .returned (.bool true) ∧ Up w w' := by
  have hn : 0 ≤ n ∧ n ≤ 255 := by
    have e1 : IntKind.u8.min = 0 := by decide
    have e2 : IntKind.u8.max = 255 := by decide
    simp [Lit.wf] at wn
    omega
  obtain ⟨n, rfl⟩ := Int.eq_ofNat_of_zero_le hn.1
  clear wn
  obtain ⟨q, hq⟩ : ∃ q : Nat, (n : Int) % 50 = (q : Int) := ⟨n % 50, by omega⟩
  have HQ := Lib.hid hq
  clear hq
  go_enter Try.func6, Try.ntmps6
  go_wp2_with fail
  refine (New_st (St.nil w)).mono ?_
  rintro e w1 ⟨t, rfl, hs⟩
  have HS1 := Lib.hid hs
  clear hs
  go_wp2_with fail
  go_loopg [11] q (fun gk v11 wx => ∃ (i : Nat) (L : List S66), (i : Int) ≤ (n : Int) % 50 ∧ Hid (i + gk = q) ∧ v11 = .int .i64 i ∧ Hid (St No w wx [tab t L]) ∧ Hid (Fll L i))
  case atStart => exact ⟨0, [], by omega, Lib.hid (Nat.zero_add _), rfl, HS1, Lib.hid ⟨by simp, fun x hx => by simp at hx⟩⟩
  case round =>
    clear HS1
    obtain ⟨i, L, hi, HG, rfl, HS, HF⟩ := hrel
    by_cases hlt : (i : Int) < (n : Int) % 50
    · have hc := run_convert_bytes_back (P := Try.prog) (wr.alloc (.cells #[.int .u8 (97 + (i : Int) % 10), .int .u8 (97 + (i : Int) / 10)] 5)) 46 9 5 ⟨wr.heap.size, 0, none⟩ 2 [UInt8.ofNat (97 + i % 10), UInt8.ofNat (97 + i / 10)] Try.underlying46 Try.underlying5 Try.underlying9 (by
        intro j hj
        have hj : j < 2 := hj
        rcases (by omega : j = 0 ∨ j = 1) with rfl | rfl
        · show (wr.alloc _).cell? ⟨wr.heap.size, 0, none⟩ = _
          rw [World.cell?_alloc_new]
          show some (Value.int .u8 (97 + (i : Int) % 10)) = some (Value.int .u8 ((UInt8.ofNat (97 + i % 10)).toNat : Int))
          rw [UInt8.toNat_ofNat']
          congr 2
          omega
        · show (wr.alloc _).cell? ⟨wr.heap.size, 1, none⟩ = _
          rw [World.cell?_alloc_new]
          show some (Value.int .u8 (97 + (i : Int) / 10)) = some (Value.int .u8 ((UInt8.ofNat (97 + i / 10)).toNat : Int))
          rw [UInt8.toNat_ofNat']
          congr 2
          omega)
      simp only [List.length_cons, List.length_nil, Nat.zero_add, Nat.reduceAdd] at hc
      have hst := fll_step HF.out (show i < 50 by omega)
      have HS2 := Lib.hid (HS.out.allocU (.cells #[.int .u8 (97 + (i : Int) % 10), .int .u8 (97 + (i : Int) / 10)] 5))
      obtain ⟨c1, hc1⟩ : ∃ c1, UInt8.ofNat (97 + i % 10) = c1 := ⟨_, rfl⟩
      obtain ⟨c2, hc2⟩ : ∃ c2, UInt8.ofNat (97 + i / 10) = c2 := ⟨_, rfl⟩
      have hnm : nmOf i = ({ data := #[110] } : ByteArray) ++ { data := #[c1, c2] } := by
        unfold nmOf
        rw [hc1, hc2]
        rfl
      rw [hc1, hc2] at hc
      rw [hnm] at hst
      have hsz : (({ data := #[110] } : ByteArray) ++ { data := #[c1, c2] }).size ≤ 1000 := by rw [ByteArray.size_append]; show 1 + 2 ≤ 1000; omega
      have hwf : (Lit.int .i64 (1 + (i : Int))).wf = true := WalkArith.wf_i64 (by omega)
      have HST := Lib.hid hst
      clear hc1 hc2 hnm HF hst
      go_wp2_with fail
      refine (Tell_st HS2.out ((i : Int) % 8) false _ (1 + (i : Int)) hsz hwf).mono ?_
      obtain ⟨⟨L', e'⟩, hL'⟩ : ∃ r, tellN L ((i : Int) % 8) false ({ data := #[110] } ++ { data := #[c1, c2] }) (1 + (i : Int)) = r := ⟨_, rfl⟩
      rw [hL'] at HST ⊢
      dsimp only at HST ⊢
      rintro e w4 ⟨rfl, hs⟩
      have HS4 := Lib.hid hs
      have HF4 := Lib.hid HST.out.1
      have he := HST.out.2
      clear hs HST HS2 hL' hsz hwf hc
      by_cases h32 : i < 32
      · rw [if_pos h32] at he
        subst he
        have g1 : decide (i < 32) = true := decide_eq_true h32
        go_wp2
        go_roundg (gk - 1)
        case measure => have := HG.out; have := HQ.out; omega
        case rel => exact ⟨i + 1, L', by omega, Lib.hid (by have := HG.out; have := HQ.out; omega), by go_num, HS4, HF4⟩
      · rw [if_neg h32] at he
        subst he
        have g1 : decide (i < 32) = false := decide_eq_false h32
        go_wp2
        go_roundg (gk - 1)
        case measure => have := HG.out; have := HQ.out; omega
        case rel => exact ⟨i + 1, L', by omega, Lib.hid (by have := HG.out; have := HQ.out; omega), by go_num, HS4, HF4⟩
    · have hiq : (i : Int) = (n : Int) % 50 := by omega
      have hiq' := hiq.symm
      clear hiq
      have HLN : Hid ((namesOf L).length = min i 32) := Lib.hid (by rw [List.length_map]; exact HF.out.len)
      clear HF
      go_wp2_with fail
      refine (List_st HS.out).mono ?_
      rintro e w5 ⟨v, rfl, hs, hu⟩
      obtain ⟨P, ⟨Q, Q2, _, _, _, h2, _⟩, _⟩ := St.step (L := [nms v (namesOf L)]) hs
      obtain ⟨A, c, rfl, _⟩ := slc_form h2
      have HS5 := Lib.hid (hs.up)
      clear h2 hs hu
      rw [HLN.out]
      by_cases h32 : i < 32
      · rw [show min i 32 = i by omega]
        have g2 : min (i : Int) 32 = i := by omega
        go_wp2_with (go_at_call 24; refine (alive_walk _).mono ?_; rintro e w6 ⟨rfl, hu⟩; have HU6 := Lib.hid (HS5.out.trans hu); clear hu)
        go_ret
        exact ⟨rfl, HU6.out⟩
      · rw [show min i 32 = 32 by omega]
        have g2 : min (i : Int) 32 = 32 := by omega
        go_wp2_with (go_at_call 24; refine (alive_walk _).mono ?_; rintro e w6 ⟨rfl, hu⟩; have HU6 := Lib.hid (HS5.out.trans hu); clear hu)
        go_ret
        exact ⟨rfl, HU6.out⟩
end Go.Proofs.Ytdhgmnnkbjhpaaa.Ntab
