/- What a call that is refused changes (nothing), and what a core loads behind its own store. -/
import Derived.Test.YtlefefcakffepaaBusPlain
namespace Go.Proofs.Ytlefefcakffepaa.Bus
set_option linter.unusedVariables false
set_option linter.unusedSimpArgs false
open Go.RowKit Go.Proofs.Ytlefefcakffepaa.Sep Go.Proofs.Ytlefefcakffepaa.Sram Go.Proofs.Ytlefefcakffepaa.Find Go.Proofs.Ytlefefcakffepaa.Sbuf Go.Proofs.Ytlefefcakffepaa.Ref05

structure Ok (cap : Nat) (ws : List Int) (Ls : List (List W16)) : Prop where
  pos : 1 ≤ cap
  ram : ws.length ≤ 65536
  len : ∀ i, i < Ls.length → (Ls.getD i default).length ≤ cap
theorem bus_ok {P0 : Nat → Prop} {w0 w : World} {F : List Rg} {b cap : Nat} {ws : List Int} {Ls : List (List W16)} (h : St P0 w0 w (bus b cap ws Ls :: F)) : Ok cap ws Ls := by
  refine ⟨(bus_le h).2.1, (bus_ram h).1.2, fun i hi => ?_⟩
  obtain ⟨r, g, o, c, hm, h1⟩ := bus_form h
  obtain ⟨x, _, h2⟩ := bus_open h1 i hi
  obtain ⟨V, hm2, h3⟩ := buf_open h2
  omega
theorem in_getD {Ls : List (List W16)} {co : Int} (h : inC Ls co) : co.toNat < Ls.length := by
  obtain ⟨h1, h2⟩ := h
  omega
/-- A call that is refused, or that loads, changes nothing. -/
theorem do_refused {cap : Nat} {ws : List Int} {Ls : List (List W16)} (hk : Ok cap ws Ls) (k co a z : Int) (h : (doB cap ws Ls k co a z).2.2.2 ≠ 0 ∨ k = 1) : (doB cap ws Ls k co a z).1 = ws ∧ (doB cap ws Ls k co a z).2.1 = Ls := by
  unfold doB at h ⊢
  by_cases k0 : k = 0
  · simp only [if_pos k0] at h ⊢
    unfold storeB at h ⊢
    by_cases hi : inC Ls co
    · simp only [if_pos hi] at h ⊢
      have hin := in_getD hi
      by_cases hc : canS ws.length a z
      · exfalso
        obtain ⟨ws', L', e1, -⟩ := soM_fe (cap := cap) (L := at_ Ls co) hc hk.ram (hk.len _ hin) hk.pos
        rw [e1] at h
        rcases h with h | h
        · exact h rfl
        · omega
      · rw [soM_no hc]
        exact ⟨rfl, set_self Ls _ hin⟩
    · simp only [if_neg hi]
      exact ⟨trivial, trivial⟩
  simp only [if_neg k0] at h ⊢
  by_cases k2 : k = 2
  · simp only [if_pos k2] at h ⊢
    unfold drainB at h ⊢
    by_cases hi : inC Ls co
    · simp only [if_pos hi] at h ⊢
      rcases h with h | h
      · exact absurd rfl h
      · omega
    · simp only [if_neg hi]
      exact ⟨trivial, trivial⟩
  simp only [if_neg k2] at h ⊢
  by_cases k3 : k = 3
  · simp only [if_pos k3] at h ⊢
    unfold fenceB at h ⊢
    by_cases hi : inC Ls co
    · simp only [if_pos hi] at h ⊢
      rcases h with h | h
      · exact absurd rfl h
      · omega
    · simp only [if_neg hi]
      exact ⟨trivial, trivial⟩
  simp only [if_neg k3] at h ⊢
  by_cases k4 : k = 4
  · simp only [if_pos k4] at h ⊢
    unfold swapB at h ⊢
    by_cases hi : inC Ls co
    · simp only [if_pos hi] at h ⊢
      have hin := in_getD hi
      unfold swM at h ⊢
      by_cases hc : canS ws.length a z
      · exfalso
        simp only [if_neg (show ¬ (wrongE ws.length a z ≠ 0) from fun e => e (wrong_can hc))] at h
        obtain ⟨m, rfl⟩ := Int.eq_ofNat_of_zero_le hc.1.1
        rw [stW_ok _ m z (by have := hc.1.2; rw [feM_len]; omega) hc.2] at h
        rcases h with h | h
        · exact h rfl
        · omega
      · simp only [if_pos (wrong_not hc)]
        exact ⟨trivial, set_self Ls _ hin⟩
    · simp only [if_neg hi]
      exact ⟨trivial, trivial⟩
  simp only [if_neg k4] at h ⊢
  by_cases k5 : k = 5
  · simp only [if_pos k5] at h ⊢
    unfold loseB at h ⊢
    by_cases hi : inC Ls co
    · simp only [if_pos hi] at h ⊢
      rcases h with h | h
      · exact absurd rfl h
      · omega
    · simp only [if_neg hi]
      exact ⟨trivial, trivial⟩
  simp only [if_neg k5]
  exact ⟨trivial, trivial⟩
theorem set_getD (Ls : List (List W16)) (i : Nat) (L : List W16) (hi : i < Ls.length) : (Ls.set i L).getD i default = L := by simp [List.getD_eq_getElem?_getD, hi]
/-- A core loads what it stored last. -/
theorem ldM_last (ws : List Int) (L : List W16) (x : W16) (hx : x.a < ws.length) : ldM ws (L ++ [x]) x.a = ((x.v : Int), 0) := by
  have h1 := feM_get (L ++ [x]) ws x.a hx
  rw [feM_app] at h1
  have h2 := stW_get (feM ws L) x x.a (by rw [feM_len]; exact hx)
  rw [if_pos rfl] at h2
  unfold ldM
  rw [if_pos (by omega), Int.toNat_natCast, ← h1]
  exact congrArg (·, 0) h2
theorem own_last {cap : Nat} {ws : List Int} {Ls : List (List W16)} (hk : Ok cap ws Ls) (co a z : Int) (h : (storeB cap ws Ls co a z).2.2 = 0) :
    ∃ ws1 Ls1 ws2 Ls2 m, storeB cap ws Ls co a z = (ws1, Ls1, 0) ∧ loadB ws1 Ls1 co a = (z, 0) ∧ fenceB ws1 Ls1 co = (ws2, Ls2, m, 0) ∧ loadB ws2 Ls2 co a = (z, 0) ∧ waitsB Ls2 co = [] ∧ (0 ≤ a ∧ a < ws2.length) ∧ ws2.getD a.toNat 0 = z := by
  unfold storeB at h
  by_cases hi : inC Ls co
  · rw [if_pos hi] at h
    have hin := in_getD hi
    by_cases hc : canS ws.length a z
    · obtain ⟨x, e1, e2, e3⟩ := soM_yes (cap := cap) (L := at_ Ls co) hc hk.ram (hk.len _ hin) hk.pos
      have key : ∃ ws1 L1, soM cap ws (at_ Ls co) a z = (ws1, L1 ++ [x], 0) ∧ ws1.length = ws.length := by
        by_cases e : (at_ Ls co).length = cap
        · exact ⟨_, _, e3.trans (if_pos e), drM_len _ _⟩
        · exact ⟨_, _, e3.trans (if_neg e), rfl⟩
      obtain ⟨ws1, L1, k1, k2⟩ := key
      have hx : x.a < ws1.length := by have := hc.1.2; omega
      have hi1 : inC (Ls.set co.toNat (L1 ++ [x])) co := ⟨hi.1, by rw [List.length_set]; exact hi.2⟩
      have ha1 : at_ (Ls.set co.toNat (L1 ++ [x])) co = L1 ++ [x] := set_getD Ls _ _ hin
      have hi2 : inC ((Ls.set co.toNat (L1 ++ [x])).set co.toNat []) co := ⟨hi.1, by rw [List.length_set, List.length_set]; exact hi.2⟩
      have ha2 : at_ ((Ls.set co.toNat (L1 ++ [x])).set co.toNat []) co = [] := set_getD _ _ _ (by rw [List.length_set]; exact hin)
      have hl : ldM ws1 (L1 ++ [x]) a = (z, 0) := by rw [← e1, ← e2]; exact ldM_last ws1 L1 x hx
      have hg : (feM ws1 (L1 ++ [x])).getD x.a 0 = z := by
        rw [feM_app, ← e2]
        have h2 := stW_get (feM ws1 L1) x x.a (by rw [feM_len]; exact hx)
        rw [if_pos rfl] at h2
        exact h2
      have hg' : (feM ws1 (L1 ++ [x])).getD a.toNat 0 = z := by rw [← e1, Int.toNat_natCast]; exact hg
      have hb : 0 ≤ a ∧ a < (feM ws1 (L1 ++ [x])).length := by rw [feM_len]; omega
      refine ⟨ws1, Ls.set co.toNat (L1 ++ [x]), feM ws1 (L1 ++ [x]), (Ls.set co.toNat (L1 ++ [x])).set co.toNat [], ((L1 ++ [x]).length : Int), ?_, ?_, ?_, ?_, ?_, hb, hg'⟩
      · unfold storeB
        rw [if_pos hi, k1]
      · unfold loadB
        rw [if_pos hi1, ha1, hl]
      · unfold fenceB
        rw [if_pos hi1, ha1]
      · unfold loadB
        rw [if_pos hi2, ha2]
        unfold ldM
        rw [if_pos hb, hg']
        rfl
      · unfold waitsB
        rw [if_pos hi2, ha2]
    · rw [soM_no hc] at h
      exact absurd h (wrong_not hc)
  · rw [if_neg hi] at h
    exact absurd h (by simp)
end Go.Proofs.Ytlefefcakffepaa.Bus
