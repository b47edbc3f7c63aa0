/- LaneOrder, for every input. -/
import Derived.Test.YtmfpahdbjcpmkaaLaneOrder
import Derived.Test.YtmfpahdbjcpmkaaOpen
namespace Go.Proofs.Ytmfpahdbjcpmkaa.Lane
set_option linter.unusedVariables false
set_option linter.unusedSimpArgs false
open Go.RowKit Go.Proofs.Ytmfpahdbjcpmkaa.Open

def pairs (rows : List (List Int)) : List (Int × Int) := rows.map fun r => (r.getD 0 0, r.getD 1 0)
theorem pairs_len (rows : List (List Int)) : (pairs rows).length = rows.length := by simp [pairs]
theorem opsAt_of {w : World} {A : Option Addr} {rows : List (List Int)} (h : Recs 2 w A rows) : OpsAt w A (pairs rows) := by
  intro i hi
  rw [pairs_len] at hi
  obtain ⟨ad, hA, hc⟩ := h i hi
  refine ⟨ad, hA, ?_, ?_⟩
  · have := hc 0 (by omega)
    rw [Nat.add_zero] at this
    rw [this]
    simp [pairs, List.getD_eq_getElem?_getD, hi]
  · rw [hc 1 (by omega)]
    simp [pairs, List.getD_eq_getElem?_getD, hi]
theorem order_row (n : Int) (A : Option Addr) (c : Nat) (rows : List (List Int)) (w : World) (wn : (Lit.int .i64 n).wf = true) (hr : Recs 2 w A rows) (hc : rows.length ≤ c) (hm : c ≤ maxLen) (hw : ∀ q ∈ rows, q.length = 2 ∧ ∀ z ∈ q, (Lit.int .i64 z).wf = true) :
    Calls Try.prog 4 #[.int .i64 n, .slice A rows.length c] w fun e w' => e = .returned (.bool true) ∧ Up w w' := by
  unfold maxLen at hm
  by_cases hn : n < 1 ∨ 64 < n
  · have HN := Lib.hid (New_no n hn)
    clear hr hw
    go_enter Try.func4, Try.ntmps4
    go_wp2_with (first | (go_at_call 11; refine (HN.out _).mono ?_; rintro e w' ⟨rfl, rfl⟩) | (go_at_call 12; refine (alive_walk _).mono ?_; rintro e w5 ⟨rfl, hu⟩; have HA := Lib.hid hu; clear hu))
    go_ret
    exact ⟨rfl, HA.out⟩
  · obtain ⟨m, rfl⟩ := Int.eq_ofNat_of_zero_le (show 0 ≤ n by omega)
    by_cases hl : rows.length ≤ 150
    · have h := order_walk m (by omega) (by omega) A c (pairs rows) w (opsAt_of hr) (by rw [pairs_len]; exact hl)
      rw [pairs_len] at h
      exact h
    · have HN := Lib.hid (New_ok m (by omega) (by omega))
      have hgt : (rows.length : Int) > 150 := by omega
      clear hr hw
      go_enter Try.func4, Try.ntmps4
      go_wp2_with (first | (go_at_call 11; refine (HN.out _).mono ?_; rintro e w' ⟨b, R, rfl, hL, hU, hb, hR⟩; have HU := Lib.hid hU; clear hL hU hb hR) | (go_at_call 12; refine (alive_walk _).mono ?_; rintro e w5 ⟨rfl, hu⟩; have HA := Lib.hid hu; clear hu))
      go_ret
      exact ⟨rfl, Up.trans HU.out HA.out⟩
end Go.Proofs.Ytmfpahdbjcpmkaa.Lane
