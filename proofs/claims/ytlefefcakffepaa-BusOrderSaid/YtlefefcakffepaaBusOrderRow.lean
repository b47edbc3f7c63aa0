/- BusOrder, for every input. -/
import Derived.Test.YtlefefcakffepaaBusOrder
namespace Go.Proofs.Ytlefefcakffepaa.Bus
set_option linter.unusedVariables false
set_option linter.unusedSimpArgs false
open Go.RowKit Go.Proofs.Ytlefefcakffepaa.Open Go.Proofs.Ytlefefcakffepaa.Sep

set_option maxHeartbeats 1000000 in
set_option maxRecDepth 100000 in
theorem order_row (n m k : Int) (A : Option Addr) (c : Nat) (rows : List (List Int)) (w : World) (wn : (Lit.int .i64 n).wf = true) (wm : (Lit.int .i64 m).wf = true) (wk : (Lit.int .i64 k).wf = true) (hr : Recs 4 w A rows) (hc : rows.length ≤ c) (hm : c ≤ maxLen) (hw : ∀ q ∈ rows, q.length = 4 ∧ ∀ z ∈ q, (Lit.int .i64 z).wf = true) :
    Calls Try.prog 5 #[.int .i64 n, .int .i64 m, .int .i64 k, .slice A rows.length c] w fun e w' => e = .returned (.bool true) ∧ Up w w' := by
  by_cases h1 : (1 ≤ n ∧ n ≤ 8) ∧ (1 ≤ m ∧ m ≤ 65536) ∧ 1 ≤ k ∧ k ≤ 16
  · obtain ⟨n, rfl⟩ := Int.eq_ofNat_of_zero_le (show 0 ≤ n by omega)
    obtain ⟨m, rfl⟩ := Int.eq_ofNat_of_zero_le (show 0 ≤ m by omega)
    obtain ⟨k, rfl⟩ := Int.eq_ofNat_of_zero_le (show 0 ≤ k by omega)
    by_cases h2 : rows.length ≤ 80 ∧ (m : Int) ≤ 200
    · exact order_walk n m k (by omega) A c rows w hr h2.1
    · have HF := Lib.hid (fun wx => few_no m A rows.length c wx h2)
      have HH := Lib.hid h1
      clear hr hw hm hc h1 h2
      go_enter Try.func5, Try.ntmps5
      go_wp2_with fail
      refine (New_st (St.nil w) n m k (by have := HH.out; omega)).mono ?_
      rintro e w1 ⟨b, rfl, hs⟩
      have HS1 := Lib.hid hs
      clear hs
      go_wp2_with (first
        | (go_at_call 10; refine (HF.out _).mono ?_; rintro e wg ⟨rfl, rfl⟩)
        | (go_at_call 11; refine (alive_st HS1.out).mono ?_; rintro e w5 ⟨rfl, hs⟩; have HA := Lib.hid hs.up; clear hs))
      go_ret
      exact ⟨rfl, HA.out⟩
  · have HN := Lib.hid (New_no n m k h1 w)
    clear hr hw hm hc h1
    go_enter Try.func5, Try.ntmps5
    go_wp2_with (first
      | (go_at_call 9; refine HN.out.mono ?_; rintro e w1 ⟨rfl, hu⟩; have HU := Lib.hid hu; clear hu)
      | (go_at_call 11; refine (alive_walk _).mono ?_; rintro e w5 ⟨rfl, hu⟩; have HA := Lib.hid (Up.trans HU.out hu); clear hu))
    go_ret
    exact ⟨rfl, HA.out⟩
end Go.Proofs.Ytlefefcakffepaa.Bus
