/- The example of chapter 09. -/
import Derived.Test.YtiofdkkjjeljmaaMbNew
namespace Go.Proofs.Ytiofdkkjjeljmaa.Mb
set_option linter.unusedVariables false
set_option linter.unusedSimpArgs false
open Go.RowKit Go.Proofs.Ytiofdkkjjeljmaa.Sep Go.Proofs.Ytiofdkkjjeljmaa.Lane

def c0 : MC := ⟨0, [], by omega⟩
def c1 : MC := ⟨1, [⟨0, 7, by omega, by omega⟩], by omega⟩
def c2 : MC := ⟨1, [], by omega⟩
theorem ring_a : ringM [c0, c0] 0 1 7 = ([c0, c1], 0) := by rfl
theorem take_a : takeM [c0, c1] 1 = ([c0, c2], 0, 7, 0) := by rfl
theorem pend_a : pendM [c0, c2] 1 = (1, 0) := by rfl
theorem ackN_a : ackN 1 1 = 0 := by decide +kernel
theorem ack_a : ackM [c0, c2] 1 1 = ([c0, c0], 0) := by
  have e : (⟨ackN 1 1, [], ackN_lt 1 1 (by omega)⟩ : MC) = c0 := by
    unfold c0
    congr 1
  show (([c0, c2].set 1 (⟨ackN 1 1, [], ackN_lt 1 1 (by omega)⟩ : MC)), (0 : Int)) = ([c0, c0], 0)
  rw [e]
  rfl
theorem pend_b : pendM [c0, c0] 1 = (0, 0) := by rfl
set_option maxHeartbeats 4000000 in
set_option maxRecDepth 100000 in
theorem alive_walk (w : World) : Calls Try.prog 28 #[] w fun e w' => e = .returned (.bool true) ∧ Up w w' := by
  have HS0 := Lib.hid (St.nil w)
  go_enter Try.func28, Try.ntmps28
  go_wp2_with fail
  refine (New_st HS0.out 2 (by omega) (by omega)).mono ?_
  rintro e w1 ⟨b, rfl, hs⟩
  have HS1 : Hid (St No w w1 [mb b [c0, c0]]) := Lib.hid (hs)
  clear hs HS0
  go_wp2_with fail
  refine (Ring_st HS1.out 0 1 7).mono ?_
  rw [ring_a]
  rintro e w2 ⟨rfl, hs⟩
  have HS2 : Hid (St No w w2 [mb b [c0, c1]]) := Lib.hid (hs)
  clear hs HS1
  go_wp2_with fail
  refine (Take_st HS2.out 1).mono ?_
  rw [take_a]
  rintro e w3 ⟨rfl, hs⟩
  have HS3 : Hid (St No w w3 [mb b [c0, c2]]) := Lib.hid (hs)
  clear hs HS2
  go_wp2_with fail
  refine (Pending_st HS3.out 1).mono ?_
  rw [pend_a]
  rintro e w4 ⟨rfl, hs⟩
  have HS4 : Hid (St No w w4 [mb b [c0, c2]]) := Lib.hid (hs)
  clear hs HS3
  go_wp2_with fail
  refine (Ack_st HS4.out 1 1).mono ?_
  rw [ack_a]
  rintro e w5 ⟨rfl, hs⟩
  have HS5 : Hid (St No w w5 [mb b [c0, c0]]) := Lib.hid (hs)
  clear hs HS4
  go_wp2_with fail
  refine (Pending_st HS5.out 1).mono ?_
  rw [pend_b]
  rintro e w6 ⟨rfl, hs⟩
  have HS6 : Hid (St No w w6 [mb b [c0, c0]]) := Lib.hid (hs)
  clear hs HS5
  go_wp2
  go_ret
  exact ⟨rfl, HS6.out.up⟩
theorem alive_st {w0 w : World} {P0 : Nat → Prop} {L : List Rg} (h : St P0 w0 w L) : Calls Try.prog 28 #[] w fun e w' => e = .returned (.bool true) ∧ St P0 w0 w' L := by
  refine (alive_walk w).mono ?_
  rintro e w' ⟨rfl, hu⟩
  exact ⟨rfl, h.more hu⟩
end Go.Proofs.Ytiofdkkjjeljmaa.Mb
