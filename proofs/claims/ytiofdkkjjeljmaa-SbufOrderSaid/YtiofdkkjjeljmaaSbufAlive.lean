/- The example of chapter 05. -/
import Derived.Test.YtiofdkkjjeljmaaSbufLike
import Derived.Test.YtiofdkkjjeljmaaCellSame
namespace Go.Proofs.Ytiofdkkjjeljmaa.Sbuf
set_option linter.unusedVariables false
set_option linter.unusedSimpArgs false
open Go.RowKit Go.Proofs.Ytiofdkkjjeljmaa.CellOf Go.Proofs.Ytiofdkkjjeljmaa.CellP Go.Proofs.Ytiofdkkjjeljmaa.Sep Go.Proofs.Ytiofdkkjjeljmaa.Find Go.Proofs.Ytiofdkkjjeljmaa.Ref05 Go.Proofs.Ytiofdkkjjeljmaa.Pairs

def x41 : W16 := ⟨4, 1, by omega, by omega⟩
def x52 : W16 := ⟨5, 2, by omega, by omega⟩
def x43 : W16 := ⟨4, 3, by omega, by omega⟩
theorem put_a : putB 4 [] 4 1 = ([x41], 0) := by rfl
theorem put_b : putB 4 [x41] 5 2 = ([x41, x52], 0) := by rfl
theorem put_c : putB 4 [x41, x52] 4 3 = ([x41, x52, x43], 0) := by rfl
theorem find_a : findV [x41, x52, x43] 4 = .tuple #[.int .i64 3, .bool true] := by rfl
theorem drain_a : drainV [x41, x52, x43] = .tuple #[.int .i64 4, .int .i64 1, .bool true] := by rfl
theorem cw_a : [x52, x43].map cw = [.complex .f64 4617315517961601024 4611686018427387904, .complex .f64 4616189618054758400 4613937818241073152] := by
  have h5 : floatOfInt .f64 ((5 : Nat) : Int) = 4617315517961601024 := by decide +kernel
  have h2 : floatOfInt .f64 ((2 : Nat) : Int) = 4611686018427387904 := by decide +kernel
  have h4 : floatOfInt .f64 ((4 : Nat) : Int) = 4616189618054758400 := by decide +kernel
  have h3 : floatOfInt .f64 ((3 : Nat) : Int) = 4613937818241073152 := by decide +kernel
  rw [← h5, ← h2, ← h4, ← h3]
  rfl
theorem cw_self (L : List W16) : ∀ u ∈ L.map cw, Equal.Self u := by
  intro u hu
  obtain ⟨x, _, rfl⟩ := List.mem_map.1 hu
  exact ⟨_, _, rfl, eqself x.a x.ha, eqself x.v x.hv⟩
set_option maxHeartbeats 4000000 in
set_option maxRecDepth 100000 in
theorem alive_walk (w : World) : Calls Try.prog 37 #[] w fun e w' => e = .returned (.bool true) ∧ Up w w' := by
  have HS0 := Lib.hid (St.nil w)
  go_enter Try.func37, Try.ntmps37
  go_wp2_with fail
  refine (New_st HS0.out 4 (by omega) (by omega)).mono ?_
  rintro e w1 ⟨b, rfl, hs⟩
  have HS1 : Hid (St No w w1 [buf b 4 []]) := Lib.hid (hs)
  clear hs HS0
  go_wp2_with fail
  refine (Put_st HS1.out 4 1).mono ?_
  rw [put_a]
  rintro e w2 ⟨rfl, hs⟩
  have HS2 : Hid (St No w w2 [buf b 4 [x41]]) := Lib.hid (hs)
  clear hs HS1
  go_wp2_with fail
  refine (Put_st HS2.out 5 2).mono ?_
  rw [put_b]
  rintro e w3 ⟨rfl, hs⟩
  have HS3 : Hid (St No w w3 [buf b 4 [x41, x52]]) := Lib.hid (hs)
  clear hs HS2
  go_wp2_with fail
  refine (Put_st HS3.out 4 3).mono ?_
  rw [put_c]
  rintro e w4 ⟨rfl, hs⟩
  have HS4 : Hid (St No w w4 [buf b 4 [x41, x52, x43]]) := Lib.hid (hs)
  clear hs HS3
  go_wp2_with fail
  refine (Find_st HS4.out 4).mono ?_
  rw [find_a]
  rintro e w5 ⟨rfl, hs⟩
  have HS5 : Hid (St No w w5 [buf b 4 [x41, x52, x43]]) := Lib.hid (hs)
  clear hs HS4
  go_wp2_with fail
  refine (Drain_st HS5.out).mono ?_
  rw [drain_a]
  rintro e w6 ⟨rfl, hs⟩
  have HS6 : Hid (St No w w6 [buf b 4 [x52, x43]]) := Lib.hid (hs)
  clear hs HS5
  go_wp2_with fail
  refine (All_st HS6.out).mono ?_
  rintro e w7 ⟨A, c, rfl, hs⟩
  have HS7 : Hid (St No w w7 [cl (.slice A 2 c) [x52, x43], buf b 4 [x52, x43]]) := Lib.hid (hs)
  clear hs HS6
  have HS8 : Hid (St No w (w7.alloc (.cells #[.complex .f64 4617315517961601024 4611686018427387904, .complex .f64 4616189618054758400 4613937818241073152] 48)) [slc 48 1 (.slice (some ⟨w7.heap.size, 0, none⟩) 2 2) 2 ([x52, x43].map cw), cl (.slice A 2 c) [x52, x43], buf b 4 [x52, x43]]) := Lib.hid (((HS7.out.alloc #[.complex .f64 4617315517961601024 4611686018427387904, .complex .f64 4616189618054758400 4613937818241073152] 48).imp (B := slc 48 1 (.slice (some ⟨w7.heap.size, 0, none⟩) 2 2) 2 ([x52, x43].map cw)) fun P hP => .inr ⟨_, 0, 2, _, rfl, Nat.le_refl _, by unfold maxLen; omega, rfl, hP.1, hP.2, by simp, fun j hj => by rw [cw_a, Nat.zero_add]; simp⟩))
  clear HS7
  have HS9 : Hid (St No w (w7.alloc (.cells #[.complex .f64 4617315517961601024 4611686018427387904, .complex .f64 4616189618054758400 4613937818241073152] 48)) [cl (.slice A 2 c) [x52, x43], slc 48 1 (.slice (some ⟨w7.heap.size, 0, none⟩) 2 2) 2 ([x52, x43].map cw), buf b 4 [x52, x43]]) := Lib.hid ((HS8.out).get 1)
  clear HS8
  go_wp2_with fail
  refine (CellSame.cSame_st (n := 2) HS9.out (cw_self _) (by omega)).mono ?_
  rintro e w10 ⟨rfl, hs⟩
  have HS10 : Hid (St No w w10 [cl (.slice A 2 c) [x52, x43], slc 48 1 (.slice (some ⟨w7.heap.size, 0, none⟩) 2 2) 2 ([x52, x43].map cw), buf b 4 [x52, x43]]) := Lib.hid (hs)
  clear hs HS9
  go_wp2
  go_ret
  exact ⟨rfl, HS10.out.up⟩
theorem alive_st {w0 w : World} {P0 : Nat → Prop} {L : List Rg} (h : St P0 w0 w L) : Calls Try.prog 37 #[] w fun e w' => e = .returned (.bool true) ∧ St P0 w0 w' L := by
  refine (alive_walk w).mono ?_
  rintro e w' ⟨rfl, hu⟩
  exact ⟨rfl, h.more hu⟩
end Go.Proofs.Ytiofdkkjjeljmaa.Sbuf
