/- The chapter's example; a table that is nil; NamesNobody. -/
import Derived.Test.YtdhgmnnkbjhpaaaNtell
namespace Go.Proofs.Ytdhgmnnkbjhpaaa.Ntab
set_option linter.unusedVariables false
set_option linter.unusedSimpArgs false
open Go.RowKit Go.Proofs.Ytdhgmnnkbjhpaaa.Sep Go.Proofs.Ytdhgmnnkbjhpaaa.Mp Go.Proofs.Ytdhgmnnkbjhpaaa.PNamesPlay Go.Proofs.Ytdhgmnnkbjhpaaa.NoteOk Go.Proofs.YtdhgmnnkbjhpaaaW.PrintWords
open Go.Maps (Keyed)

abbrev abc : ByteArray := ⟨#[97, 98, 99]⟩
theorem tell_a : tellN [] 0 false abc 7 = ([⟨abc, 0, 7⟩], 0) := by rfl
theorem tell_b : tellN [⟨abc, 0, 7⟩] 1 false abc 7 = ([⟨abc, 0, 7⟩], 16) := by rfl
theorem find_a : fndV [⟨abc, 0, 7⟩] abc = .tuple #[.int .i64 0, .int .i64 7, .bool true] := by rfl
set_option maxHeartbeats 4000000 in
set_option maxRecDepth 100000 in
theorem alive_walk (w : World) : Calls Try.prog 24 #[] w fun e w' => e = .returned (.bool true) ∧ Up w w' := by
  have HA := Lib.hid tell_a
  have HB := Lib.hid tell_b
  have HC := Lib.hid find_a
  go_enter Try.func24, Try.ntmps24
  go_wp2_with fail
  refine (New_st (St.nil w)).mono ?_
  rintro e w1 ⟨t, rfl, hs⟩
  have HS1 := Lib.hid hs
  clear hs
  go_wp2_with fail
  refine (Tell_st HS1.out 0 false abc 7 (by decide) (by decide)).mono ?_
  rw [HA.out]
  rintro e w2 ⟨rfl, hs⟩
  have HS2 := Lib.hid hs
  clear hs
  go_wp2_with fail
  refine (Tell_st HS2.out 1 false abc 7 (by decide) (by decide)).mono ?_
  rw [HB.out]
  rintro e w3 ⟨rfl, hs⟩
  have HS3 := Lib.hid hs
  clear hs
  go_wp2_with fail
  refine (Find_st HS3.out abc (by decide)).mono ?_
  rw [HC.out]
  rintro e w4 ⟨rfl, hu⟩
  have HF := Lib.hid (HS3.out.up.trans hu)
  clear hu
  go_wp2
  go_ret
  exact ⟨rfl, HF.out⟩
set_option maxRecDepth 100000 in
theorem Find_nil (s : ByteArray) (w : World) : Calls Try.prog 30 #[.pointer none, .string s] w fun e w' => e = .returned (.tuple #[.int .i64 0, .int .i64 0, .bool false]) ∧ w' = w := by
  go_enter Try.func30, Try.ntmps30
  go_wp2
  go_ret3
  exact ⟨rfl, rfl⟩
theorem List_nil (w : World) : Calls Try.prog 23 #[.pointer none] w fun e w' => e = .returned (.slice none 0 0) ∧ w' = w := by
  go_enter Try.func23, Try.ntmps23
  go_wp2
  go_ret
  exact ⟨rfl, rfl⟩
set_option maxRecDepth 100000 in
theorem IndexFunc_nil (f : Value) (w : World) : Calls Try.prog 66 #[.slice none 0 0, f] w fun e w' => e = .returned (.int .i64 (-1)) ∧ w' = w := by
  go_enter Try.func66, Try.ntmps66
  go_wp2
  refine wp_loop_rounds 1 ?_
  rw [rounds_succ]
  go_wp2
  go_ret
  exact ⟨rfl, rfl⟩
set_option maxRecDepth 100000 in
theorem DeleteFunc_nil (f : Value) (w : World) : Calls Try.prog 49 #[.slice none 0 0, f] w fun e w' => e = .returned (.slice none 0 0) ∧ w' = w := by
  go_enter Try.func49, Try.ntmps49
  go_wp2_with (go_at_call 66; refine (IndexFunc_nil f _).mono ?_; rintro e w1 ⟨rfl, rfl⟩)
  go_ret
  exact ⟨rfl, rfl⟩
set_option maxRecDepth 100000 in
theorem Of_nil (core : Int) (w : World) : Calls Try.prog 32 #[.pointer none, .int .i64 core] w fun e w' => e = .returned (.slice none 0 0) ∧ Up w w' := by
  have hu := (((Up.refl w).alloc (.cells #[.pointer none] 44)).alloc (.cells #[.int .i64 core] 3))
  have HU := Lib.hid hu
  clear hu
  go_enter Try.func32, Try.ntmps32
  go_wp2_with (first
    | (go_at_call 23; refine (List_nil _).mono ?_; rintro e w1 ⟨rfl, rfl⟩)
    | (go_at_call 49; refine (DeleteFunc_nil _ _).mono ?_; rintro e w1 ⟨rfl, rfl⟩))
  go_ret
  exact ⟨rfl, HU.out⟩
set_option maxRecDepth 100000 in
theorem Drop_nil (core : Int) (w : World) : Calls Try.prog 33 #[.pointer none, .int .i64 core] w fun e w' => e = .returned (.int .i64 0) ∧ Up w w' := by
  go_enter Try.func33, Try.ntmps33
  go_wp2_with (go_at_call 32; refine (Of_nil _ _).mono ?_; rintro e w1 ⟨rfl, hu⟩; have HU := Lib.hid hu; clear hu)
  refine wp_loop_rounds 1 ?_
  rw [rounds_succ]
  go_wp2
  go_ret
  exact ⟨rfl, HU.out⟩
set_option maxHeartbeats 4000000 in
set_option maxRecDepth 100000 in
theorem nobody_walk (core : Int) (g : Bool) (s : ByteArray) (a : Int) (w : World) (wc : (Lit.int .i64 core).wf = true) (ws : s.size ≤ maxLen) (wa : (Lit.int .i64 a).wf = true) :
    Calls Try.prog 9 #[.int .i64 core, .agg #[.bool g, .string s, .int .i64 a]] w fun e w' => e = .returned (.bool true) ∧ Up w w' := by
  have HU0 := Lib.hid ((Up.refl w).alloc (.cells #[.bool g, .string s, .int .i64 a] 56))
  by_cases hs : s.size ≤ 100
  · have g1 : decide ((s.size : Int) > 100) = false := decide_eq_false (by omega)
    go_enter Try.func9, Try.ntmps9
    go_wp2_with (first
      | (go_at_call 30; refine (Find_nil _ _).mono ?_; rintro e w1 ⟨rfl, rfl⟩)
      | (go_at_call 22; refine (Tell_nil _ _ _ _ _).mono ?_; rintro e w2 ⟨rfl, hu⟩; have HU2 := Lib.hid (HU0.out.trans hu); clear hu)
      | (go_at_call 23; refine (List_nil _).mono ?_; rintro e w3 ⟨rfl, rfl⟩)
      | (go_at_call 32; refine (Of_nil _ _).mono ?_; rintro e w4 ⟨rfl, hu⟩; have HU4 := Lib.hid (HU2.out.trans hu); clear hu)
      | (go_at_call 33; refine (Drop_nil _ _).mono ?_; rintro e w5 ⟨rfl, hu⟩; have HU5 := Lib.hid (HU4.out.trans hu); clear hu)
      | (go_at_call 24; refine (alive_walk _).mono ?_; rintro e w6 ⟨rfl, hu⟩; have HU6 := Lib.hid (HU5.out.trans hu); clear hu))
    go_ret
    exact ⟨rfl, HU6.out⟩
  · have g1 : decide ((s.size : Int) > 100) = true := decide_eq_true (by omega)
    go_enter Try.func9, Try.ntmps9
    go_wp2_with (go_at_call 24; refine (alive_walk _).mono ?_; rintro e w6 ⟨rfl, hu⟩; have HU6 := Lib.hid (HU0.out.trans hu); clear hu)
    go_ret
    exact ⟨rfl, HU6.out⟩
end Go.Proofs.Ytdhgmnnkbjhpaaa.Ntab
