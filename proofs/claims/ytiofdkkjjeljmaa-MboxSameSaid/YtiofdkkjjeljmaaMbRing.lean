/- mbox's Ring, whole. -/
import Derived.Test.YtiofdkkjjeljmaaMbOps3
namespace Go.Proofs.Ytiofdkkjjeljmaa.Mb
set_option linter.unusedVariables false
set_option linter.unusedSimpArgs false
open Go.RowKit Go.Proofs.Ytiofdkkjjeljmaa.Sep Go.Proofs.Ytiofdkkjjeljmaa.Lane Go.Proofs.Ytiofdkkjjeljmaa.CellOf

theorem ring1_gen (x : Addr) (p : Option Addr) (n0 n1 n2 n3 : Nat) (to z : Int) (R : World → Prop) (w : World) (c0 : w.cell? ⟨n0, 0, none⟩ = some (.pointer p)) (c2 : w.cell? ⟨n2, 0, none⟩ = some (.int .i64 to))
    (hA : Calls Try.prog 73 #[.pointer p, .int .i64 to, .func (.func 95) #[] #[.pointer (some ⟨n3, 0, none⟩), .pointer (some ⟨n1, 0, none⟩)]] w fun e w' => e = .returned (.int .i64 z) ∧ R w') :
    Calls Try.prog 94 #[.pointer (some x), .pointer (some ⟨n0, 0, none⟩), .pointer (some ⟨n2, 0, none⟩), .pointer (some ⟨n3, 0, none⟩), .pointer (some ⟨n1, 0, none⟩)] w fun e w' => e = .returned (.int .i64 z) ∧ R w' := by
  have HA := Lib.hid hA
  clear hA
  go_enter Try.func94, Try.ntmps94
  go_wp2_with (go_at_call 73; refine HA.out.mono ?_; rintro e w2 ⟨rfl, hr⟩; have HR := Lib.hid hr; clear hr)
  go_ret
  exact ⟨rfl, HR.out⟩
/-- The world when Ring has laid what its closures capture. -/
def ringW (w : World) (p : Option Addr) (from_ to W : Int) : World := (((w.alloc (.cells #[.pointer p] 57)).alloc (.cells #[.int .i64 from_] 3)).alloc (.cells #[.int .i64 to] 3)).alloc (.cells #[.int .i64 W] 3)
theorem ring_gen (p : Option Addr) (from_ to W z : Int) (R : World → Prop) (w : World)
    (hA : Calls Try.prog 73 #[.pointer p, .int .i64 from_, .func (.func 94) #[] #[.pointer (some ⟨w.heap.size, 0, none⟩), .pointer (some ⟨w.heap.size + 1 + 1, 0, none⟩), .pointer (some ⟨w.heap.size + 1 + 1 + 1, 0, none⟩), .pointer (some ⟨w.heap.size + 1, 0, none⟩)]] (ringW w p from_ to W) fun e w' => e = .returned (.int .i64 z) ∧ R w') :
    Calls Try.prog 64 #[.pointer p, .int .i64 from_, .int .i64 to, .int .i64 W] w fun e w' => e = .returned (.int .i64 z) ∧ R w' := by
  unfold ringW at hA
  have HA := Lib.hid hA
  clear hA
  go_enter Try.func64, Try.ntmps64
  go_wp2_with (go_at_call 73; refine HA.out.mono ?_; rintro e w2 ⟨rfl, hr⟩; have HR := Lib.hid hr; clear hr)
  go_ret
  exact ⟨rfl, HR.out⟩
theorem Ring_nil (from_ to W : Int) (w : World) : Calls Try.prog 64 #[.pointer none, .int .i64 from_, .int .i64 to, .int .i64 W] w fun e w' => e = .returned (.int .i64 1) ∧ Up w w' :=
  ring_gen none from_ to W 1 (Up w) w ((ask_nil _ _ _ _).mono fun e w' hh => ⟨hh.1, by rw [hh.2]; exact ((((Up.refl w).alloc _).alloc _).alloc _).alloc _⟩)
def mkIt (f w : Nat) : It := if h : f < 8 ∧ w ≤ 65535 then ⟨f, w, h.1, h.2⟩ else default
/-- A core's mailbox at which is rung. -/
def ringC (C : MC) (f w : Nat) : MC := if h : f < 8 then ⟨orN C.m f, if C.q.length = 16 then C.q else C.q ++ [mkIt f w], orN_lt _ _ C.hm h⟩ else C
/-- What Ring does. -/
def ringM (S : List MC) (from_ to W : Int) : List MC × Int :=
  if 0 ≤ from_ ∧ from_ < S.length then
    if 0 ≤ to ∧ to < S.length then
      if 0 ≤ W ∧ W ≤ 65535 then (S.set to.toNat (ringC (S.getD to.toNat default) from_.toNat W.toNat), if (S.getD to.toNat default).q.length = 16 then 5 else 0)
      else (S, 2)
    else (S, 3)
  else (S, 3)
section
variable {P0 : Nat → Prop} {w0 w w' : World} {F : List Rg} {b : Nat} {S : List MC}
set_option maxHeartbeats 2000000 in
theorem Ring_st (h : St P0 w0 w (mb b S :: F)) (from_ to W : Int) : Calls Try.prog 64 #[.pointer (some ⟨b, 0, none⟩), .int .i64 from_, .int .i64 to, .int .i64 W] w fun e w' => e = .returned (.int .i64 (ringM S from_ to W).2) ∧ St P0 w0 w' (mb b (ringM S from_ to W).1 :: F) := by
  obtain ⟨g, o, c, ls, hm, hc, h1⟩ := mb_form h
  have ha := (((h1.alloc #[.pointer (some ⟨b, 0, none⟩)] 57).alloc #[.int .i64 from_] 3).alloc #[.int .i64 to] 3).alloc #[.int .i64 W] 3
  rw [World.size_alloc, World.size_alloc, World.size_alloc] at ha
  refine ring_gen (some ⟨b, 0, none⟩) from_ to W (ringM S from_ to W).2 (fun w' => St P0 w0 w' (mb b (ringM S from_ to W).1 :: F)) w ?_
  unfold ringW
  generalize (((w.alloc (.cells #[.pointer (some ⟨b, 0, none⟩)] 57)).alloc (.cells #[.int .i64 from_] 3)).alloc (.cells #[.int .i64 to] 3)).alloc (.cells #[.int .i64 W] 3) = wb at ha ⊢
  have hb : wb.cell? ⟨b, 0, none⟩ = some (.slice (some ⟨g, o, none⟩) S.length c) := cell_of_block (ha.get 4).bk_at 0
  have hfin : St P0 w0 wb (mb b S :: F) := mb_shut_any hm ha.drop.drop.drop.drop
  by_cases hi : 0 ≤ from_ ∧ from_ < S.length
  · obtain ⟨f, rfl⟩ := Int.eq_ofNat_of_zero_le hi.1
    have hf : f < S.length := by omega
    refine ask_Ring b g o S.length c f _ _ _ _ wb hb hf ?_
    refine ring1_gen _ (some ⟨b, 0, none⟩) _ _ _ _ to _ _ wb (cell_of_block (ha.get 3).bk_at 0) (cell_of_block (ha.get 1).bk_at 0) ?_
    by_cases ht : 0 ≤ to ∧ to < S.length
    · obtain ⟨i, rfl⟩ := Int.eq_ofNat_of_zero_le ht.1
      have hi' : i < S.length := by omega
      by_cases hW : 0 ≤ W ∧ W ≤ 65535
      · have E : ringM S f i W = (S.set i (ringC (S.getD i default) f W.toNat), if (S.getD i default).q.length = 16 then 5 else 0) := by unfold ringM; rw [if_pos hi, if_pos ht, if_pos hW]; rfl
        rw [E]
        have hx := mcells_at S ls i hm.1 hi'
        have ho := mb_open hm.1 hi' ((((ha.get 6).get 6).get 6))
        have e1 : ((S.getD i default).q.map enc).length = (S.getD i default).q.length := by simp
        have hr := ring2_clo (F := [_, _, _, _] ++ F) g o S.length c i (w.heap.size + 1 + 1 + 1) (w.heap.size + 1) _ _ _ 3 3 132 W f (S.getD i default).m (by omega) (S.getD i default).hm hi' hx.1 hx.2 hW ((((ho.get 6).get 5).get 2).get 3)
        rw [e1] at hr
        refine ask_Ring2 b g o S.length c i _ _ wb hb hi' (hr.mono fun e w' hh => ⟨hh.1, ?_⟩)
        have h5 := hh.2
        have e2 : (if (S.getD i default).q.length = 16 then (S.getD i default).q.map enc else (S.getD i default).q.map enc ++ [(f : Int) * 65536 + W]) = (ringC (S.getD i default) f W.toNat).q.map enc := by
          unfold ringC
          rw [dif_pos (by omega)]
          by_cases h16 : (S.getD i default).q.length = 16
          · rw [if_pos h16, if_pos h16]
          · rw [if_neg h16, if_neg h16]
            unfold mkIt
            rw [dif_pos (by omega)]
            simp [enc]
            omega
        have e3 : orN (S.getD i default).m f = (ringC (S.getD i default) f W.toNat).m := by
          unfold ringC
          rw [dif_pos (by omega)]
        rw [e2, e3] at h5
        exact mb_close hm hi' ((((((h5.cut 2).cut 2).cut 4).cut 4)))
      · have E : ringM S f i W = (S, 2) := by unfold ringM; rw [if_pos hi, if_pos ht, if_neg hW]
        rw [E]
        exact ask_Ring2 b g o S.length c i _ _ wb hb hi' ((ring2_arg _ _ _ W hW (cell_of_block ha.bk_at 0)).mono fun e w' hh => ⟨hh.1, hfin.more hh.2⟩)
    · have E : ringM S f to W = (S, 3) := by unfold ringM; rw [if_pos hi, if_neg ht]
      rw [E]
      exact (ask_no b S.length c _ to _ _ wb hb (by omega)).mono fun e w' hh => ⟨hh.1, by rw [hh.2]; exact hfin⟩
  · have E : ringM S from_ to W = (S, 3) := if_neg hi
    rw [E]
    exact (ask_no b S.length c _ from_ _ _ wb hb (by omega)).mono fun e w' hh => ⟨hh.1, by rw [hh.2]; exact hfin⟩
end
end Go.Proofs.Ytiofdkkjjeljmaa.Mb
