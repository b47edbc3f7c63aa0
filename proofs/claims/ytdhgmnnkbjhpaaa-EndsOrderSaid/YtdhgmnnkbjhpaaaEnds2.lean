/- The endpoints: Open, Close; the chapter's example; endpoints that are nil. -/
import Derived.Test.YtdhgmnnkbjhpaaaEnds1
namespace Go.Proofs.Ytdhgmnnkbjhpaaa.Eps
set_option linter.unusedVariables false
set_option linter.unusedSimpArgs false
open Go.RowKit Go.Proofs.Ytdhgmnnkbjhpaaa.Sep Go.Proofs.Ytdhgmnnkbjhpaaa.Mp
open Go.Maps (Keyed)
abbrev nilV : Value := .slice none 0 0
section
variable {P0 : Nat → Prop} {w0 w w' : World} {F : List Rg} {e : Nat} {M : List Ent}
set_option maxHeartbeats 4000000 in
set_option maxRecDepth 100000 in
theorem open_new (h : St P0 w0 w (ends e M :: F)) (hl : M.length < 32) (h0 : (lookM M (kA 0)).isSome = false) (j : Nat) (hj : j ≤ 100) (h1 : ∀ i < j, (lookM M (kA (16 + (i : Int)))).isSome = true) (h2 : (lookM M (kA (16 + (j : Int)))).isSome = false) :
    Calls Try.prog 19 #[.pointer (some ⟨e, 0, none⟩), .int .i64 0] w fun x w' => x = .returned (.tuple #[.int .i64 (16 + (j : Int)), .int .i64 0]) ∧ St P0 w0 w' (ends e (putM M (kA (16 + (j : Int))) nilV) :: F) := by
  have HS := Lib.hid h
  have HH := Lib.hid (fun (wx : World) (F : List Rg) (h : St P0 w0 wx (ends e M :: F)) => Has_st h 0 (by decide))
  rw [h0] at HH
  have HF := Lib.hid (fun (wx : World) (F : List Rg) (h : St P0 w0 wx (ends e M :: F)) => free_st h j hj h1 h2)
  have HLN := Lib.hid (fun (wx : World) (m : Nat) (F : List Rg) (h : St P0 w0 wx (mp 3 m M :: F)) (ty : TypeId) => mp_len h Try.underlying83 ty)
  have hl2 : ¬ 32 ≤ M.length := by omega
  have HML : Hid (M.length < 32) := Lib.hid hl
  have hj2 : (16 + (j : Int)) ≠ 0 := by omega
  obtain ⟨a, ha⟩ : ∃ a : Int, 16 + (j : Int) = a := ⟨_, rfl⟩
  have HWA : Hid ((Lit.int .i64 a).wf = true) := Lib.hid (WalkArith.wf_i64 (by omega))
  rw [ha] at HF ⊢
  clear h h0 h1 h2 hj hj2 ha hl
  go_enter Try.func19, Try.ntmps19
  go_wp2_with fail
  refine (HH.out _ _ HS.out).mono ?_
  rintro x w1 ⟨rfl, hu⟩
  have HS1 := Lib.hid (HS.out.more hu)
  clear hu HH HS
  obtain ⟨m, h4⟩ := ends_any HS1.out
  have c0 : w1.cell? ⟨e, 0, none⟩ = some (.map (some m)) := cell_of_block h4.bk_at 0
  have hlen := fun ty => HLN.out w1 m _ (h4.get 1) ty
  generalize M.length = n at hlen hl2
  clear h4
  go_wp2_with fail
  refine (HF.out _ _ HS1.out).mono ?_
  rintro x w2 ⟨rfl, hu⟩
  have HS2 := Lib.hid (HS1.out.more hu)
  clear hu HF HS1 c0 hlen
  obtain ⟨m2, h4⟩ := ends_any HS2.out
  have c0 : w2.cell? ⟨e, 0, none⟩ = some (.map (some m2)) := cell_of_block h4.bk_at 0
  have h5 := h4.get 1
  clear h4
  obtain ⟨wu, hu1, hu2, -⟩ := mp_store (v := nilV) h5 klawI Try.underlying83 (by have := HML.out; unfold maxLen; omega) (kofI HWA.out)
  have HSU : Hid (St P0 w0 wu (ends e (putM M (kA a) nilV) :: F)) := Lib.hid (ends_shut (hu2.get 1))
  clear hu2 h5 HS2
  go_wp2_with fail
  go_ret2
  exact ⟨rfl, HSU.out⟩
set_option maxHeartbeats 4000000 in
set_option maxRecDepth 100000 in
theorem open_full (h : St P0 w0 w (ends e M :: F)) (hl : 32 ≤ M.length) (h0 : (lookM M (kA 0)).isSome = false) :
    Calls Try.prog 19 #[.pointer (some ⟨e, 0, none⟩), .int .i64 0] w fun x w' => x = .returned (.tuple #[.int .i64 0, .int .i64 17]) ∧ St P0 w0 w' (ends e M :: F) := by
  have HS := Lib.hid h
  have HH := Lib.hid (fun (wx : World) (F : List Rg) (h : St P0 w0 wx (ends e M :: F)) => Has_st h 0 (by decide))
  rw [h0] at HH
  have HLN := Lib.hid (fun (wx : World) (m : Nat) (F : List Rg) (h : St P0 w0 wx (mp 3 m M :: F)) (ty : TypeId) => mp_len h Try.underlying83 ty)
  clear h h0
  go_enter Try.func19, Try.ntmps19
  go_wp2_with fail
  refine (HH.out _ _ HS.out).mono ?_
  rintro x w1 ⟨rfl, hu⟩
  have HS1 := Lib.hid (HS.out.more hu)
  clear hu HH HS
  obtain ⟨m, h4⟩ := ends_any HS1.out
  have c0 : w1.cell? ⟨e, 0, none⟩ = some (.map (some m)) := cell_of_block h4.bk_at 0
  have hlen := fun ty => HLN.out w1 m _ (h4.get 1) ty
  generalize M.length = n at hlen hl
  clear h4
  go_wp2_with fail
  go_ret2
  exact ⟨rfl, HS1.out⟩
set_option maxHeartbeats 4000000 in
set_option maxRecDepth 100000 in
theorem wrong_st (h : St P0 w0 w (ends e M :: F)) (a : Int) (wa : (Lit.int .i64 a).wf = true) : Calls Try.prog 55 #[.pointer (some ⟨e, 0, none⟩), .int .i64 a] w fun x w' =>
    x = .returned (.int .i64 (if (lookM M (kA a)).isSome = true then 0 else 4)) ∧ Up w w' := by
  have hh := Has_st h a wa
  generalize (lookM M (kA a)).isSome = b at *
  have HH := Lib.hid hh
  clear h hh wa
  cases b with
  | true =>
    go_enter Try.func55, Try.ntmps55
    go_wp2_with fail
    refine HH.out.mono ?_
    rintro x w1 ⟨rfl, hu⟩
    have HU := Lib.hid hu
    clear hu HH
    go_wp2_with fail
    go_ret
    exact ⟨rfl, HU.out⟩
  | false =>
    go_enter Try.func55, Try.ntmps55
    go_wp2_with fail
    refine HH.out.mono ?_
    rintro x w1 ⟨rfl, hu⟩
    have HU := Lib.hid hu
    clear hu HH
    go_wp2_with fail
    go_ret
    exact ⟨rfl, HU.out⟩
set_option maxHeartbeats 4000000 in
set_option maxRecDepth 100000 in
theorem close_yes (h : St P0 w0 w (ends e M :: F)) (a : Int) (wa : (Lit.int .i64 a).wf = true) (hs : (lookM M (kA a)).isSome = true) : Calls Try.prog 38 #[.pointer (some ⟨e, 0, none⟩), .int .i64 a] w fun x w' =>
    x = .returned (.int .i64 0) ∧ St P0 w0 w' (ends e (delM M (kA a)) :: F) := by
  have hh := wrong_st h a wa
  rw [hs, if_pos rfl] at hh
  have HH := Lib.hid hh
  have HS := Lib.hid h
  have HK := Lib.hid (kofI wa)
  clear h hh hs
  go_enter Try.func38, Try.ntmps38
  go_wp2_with fail
  refine HH.out.mono ?_
  rintro x w1 ⟨rfl, hu⟩
  obtain ⟨m, h4⟩ := ends_any (HS.out.more hu)
  have c0 : w1.cell? ⟨e, 0, none⟩ = some (.map (some m)) := cell_of_block h4.bk_at 0
  have HS1 := Lib.hid (h4.get 1)
  clear hu HH HS h4
  go_wp2_with (at_delete; refine St.delete HS1.out rfl _ _ _ rfl _ klawI Try.underlying83 rfl _ _ rfl HK.out ?_; intro w6 hst hsz; have HS6 := Lib.hid (ends_shut (hst.get 1)); clear hst hsz)
  go_ret
  exact ⟨rfl, HS6.out⟩
end
theorem look_16 : (lookM (putM [] (kA 16) nilV) (kA 0)).isSome = false := by decide
set_option maxHeartbeats 4000000 in
set_option maxRecDepth 100000 in
theorem alive_walk (w : World) : Calls Try.prog 14 #[] w fun x w' => x = .returned (.bool true) ∧ Up w w' := by
  go_enter Try.func14, Try.ntmps14
  go_wp2_with fail
  refine (New_st (St.nil w)).mono ?_
  rintro x w1 ⟨e, rfl, hs⟩
  have HS1 := Lib.hid hs
  clear hs
  go_wp2_with fail
  refine (open_new HS1.out (by decide) (by decide) 0 (by decide) (by intro i hi; omega) (by decide)).mono ?_
  rintro x w2 ⟨rfl, hs⟩
  have HS2 := Lib.hid hs
  clear hs HS1
  go_wp2_with fail
  refine (open_new HS2.out (by decide) (by decide) 1 (by decide) (by intro i hi; obtain rfl : i = 0 := (by omega); decide) (by decide)).mono ?_
  rintro x w3 ⟨rfl, hs⟩
  have HS3 := Lib.hid hs
  clear hs HS2
  go_wp2_with fail
  refine (close_yes HS3.out 16 (by decide) (by decide)).mono ?_
  rintro x w4 ⟨rfl, hs⟩
  have HS4 := Lib.hid hs
  clear hs HS3
  go_wp2_with fail
  refine (open_new HS4.out (by decide) (by decide) 0 (by decide) (by intro i hi; omega) (by decide)).mono ?_
  rintro x w5 ⟨rfl, hs⟩
  have HU := Lib.hid hs.up
  clear hs HS4
  go_wp2
  go_ret
  exact ⟨rfl, HU.out⟩
end Go.Proofs.Ytdhgmnnkbjhpaaa.Eps
