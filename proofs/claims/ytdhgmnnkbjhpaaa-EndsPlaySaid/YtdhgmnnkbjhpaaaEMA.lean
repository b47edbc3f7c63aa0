/- EMA: the texts Ends1, Ends2, Ends3 in one (merge.py). -/
import Derived.Test.YtdhgmnnkbjhpaaaNmap
import Derived.Carry
import Derived.Deep.Cut
import Derived.Deep.QuietTactic
import Derived.Deep.LoopGhost
import Derived.BigQuiet
import Derived.Deep.RegionHeld3
import Derived.RegionTactic
import Derived.Below
import Derived.KernelRfl
import Derived.RowKit
import Derived.RowKit3
import Derived.WalkKit
import Derived.Tactics
import Derived.LoopTactic
/- The endpoints: the part of memory; New, Has, free, Open, Close; the chapter's example. -/
namespace Go.Proofs.Ytdhgmnnkbjhpaaa.Eps
set_option linter.unusedVariables false
set_option linter.unusedSimpArgs false
open Go.RowKit Go.Proofs.Ytdhgmnnkbjhpaaa.Sep Go.Proofs.Ytdhgmnnkbjhpaaa.Mp
open Go.Maps (Keyed)

theorem klawI : Keyed Try.prog 3 := Go.Maps.int_keyed Try.underlying3
theorem kofI {a : Int} (hw : (Lit.int .i64 a).wf = true) : keyOf Try.prog 3 (.int .i64 a) = some (.int .i64 a) := Go.Maps.keyOf_int_mk Try.underlying3 hw
theorem zrow (w : World) : (zeroValue 91).run Try.prog w = .ok (.slice none 0 0) w := by kernel_rfl
abbrev kA (a : Int) : Lit := .int .i64 a
def ends (e : Nat) (M : List Ent) : Rg := ex fun m : Nat => big [bk e 85 #[.map (some m)], mp 3 m M]
section
variable {P0 : Nat → Prop} {w0 w w' : World} {F : List Rg} {e : Nat} {M : List Ent}
theorem ends_any (h : St P0 w0 w (ends e M :: F)) : ∃ m, St P0 w0 w (bk e 85 #[.map (some m)] :: mp 3 m M :: F) := by
  obtain ⟨m, h2⟩ := h.ex_open
  exact ⟨m, h2.big_open⟩
theorem ends_shut {m : Nat} (h : St P0 w0 w (bk e 85 #[.map (some m)] :: mp 3 m M :: F)) : St P0 w0 w (ends e M :: F) := St.ex_shut m (St.big_shut (M := [_, _]) h)
theorem New_st (h : St P0 w0 w F) : Calls Try.prog 12 #[] w fun x w' => ∃ e, x = .returned (.pointer (some ⟨e, 0, none⟩)) ∧ St P0 w0 w' (ends e [] :: F) := by
  have hmm := @run_makeMap Try.prog
  have h1 := (mp_new 3 h).alloc #[.map (some w.heap.size)] 85
  rw [World.size_alloc] at h1
  have HS := Lib.hid (ends_shut h1)
  clear h h1
  go_enter Try.func12, Try.ntmps12
  go_wp2
  go_ret
  exact ⟨_, rfl, HS.out⟩
set_option maxHeartbeats 4000000 in
set_option maxRecDepth 100000 in
theorem Has_st (h : St P0 w0 w (ends e M :: F)) (a : Int) (wa : (Lit.int .i64 a).wf = true) : Calls Try.prog 18 #[.pointer (some ⟨e, 0, none⟩), .int .i64 a] w fun x w' =>
    x = .returned (.bool (lookM M (kA a)).isSome) ∧ Up w w' := by
  obtain ⟨m, h1⟩ := ends_any h
  have hl := mp_look (h1.get 1) klawI Try.underlying83 (zrow w) (kofI wa)
  have c0 : w.cell? ⟨e, 0, none⟩ = some (.map (some m)) := cell_of_block h1.bk_at 0
  generalize (lookM M (kA a)).isSome = b at *
  generalize (lookM M (kA a)).getD (.slice none 0 0) = v at *
  clear h h1 wa
  go_enter Try.func18, Try.ntmps18
  go_wp2
  go_ret
  exact ⟨rfl, Up.refl w⟩
set_option maxHeartbeats 4000000 in
set_option maxRecDepth 100000 in
theorem free_st (h : St P0 w0 w (ends e M :: F)) (j : Nat) (hj : j ≤ 100) (h1 : ∀ i < j, (lookM M (kA (16 + (i : Int)))).isSome = true) (h2 : (lookM M (kA (16 + (j : Int)))).isSome = false) :
    Calls Try.prog 41 #[.pointer (some ⟨e, 0, none⟩)] w fun x w' => x = .returned (.int .i64 (16 + (j : Int))) ∧ Up w w' := by
  have H1 := Lib.hid h1
  have H2 := Lib.hid h2
  have HS := Lib.hid h
  clear h h1 h2
  go_enter Try.func41, Try.ntmps41
  go_wp2
  go_loopg [3] j (fun gk v3 wx => ∃ i : Nat, Hid (i + gk = j) ∧ v3 = .int .i64 (16 + (i : Int)) ∧ Hid (Up w wx))
  case atStart => exact ⟨0, Lib.hid (Nat.zero_add _), rfl, Lib.hid (Up.refl w)⟩
  case round =>
    obtain ⟨i, HG, rfl, HU⟩ := hrel
    have hh := Has_st (HS.out.more HU.out) (16 + (i : Int)) (WalkArith.wf_i64 (by have := HG.out; omega))
    by_cases hij : i < j
    · rw [H1.out i hij] at hh
      have HH := Lib.hid hh
      have HN1 : Hid (i + 1 + (gk - 1) = j) := Lib.hid (by have := HG.out; omega)
      have HN2 : Hid (gk - 1 < gk) := Lib.hid (by have := HG.out; omega)
      have hi100 : i < 100 := by omega
      clear hh hij
      go_wp2_with fail
      refine HH.out.mono ?_
      rintro x w2 ⟨rfl, hu⟩
      have HU2 := Lib.hid (HU.out.trans hu)
      clear hu HU HH
      go_wp2_with fail
      go_roundg (gk - 1)
      case measure => exact HN2.out
      case rel => exact ⟨i + 1, HN1, by go_num, HU2⟩
    · have hij2 : i = j := by have := HG.out; omega
      rw [hij2, H2.out] at hh
      subst hij2
      have HH := Lib.hid hh
      clear hh hij
      go_wp2_with fail
      refine HH.out.mono ?_
      rintro x w2 ⟨rfl, hu⟩
      have HU2 := Lib.hid (HU.out.trans hu)
      clear hu HU HH
      go_wp2_with fail
      go_ret
      exact ⟨rfl, HU2.out⟩
end
end Go.Proofs.Ytdhgmnnkbjhpaaa.Eps

/- The endpoints: Open, Close; the chapter's example; endpoints that are nil. -/
namespace Go.Proofs.Ytdhgmnnkbjhpaaa.Eps
set_option linter.unusedVariables false
set_option linter.unusedSimpArgs false
open Go.RowKit Go.Proofs.Ytdhgmnnkbjhpaaa.Sep Go.Proofs.Ytdhgmnnkbjhpaaa.Mp
open Go.Maps (Keyed)
abbrev nilV : Value := .slice none 0 0
section
variable {P0 : Nat → Prop} {w0 w w' : World} {F : List Rg} {e : Nat} {M : List Ent}
set_option maxHeartbeats 4000000 in
set_option maxRecDepth 100000 in
theorem open_new (h : St P0 w0 w (ends e M :: F)) (hl : M.length < 32) (h0 : (lookM M (kA 0)).isSome = false) (j : Nat) (hj : j ≤ 100) (h1 : ∀ i < j, (lookM M (kA (16 + (i : Int)))).isSome = true) (h2 : (lookM M (kA (16 + (j : Int)))).isSome = false) :
    Calls Try.prog 19 #[.pointer (some ⟨e, 0, none⟩), .int .i64 0] w fun x w' => x = .returned (.tuple #[.int .i64 (16 + (j : Int)), .int .i64 0]) ∧ St P0 w0 w' (ends e (putM M (kA (16 + (j : Int))) nilV) :: F) := by
  have HS := Lib.hid h
  have HH := Lib.hid (fun (wx : World) (F : List Rg) (h : St P0 w0 wx (ends e M :: F)) => Has_st h 0 (by decide))
  rw [h0] at HH
  have HF := Lib.hid (fun (wx : World) (F : List Rg) (h : St P0 w0 wx (ends e M :: F)) => free_st h j hj h1 h2)
  have HLN := Lib.hid (fun (wx : World) (m : Nat) (F : List Rg) (h : St P0 w0 wx (mp 3 m M :: F)) (ty : TypeId) => mp_len h Try.underlying83 ty)
  have hl2 : ¬ 32 ≤ M.length := by omega
  have HML : Hid (M.length < 32) := Lib.hid hl
  have hj2 : (16 + (j : Int)) ≠ 0 := by omega
  obtain ⟨a, ha⟩ : ∃ a : Int, 16 + (j : Int) = a := ⟨_, rfl⟩
  have HWA : Hid ((Lit.int .i64 a).wf = true) := Lib.hid (WalkArith.wf_i64 (by omega))
  rw [ha] at HF ⊢
  clear h h0 h1 h2 hj hj2 ha hl
  go_enter Try.func19, Try.ntmps19
  go_wp2_with fail
  refine (HH.out _ _ HS.out).mono ?_
  rintro x w1 ⟨rfl, hu⟩
  have HS1 := Lib.hid (HS.out.more hu)
  clear hu HH HS
  obtain ⟨m, h4⟩ := ends_any HS1.out
  have c0 : w1.cell? ⟨e, 0, none⟩ = some (.map (some m)) := cell_of_block h4.bk_at 0
  have hlen := fun ty => HLN.out w1 m _ (h4.get 1) ty
  generalize M.length = n at hlen hl2
  clear h4
  go_wp2_with fail
  refine (HF.out _ _ HS1.out).mono ?_
  rintro x w2 ⟨rfl, hu⟩
  have HS2 := Lib.hid (HS1.out.more hu)
  clear hu HF HS1 c0 hlen
  obtain ⟨m2, h4⟩ := ends_any HS2.out
  have c0 : w2.cell? ⟨e, 0, none⟩ = some (.map (some m2)) := cell_of_block h4.bk_at 0
  have h5 := h4.get 1
  clear h4
  obtain ⟨wu, hu1, hu2, -⟩ := mp_store (v := nilV) h5 klawI Try.underlying83 (by have := HML.out; unfold maxLen; omega) (kofI HWA.out)
  have HSU : Hid (St P0 w0 wu (ends e (putM M (kA a) nilV) :: F)) := Lib.hid (ends_shut (hu2.get 1))
  clear hu2 h5 HS2
  go_wp2_with fail
  go_ret2
  exact ⟨rfl, HSU.out⟩
set_option maxHeartbeats 4000000 in
set_option maxRecDepth 100000 in
theorem open_full (h : St P0 w0 w (ends e M :: F)) (hl : 32 ≤ M.length) (h0 : (lookM M (kA 0)).isSome = false) :
    Calls Try.prog 19 #[.pointer (some ⟨e, 0, none⟩), .int .i64 0] w fun x w' => x = .returned (.tuple #[.int .i64 0, .int .i64 17]) ∧ St P0 w0 w' (ends e M :: F) := by
  have HS := Lib.hid h
  have HH := Lib.hid (fun (wx : World) (F : List Rg) (h : St P0 w0 wx (ends e M :: F)) => Has_st h 0 (by decide))
  rw [h0] at HH
  have HLN := Lib.hid (fun (wx : World) (m : Nat) (F : List Rg) (h : St P0 w0 wx (mp 3 m M :: F)) (ty : TypeId) => mp_len h Try.underlying83 ty)
  clear h h0
  go_enter Try.func19, Try.ntmps19
  go_wp2_with fail
  refine (HH.out _ _ HS.out).mono ?_
  rintro x w1 ⟨rfl, hu⟩
  have HS1 := Lib.hid (HS.out.more hu)
  clear hu HH HS
  obtain ⟨m, h4⟩ := ends_any HS1.out
  have c0 : w1.cell? ⟨e, 0, none⟩ = some (.map (some m)) := cell_of_block h4.bk_at 0
  have hlen := fun ty => HLN.out w1 m _ (h4.get 1) ty
  generalize M.length = n at hlen hl
  clear h4
  go_wp2_with fail
  go_ret2
  exact ⟨rfl, HS1.out⟩
set_option maxHeartbeats 4000000 in
set_option maxRecDepth 100000 in
theorem wrong_st (h : St P0 w0 w (ends e M :: F)) (a : Int) (wa : (Lit.int .i64 a).wf = true) : Calls Try.prog 55 #[.pointer (some ⟨e, 0, none⟩), .int .i64 a] w fun x w' =>
    x = .returned (.int .i64 (if (lookM M (kA a)).isSome = true then 0 else 4)) ∧ Up w w' := by
  have hh := Has_st h a wa
  generalize (lookM M (kA a)).isSome = b at *
  have HH := Lib.hid hh
  clear h hh wa
  cases b with
  | true =>
    go_enter Try.func55, Try.ntmps55
    go_wp2_with fail
    refine HH.out.mono ?_
    rintro x w1 ⟨rfl, hu⟩
    have HU := Lib.hid hu
    clear hu HH
    go_wp2_with fail
    go_ret
    exact ⟨rfl, HU.out⟩
  | false =>
    go_enter Try.func55, Try.ntmps55
    go_wp2_with fail
    refine HH.out.mono ?_
    rintro x w1 ⟨rfl, hu⟩
    have HU := Lib.hid hu
    clear hu HH
    go_wp2_with fail
    go_ret
    exact ⟨rfl, HU.out⟩
set_option maxHeartbeats 4000000 in
set_option maxRecDepth 100000 in
theorem close_yes (h : St P0 w0 w (ends e M :: F)) (a : Int) (wa : (Lit.int .i64 a).wf = true) (hs : (lookM M (kA a)).isSome = true) : Calls Try.prog 38 #[.pointer (some ⟨e, 0, none⟩), .int .i64 a] w fun x w' =>
    x = .returned (.int .i64 0) ∧ St P0 w0 w' (ends e (delM M (kA a)) :: F) := by
  have hh := wrong_st h a wa
  rw [hs, if_pos rfl] at hh
  have HH := Lib.hid hh
  have HS := Lib.hid h
  have HK := Lib.hid (kofI wa)
  clear h hh hs
  go_enter Try.func38, Try.ntmps38
  go_wp2_with fail
  refine HH.out.mono ?_
  rintro x w1 ⟨rfl, hu⟩
  obtain ⟨m, h4⟩ := ends_any (HS.out.more hu)
  have c0 : w1.cell? ⟨e, 0, none⟩ = some (.map (some m)) := cell_of_block h4.bk_at 0
  have HS1 := Lib.hid (h4.get 1)
  clear hu HH HS h4
  go_wp2_with (at_delete; refine St.delete HS1.out rfl _ _ _ rfl _ klawI Try.underlying83 rfl _ _ rfl HK.out ?_; intro w6 hst hsz; have HS6 := Lib.hid (ends_shut (hst.get 1)); clear hst hsz)
  go_ret
  exact ⟨rfl, HS6.out⟩
end
theorem look_16 : (lookM (putM [] (kA 16) nilV) (kA 0)).isSome = false := by decide
set_option maxHeartbeats 4000000 in
set_option maxRecDepth 100000 in
theorem alive_walk (w : World) : Calls Try.prog 14 #[] w fun x w' => x = .returned (.bool true) ∧ Up w w' := by
  go_enter Try.func14, Try.ntmps14
  go_wp2_with fail
  refine (New_st (St.nil w)).mono ?_
  rintro x w1 ⟨e, rfl, hs⟩
  have HS1 := Lib.hid hs
  clear hs
  go_wp2_with fail
  refine (open_new HS1.out (by decide) (by decide) 0 (by decide) (by intro i hi; omega) (by decide)).mono ?_
  rintro x w2 ⟨rfl, hs⟩
  have HS2 := Lib.hid hs
  clear hs HS1
  go_wp2_with fail
  refine (open_new HS2.out (by decide) (by decide) 1 (by decide) (by intro i hi; obtain rfl : i = 0 := (by omega); decide) (by decide)).mono ?_
  rintro x w3 ⟨rfl, hs⟩
  have HS3 := Lib.hid hs
  clear hs HS2
  go_wp2_with fail
  refine (close_yes HS3.out 16 (by decide) (by decide)).mono ?_
  rintro x w4 ⟨rfl, hs⟩
  have HS4 := Lib.hid hs
  clear hs HS3
  go_wp2_with fail
  refine (open_new HS4.out (by decide) (by decide) 0 (by decide) (by intro i hi; omega) (by decide)).mono ?_
  rintro x w5 ⟨rfl, hs⟩
  have HU := Lib.hid hs.up
  clear hs HS4
  go_wp2
  go_ret
  exact ⟨rfl, HU.out⟩
end Go.Proofs.Ytdhgmnnkbjhpaaa.Eps

/- Endpoints that are nil. -/
namespace Go.Proofs.Ytdhgmnnkbjhpaaa.Eps
set_option linter.unusedVariables false
set_option linter.unusedSimpArgs false
open Go.RowKit Go.Proofs.Ytdhgmnnkbjhpaaa.Sep Go.Proofs.Ytdhgmnnkbjhpaaa.Mp
abbrev zMsg : Value := .agg #[.int .i64 0, .int .i64 0, .int .i64 0, .slice none 0 0]
set_option maxRecDepth 100000 in
theorem Has_nil (a : Int) (w : World) : Calls Try.prog 18 #[.pointer none, .int .i64 a] w fun x w' => x = .returned (.bool false) ∧ w' = w := by
  go_enter Try.func18, Try.ntmps18
  go_wp2
  go_ret
  exact ⟨rfl, rfl⟩
set_option maxRecDepth 100000 in
theorem Waits_nil (a : Int) (w : World) : Calls Try.prog 16 #[.pointer none, .int .i64 a] w fun x w' => x = .returned (.int .i64 0) ∧ w' = w := by
  go_enter Try.func16, Try.ntmps16
  go_wp2
  go_ret
  exact ⟨rfl, rfl⟩
set_option maxRecDepth 100000 in
theorem List_nil (w : World) : Calls Try.prog 20 #[.pointer none] w fun x w' => x = .returned (.slice none 0 0) ∧ w' = w := by
  go_enter Try.func20, Try.ntmps20
  go_wp2
  go_ret
  exact ⟨rfl, rfl⟩
set_option maxRecDepth 100000 in
theorem Full_nil (a : Int) (w : World) : Calls Try.prog 35 #[.pointer none, .int .i64 a] w fun x w' => x = .returned (.bool false) ∧ w' = w := by
  go_enter Try.func35, Try.ntmps35
  go_wp2_with (go_at_call 16; refine (Waits_nil _ _).mono ?_; rintro x w1 ⟨rfl, rfl⟩)
  go_ret
  exact ⟨rfl, rfl⟩
set_option maxRecDepth 100000 in
theorem wrong_nil (a : Int) (w : World) : Calls Try.prog 55 #[.pointer none, .int .i64 a] w fun x w' => x = .returned (.int .i64 1) ∧ w' = w := by
  go_enter Try.func55, Try.ntmps55
  go_wp2
  go_ret
  exact ⟨rfl, rfl⟩
set_option maxRecDepth 100000 in
theorem Open_nil (a : Int) (w : World) : Calls Try.prog 19 #[.pointer none, .int .i64 a] w fun x w' => x = .returned (.tuple #[.int .i64 0, .int .i64 1]) ∧ w' = w := by
  go_enter Try.func19, Try.ntmps19
  go_wp2
  go_ret2
  exact ⟨rfl, rfl⟩
set_option maxRecDepth 100000 in
theorem Close_nil (a : Int) (w : World) : Calls Try.prog 38 #[.pointer none, .int .i64 a] w fun x w' => x = .returned (.int .i64 1) ∧ w' = w := by
  go_enter Try.func38, Try.ntmps38
  go_wp2_with (go_at_call 55; refine (wrong_nil _ _).mono ?_; rintro x w1 ⟨rfl, rfl⟩)
  go_ret
  exact ⟨rfl, rfl⟩
set_option maxRecDepth 100000 in
theorem Deliver_nil (b0 b1 b2 : Int) (A : Option Addr) (n c : Nat) (w : World) : Calls Try.prog 39 #[.pointer none, .agg #[.int .i64 b0, .int .i64 b1, .int .i64 b2, .slice A n c]] w fun x w' => x = .returned (.int .i64 1) ∧ Up w w' := by
  go_enter Try.func39, Try.ntmps39
  go_wp2
  go_ret
  exact ⟨rfl, (Up.refl w).alloc _⟩
set_option maxRecDepth 100000 in
theorem Take_nil (a : Int) (w : World) : Calls Try.prog 40 #[.pointer none, .int .i64 a] w fun x w' => x = .returned (.tuple #[zMsg, .int .i64 1]) ∧ Up w w' := by
  go_enter Try.func40, Try.ntmps40
  go_wp2_with (go_at_call 55; refine (wrong_nil _ _).mono ?_; rintro x w1 ⟨rfl, rfl⟩)
  (try simp only [Exit.inBlock, Exit.then])
  refine bodyPost_ret (v := .tuple #[zMsg, .int .i64 1]) ?_ rfl ⟨rfl, (Up.refl w).alloc _⟩
  rw [results_cell_tmp (fn := Try.f40) rfl]
  go_simp
set_option maxHeartbeats 2000000 in
set_option maxRecDepth 100000 in
theorem Same_zero (w : World) : Calls Try.prog 17 #[zMsg, zMsg] w fun x w' => x = .returned (.bool true) ∧ Up w w' := by
  go_enter Try.func17, Try.ntmps17
  go_wp2
  refine wp_loop_rounds 1 ?_
  rw [rounds_succ]
  go_wp2
  go_ret
  exact ⟨rfl, ((Up.refl w).alloc _).alloc _⟩
theorem results_tct {fn : Func} {u p v : Tmp} {ty : TypeId} (h : fn.results = #[.tmp u, .cell p ty, .tmp v]) (tmps : Array Value) (P : Program) (w : World) :
    (results fn tmps).run P w = ((asAddr (tmps.getD p undef)).run P w).andThen fun a w₁ => ((loadVar ty a).run P w₁).andThen fun x w₂ => .ok (.tuple #[tmps.getD u undef, x, tmps.getD v undef]) w₂ := by
  simp only [results, h]
  simp [Sem.run_bind, Result.andThen]
set_option maxHeartbeats 4000000 in
set_option maxRecDepth 100000 in
theorem do_nil (k a b0 b1 b2 : Int) (A : Option Addr) (n c : Nat) (w : World) : Calls Try.prog 15 #[.pointer none, .agg #[.int .i64 k, .int .i64 a, .int .i64 b0, .int .i64 b1, .int .i64 b2, .slice A n c]] w fun x w' => x = .returned (.tuple #[.int .i64 0, zMsg, .int .i64 1]) ∧ Up w w' := by
  have h0 := ((St.nil w).allocU (.cells #[.int .i64 k, .int .i64 a, .int .i64 b0, .int .i64 b1, .int .i64 b2, .slice A n c] 32)).alloc #[.int .i64 0, .int .i64 0, .int .i64 0, .slice none 0 0] 30
  rw [World.size_alloc] at h0
  have HS0 := Lib.hid h0
  clear h0
  rcases (by omega : k = 0 ∨ k = 1 ∨ k = 2 ∨ (k ≠ 0 ∧ k ≠ 1 ∧ k ≠ 2)) with rfl | rfl | rfl | ⟨h0, h1, h2⟩
  · go_enter Try.func15, Try.ntmps15
    go_wp2_with (go_at_call 19; refine (Open_nil _ _).mono ?_; rintro x w1 ⟨rfl, rfl⟩)
    (try simp only [Exit.inBlock, Exit.then])
    refine bodyPost_ret (v := .tuple #[.int .i64 0, zMsg, .int .i64 1]) ?_ rfl ⟨rfl, HS0.out.up⟩
    rw [results_tct (fn := Try.f15) rfl]
    go_simp
  · go_enter Try.func15, Try.ntmps15
    go_wp2_with (go_at_call 38; refine (Close_nil _ _).mono ?_; rintro x w1 ⟨rfl, rfl⟩)
    (try simp only [Exit.inBlock, Exit.then])
    refine bodyPost_ret (v := .tuple #[.int .i64 0, zMsg, .int .i64 1]) ?_ rfl ⟨rfl, HS0.out.up⟩
    rw [results_tct (fn := Try.f15) rfl]
    go_simp
  · go_enter Try.func15, Try.ntmps15
    go_wp2_with (go_at_call 39; refine (Deliver_nil _ _ _ _ _ _ _).mono ?_; rintro x w1 ⟨rfl, hu⟩; have h1 := HS0.out.more hu; have p0 : w1.cell? ⟨w.heap.size + 1, 0, none⟩ = some (.int .i64 0) := cell_of_block h1.bk_at 0; have p1 : w1.cell? ⟨w.heap.size + 1, 1, none⟩ = some (.int .i64 0) := cell_of_block h1.bk_at 1; have p2 : w1.cell? ⟨w.heap.size + 1, 2, none⟩ = some (.int .i64 0) := cell_of_block h1.bk_at 2; have p3 : w1.cell? ⟨w.heap.size + 1, 3, none⟩ = some (.slice none 0 0) := cell_of_block h1.bk_at 3; have f0 : w1.frozen? ⟨w.heap.size + 1, 0, none⟩ = false := free_of_block h1.bk_at 0; have f1 : w1.frozen? ⟨w.heap.size + 1, 1, none⟩ = false := free_of_block h1.bk_at 1; have f2 : w1.frozen? ⟨w.heap.size + 1, 2, none⟩ = false := free_of_block h1.bk_at 2; have f3 : w1.frozen? ⟨w.heap.size + 1, 3, none⟩ = false := free_of_block h1.bk_at 3; have HS1 := Lib.hid h1; clear h1 hu)
    (try simp only [Exit.inBlock, Exit.then])
    refine bodyPost_ret (v := .tuple #[.int .i64 0, zMsg, .int .i64 1]) ?_ rfl ⟨rfl, ((((HS1.out.set 0 (.int .i64 0)).set 1 (.int .i64 0)).set 2 (.int .i64 0)).set 3 (.slice none 0 0)).up⟩
    rw [results_tct (fn := Try.f15) rfl]
    go_simp
  · have e0 : (k == 0) = false := beq_eq_false_iff_ne.2 h0
    have e1 : (k == 1) = false := beq_eq_false_iff_ne.2 h1
    have e2 : (k == 2) = false := beq_eq_false_iff_ne.2 h2
    go_enter Try.func15, Try.ntmps15
    go_upto_region 10 with (go_at_call 40; refine (Take_nil _ _).mono ?_; rintro x w1 ⟨rfl, hu⟩; have h1 := HS0.out.more hu; have p0 : w1.cell? ⟨w.heap.size + 1, 0, none⟩ = some (.int .i64 0) := cell_of_block h1.bk_at 0; have p1 : w1.cell? ⟨w.heap.size + 1, 1, none⟩ = some (.int .i64 0) := cell_of_block h1.bk_at 1; have p2 : w1.cell? ⟨w.heap.size + 1, 2, none⟩ = some (.int .i64 0) := cell_of_block h1.bk_at 2; have p3 : w1.cell? ⟨w.heap.size + 1, 3, none⟩ = some (.slice none 0 0) := cell_of_block h1.bk_at 3; have f0 : w1.frozen? ⟨w.heap.size + 1, 0, none⟩ = false := free_of_block h1.bk_at 0; have f1 : w1.frozen? ⟨w.heap.size + 1, 1, none⟩ = false := free_of_block h1.bk_at 1; have f2 : w1.frozen? ⟨w.heap.size + 1, 2, none⟩ = false := free_of_block h1.bk_at 2; have f3 : w1.frozen? ⟨w.heap.size + 1, 3, none⟩ = false := free_of_block h1.bk_at 3; have HS1 := Lib.hid h1; clear h1 hu)
    have lp := World.block_lt_of_cell? w1 _ p0
    go_region
    all_goals
      go_wp2
      (try simp only [Exit.inBlock, Exit.then])
      refine bodyPost_ret (v := .tuple #[.int .i64 0, zMsg, .int .i64 1]) ?_ rfl ⟨rfl, ?_⟩
      · rw [results_tct (fn := Try.f15) rfl]
        go_simp
      · exact (((((HS1.out.set 0 (.int .i64 0)).set 1 (.int .i64 0)).set 2 (.int .i64 0)).set 3 (.slice none 0 0)).up.alloc _).drew
set_option maxHeartbeats 4000000 in
set_option maxRecDepth 100000 in
theorem nobody_walk (k a b0 b1 b2 : Int) (A : Option Addr) (n c : Nat) (w : World) : Calls Try.prog 11 #[.agg #[.int .i64 k, .int .i64 a, .int .i64 b0, .int .i64 b1, .int .i64 b2, .slice A n c]] w fun x w' => x = .returned (.bool true) ∧ Up w w' := by
  have HU0 := Lib.hid ((Up.refl w).alloc (.cells #[.int .i64 k, .int .i64 a, .int .i64 b0, .int .i64 b1, .int .i64 b2, .slice A n c] 32))
  by_cases hn : n ≤ 50
  · have g1 : decide ((50 : Int) < (n : Int)) = false := decide_eq_false (by omega)
    have HD := Lib.hid (do_nil k a b0 b1 b2 A n c)
    have c1 : (w.alloc (.cells #[.int .i64 k, .int .i64 a, .int .i64 b0, .int .i64 b1, .int .i64 b2, .slice A n c] 32)).cell? ⟨w.heap.size, 1, none⟩ = some (.int .i64 a) := cell_of_block (block_new w _) 1
    have HC := Lib.hid c1
    clear c1
    go_enter Try.func11, Try.ntmps11
    go_wp2_with (first
      | (go_at_call 15; refine (HD.out _).mono ?_; rintro x w1 ⟨rfl, hu⟩; have q1 : w1.cell? ⟨w.heap.size, 1, none⟩ = some (.int .i64 a) := cell_up hu HC.out; have lq := World.block_lt_of_cell? w1 _ q1; have HU1 := Lib.hid ((HU0.out.trans hu).alloc (.cells #[.int .i64 0, .int .i64 0, .int .i64 0, .slice none 0 0] 30)); have HQ := Lib.hid (cell_up ((Up.refl w1).alloc (.cells #[.int .i64 0, .int .i64 0, .int .i64 0, .slice none 0 0] 30)) q1); clear hu)
      | (go_at_call 17; refine (Same_zero _).mono ?_; rintro x w2 ⟨rfl, hu⟩; have q2 : w2.cell? ⟨w.heap.size, 1, none⟩ = some (.int .i64 a) := cell_up hu HQ.out; have HU2 := Lib.hid (HU1.out.trans hu); clear hu)
      | (go_at_call 18; refine (Has_nil _ _).mono ?_; rintro x w3 ⟨rfl, rfl⟩)
      | (go_at_call 20; refine (List_nil _).mono ?_; rintro x w3 ⟨rfl, rfl⟩)
      | (go_at_call 16; refine (Waits_nil _ _).mono ?_; rintro x w3 ⟨rfl, rfl⟩)
      | (go_at_call 35; refine (Full_nil _ _).mono ?_; rintro x w3 ⟨rfl, rfl⟩)
      | (go_at_call 14; refine (alive_walk _).mono ?_; rintro x w6 ⟨rfl, hu⟩; have HU6 := Lib.hid (HU2.out.trans hu); clear hu))
    go_ret
    exact ⟨rfl, HU6.out⟩
  · have g1 : decide ((50 : Int) < (n : Int)) = true := decide_eq_true (by omega)
    go_enter Try.func11, Try.ntmps11
    go_wp2_with (go_at_call 14; refine (alive_walk _).mono ?_; rintro x w6 ⟨rfl, hu⟩; have HU6 := Lib.hid (HU0.out.trans hu); clear hu)
    go_ret
    exact ⟨rfl, HU6.out⟩
end Go.Proofs.Ytdhgmnnkbjhpaaa.Eps
