/- The endpoints: the part of memory; New, Has, free, Open, Close; the chapter's example. -/
import Derived.Test.YtdhgmnnkbjhpaaaNmap
import Derived.Carry
import Derived.Deep.Cut
import Derived.Deep.QuietTactic
import Derived.Deep.LoopGhost
import Derived.BigQuiet
import Derived.Deep.RegionHeld3
import Derived.RegionTactic
import Derived.Below
import Derived.KernelRfl
import Derived.RowKit
import Derived.RowKit3
import Derived.WalkKit
import Derived.Tactics
namespace Go.Proofs.Ytdhgmnnkbjhpaaa.Eps
set_option linter.unusedVariables false
set_option linter.unusedSimpArgs false
open Go.RowKit Go.Proofs.Ytdhgmnnkbjhpaaa.Sep Go.Proofs.Ytdhgmnnkbjhpaaa.Mp
open Go.Maps (Keyed)

theorem klawI : Keyed Try.prog 3 := Go.Maps.int_keyed Try.underlying3
theorem kofI {a : Int} (hw : (Lit.int .i64 a).wf = true) : keyOf Try.prog 3 (.int .i64 a) = some (.int .i64 a) := Go.Maps.keyOf_int_mk Try.underlying3 hw
theorem zrow (w : World) : (zeroValue 91).run Try.prog w = .ok (.slice none 0 0) w := by kernel_rfl
abbrev kA (a : Int) : Lit := .int .i64 a
def ends (e : Nat) (M : List Ent) : Rg := ex fun m : Nat => big [bk e 85 #[.map (some m)], mp 3 m M]
section
variable {P0 : Nat → Prop} {w0 w w' : World} {F : List Rg} {e : Nat} {M : List Ent}
theorem ends_any (h : St P0 w0 w (ends e M :: F)) : ∃ m, St P0 w0 w (bk e 85 #[.map (some m)] :: mp 3 m M :: F) := by
  obtain ⟨m, h2⟩ := h.ex_open
  exact ⟨m, h2.big_open⟩
theorem ends_shut {m : Nat} (h : St P0 w0 w (bk e 85 #[.map (some m)] :: mp 3 m M :: F)) : St P0 w0 w (ends e M :: F) := St.ex_shut m (St.big_shut (M := [_, _]) h)
theorem New_st (h : St P0 w0 w F) : Calls Try.prog 12 #[] w fun x w' => ∃ e, x = .returned (.pointer (some ⟨e, 0, none⟩)) ∧ St P0 w0 w' (ends e [] :: F) := by
  have hmm := @run_makeMap Try.prog
  have h1 := (mp_new 3 h).alloc #[.map (some w.heap.size)] 85
  rw [World.size_alloc] at h1
  have HS := Lib.hid (ends_shut h1)
  clear h h1
  go_enter Try.func12, Try.ntmps12
  go_wp2
  go_ret
  exact ⟨_, rfl, HS.out⟩
set_option maxHeartbeats 4000000 in
set_option maxRecDepth 100000 in
theorem Has_st (h : St P0 w0 w (ends e M :: F)) (a : Int) (wa : (Lit.int .i64 a).wf = true) : Calls Try.prog 18 #[.pointer (some ⟨e, 0, none⟩), .int .i64 a] w fun x w' =>
    x = .returned (.bool (lookM M (kA a)).isSome) ∧ Up w w' := by
  obtain ⟨m, h1⟩ := ends_any h
  have hl := mp_look (h1.get 1) klawI Try.underlying83 (zrow w) (kofI wa)
  have c0 : w.cell? ⟨e, 0, none⟩ = some (.map (some m)) := cell_of_block h1.bk_at 0
  generalize (lookM M (kA a)).isSome = b at *
  generalize (lookM M (kA a)).getD (.slice none 0 0) = v at *
  clear h h1 wa
  go_enter Try.func18, Try.ntmps18
  go_wp2
  go_ret
  exact ⟨rfl, Up.refl w⟩
set_option maxHeartbeats 4000000 in
set_option maxRecDepth 100000 in
theorem free_st (h : St P0 w0 w (ends e M :: F)) (j : Nat) (hj : j ≤ 100) (h1 : ∀ i < j, (lookM M (kA (16 + (i : Int)))).isSome = true) (h2 : (lookM M (kA (16 + (j : Int)))).isSome = false) :
    Calls Try.prog 41 #[.pointer (some ⟨e, 0, none⟩)] w fun x w' => x = .returned (.int .i64 (16 + (j : Int))) ∧ Up w w' := by
  have H1 := Lib.hid h1
  have H2 := Lib.hid h2
  have HS := Lib.hid h
  clear h h1 h2
  go_enter Try.func41, Try.ntmps41
  go_wp2
  go_loopg [3] j (fun gk v3 wx => ∃ i : Nat, Hid (i + gk = j) ∧ v3 = .int .i64 (16 + (i : Int)) ∧ Hid (Up w wx))
  case atStart => exact ⟨0, Lib.hid (Nat.zero_add _), rfl, Lib.hid (Up.refl w)⟩
  case round =>
    obtain ⟨i, HG, rfl, HU⟩ := hrel
    have hh := Has_st (HS.out.more HU.out) (16 + (i : Int)) (WalkArith.wf_i64 (by have := HG.out; omega))
    by_cases hij : i < j
    · rw [H1.out i hij] at hh
      have HH := Lib.hid hh
      have HN1 : Hid (i + 1 + (gk - 1) = j) := Lib.hid (by have := HG.out; omega)
      have HN2 : Hid (gk - 1 < gk) := Lib.hid (by have := HG.out; omega)
      have hi100 : i < 100 := by omega
      clear hh hij
      go_wp2_with fail
      refine HH.out.mono ?_
      rintro x w2 ⟨rfl, hu⟩
      have HU2 := Lib.hid (HU.out.trans hu)
      clear hu HU HH
      go_wp2_with fail
      go_roundg (gk - 1)
      case measure => exact HN2.out
      case rel => exact ⟨i + 1, HN1, by go_num, HU2⟩
    · have hij2 : i = j := by have := HG.out; omega
      rw [hij2, H2.out] at hh
      subst hij2
      have HH := Lib.hid hh
      clear hh hij
      go_wp2_with fail
      refine HH.out.mono ?_
      rintro x w2 ⟨rfl, hu⟩
      have HU2 := Lib.hid (HU.out.trans hu)
      clear hu HU HH
      go_wp2_with fail
      go_ret
      exact ⟨rfl, HU2.out⟩
end
end Go.Proofs.Ytdhgmnnkbjhpaaa.Eps
