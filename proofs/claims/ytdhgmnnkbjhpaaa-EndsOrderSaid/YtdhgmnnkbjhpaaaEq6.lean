/- do of the laws of endpoints, told exactly; written by mkeq.py. -/
import Derived.Test.YtdhgmnnkbjhpaaaEq5
namespace Go.Proofs.Ytdhgmnnkbjhpaaa.Epx
set_option linter.unusedVariables false
set_option linter.unusedSimpArgs false
open Go.RowKit Go.Proofs.Ytdhgmnnkbjhpaaa.Sep Go.Proofs.Ytdhgmnnkbjhpaaa.Mp Go.Proofs.Ytdhgmnnkbjhpaaa.Given Go.Proofs.YtdhgmnnkbjhpaaaW.PrintWords Go.Proofs.Ytdhgmnnkbjhpaaa.Eps
def DoX (P0 : Nat → Prop) (w0 : World) (F : List Rg) (e : Nat) (r : List EL × Int × MS × Int) (x : Ending) (w' : World) : Prop := ∃ A c, x = .returned (.tuple #[.int .i64 r.2.1, mval r.2.2.1.a0 r.2.2.1.a1 r.2.2.1.a2 A r.2.2.1.b.length c, .int .i64 r.2.2.2]) ∧ St P0 w0 w' (ep e r.1 :: mpf r.2.2.1 (A, c) :: F)
section
variable {P0 : Nat → Prop} {w0 w w' : World} {F : List Rg} {e : Nat} {L : List EL}
theorem nil_wordsx (h : St P0 w0 w (ep e L :: F)) : St P0 w0 w (ep e L :: mpf m0 (none, 0) :: F) :=
  (St.fresh (M := [mpf m0 (none, 0)]) h (Up.refl _) ⟨No, No, fun _ e => e.elim, fun _ e => e.elim, fun _ e => e.elim, slc_nil _ _ _ _, trivial⟩).get 1
theorem doL0 (L : List EL) (a : Int) (m : MS) : doL L 0 a m = ((openL L a).1, (openL L a).2.1, m0, (openL L a).2.2) := if_pos rfl
theorem doL1 (L : List EL) (a : Int) (m : MS) : doL L 1 a m = ((closeL L a).1, 0, m0, (closeL L a).2) := by
  unfold doL
  rw [if_neg (by decide), if_pos rfl]
theorem doL2 (L : List EL) (a : Int) (m : MS) : doL L 2 a m = ((delivL L m).1, 0, m0, (delivL L m).2) := by
  unfold doL
  rw [if_neg (by decide), if_neg (by decide), if_pos rfl]
theorem doL3 (L : List EL) {k : Int} (a : Int) (m : MS) (h0 : k ≠ 0) (h1 : k ≠ 1) (h2 : k ≠ 2) : doL L k a m = ((takeL L a).1, 0, (takeL L a).2.1, (takeL L a).2.2) := by
  unfold doL
  rw [if_neg h0, if_neg h1, if_neg h2]
set_option maxHeartbeats 16000000 in
set_option maxRecDepth 100000 in
theorem do_x (h : St P0 w0 w (ep e L :: F)) (k a b0 b1 b2 : Int) {A : Option Addr} {c : Nat} {l : List Int} (hr : Kd.C (Kd.int .i64) w A l.length l) (hc : l.length ≤ c) (hb : l.length ≤ 1000) (wa : (Lit.int .i64 a).wf = true) (wb : (Lit.int .i64 b1).wf = true) :
    Calls Try.prog 15 #[.pointer (some ⟨e, 0, none⟩), .agg #[.int .i64 k, .int .i64 a, .int .i64 b0, .int .i64 b1, .int .i64 b2, .slice A l.length c]] w fun x w' =>
      DoX P0 w0 F e (doL L k a ⟨b0, b1, b2, l⟩) x w' := by
  have h0 := (h.allocU (.cells #[.int .i64 k, .int .i64 a, .int .i64 b0, .int .i64 b1, .int .i64 b2, .slice A l.length c] 32)).alloc #[.int .i64 0, .int .i64 0, .int .i64 0, .slice none 0 0] 30
  rw [World.size_alloc] at h0
  have h2 := h0.get 1
  have hu := ((Up.refl w).alloc (.cells #[.int .i64 k, .int .i64 a, .int .i64 b0, .int .i64 b1, .int .i64 b2, .slice A l.length c] 32)).alloc (.cells #[.int .i64 0, .int .i64 0, .int .i64 0, .slice none 0 0] 30)
  have HO := Lib.hid (Open_x h2 a wa)
  have HC := Lib.hid (Close_x h2 a wa)
  have HD := Lib.hid (Deliver_x h2 b0 b1 b2 (Kd.C_below hr hu) hc hb wb)
  have HT := Lib.hid (Take_x h2 a wa)
  generalize l.length = nl at *
  clear h h0 h2 hu hr hc hb
  have HD0 := Lib.hid (doL0 L a ⟨b0, b1, b2, l⟩)
  have HD1 := Lib.hid (doL1 L a ⟨b0, b1, b2, l⟩)
  have HD2 := Lib.hid (doL2 L a ⟨b0, b1, b2, l⟩)
  have HD3 := Lib.hid (fun h0 h1 h2 => doL3 L (k := k) a ⟨b0, b1, b2, l⟩ h0 h1 h2)
  rcases (by omega : k = 0 ∨ k = 1 ∨ k = 2 ∨ (k ≠ 0 ∧ k ≠ 1 ∧ k ≠ 2)) with rfl | rfl | rfl | ⟨h0, h1, h2⟩
  · rw [HD0.out]
    generalize openL L a = r at *
    obtain ⟨L', a', f⟩ := r
    dsimp only at *
    clear HD0 HD1 HD2 HD3
    go_enter Try.func15, Try.ntmps15
    go_wp2_with fail
    refine HO.out.mono ?_
    rintro x w1 ⟨rfl, h1⟩
    have hb := h1.get 1
    have p0 : w1.cell? ⟨w.heap.size + 1, 0, none⟩ = some (.int .i64 0) := cell_of_block hb.bk_at 0
    have p1 : w1.cell? ⟨w.heap.size + 1, 1, none⟩ = some (.int .i64 0) := cell_of_block hb.bk_at 1
    have p2 : w1.cell? ⟨w.heap.size + 1, 2, none⟩ = some (.int .i64 0) := cell_of_block hb.bk_at 2
    have p3 : w1.cell? ⟨w.heap.size + 1, 3, none⟩ = some (.slice none 0 0) := cell_of_block hb.bk_at 3
    have f0 : w1.frozen? ⟨w.heap.size + 1, 0, none⟩ = false := free_of_block hb.bk_at 0
    have f1 : w1.frozen? ⟨w.heap.size + 1, 1, none⟩ = false := free_of_block hb.bk_at 1
    have f2 : w1.frozen? ⟨w.heap.size + 1, 2, none⟩ = false := free_of_block hb.bk_at 2
    have f3 : w1.frozen? ⟨w.heap.size + 1, 3, none⟩ = false := free_of_block hb.bk_at 3
    have HS1 := Lib.hid hb
    clear hb h1
    go_wp2_with fail
    (try simp only [Exit.inBlock, Exit.then])
    refine bodyPost_ret (v := .tuple #[.int .i64 a', mval 0 0 0 none 0 0, .int .i64 f]) ?_ rfl ?_
    · rw [results_tct (fn := Try.f15) rfl]
      go_simp
    · unfold DoX
      exact ⟨none, 0, rfl, nil_wordsx (((((HS1.out.set 0 (.int .i64 0)).set 1 (.int .i64 0)).set 2 (.int .i64 0)).set 3 (.slice none 0 0)).drop)⟩
  · rw [HD1.out]
    generalize closeL L a = r at *
    obtain ⟨L', f⟩ := r
    dsimp only at *
    clear HD0 HD1 HD2 HD3
    go_enter Try.func15, Try.ntmps15
    go_wp2_with fail
    refine HC.out.mono ?_
    rintro x w1 ⟨rfl, h1⟩
    have hb := h1.get 1
    have p0 : w1.cell? ⟨w.heap.size + 1, 0, none⟩ = some (.int .i64 0) := cell_of_block hb.bk_at 0
    have p1 : w1.cell? ⟨w.heap.size + 1, 1, none⟩ = some (.int .i64 0) := cell_of_block hb.bk_at 1
    have p2 : w1.cell? ⟨w.heap.size + 1, 2, none⟩ = some (.int .i64 0) := cell_of_block hb.bk_at 2
    have p3 : w1.cell? ⟨w.heap.size + 1, 3, none⟩ = some (.slice none 0 0) := cell_of_block hb.bk_at 3
    have f0 : w1.frozen? ⟨w.heap.size + 1, 0, none⟩ = false := free_of_block hb.bk_at 0
    have f1 : w1.frozen? ⟨w.heap.size + 1, 1, none⟩ = false := free_of_block hb.bk_at 1
    have f2 : w1.frozen? ⟨w.heap.size + 1, 2, none⟩ = false := free_of_block hb.bk_at 2
    have f3 : w1.frozen? ⟨w.heap.size + 1, 3, none⟩ = false := free_of_block hb.bk_at 3
    have HS1 := Lib.hid hb
    clear hb h1
    go_wp2_with fail
    (try simp only [Exit.inBlock, Exit.then])
    refine bodyPost_ret (v := .tuple #[.int .i64 0, mval 0 0 0 none 0 0, .int .i64 f]) ?_ rfl ?_
    · rw [results_tct (fn := Try.f15) rfl]
      go_simp
    · unfold DoX
      exact ⟨none, 0, rfl, nil_wordsx (((((HS1.out.set 0 (.int .i64 0)).set 1 (.int .i64 0)).set 2 (.int .i64 0)).set 3 (.slice none 0 0)).drop)⟩
  · rw [HD2.out]
    generalize delivL L _ = r at *
    obtain ⟨L', f⟩ := r
    dsimp only at *
    clear HD0 HD1 HD2 HD3
    go_enter Try.func15, Try.ntmps15
    go_wp2_with fail
    refine HD.out.mono ?_
    rintro x w1 ⟨rfl, h1⟩
    have hb := h1.get 1
    have p0 : w1.cell? ⟨w.heap.size + 1, 0, none⟩ = some (.int .i64 0) := cell_of_block hb.bk_at 0
    have p1 : w1.cell? ⟨w.heap.size + 1, 1, none⟩ = some (.int .i64 0) := cell_of_block hb.bk_at 1
    have p2 : w1.cell? ⟨w.heap.size + 1, 2, none⟩ = some (.int .i64 0) := cell_of_block hb.bk_at 2
    have p3 : w1.cell? ⟨w.heap.size + 1, 3, none⟩ = some (.slice none 0 0) := cell_of_block hb.bk_at 3
    have f0 : w1.frozen? ⟨w.heap.size + 1, 0, none⟩ = false := free_of_block hb.bk_at 0
    have f1 : w1.frozen? ⟨w.heap.size + 1, 1, none⟩ = false := free_of_block hb.bk_at 1
    have f2 : w1.frozen? ⟨w.heap.size + 1, 2, none⟩ = false := free_of_block hb.bk_at 2
    have f3 : w1.frozen? ⟨w.heap.size + 1, 3, none⟩ = false := free_of_block hb.bk_at 3
    have HS1 := Lib.hid hb
    clear hb h1
    go_wp2_with fail
    (try simp only [Exit.inBlock, Exit.then])
    refine bodyPost_ret (v := .tuple #[.int .i64 0, mval 0 0 0 none 0 0, .int .i64 f]) ?_ rfl ?_
    · rw [results_tct (fn := Try.f15) rfl]
      go_simp
    · unfold DoX
      exact ⟨none, 0, rfl, nil_wordsx (((((HS1.out.set 0 (.int .i64 0)).set 1 (.int .i64 0)).set 2 (.int .i64 0)).set 3 (.slice none 0 0)).drop)⟩
  · rw [HD3.out h0 h1 h2]
    generalize takeL L a = r at *
    obtain ⟨L', ⟨a0, a1, a2, l2⟩, f⟩ := r
    dsimp only at *
    obtain ⟨n2, hn2⟩ : ∃ n, l2.length = n := ⟨_, rfl⟩
    rw [hn2] at HT
    have HN2 := Lib.hid hn2
    clear hn2
    have e0 : (k == 0) = false := beq_eq_false_iff_ne.2 h0
    have e1 : (k == 1) = false := beq_eq_false_iff_ne.2 h1
    have e2 : (k == 2) = false := beq_eq_false_iff_ne.2 h2
    clear h0 h1 h2 HD0 HD1 HD2 HD3
    go_enter Try.func15, Try.ntmps15
    go_upto_region 10 with (go_at_call 40; refine HT.out.mono ?_; rintro x w1 ⟨A2, c2, rfl, h1⟩; have hb := h1.get 2; have p0 : w1.cell? ⟨w.heap.size + 1, 0, none⟩ = some (.int .i64 0) := cell_of_block hb.bk_at 0; have p1 : w1.cell? ⟨w.heap.size + 1, 1, none⟩ = some (.int .i64 0) := cell_of_block hb.bk_at 1; have p2 : w1.cell? ⟨w.heap.size + 1, 2, none⟩ = some (.int .i64 0) := cell_of_block hb.bk_at 2; have p3 : w1.cell? ⟨w.heap.size + 1, 3, none⟩ = some (.slice none 0 0) := cell_of_block hb.bk_at 3; have f0 : w1.frozen? ⟨w.heap.size + 1, 0, none⟩ = false := free_of_block hb.bk_at 0; have f1 : w1.frozen? ⟨w.heap.size + 1, 1, none⟩ = false := free_of_block hb.bk_at 1; have f2 : w1.frozen? ⟨w.heap.size + 1, 2, none⟩ = false := free_of_block hb.bk_at 2; have f3 : w1.frozen? ⟨w.heap.size + 1, 3, none⟩ = false := free_of_block hb.bk_at 3; have HS1 := Lib.hid hb; clear hb h1)
    have lp := World.block_lt_of_cell? w1 _ p0
    go_region
    all_goals
      go_wp2
      (try simp only [Exit.inBlock, Exit.then])
      refine bodyPost_ret (v := .tuple #[.int .i64 0, mval a0 a1 a2 A2 n2 c2, .int .i64 f]) ?_ rfl ?_
      · rw [results_tct (fn := Try.f15) rfl]
        go_simp
      · unfold DoX
        have en := HN2.out
        exact ⟨A2, c2, by dsimp only; rw [en], ((((((HS1.out.set 0 (.int .i64 a0)).set 1 (.int .i64 a1)).set 2 (.int .i64 a2)).set 3 (.slice A2 n2 c2)).drop).allocU _).drew⟩
end
end Go.Proofs.Ytdhgmnnkbjhpaaa.Epx
