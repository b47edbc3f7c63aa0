/- do of the laws of endpoints. -/
import Derived.Test.YtdhgmnnkbjhpaaaEap5
import Derived.Test.YtdhgmnnkbjhpaaaEnds3
namespace Go.Proofs.Ytdhgmnnkbjhpaaa.Eps
set_option linter.unusedVariables false
set_option linter.unusedSimpArgs false
open Go.RowKit Go.Proofs.Ytdhgmnnkbjhpaaa.Sep Go.Proofs.Ytdhgmnnkbjhpaaa.Mp Go.Proofs.Ytdhgmnnkbjhpaaa.Given Go.Proofs.YtdhgmnnkbjhpaaaW.PrintWords
def DoP (P0 : Nat → Prop) (w0 : World) (F : List Rg) (e : Nat) (E : List EP) (k a b1 : Int) (x : Ending) (w' : World) : Prop := ∃ a' m0 m1 m2 mA mn mc f E', x = .returned (.tuple #[.int .i64 a', mval m0 m1 m2 mA mn mc, .int .i64 f]) ∧ St P0 w0 w' (eps e E' :: F) ∧ ∀ b, b ≠ (if k = 0 then a' else if k = 2 then b1 else a) → findE E' b = findE E b
section
variable {P0 : Nat → Prop} {w0 w w' : World} {F : List Rg} {e : Nat} {E : List EP}
set_option maxHeartbeats 16000000 in
set_option maxRecDepth 100000 in
theorem do_q (h : St P0 w0 w (eps e E :: F)) (k a b0 b1 b2 : Int) {A : Option Addr} {c : Nat} {l : List Int} (hr : Kd.C (Kd.int .i64) w A l.length l) (hc : l.length ≤ c) (hb : l.length ≤ 1000) (wa : (Lit.int .i64 a).wf = true) (wb : (Lit.int .i64 b1).wf = true) :
    Calls Try.prog 15 #[.pointer (some ⟨e, 0, none⟩), .agg #[.int .i64 k, .int .i64 a, .int .i64 b0, .int .i64 b1, .int .i64 b2, .slice A l.length c]] w fun x w' =>
      DoP P0 w0 F e E k a b1 x w' := by
  have h0 := (h.allocU (.cells #[.int .i64 k, .int .i64 a, .int .i64 b0, .int .i64 b1, .int .i64 b2, .slice A l.length c] 32)).alloc #[.int .i64 0, .int .i64 0, .int .i64 0, .slice none 0 0] 30
  rw [World.size_alloc] at h0
  have h2 := h0.get 1
  have hu := ((Up.refl w).alloc (.cells #[.int .i64 k, .int .i64 a, .int .i64 b0, .int .i64 b1, .int .i64 b2, .slice A l.length c] 32)).alloc (.cells #[.int .i64 0, .int .i64 0, .int .i64 0, .slice none 0 0] 30)
  have HO := Lib.hid (Open_q h2 a wa)
  have HC := Lib.hid (Close_q h2 a wa)
  have HD := Lib.hid (Deliver_q h2 b0 b1 b2 (Kd.C_below hr hu) hc hb wb)
  have HT := Lib.hid (Take_q h2 a wa)
  generalize l.length = nl at *
  clear h h0 h2 hu hr hc hb
  rcases (by omega : k = 0 ∨ k = 1 ∨ k = 2 ∨ (k ≠ 0 ∧ k ≠ 1 ∧ k ≠ 2)) with rfl | rfl | rfl | ⟨h0, h1, h2⟩
  · go_enter Try.func15, Try.ntmps15
    go_wp2_with fail
    refine HO.out.mono ?_
    rintro x w1 ⟨a', f, E', rfl, h1, hfd⟩
    have hb := h1.get 1
    have p0 : w1.cell? ⟨w.heap.size + 1, 0, none⟩ = some (.int .i64 0) := cell_of_block hb.bk_at 0
    have p1 : w1.cell? ⟨w.heap.size + 1, 1, none⟩ = some (.int .i64 0) := cell_of_block hb.bk_at 1
    have p2 : w1.cell? ⟨w.heap.size + 1, 2, none⟩ = some (.int .i64 0) := cell_of_block hb.bk_at 2
    have p3 : w1.cell? ⟨w.heap.size + 1, 3, none⟩ = some (.slice none 0 0) := cell_of_block hb.bk_at 3
    have f0 : w1.frozen? ⟨w.heap.size + 1, 0, none⟩ = false := free_of_block hb.bk_at 0
    have f1 : w1.frozen? ⟨w.heap.size + 1, 1, none⟩ = false := free_of_block hb.bk_at 1
    have f2 : w1.frozen? ⟨w.heap.size + 1, 2, none⟩ = false := free_of_block hb.bk_at 2
    have f3 : w1.frozen? ⟨w.heap.size + 1, 3, none⟩ = false := free_of_block hb.bk_at 3
    have HS1 := Lib.hid hb
    have HFD := Lib.hid hfd
    clear hb h1 hfd
    go_wp2_with fail
    (try simp only [Exit.inBlock, Exit.then])
    refine bodyPost_ret (v := .tuple #[.int .i64 a', mval 0 0 0 none 0 0, .int .i64 f]) ?_ rfl ?_
    · rw [results_tct (fn := Try.f15) rfl]
      go_simp
    · unfold DoP
      exact ⟨a', _, _, _, _, _, _, f, E', rfl, ((((HS1.out.set 0 (.int .i64 0)).set 1 (.int .i64 0)).set 2 (.int .i64 0)).set 3 (.slice none 0 0)).drop, fun b hb => HFD.out b (by simpa using hb)⟩
  · go_enter Try.func15, Try.ntmps15
    go_wp2_with fail
    refine HC.out.mono ?_
    rintro x w1 ⟨f, E', rfl, h1, hfd⟩
    have hb := h1.get 1
    have p0 : w1.cell? ⟨w.heap.size + 1, 0, none⟩ = some (.int .i64 0) := cell_of_block hb.bk_at 0
    have p1 : w1.cell? ⟨w.heap.size + 1, 1, none⟩ = some (.int .i64 0) := cell_of_block hb.bk_at 1
    have p2 : w1.cell? ⟨w.heap.size + 1, 2, none⟩ = some (.int .i64 0) := cell_of_block hb.bk_at 2
    have p3 : w1.cell? ⟨w.heap.size + 1, 3, none⟩ = some (.slice none 0 0) := cell_of_block hb.bk_at 3
    have f0 : w1.frozen? ⟨w.heap.size + 1, 0, none⟩ = false := free_of_block hb.bk_at 0
    have f1 : w1.frozen? ⟨w.heap.size + 1, 1, none⟩ = false := free_of_block hb.bk_at 1
    have f2 : w1.frozen? ⟨w.heap.size + 1, 2, none⟩ = false := free_of_block hb.bk_at 2
    have f3 : w1.frozen? ⟨w.heap.size + 1, 3, none⟩ = false := free_of_block hb.bk_at 3
    have HS1 := Lib.hid hb
    have HFD := Lib.hid hfd
    clear hb h1 hfd
    go_wp2_with fail
    (try simp only [Exit.inBlock, Exit.then])
    refine bodyPost_ret (v := .tuple #[.int .i64 0, mval 0 0 0 none 0 0, .int .i64 f]) ?_ rfl ?_
    · rw [results_tct (fn := Try.f15) rfl]
      go_simp
    · unfold DoP
      exact ⟨0, _, _, _, _, _, _, f, E', rfl, ((((HS1.out.set 0 (.int .i64 0)).set 1 (.int .i64 0)).set 2 (.int .i64 0)).set 3 (.slice none 0 0)).drop, fun b hb => HFD.out b (by simpa using hb)⟩
  · go_enter Try.func15, Try.ntmps15
    go_wp2_with fail
    refine HD.out.mono ?_
    rintro x w1 ⟨f, E', rfl, h1, hfd⟩
    have hb := h1.get 1
    have p0 : w1.cell? ⟨w.heap.size + 1, 0, none⟩ = some (.int .i64 0) := cell_of_block hb.bk_at 0
    have p1 : w1.cell? ⟨w.heap.size + 1, 1, none⟩ = some (.int .i64 0) := cell_of_block hb.bk_at 1
    have p2 : w1.cell? ⟨w.heap.size + 1, 2, none⟩ = some (.int .i64 0) := cell_of_block hb.bk_at 2
    have p3 : w1.cell? ⟨w.heap.size + 1, 3, none⟩ = some (.slice none 0 0) := cell_of_block hb.bk_at 3
    have f0 : w1.frozen? ⟨w.heap.size + 1, 0, none⟩ = false := free_of_block hb.bk_at 0
    have f1 : w1.frozen? ⟨w.heap.size + 1, 1, none⟩ = false := free_of_block hb.bk_at 1
    have f2 : w1.frozen? ⟨w.heap.size + 1, 2, none⟩ = false := free_of_block hb.bk_at 2
    have f3 : w1.frozen? ⟨w.heap.size + 1, 3, none⟩ = false := free_of_block hb.bk_at 3
    have HS1 := Lib.hid hb
    have HFD := Lib.hid hfd
    clear hb h1 hfd
    go_wp2_with fail
    (try simp only [Exit.inBlock, Exit.then])
    refine bodyPost_ret (v := .tuple #[.int .i64 0, mval 0 0 0 none 0 0, .int .i64 f]) ?_ rfl ?_
    · rw [results_tct (fn := Try.f15) rfl]
      go_simp
    · unfold DoP
      exact ⟨0, _, _, _, _, _, _, f, E', rfl, ((((HS1.out.set 0 (.int .i64 0)).set 1 (.int .i64 0)).set 2 (.int .i64 0)).set 3 (.slice none 0 0)).drop, fun b hb => HFD.out b (by simpa using hb)⟩
  · have e0 : (k == 0) = false := beq_eq_false_iff_ne.2 h0
    have e1 : (k == 1) = false := beq_eq_false_iff_ne.2 h1
    have e2 : (k == 2) = false := beq_eq_false_iff_ne.2 h2
    have HK0 := Lib.hid h0
    have HK2 := Lib.hid h2
    clear h0 h1 h2
    go_enter Try.func15, Try.ntmps15
    go_upto_region 10 with (go_at_call 40; refine HT.out.mono ?_; rintro x w1 ⟨a0, a1, a2, A2, n2, c2, f, E', rfl, h1, hfd⟩; have hb := h1.get 1; have p0 : w1.cell? ⟨w.heap.size + 1, 0, none⟩ = some (.int .i64 0) := cell_of_block hb.bk_at 0; have p1 : w1.cell? ⟨w.heap.size + 1, 1, none⟩ = some (.int .i64 0) := cell_of_block hb.bk_at 1; have p2 : w1.cell? ⟨w.heap.size + 1, 2, none⟩ = some (.int .i64 0) := cell_of_block hb.bk_at 2; have p3 : w1.cell? ⟨w.heap.size + 1, 3, none⟩ = some (.slice none 0 0) := cell_of_block hb.bk_at 3; have f0 : w1.frozen? ⟨w.heap.size + 1, 0, none⟩ = false := free_of_block hb.bk_at 0; have f1 : w1.frozen? ⟨w.heap.size + 1, 1, none⟩ = false := free_of_block hb.bk_at 1; have f2 : w1.frozen? ⟨w.heap.size + 1, 2, none⟩ = false := free_of_block hb.bk_at 2; have f3 : w1.frozen? ⟨w.heap.size + 1, 3, none⟩ = false := free_of_block hb.bk_at 3; have HS1 := Lib.hid hb; have HFD := Lib.hid hfd; clear hb h1 hfd)
    have lp := World.block_lt_of_cell? w1 _ p0
    go_region
    all_goals
      go_wp2
      (try simp only [Exit.inBlock, Exit.then])
      refine bodyPost_ret (v := .tuple #[.int .i64 0, mval a0 a1 a2 A2 n2 c2, .int .i64 f]) ?_ rfl ?_
      · rw [results_tct (fn := Try.f15) rfl]
        go_simp
      · unfold DoP
        exact ⟨0, _, _, _, _, _, _, f, E', rfl, ((((((HS1.out.set 0 (.int .i64 a0)).set 1 (.int .i64 a1)).set 2 (.int .i64 a2)).set 3 (.slice A2 n2 c2)).drop).allocU _).drew, fun b hb => HFD.out b (by rw [if_neg HK0.out, if_neg HK2.out] at hb; exact hb)⟩
end
end Go.Proofs.Ytdhgmnnkbjhpaaa.Eps
