/- The reference of chapter 09: ack, walked. -/
import Derived.Test.YtiofdkkjjeljmaaRef09c
namespace Go.Proofs.Ytiofdkkjjeljmaa.Ref09
set_option linter.unusedVariables false
set_option linter.unusedSimpArgs false
open Go.RowKit Go.Proofs.Ytiofdkkjjeljmaa.Sep Go.Proofs.Ytiofdkkjjeljmaa.Mb

theorem range_pow (k : Int) (i : Nat) (hk : -9223372036854775808 ≤ k ∧ k ≤ 9223372036854775807) : -9223372036854775808 ≤ k / 2 ^ i ∧ k / 2 ^ i ≤ 9223372036854775807 := by
  induction i with
  | zero => simpa using hk
  | succ i ih => rw [div_pow]; omega
theorem low3 (x : Int) : x.tmod 2 = 0 ∨ x.tmod 2 = 1 ∨ x.tmod 2 = -1 := by
  rw [tmod2]
  split <;> omega
set_option maxHeartbeats 4000000 in
set_option maxRecDepth 100000 in
theorem ack_walk (m : Nat) (hm : m < 256) (k : Int) (hk : -9223372036854775808 ≤ k ∧ k ≤ 9223372036854775807) (A : Option Addr) (n c : Nat) (w : World) : Calls Try.prog 71 #[coreV m (.slice A n c), .int .i64 k] w fun e w' => e = .returned (coreV (ackN m k) (.slice A n c)) ∧ Up w w' := by
  have hs := (St.nil w).alloc (cbs (gone m k 0) (.slice A n c)) 72
  have hs2 := hs.alloc #[.bool false, .bool false, .bool false, .bool false, .bool false, .bool false, .bool false, .bool false, .slice none 0 0] 72
  rw [World.size_alloc] at hs2
  rw [gone_start] at hs2
  have HG := Lib.hid (gone_start m k)
  unfold coreV
  have HE := Lib.hid (gone_end m hm k (.slice A n c))
  unfold coreV at HE
  have HS := Lib.hid hs2
  clear hs hs2
  generalize m.testBit 0 = b0 at HG HS ⊢
  generalize m.testBit 1 = b1 at HG HS ⊢
  generalize m.testBit 2 = b2 at HG HS ⊢
  generalize m.testBit 3 = b3 at HG HS ⊢
  generalize m.testBit 4 = b4 at HG HS ⊢
  generalize m.testBit 5 = b5 at HG HS ⊢
  generalize m.testBit 6 = b6 at HG HS ⊢
  generalize m.testBit 7 = b7 at HG HS ⊢
  go_enter Try.func71, Try.ntmps71
  go_wp2_with fail
  go_loopw [5, 1] (fun v5 v1 wx => ∃ (i : Nat) (x : Int), i ≤ 8 ∧ v5 = .int .i64 i ∧ v1 = .int .i64 x ∧ Hid (x = k / 2 ^ i) ∧ Hid (St No w wx [bk (w.heap.size + 1) 72 #[.bool false, .bool false, .bool false, .bool false, .bool false, .bool false, .bool false, .bool false, .slice none 0 0], bk w.heap.size 72 (cbs (gone m k i) (.slice A n c))])) (fun v5 _ _ => 8 - (intOf v5).toNat)
  case atStart => exact ⟨0, k, by omega, rfl, rfl, Lib.hid (by simp), by rw [HG.out]; exact HS⟩
  case round =>
    clear HS
    obtain ⟨i, x, hi, rfl, rfl, HX, HS⟩ := hrel
    by_cases hlt : i < 8
    · have c0 : wr.cell? ⟨w.heap.size, i, none⟩ = some (.bool ((gone m k i).getD i false)) := by
        rw [cell_of_block (HS.out.get 1).bk_at i]
        exact cbs_at _ _ _ (by rw [gone_len]; exact hlt)
      have f0 : wr.frozen? ⟨w.heap.size, i, none⟩ = false := free_of_block (HS.out.get 1).bk_at i
      have hr := range_pow k i hk
      rw [← HX.out] at hr
      have HN := Lib.hid (half_next x)
      have HO := Lib.hid (half_odd x)
      have HX2 : Hid (x / 2 = k / 2 ^ (i + 1)) := Lib.hid (by rw [div_pow, ← HX.out])
      have HG2 := Lib.hid (gone_next m k i hlt)
      rw [← HX.out] at HG2
      rcases low3 x with h0 | h0 | h0
      · have h1 : wrap64 x = x := by unfold wrap64; omega
        have h2 : x.tdiv 2 = x / 2 := by have := HN.out; rw [h0] at this; simpa using this
        have h3 : wrap64 (x / 2) = x / 2 := by unfold wrap64; omega
        have h4 : ¬ x % 2 = 1 := fun e => (HO.out.2 e) h0
        have HS2 : Hid (St No w wr [bk (w.heap.size + 1) 72 #[.bool false, .bool false, .bool false, .bool false, .bool false, .bool false, .bool false, .bool false, .slice none 0 0], bk w.heap.size 72 (cbs (gone m k (i + 1)) (.slice A n c))]) := Lib.hid (by rw [HG2.out, if_neg h4]; exact HS.out)
        clear h4 HS
        go_wp2
        go_roundw
        case rel => exact ⟨i + 1, x / 2, by omega, by go_num, by first | rfl | (simp; done) | (rw [h2]), HX2, HS2⟩
        case measure => simp [intOf]; omega
      · have hp : 1 ≤ x := by have := tmod2 x; split at this <;> omega
        have h1 : wrap64 (x - 1) = x - 1 := by unfold wrap64; omega
        have h2 : (x - 1).tdiv 2 = x / 2 := by have := HN.out; rw [h0] at this; simpa using this
        have h3 : wrap64 (x / 2) = x / 2 := by unfold wrap64; omega
        have h4 : x % 2 = 1 := HO.out.1 (by rw [h0]; decide)
        have HS2 : Hid (St No w (wr.setCell ⟨w.heap.size, i, none⟩ (.bool false)) [bk (w.heap.size + 1) 72 #[.bool false, .bool false, .bool false, .bool false, .bool false, .bool false, .bool false, .bool false, .slice none 0 0], bk w.heap.size 72 (cbs (gone m k (i + 1)) (.slice A n c))]) := Lib.hid (by
          have h9 := ((HS.out.get 1).set i (.bool false)).get 1
          rw [HG2.out, if_pos h4, ← cbs_set _ _ i (by rw [gone_len]; exact hlt)]
          exact h9)
        clear h4 HS
        go_wp2
        go_roundw
        case rel => exact ⟨i + 1, x / 2, by omega, by go_num, by first | rfl | (simp; done) | (rw [h2]), HX2, HS2⟩
        case measure => simp [intOf]; omega
      · have hp : x ≤ -1 := by have := tmod2 x; split at this <;> omega
        have h1 : wrap64 (x + 1) = x + 1 := by unfold wrap64; omega
        have h2 : (x + 1).tdiv 2 = x / 2 + 1 := by have := HN.out; rw [h0] at this; simp at this; omega
        have h3 : wrap64 (x / 2) = x / 2 := by unfold wrap64; omega
        have h5 : wrap64 (x / 2 + 1) = x / 2 + 1 := by unfold wrap64; omega
        have h4 : x % 2 = 1 := HO.out.1 (by rw [h0]; decide)
        have HS2 : Hid (St No w (wr.setCell ⟨w.heap.size, i, none⟩ (.bool false)) [bk (w.heap.size + 1) 72 #[.bool false, .bool false, .bool false, .bool false, .bool false, .bool false, .bool false, .bool false, .slice none 0 0], bk w.heap.size 72 (cbs (gone m k (i + 1)) (.slice A n c))]) := Lib.hid (by
          have h9 := ((HS.out.get 1).set i (.bool false)).get 1
          rw [HG2.out, if_pos h4, ← cbs_set _ _ i (by rw [gone_len]; exact hlt)]
          exact h9)
        clear h4 HS
        go_wp2
        go_roundw
        case rel => exact ⟨i + 1, x / 2, by omega, by go_num, by first | rfl | (simp; done) | (rw [h2]), HX2, HS2⟩
        case measure => simp [intOf]; omega
    · obtain rfl : i = 8 := by omega
      have hl8 := gone_len m k 8
      have HS := HS
      generalize gone m k 8 = G at HE HS hl8
      match G, hl8, HE, HS with
      | [g0, g1, g2, g3, g4, g5, g6, g7], _, HE, HS =>
        have q0 : wr.cell? ⟨w.heap.size, 0, none⟩ = some (.bool g0) := cell_of_block (HS.out.get 1).bk_at 0
        have q1 : wr.cell? ⟨w.heap.size, 1, none⟩ = some (.bool g1) := cell_of_block (HS.out.get 1).bk_at 1
        have q2 : wr.cell? ⟨w.heap.size, 2, none⟩ = some (.bool g2) := cell_of_block (HS.out.get 1).bk_at 2
        have q3 : wr.cell? ⟨w.heap.size, 3, none⟩ = some (.bool g3) := cell_of_block (HS.out.get 1).bk_at 3
        have q4 : wr.cell? ⟨w.heap.size, 4, none⟩ = some (.bool g4) := cell_of_block (HS.out.get 1).bk_at 4
        have q5 : wr.cell? ⟨w.heap.size, 5, none⟩ = some (.bool g5) := cell_of_block (HS.out.get 1).bk_at 5
        have q6 : wr.cell? ⟨w.heap.size, 6, none⟩ = some (.bool g6) := cell_of_block (HS.out.get 1).bk_at 6
        have q7 : wr.cell? ⟨w.heap.size, 7, none⟩ = some (.bool g7) := cell_of_block (HS.out.get 1).bk_at 7
        have q8 : wr.cell? ⟨w.heap.size, 8, none⟩ = some (.slice A n c) := cell_of_block (HS.out.get 1).bk_at 8
        have z0 : wr.cell? ⟨w.heap.size + 1, 0, none⟩ = some (.bool false) := cell_of_block HS.out.bk_at 0
        have f0 : wr.frozen? ⟨w.heap.size + 1, 0, none⟩ = false := free_of_block HS.out.bk_at 0
        have z1 : wr.cell? ⟨w.heap.size + 1, 1, none⟩ = some (.bool false) := cell_of_block HS.out.bk_at 1
        have f1 : wr.frozen? ⟨w.heap.size + 1, 1, none⟩ = false := free_of_block HS.out.bk_at 1
        have z2 : wr.cell? ⟨w.heap.size + 1, 2, none⟩ = some (.bool false) := cell_of_block HS.out.bk_at 2
        have f2 : wr.frozen? ⟨w.heap.size + 1, 2, none⟩ = false := free_of_block HS.out.bk_at 2
        have z3 : wr.cell? ⟨w.heap.size + 1, 3, none⟩ = some (.bool false) := cell_of_block HS.out.bk_at 3
        have f3 : wr.frozen? ⟨w.heap.size + 1, 3, none⟩ = false := free_of_block HS.out.bk_at 3
        have z4 : wr.cell? ⟨w.heap.size + 1, 4, none⟩ = some (.bool false) := cell_of_block HS.out.bk_at 4
        have f4 : wr.frozen? ⟨w.heap.size + 1, 4, none⟩ = false := free_of_block HS.out.bk_at 4
        have z5 : wr.cell? ⟨w.heap.size + 1, 5, none⟩ = some (.bool false) := cell_of_block HS.out.bk_at 5
        have f5 : wr.frozen? ⟨w.heap.size + 1, 5, none⟩ = false := free_of_block HS.out.bk_at 5
        have z6 : wr.cell? ⟨w.heap.size + 1, 6, none⟩ = some (.bool false) := cell_of_block HS.out.bk_at 6
        have f6 : wr.frozen? ⟨w.heap.size + 1, 6, none⟩ = false := free_of_block HS.out.bk_at 6
        have z7 : wr.cell? ⟨w.heap.size + 1, 7, none⟩ = some (.bool false) := cell_of_block HS.out.bk_at 7
        have f7 : wr.frozen? ⟨w.heap.size + 1, 7, none⟩ = false := free_of_block HS.out.bk_at 7
        have z8 : wr.cell? ⟨w.heap.size + 1, 8, none⟩ = some (.slice none 0 0) := cell_of_block HS.out.bk_at 8
        have f8 : wr.frozen? ⟨w.heap.size + 1, 8, none⟩ = false := free_of_block HS.out.bk_at 8
        have hu := (((((((((HS.out.set 0 (.bool g0)).set 1 (.bool g1)).set 2 (.bool g2)).set 3 (.bool g3)).set 4 (.bool g4)).set 5 (.bool g5)).set 6 (.bool g6)).set 7 (.bool g7)).set 8 (.slice A n c)).up
        have HU := Lib.hid hu
        clear hu
        go_wp2
        refine bodyPost_ret (v := .agg #[.bool g0, .bool g1, .bool g2, .bool g3, .bool g4, .bool g5, .bool g6, .bool g7, .slice A n c]) ?_ rfl ⟨congrArg Ending.returned HE.out, HU.out⟩
        simp [results, Try.results71, go_sem, *]
end Go.Proofs.Ytiofdkkjjeljmaa.Ref09
