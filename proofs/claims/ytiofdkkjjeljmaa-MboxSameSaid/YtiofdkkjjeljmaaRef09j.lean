/- The reference of chapter 09: Ring, where it rings. -/
import Derived.Test.YtiofdkkjjeljmaaRef09i
import Derived.Deep.Cut
namespace Go.Proofs.Ytiofdkkjjeljmaa.Ref09
set_option linter.unusedVariables false
set_option linter.unusedSimpArgs false
open Go.RowKit Go.Proofs.Ytiofdkkjjeljmaa.Sep Go.Proofs.Ytiofdkkjjeljmaa.Mb

theorem il_rd {P0 : Nat → Prop} {w0 w : World} {F : List Rg} {A : Option Addr} {c : Nat} {q : List It} (h : St P0 w0 w (il (.slice A q.length c) q :: F)) : Rd w 2 A q.length (q.flatMap iw) := by
  obtain ⟨hf, Q, R, hq, hr, hd, h2, hL⟩ := h
  refine slc_rd h2 ?_
  intro u hu
  obtain ⟨x, _, hx⟩ := List.mem_flatMap.1 hu
  rcases List.mem_cons.1 hx with rfl | hx
  · rfl
  · obtain rfl := List.mem_singleton.1 hx
    rfl
section
variable {P0 : Nat → Prop} {w0 w w' : World} {F : List Rg} {V : Value} {S : List MC}
set_option maxHeartbeats 8000000 in
set_option maxRecDepth 100000 in
theorem Ring_full (h : St P0 w0 w (rb V S :: F)) (h8 : S.length ≤ 8) (f i v : Nat) (hf : f < S.length) (hi : i < S.length) (hv : v ≤ 65535) (hq : (S.getD i default).q.length = 16) :
    Calls Try.prog 68 #[V, .int .i64 (f : Int), .int .i64 (i : Int), .int .i64 (v : Int)] w fun x w' => ∃ V', x = .returned (.tuple #[V', .int .i64 5]) ∧ St P0 w0 w' (both (rb V S) (rb V' (S.set i ⟨orN (S.getD i default).m f, (S.getD i default).q, orN_lt _ _ (S.getD i default).hm (by omega)⟩)) :: F) := by
  obtain ⟨g, o, c, Ai, ci, rfl, hbits, hlist, hst⟩ := rb_core h i hi
  have HA := Lib.hid (fun w => has_walk (some ⟨g, o, none⟩) S.length c f w)
  have HB := Lib.hid (fun w => has_walk (some ⟨g, o, none⟩) S.length c i w)
  rw [decide_eq_true (show 0 ≤ (f : Int) ∧ (f : Int) < S.length by omega)] at HA
  rw [decide_eq_true (show 0 ≤ (i : Int) ∧ (i : Int) < S.length by omega)] at HB
  have e0 : decide ((v : Int) < 0) = false := decide_eq_false (by omega)
  have e1 : decide ((v : Int) > 65535) = false := decide_eq_false (by omega)
  have hm8 := (S.getD i default).hm
  have k0 : w.cell? ⟨g, o + i * 9, none⟩ = some (.bool ((S.getD i default).m.testBit 0)) := hbits 0 (by omega)
  have k1 := hbits 1 (by omega)
  rw [← Nat.add_assoc] at k1
  have k2 := hbits 2 (by omega)
  rw [← Nat.add_assoc] at k2
  have k3 := hbits 3 (by omega)
  rw [← Nat.add_assoc] at k3
  have k4 := hbits 4 (by omega)
  rw [← Nat.add_assoc] at k4
  have k5 := hbits 5 (by omega)
  rw [← Nat.add_assoc] at k5
  have k6 := hbits 6 (by omega)
  rw [← Nat.add_assoc] at k6
  have k7 := hbits 7 (by omega)
  rw [← Nat.add_assoc] at k7
  rw [← Nat.add_assoc] at hlist
  have hbl : bl (S.getD i default).m = [(S.getD i default).m.testBit 0, (S.getD i default).m.testBit 1, (S.getD i default).m.testBit 2, (S.getD i default).m.testBit 3, (S.getD i default).m.testBit 4, (S.getD i default).m.testBit 5, (S.getD i default).m.testBit 6, (S.getD i default).m.testBit 7] := rfl
  have hor := bl_or (S.getD i default).m f (by omega)
  have ha := hst.alloc (cbs (bl (S.getD i default).m) (.slice Ai (S.getD i default).q.length ci)) 72
  rw [hbl] at ha hor
  generalize (S.getD i default).m.testBit 0 = b0 at k0 ha hor
  generalize (S.getD i default).m.testBit 1 = b1 at k1 ha hor
  generalize (S.getD i default).m.testBit 2 = b2 at k2 ha hor
  generalize (S.getD i default).m.testBit 3 = b3 at k3 ha hor
  generalize (S.getD i default).m.testBit 4 = b4 at k4 ha hor
  generalize (S.getD i default).m.testBit 5 = b5 at k5 ha hor
  generalize (S.getD i default).m.testBit 6 = b6 at k6 ha hor
  generalize (S.getD i default).m.testBit 7 = b7 at k7 ha hor
  have hfr : (w.alloc (.cells #[.bool b0, .bool b1, .bool b2, .bool b3, .bool b4, .bool b5, .bool b6, .bool b7, .slice Ai (S.getD i default).q.length ci] 72)).frozen? ⟨w.heap.size, f, none⟩ = false := free_of_block ha.bk_at f
  have hcf : (w.alloc (.cells #[.bool b0, .bool b1, .bool b2, .bool b3, .bool b4, .bool b5, .bool b6, .bool b7, .slice Ai (S.getD i default).q.length ci] 72)).cell? ⟨w.heap.size, f, none⟩ = some (.bool ([b0, b1, b2, b3, b4, b5, b6, b7].getD f false)) := (cell_of_block ha.bk_at f).trans (cbs_at _ _ _ (by simp; omega))
  have h2 := ha.set f (.bool true)
  rw [cbs_set _ _ f (by simp; omega), hor] at h2
  have HS := Lib.hid h2
  have hf8 : (f : Int) < 8 := by omega
  have hi0 : (i : Int) < S.length := by omega
  have HI := Lib.hid hi
  have HM := Lib.hid hm8
  have H8 := Lib.hid h8
  have HF := Lib.hid hf
  rw [hq] at hlist hcf hfr HS
  have HQ := Lib.hid hq
  clear h hst ha h2 hbits hor hbl hq hm8
  go_enter Try.func68, Try.ntmps68
  go_upto_region 7 with (first
      | (go_at_call 69; (with_reducible refine (HA.out _).mono ?_); rintro e w9 ⟨rfl, hw⟩; have hw := hw.symm; subst hw)
      | (go_at_call 69; (with_reducible refine (HB.out _).mono ?_); rintro e w9 ⟨rfl, hw⟩; have hw := hw.symm; subst hw))
  have hs := HS.out
  change St P0 w0 ((w.alloc (.cells #[.bool b0, .bool b1, .bool b2, .bool b3, .bool b4, .bool b5, .bool b6, .bool b7, .slice Ai 16 ci] 72)).setCell ⟨w.heap.size, f, none⟩ (.bool true)) _ at hs
  have ew : (w.alloc (.cells #[.bool b0, .bool b1, .bool b2, .bool b3, .bool b4, .bool b5, .bool b6, .bool b7, .slice Ai 16 ci] 72)).setCell ⟨w.heap.size, f, none⟩ (.bool true) = w.alloc (.cells ([.bool b0, .bool b1, .bool b2, .bool b3, .bool b4, .bool b5, .bool b6, .bool b7, .slice Ai 16 ci].set f (.bool true)).toArray 72) := by go_simp
  rw [ew] at hs
  generalize w.alloc (.cells ([.bool b0, .bool b1, .bool b2, .bool b3, .bool b4, .bool b5, .bool b6, .bool b7, .slice Ai 16 ci].set f (.bool true)).toArray 72) = wb at hs ⊢
  clear ew
  have hl8 := bl_len (orN (S.getD i default).m f)
  have HG := Lib.hid (bl_core (orN (S.getD i default).m f) (.slice Ai 16 ci))
  clear HS hcf hfr
  generalize bl (orN (S.getD i default).m f) = G at hs hl8 HG
  match G, hl8, hs, HG with
  | [g0, g1, g2, g3, g4, g5, g6, g7], _, hs, HG =>
    have q0 : wb.cell? ⟨w.heap.size, 0, none⟩ = some (.bool g0) := cell_of_block hs.bk_at 0
    have q1 : wb.cell? ⟨w.heap.size, 1, none⟩ = some (.bool g1) := cell_of_block hs.bk_at 1
    have q2 : wb.cell? ⟨w.heap.size, 2, none⟩ = some (.bool g2) := cell_of_block hs.bk_at 2
    have q3 : wb.cell? ⟨w.heap.size, 3, none⟩ = some (.bool g3) := cell_of_block hs.bk_at 3
    have q4 : wb.cell? ⟨w.heap.size, 4, none⟩ = some (.bool g4) := cell_of_block hs.bk_at 4
    have q5 : wb.cell? ⟨w.heap.size, 5, none⟩ = some (.bool g5) := cell_of_block hs.bk_at 5
    have q6 : wb.cell? ⟨w.heap.size, 6, none⟩ = some (.bool g6) := cell_of_block hs.bk_at 6
    have q7 : wb.cell? ⟨w.heap.size, 7, none⟩ = some (.bool g7) := cell_of_block hs.bk_at 7
    have q8 : wb.cell? ⟨w.heap.size, 8, none⟩ = some (.slice Ai 16 ci) := cell_of_block hs.bk_at 8
    have HS := Lib.hid hs
    clear hs
    go_wp2_with fail
    have h5 : St P0 w0 wb (both (rb (.slice (some ⟨g, o, none⟩) S.length c) S) (il (.slice Ai 16 ci) (S.getD i default).q) :: F) := HS.out.drop
    have hw := with_st h5 i HI.out H8.out (orN (S.getD i default).m f) (orN_lt _ _ HM.out (by have := HF.out; have := H8.out; omega))
    rw [← HG.out] at hw
    refine hw.mono ?_
    rintro e w4 ⟨V4, rfl, hs4⟩
    have HS4 := Lib.hid hs4
    clear hs4 hw h5 HS
    go_wp2
    go_ret2
    exact ⟨V4, rfl, HS4.out⟩
set_option maxHeartbeats 8000000 in
set_option maxRecDepth 100000 in
theorem Ring_put (h : St P0 w0 w (rb V S :: F)) (h8 : S.length ≤ 8) (f i v : Nat) (hf : f < S.length) (hi : i < S.length) (hv : v ≤ 65535) (nq : Nat) (hq : (S.getD i default).q.length = nq) (hlt : nq < 16) :
    Calls Try.prog 68 #[V, .int .i64 (f : Int), .int .i64 (i : Int), .int .i64 (v : Int)] w fun x w' => ∃ V', x = .returned (.tuple #[V', .int .i64 0]) ∧ St P0 w0 w' (both (rb V S) (rb V' (S.set i ⟨orN (S.getD i default).m f, (S.getD i default).q ++ [⟨f, v, by omega, hv⟩], orN_lt _ _ (S.getD i default).hm (by omega)⟩)) :: F) := by
  obtain ⟨g, o, c, Ai, ci, rfl, hbits, hlist, hst⟩ := rb_core h i hi
  have HA := Lib.hid (fun w => has_walk (some ⟨g, o, none⟩) S.length c f w)
  have HB := Lib.hid (fun w => has_walk (some ⟨g, o, none⟩) S.length c i w)
  rw [decide_eq_true (show 0 ≤ (f : Int) ∧ (f : Int) < S.length by omega)] at HA
  rw [decide_eq_true (show 0 ≤ (i : Int) ∧ (i : Int) < S.length by omega)] at HB
  have e0 : decide ((v : Int) < 0) = false := decide_eq_false (by omega)
  have e1 : decide ((v : Int) > 65535) = false := decide_eq_false (by omega)
  have hm8 := (S.getD i default).hm
  have k0 : w.cell? ⟨g, o + i * 9, none⟩ = some (.bool ((S.getD i default).m.testBit 0)) := hbits 0 (by omega)
  have k1 := hbits 1 (by omega)
  rw [← Nat.add_assoc] at k1
  have k2 := hbits 2 (by omega)
  rw [← Nat.add_assoc] at k2
  have k3 := hbits 3 (by omega)
  rw [← Nat.add_assoc] at k3
  have k4 := hbits 4 (by omega)
  rw [← Nat.add_assoc] at k4
  have k5 := hbits 5 (by omega)
  rw [← Nat.add_assoc] at k5
  have k6 := hbits 6 (by omega)
  rw [← Nat.add_assoc] at k6
  have k7 := hbits 7 (by omega)
  rw [← Nat.add_assoc] at k7
  rw [← Nat.add_assoc] at hlist
  have hbl : bl (S.getD i default).m = [(S.getD i default).m.testBit 0, (S.getD i default).m.testBit 1, (S.getD i default).m.testBit 2, (S.getD i default).m.testBit 3, (S.getD i default).m.testBit 4, (S.getD i default).m.testBit 5, (S.getD i default).m.testBit 6, (S.getD i default).m.testBit 7] := rfl
  have hor := bl_or (S.getD i default).m f (by omega)
  have ha := hst.alloc (cbs (bl (S.getD i default).m) (.slice Ai (S.getD i default).q.length ci)) 72
  rw [hbl] at ha hor
  generalize (S.getD i default).m.testBit 0 = b0 at k0 ha hor
  generalize (S.getD i default).m.testBit 1 = b1 at k1 ha hor
  generalize (S.getD i default).m.testBit 2 = b2 at k2 ha hor
  generalize (S.getD i default).m.testBit 3 = b3 at k3 ha hor
  generalize (S.getD i default).m.testBit 4 = b4 at k4 ha hor
  generalize (S.getD i default).m.testBit 5 = b5 at k5 ha hor
  generalize (S.getD i default).m.testBit 6 = b6 at k6 ha hor
  generalize (S.getD i default).m.testBit 7 = b7 at k7 ha hor
  have hfr : (w.alloc (.cells #[.bool b0, .bool b1, .bool b2, .bool b3, .bool b4, .bool b5, .bool b6, .bool b7, .slice Ai (S.getD i default).q.length ci] 72)).frozen? ⟨w.heap.size, f, none⟩ = false := free_of_block ha.bk_at f
  have hcf : (w.alloc (.cells #[.bool b0, .bool b1, .bool b2, .bool b3, .bool b4, .bool b5, .bool b6, .bool b7, .slice Ai (S.getD i default).q.length ci] 72)).cell? ⟨w.heap.size, f, none⟩ = some (.bool ([b0, b1, b2, b3, b4, b5, b6, b7].getD f false)) := (cell_of_block ha.bk_at f).trans (cbs_at _ _ _ (by simp; omega))
  have h2 := ha.set f (.bool true)
  rw [cbs_set _ _ f (by simp; omega), hor] at h2
  have HS := Lib.hid h2
  have hf8 : (f : Int) < 8 := by omega
  have hi0 : (i : Int) < S.length := by omega
  have HI := Lib.hid hi
  have HM := Lib.hid hm8
  have H8 := Lib.hid h8
  have HF := Lib.hid hf
  rw [hq] at hlist hcf hfr HS
  have HQ := Lib.hid hq
  clear h hst ha h2 hbits hor hbl hq hm8
  have HV := Lib.hid hv
  have d16 : decide ((nq : Int) ≥ 16) = false := decide_eq_false (by omega)
  go_enter Try.func68, Try.ntmps68
  go_upto_region 7 with (first
      | (go_at_call 69; (with_reducible refine (HA.out _).mono ?_); rintro e w9 ⟨rfl, hw⟩; have hw := hw.symm; subst hw)
      | (go_at_call 69; (with_reducible refine (HB.out _).mono ?_); rintro e w9 ⟨rfl, hw⟩; have hw := hw.symm; subst hw))
  have hs := HS.out
  change St P0 w0 ((w.alloc (.cells #[.bool b0, .bool b1, .bool b2, .bool b3, .bool b4, .bool b5, .bool b6, .bool b7, .slice Ai nq ci] 72)).setCell ⟨w.heap.size, f, none⟩ (.bool true)) _ at hs
  have ew : (w.alloc (.cells #[.bool b0, .bool b1, .bool b2, .bool b3, .bool b4, .bool b5, .bool b6, .bool b7, .slice Ai nq ci] 72)).setCell ⟨w.heap.size, f, none⟩ (.bool true) = w.alloc (.cells ([.bool b0, .bool b1, .bool b2, .bool b3, .bool b4, .bool b5, .bool b6, .bool b7, .slice Ai nq ci].set f (.bool true)).toArray 72) := by go_simp
  rw [ew] at hs
  generalize w.alloc (.cells ([.bool b0, .bool b1, .bool b2, .bool b3, .bool b4, .bool b5, .bool b6, .bool b7, .slice Ai nq ci].set f (.bool true)).toArray 72) = wb at hs ⊢
  clear ew
  have hl8 := bl_len (orN (S.getD i default).m f)
  have HG := Lib.hid (bl_core (orN (S.getD i default).m f) (.slice Ai nq ci))
  clear HS hcf hfr
  obtain ⟨G, hG⟩ : ∃ G, bl (orN (S.getD i default).m f) = G := ⟨_, rfl⟩
  rw [hG] at hs hl8 HG
  have HB8 := Lib.hid hG
  clear hG
  match G, hl8, hs, HB8 with
  | [g0, g1, g2, g3, g4, g5, g6, g7], _, hs, HB8 =>
    have q0 : wb.cell? ⟨w.heap.size, 0, none⟩ = some (.bool g0) := cell_of_block hs.bk_at 0
    have q1 : wb.cell? ⟨w.heap.size, 1, none⟩ = some (.bool g1) := cell_of_block hs.bk_at 1
    have q2 : wb.cell? ⟨w.heap.size, 2, none⟩ = some (.bool g2) := cell_of_block hs.bk_at 2
    have q3 : wb.cell? ⟨w.heap.size, 3, none⟩ = some (.bool g3) := cell_of_block hs.bk_at 3
    have q4 : wb.cell? ⟨w.heap.size, 4, none⟩ = some (.bool g4) := cell_of_block hs.bk_at 4
    have q5 : wb.cell? ⟨w.heap.size, 5, none⟩ = some (.bool g5) := cell_of_block hs.bk_at 5
    have q6 : wb.cell? ⟨w.heap.size, 6, none⟩ = some (.bool g6) := cell_of_block hs.bk_at 6
    have q7 : wb.cell? ⟨w.heap.size, 7, none⟩ = some (.bool g7) := cell_of_block hs.bk_at 7
    have q8 : wb.cell? ⟨w.heap.size, 8, none⟩ = some (.slice Ai nq ci) := cell_of_block hs.bk_at 8
    have h5 : St P0 w0 wb (both (rb (.slice (some ⟨g, o, none⟩) S.length c) S) (il (.slice Ai (S.getD i default).q.length ci) (S.getD i default).q) :: F) := by rw [HQ.out]; exact hs.drop
    have hrd := il_rd h5.right
    rw [HQ.out] at hrd
    have h6 := St.fresh (M := [slc 64 2 (.slice none 0 0) 0 []]) hs (Up.refl _) ⟨No, No, fun _ e => e.elim, fun _ e => e.elim, fun _ e => e.elim, slc_nil _ _ _ _, trivial⟩
    have HRD := Lib.hid hrd
    have H1 := Lib.hid h6
    obtain ⟨t0, ht0, hz0, hz1, hz2⟩ := info_of' info_item
    clear hs h5 hrd h6
    go_wp2_with (first
      | (at_builtin; refine St.append 64 t0 (.agg #[.int .i64 0, .int .i64 0]) 2 16 H1.out rfl (.tmp 45) (.tmp 47) 70 rfl Try.underlying70 ht0 hz0 hz1 hz2 rfl (by decide) rfl Ai nq ci ((S.getD i default).q.flatMap iw) rfl HRD.out (by unfold maxLen; omega) (by omega) ?_; rw [Nat.zero_add, List.nil_append]; intro A1 c1 w3 hst hsz; have H3 := Lib.hid hst; have h4 : St P0 w0 (w3.alloc (.cells #[.int .i64 (f : Int), .int .i64 (v : Int)] 64)) (slc 64 2 (.slice A1 nq c1) nq ((S.getD i default).q.flatMap iw) :: _) := (hst.alloc #[.int .i64 (f : Int), .int .i64 (v : Int)] 64).get 1; have H4 := Lib.hid h4; have HRD4 := Lib.hid (Rd.of_block (sz := 2) (m := 1) ((hst.alloc #[.int .i64 (f : Int), .int .i64 (v : Int)] 64).bk_at) rfl (by simp [Value.oneCell'])); clear hst hsz h4)
      | (at_builtin; refine St.append 64 t0 (.agg #[.int .i64 0, .int .i64 0]) 2 16 H4.out rfl (.tmp 49) (.tmp 53) 70 rfl Try.underlying70 ht0 hz0 hz1 hz2 rfl (by decide) rfl (some ⟨w3.heap.size, 0, none⟩) 1 1 [.int .i64 (f : Int), .int .i64 (v : Int)] rfl HRD4.out (by unfold maxLen; omega) (by omega) ?_; intro A2 c2 w5 hst hsz; have H5 := Lib.hid hst; have p5 : St P0 w0 w5 (bk w.heap.size 72 #[.bool g0, .bool g1, .bool g2, .bool g3, .bool g4, .bool g5, .bool g6, .bool g7, .slice Ai nq ci] :: _) := hst.get 2; have r0 : w5.cell? ⟨w.heap.size, 0, none⟩ = some (.bool g0) := cell_of_block p5.bk_at 0; have r1 : w5.cell? ⟨w.heap.size, 1, none⟩ = some (.bool g1) := cell_of_block p5.bk_at 1; have r2 : w5.cell? ⟨w.heap.size, 2, none⟩ = some (.bool g2) := cell_of_block p5.bk_at 2; have r3 : w5.cell? ⟨w.heap.size, 3, none⟩ = some (.bool g3) := cell_of_block p5.bk_at 3; have r4 : w5.cell? ⟨w.heap.size, 4, none⟩ = some (.bool g4) := cell_of_block p5.bk_at 4; have r5 : w5.cell? ⟨w.heap.size, 5, none⟩ = some (.bool g5) := cell_of_block p5.bk_at 5; have r6 : w5.cell? ⟨w.heap.size, 6, none⟩ = some (.bool g6) := cell_of_block p5.bk_at 6; have r7 : w5.cell? ⟨w.heap.size, 7, none⟩ = some (.bool g7) := cell_of_block p5.bk_at 7; have r8 : w5.cell? ⟨w.heap.size, 8, none⟩ = some (.slice Ai nq ci) := cell_of_block p5.bk_at 8; have f8 : w5.frozen? ⟨w.heap.size, 8, none⟩ = false := free_of_block p5.bk_at 8; clear hst hsz p5)
      | fail)
    have s2 : St P0 w0 (w5.setCell ⟨w.heap.size, 8, none⟩ (.slice A2 (nq + 1) c2)) (both (rb (.slice (some ⟨g, o, none⟩) S.length c) S) (il (.slice Ai nq ci) (S.getD i default).q) :: slc 64 2 (.slice A2 (nq + 1) c2) (nq + 1) ((S.getD i default).q.flatMap iw ++ [.int .i64 (f : Int), .int .i64 (v : Int)]) :: F) :=
      ((((H5.out.get 2).set 8 (.slice A2 (nq + 1) c2)).drop).cut 1).get 1
    have s3 := (s2.left.get 1).join
    have e2 : ((S.getD i default).q ++ [(⟨f, v, by have := HF.out; have := H8.out; omega, HV.out⟩ : It)]).length = nq + 1 := by rw [List.length_append, HQ.out]; rfl
    have s4 : St P0 w0 (w5.setCell ⟨w.heap.size, 8, none⟩ (.slice A2 (nq + 1) c2)) (both (rb (.slice (some ⟨g, o, none⟩) S.length c) S) (il (.slice A2 (nq + 1) c2) ((S.getD i default).q ++ [(⟨f, v, by have := HF.out; have := H8.out; omega, HV.out⟩ : It)])) :: F) := by
      unfold il
      rw [e2, iw_snoc]
      exact s3.imp fun P hP => ⟨hP.2, hP.1⟩
    have hw := with_st s4 i HI.out H8.out (orN (S.getD i default).m f) (orN_lt _ _ HM.out (by have := HF.out; have := H8.out; omega))
    rw [← bl_core, HB8.out] at hw
    clear s2 s3 s4 e2
    refine hw.mono ?_
    rintro e w6 ⟨V4, rfl, hs4⟩
    have HS4 := Lib.hid hs4
    clear hs4 hw
    go_wp2
    go_ret2
    exact ⟨V4, rfl, HS4.out⟩
end
end Go.Proofs.Ytiofdkkjjeljmaa.Ref09
