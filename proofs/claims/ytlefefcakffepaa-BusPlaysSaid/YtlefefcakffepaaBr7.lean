/- The reference of the bus: New. -/
import Derived.Test.YtlefefcakffepaaBr6
namespace Go.Proofs.Ytlefefcakffepaa.Br
set_option linter.unusedVariables false
set_option linter.unusedSimpArgs false
open Go.RowKit Go.Proofs.Ytlefefcakffepaa.CellOf Go.Proofs.Ytlefefcakffepaa.CellP Go.Proofs.Ytlefefcakffepaa.Lat Go.Proofs.Ytlefefcakffepaa.Sep Go.Proofs.Ytlefefcakffepaa.Sram Go.Proofs.Ytlefefcakffepaa.Find Go.Proofs.Ytlefefcakffepaa.Sbuf Go.Proofs.Ytlefefcakffepaa.Ref05 Go.Proofs.Ytlefefcakffepaa.Bus Go.Proofs.Ytlefefcakffepaa.PBusPlays Go.Proofs.YtlefefcakffepaaW.PrintWords
section
variable {P0 : Nat → Prop} {w0 w w' : World} {F M : List Rg} {ws : List Int} {Ls : List (List W16)} {L : List W16} {cap : Nat}
abbrev rep0 (cap i : Nat) : List Value := rcs (rcf cap) (List.replicate i ([] : List W16)) (List.replicate i ((none, 0) : BB))
theorem rep0_succ (cap i : Nat) : rep0 cap (i + 1) = rep0 cap i ++ [.int .i64 (cap : Int), .slice none 0 0] := by
  unfold rep0
  rw [List.replicate_succ', List.replicate_succ', rcs_snoc _ _ _ _ (by simp)]
  rfl
theorem rps_nils (i : Nat) (w : World) (P : Nat → Prop) : (alls (rps rpf (List.replicate i ([] : List W16)) (List.replicate i ((none, 0) : BB)))).X w P := by
  induction i with
  | zero => exact fun A hA => by simp [rps] at hA
  | succ i ih =>
    intro A hA
    rw [List.replicate_succ, List.replicate_succ] at hA
    rcases List.mem_cons.1 hA with rfl | hA
    · exact slc_nil _ _ _ _
    · exact ih A hA
theorem new_shut {g n m : Nat} {A : Option Addr} {c : Nat} (h : St P0 w0 w (slc 90 2 (.slice A n c) n (rep0 cap n) :: bk g 3 ((List.replicate m (0 : Int)).map (Value.int .i64)).toArray :: F)) : St P0 w0 w (rbus (.slice (some ⟨g, 0, none⟩) m m) (.slice A n c) cap (List.replicate m 0) (List.replicate n []) :: F) := by
  have h1 := h.join
  refine h1.imp fun P hP B hB => ?_
  rcases List.mem_cons.1 hB with rfl | hB
  · have h2 := hP.2
    have h3 := LAt.of_block (P := P) (q := List.replicate m (0 : Int)) (rest := []) (c := m) (by simpa using h2.2) (by simp) h2.1
    have h4 : LAt w P (.slice (some ⟨g, 0, none⟩) m m) (List.replicate m 0) := by simpa using h3
    exact h4
  · obtain rfl := List.mem_singleton.1 hB
    refine rrow_mk (bs := List.replicate n ((none, 0) : BB)) (by simp) ?_ (rps_nils n w P)
    have h2 := hP.1
    rw [List.length_replicate]
    exact h2
def NwP (P0 : Nat → Prop) (w0 : World) (F : List Rg) (cap m n : Nat) (x : Ending) (w' : World) : Prop := ∃ Ar cr Ab cb, x = .returned (.agg #[.slice Ar m cr, .slice Ab n cb]) ∧ St P0 w0 w' (rbus (.slice Ar m cr) (.slice Ab n cb) cap (List.replicate m 0) (List.replicate n []) :: F)
set_option maxHeartbeats 8000000 in
set_option maxRecDepth 100000 in
theorem New_b (h : St P0 w0 w F) (n m : Nat) (hn : n ≤ 8) (hm : m ≤ 65536) (hc : cap ≤ 16) :
    Calls Try.prog 18 #[.int .i64 (n : Int), .int .i64 (m : Int), .int .i64 (cap : Int)] w fun x w' => NwP P0 w0 F cap m n x w' := by
  have hmk := run_mkR m hm
  have h2 := (((h.alloc #[.slice none 0 0, .slice none 0 0] 45).alloc ((List.replicate m (0 : Int)).map (Value.int .i64)).toArray 3).alloc #[.slice (some ⟨w.heap.size + 1, 0, none⟩) m m, .slice none 0 0] 45)
  rw [World.size_alloc, World.size_alloc] at h2
  have h3 := St.fresh (M := [slc 90 2 (.slice none 0 0) 0 []]) h2 (Up.refl _) ⟨No, No, fun _ e => e.elim, fun _ e => e.elim, fun _ e => e.elim, slc_nil _ _ _ _, trivial⟩
  have HS0 := Lib.hid h3
  obtain ⟨t0, ht0, hz0, hz1, hz2⟩ := Clone.info_of info_buf
  clear h h2 h3
  go_enter Try.func18, Try.ntmps18
  go_wp2_with fail
  go_loopg [8] n (fun gk v8 wx => ∃ (i : Nat) (A : Option Addr) (c : Nat), i ≤ n ∧ Hid (i + gk = n) ∧ v8 = .int .i64 i ∧ Hid (St P0 w0 wx (slc 90 2 (.slice A i c) i (rep0 cap i) :: bk (w.heap.size + 1 + 1) 45 #[.slice (some ⟨w.heap.size + 1, 0, none⟩) m m, .slice A i c] :: bk (w.heap.size + 1) 3 ((List.replicate m (0 : Int)).map (Value.int .i64)).toArray :: bk w.heap.size 45 #[.slice none 0 0, .slice none 0 0] :: F)))
  case atStart => exact ⟨0, none, 0, Nat.zero_le _, Lib.hid (Nat.zero_add _), rfl, Lib.hid (by
    have e : ((List.replicate m (0 : Int)).map (Value.int .i64)).toArray = Array.replicate m (.int .i64 0) := by simp
    have h9 := HS0.out
    rw [e] at h9 ⊢
    exact h9)⟩
  case round =>
    clear HS0
    obtain ⟨i, A, c, hi, HG, rfl, HS⟩ := hrel
    have b0 : wr.cell? ⟨w.heap.size + 1 + 1, 0, none⟩ = some (.slice (some ⟨w.heap.size + 1, 0, none⟩) m m) := cell_of_block (HS.out.get 1).bk_at 0
    have b1 : wr.cell? ⟨w.heap.size + 1 + 1, 1, none⟩ = some (.slice A i c) := cell_of_block (HS.out.get 1).bk_at 1
    by_cases hlt : i < n
    · have HN1 : Hid (i + 1 + (gk - 1) = n) := Lib.hid (by have := HG.out; omega)
      have HN2 : Hid (gk - 1 < gk) := Lib.hid (by have := HG.out; omega)
      have HN3 : Hid (i + 1 ≤ n) := Lib.hid (by omega)
      have hi8 : i ≤ 8 := by omega
      have h4 := (HS.out.alloc #[.int .i64 (cap : Int), .slice none 0 0] 90)
      have HRD := Lib.hid (Rd.of_block (sz := 2) (m := 1) h4.bk_at rfl (by simp [Value.oneCell']))
      have H4 : Hid (St P0 w0 _ (slc 90 2 (.slice A i c) i (rep0 cap i) :: bk wr.heap.size 90 #[.int .i64 (cap : Int), .slice none 0 0] :: bk (w.heap.size + 1 + 1) 45 #[.slice (some ⟨w.heap.size + 1, 0, none⟩) m m, .slice A i c] :: bk (w.heap.size + 1) 3 ((List.replicate m (0 : Int)).map (Value.int .i64)).toArray :: bk w.heap.size 45 #[.slice none 0 0, .slice none 0 0] :: F)) := Lib.hid (h4.get 1)
      clear h4 HS HG
      go_wp2_with (at_builtin; refine St.append 90 t0 (.agg #[.int .i64 0, .slice none 0 0]) 2 32 H4.out rfl (.tmp 18) (.tmp 21) 43 rfl Try.underlying43 ht0 hz0 hz1 hz2 rfl (by decide) rfl (some ⟨wr.heap.size, 0, none⟩) 1 1 [.int .i64 (cap : Int), .slice none 0 0] rfl HRD.out (by unfold maxLen; omega) (by omega) ?_; intro A5 c5 w5 hst hsz; have H5 := Lib.hid (hst.cut 1); have d1 : w5.cell? ⟨w.heap.size + 1 + 1, 1, none⟩ = some (.slice A i c) := cell_of_block (hst.get 2).bk_at 1; have e1 : w5.frozen? ⟨w.heap.size + 1 + 1, 1, none⟩ = false := free_of_block (hst.get 2).bk_at 1; clear hst hsz)
      go_roundg (gk - 1)
      case measure => exact HN2.out
      case rel => exact ⟨i + 1, A5, c5, HN3.out, HN1, by go_num, Lib.hid (by
        rw [rep0_succ]
        exact ((H5.out.get 1).set 1 (.slice A5 (i + 1) c5)).get 1)⟩
    · clear HG
      obtain rfl : i = n := by omega
      have h4 := HS.out.get 3
      have r0 : wr.cell? ⟨w.heap.size, 0, none⟩ = some (.slice none 0 0) := cell_of_block h4.bk_at 0
      have r1 : wr.cell? ⟨w.heap.size, 1, none⟩ = some (.slice none 0 0) := cell_of_block h4.bk_at 1
      have f0 : wr.frozen? ⟨w.heap.size, 0, none⟩ = false := free_of_block h4.bk_at 0
      have f1 : wr.frozen? ⟨w.heap.size, 1, none⟩ = false := free_of_block h4.bk_at 1
      have HS4 := Lib.hid h4
      clear h4 HS
      go_wp2
      (try simp only [Exit.inBlock, Exit.then])
      refine bodyPost_ret (v := .agg #[.slice (some ⟨w.heap.size + 1, 0, none⟩) m m, .slice A i c]) ?_ rfl ?_
      · rw [results_c (fn := Try.f18) rfl]
        go_simp
      · unfold NwP
        have h5 := (((HS4.out.set 0 (.slice (some ⟨w.heap.size + 1, 0, none⟩) m m)).set 1 (.slice A i c)).drop).cut 1
        exact ⟨_, _, _, _, rfl, new_shut h5⟩
end
end Go.Proofs.Ytlefefcakffepaa.Br
