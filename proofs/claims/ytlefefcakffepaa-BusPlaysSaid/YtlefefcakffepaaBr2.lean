/- The reference of the bus: with, wrong, Load. -/
import Derived.Test.YtlefefcakffepaaBr1
import Derived.Deep.Cut
namespace Go.Proofs.Ytlefefcakffepaa.Br
set_option linter.unusedVariables false
set_option linter.unusedSimpArgs false
open Go.RowKit Go.Proofs.Ytlefefcakffepaa.Lat Go.Proofs.Ytlefefcakffepaa.Sep Go.Proofs.Ytlefefcakffepaa.Sram Go.Proofs.Ytlefefcakffepaa.Find Go.Proofs.Ytlefefcakffepaa.Sbuf Go.Proofs.Ytlefefcakffepaa.Ref05 Go.Proofs.Ytlefefcakffepaa.Bus Go.Proofs.Ytlefefcakffepaa.PBusPlays Go.Proofs.YtlefefcakffepaaW.PrintWords
abbrev BB := Option Addr × Nat
def rcf (cap : Nat) (L : List W16) (b : BB) : List Value := [.int .i64 (cap : Int), .slice b.1 L.length b.2]
def rpf (L : List W16) (b : BB) : Rg := rl (.slice b.1 L.length b.2) L
abbrev bufsR (cap : Nat) (V : Value) (Ls : List (List W16)) : Rg := rrow 90 2 (rcf cap) rpf V Ls
abbrev rbus (vr vb : Value) (cap : Nat) (ws : List Int) (Ls : List (List W16)) : Rg := alls [lat vr ws, bufsR cap vb Ls]
theorem rcf_len (cap : Nat) (L : List W16) (b : BB) : (rcf cap L b).length = 2 := rfl
theorem rcf_one (cap : Nat) (L : List W16) (b : BB) : ∀ u ∈ rcf cap L b, u.oneCell' = true := by
  intro u hu
  simp only [rcf, List.mem_cons, List.not_mem_nil, or_false] at hu
  rcases hu with rfl | rfl <;> rfl
theorem results_c {fn : Func} {p : Tmp} {ty : TypeId} (h : fn.results = #[.cell p ty]) (tmps : Array Value) (P : Program) (w : World) :
    (results fn tmps).run P w = ((asAddr (tmps.getD p undef)).run P w).andThen fun a w₁ => (loadVar ty a).run P w₁ := by
  simp only [results, h]
  simp [Sem.run_bind, Result.andThen]
/-! ### 1. wrong -/
def wrongC (n m : Nat) (core a : Int) : Int := if 0 ≤ core ∧ core < n then (if 0 ≤ a ∧ a < m then 0 else 4) else 3
set_option maxRecDepth 100000 in
theorem wrong_x (Ar Ab : Option Addr) (m cr n cb : Nat) (core a : Int) (w : World) :
    Calls Try.prog 45 #[.agg #[.slice Ar m cr, .slice Ab n cb], .int .i64 core, .int .i64 a] w fun e w' => e = .returned (.int .i64 (wrongC n m core a)) ∧ Up w w' := by
  have HU := Lib.hid ((Up.refl w).alloc (.cells #[.slice Ar m cr, .slice Ab n cb] 45))
  unfold wrongC
  by_cases h0 : core < 0
  · rw [if_neg (by omega)]
    go_enter Try.func45, Try.ntmps45
    go_wp2
    go_ret
    exact ⟨rfl, HU.out⟩
  by_cases h1 : (n : Int) ≤ core
  · rw [if_neg (by omega)]
    go_enter Try.func45, Try.ntmps45
    go_wp2
    go_ret
    exact ⟨rfl, HU.out⟩
  rw [if_pos (by omega)]
  by_cases h2 : a < 0
  · rw [if_neg (by omega)]
    go_enter Try.func45, Try.ntmps45
    go_wp2
    go_ret
    exact ⟨rfl, HU.out⟩
  by_cases h3 : (m : Int) ≤ a
  · rw [if_neg (by omega)]
    go_enter Try.func45, Try.ntmps45
    go_wp2
    go_ret
    exact ⟨rfl, HU.out⟩
  rw [if_pos (by omega)]
  go_enter Try.func45, Try.ntmps45
  go_wp2
  go_ret
  exact ⟨rfl, HU.out⟩
/-! ### 2. with -/
theorem info_buf : (Try.prog.info? 90).map (fun i => (i.zero, i.size, i.bytes)) = some (some (.agg #[.int .i64 0, .slice none 0 0]), 2, 32) := by kernel_rfl
section
variable {P0 : Nat → Prop} {w0 w w' : World} {F M : List Rg} {vr : Value} {ws : List Int} {Ls : List (List W16)} {L : List W16} {cap : Nat}
set_option maxHeartbeats 4000000 in
set_option maxRecDepth 100000 in
theorem with_raw {A Ar Ax : Option Addr} {n c m cr nx cx i cap : Nat} {xs : List Value} (hi : i < n) (hn : n ≤ 8) (hrd : Rd w 2 A n xs) (h : St P0 w0 w F) :
    Calls Try.prog 48 #[.agg #[.slice Ar m cr, .slice A n c], .int .i64 (i : Int), .agg #[.int .i64 (cap : Int), .slice Ax nx cx]] w fun e w' => ∃ A' c', e = .returned (.agg #[.slice Ar m cr, .slice A' n c']) ∧ St P0 w0 w' (slc 90 2 (.slice A' n c') n (putAt xs (i * 2) [.int .i64 (cap : Int), .slice Ax nx cx]) :: F) := by
  have h1 := ((h.alloc #[.slice Ar m cr, .slice A n c] 45).alloc #[.int .i64 (cap : Int), .slice Ax nx cx] 90).alloc #[.slice none 0 0, .slice none 0 0] 45
  rw [World.size_alloc, World.size_alloc] at h1
  have h2 := St.fresh (M := [slc 90 2 (.slice none 0 0) 0 []]) h1 (Up.refl _) ⟨No, No, fun _ e => e.elim, fun _ e => e.elim, fun _ e => e.elim, slc_nil _ _ _ _, trivial⟩
  have HRD := Lib.hid (hrd.up ((((Up.refl w).alloc (.cells #[.slice Ar m cr, .slice A n c] 45)).alloc (.cells #[.int .i64 (cap : Int), .slice Ax nx cx] 90)).alloc (.cells #[.slice none 0 0, .slice none 0 0] 45)))
  have HS := Lib.hid h2
  obtain ⟨t0, ht0, hz0, hz1, hz2⟩ := Clone.info_of info_buf
  clear h h1 h2 hrd
  have hi2 : (i : Int) < (n : Int) := by omega
  go_enter Try.func48, Try.ntmps48
  go_upto_region 3 with (at_builtin; refine St.append 90 t0 (.agg #[.int .i64 0, .slice none 0 0]) 2 32 HS.out rfl (.tmp 8) (.tmp 10) 43 rfl Try.underlying43 ht0 hz0 hz1 hz2 rfl (by decide) rfl A n c xs rfl HRD.out (by unfold maxLen; omega) (by omega) ?_; rw [Nat.zero_add, List.nil_append]; intro A1 c1 w3 hst hsz; obtain ⟨g, o, hA, hcs, hfs⟩ := slc_at hst (by omega); subst hA; obtain ⟨u0, y0⟩ := hcs (i * 2) (by omega); obtain ⟨u1, y1⟩ := hcs (i * 2 + 1) (by omega); rw [← Nat.add_assoc] at y1; have f0 := hfs (o + i * 2); have f1 := hfs (o + i * 2 + 1); have x0 : w3.cell? ⟨w.heap.size + 1, 0, none⟩ = some (.int .i64 (cap : Int)) := cell_of_block (hst.get 2).bk_at 0; have x1 : w3.cell? ⟨w.heap.size + 1, 1, none⟩ = some (.slice Ax nx cx) := cell_of_block (hst.get 2).bk_at 1; have s0 := hst.slc_set (i * 2) (.int .i64 (cap : Int)) (by omega); have s1 := s0.slc_set (i * 2 + 1) (.slice Ax nx cx) (by omega); rw [← Nat.add_assoc o (i * 2) 1] at s1; have H3 := Lib.hid s1; clear hst hsz hcs hfs s0 s1)
  go_upto_region 4 with fail
  have h3 := H3.out
  have b0 : ((w3.setCell ⟨g, o + i * 2, none⟩ (.int .i64 (cap : Int))).setCell ⟨g, o + i * 2 + 1, none⟩ (.slice Ax nx cx)).cell? ⟨w.heap.size, 0, none⟩ = some (.slice Ar m cr) := cell_of_block (h3.get 3).bk_at 0
  have b1 : ((w3.setCell ⟨g, o + i * 2, none⟩ (.int .i64 (cap : Int))).setCell ⟨g, o + i * 2 + 1, none⟩ (.slice Ax nx cx)).cell? ⟨w.heap.size, 1, none⟩ = some (.slice A n c) := cell_of_block (h3.get 3).bk_at 1
  have d1 : ((w3.setCell ⟨g, o + i * 2, none⟩ (.int .i64 (cap : Int))).setCell ⟨g, o + i * 2 + 1, none⟩ (.slice Ax nx cx)).frozen? ⟨w.heap.size, 1, none⟩ = false := free_of_block (h3.get 3).bk_at 1
  have r0 : ((w3.setCell ⟨g, o + i * 2, none⟩ (.int .i64 (cap : Int))).setCell ⟨g, o + i * 2 + 1, none⟩ (.slice Ax nx cx)).cell? ⟨w.heap.size + 1 + 1, 0, none⟩ = some (.slice none 0 0) := cell_of_block (h3.get 1).bk_at 0
  have r1 : ((w3.setCell ⟨g, o + i * 2, none⟩ (.int .i64 (cap : Int))).setCell ⟨g, o + i * 2 + 1, none⟩ (.slice Ax nx cx)).cell? ⟨w.heap.size + 1 + 1, 1, none⟩ = some (.slice none 0 0) := cell_of_block (h3.get 1).bk_at 1
  have e0 : ((w3.setCell ⟨g, o + i * 2, none⟩ (.int .i64 (cap : Int))).setCell ⟨g, o + i * 2 + 1, none⟩ (.slice Ax nx cx)).frozen? ⟨w.heap.size + 1 + 1, 0, none⟩ = false := free_of_block (h3.get 1).bk_at 0
  have e1 : ((w3.setCell ⟨g, o + i * 2, none⟩ (.int .i64 (cap : Int))).setCell ⟨g, o + i * 2 + 1, none⟩ (.slice Ax nx cx)).frozen? ⟨w.heap.size + 1 + 1, 1, none⟩ = false := free_of_block (h3.get 1).bk_at 1
  clear H3 x0 x1 y0 y1 f0 f1 HS HRD
  generalize (w3.setCell ⟨g, o + i * 2, none⟩ (.int .i64 (cap : Int))).setCell ⟨g, o + i * 2 + 1, none⟩ (.slice Ax nx cx) = w4 at *
  have H4 := Lib.hid h3
  clear h3
  go_wp2_with fail
  (try simp only [Exit.inBlock, Exit.then])
  refine bodyPost_ret (v := .agg #[.slice Ar m cr, .slice (some ⟨g, o, none⟩) n c1]) ?_ rfl ?_
  · rw [results_c (fn := Try.f48) rfl]
    go_simp
  · have h5 := (((H4.out.get 3).set 1 (.slice (some ⟨g, o, none⟩) n c1)).get 2).set 0 (.slice Ar m cr) |>.set 1 (.slice (some ⟨g, o, none⟩) n c1)
    exact ⟨_, _, rfl, (((h5.get 2).cut 1).cut 1).cut 1⟩
theorem with_x {A Ar Ax : Option Addr} {n c m cr cx i : Nat} (h : St P0 w0 w (alls M :: F)) (hV : bufsR cap (.slice A n c) Ls ∈ M) (hn : n = Ls.length) (hx : rl (.slice Ax L.length cx) L ∈ M) (hi : i < n) (h8 : n ≤ 8) :
    Calls Try.prog 48 #[.agg #[.slice Ar m cr, .slice A n c], .int .i64 (i : Int), .agg #[.int .i64 (cap : Int), .slice Ax L.length cx]] w fun e w' => ∃ A' c', e = .returned (.agg #[.slice Ar m cr, .slice A' n c']) ∧ St P0 w0 w' (alls (bufsR cap (.slice A' n c') (Ls.set i L) :: M) :: F) := by
  subst hn
  obtain ⟨A1, c1, bs, e1, hm, hrd, -, -, h1⟩ := rrow_rd h hV (rcf_one cap)
  cases e1
  refine (with_raw (F := alls (alls (rps rpf Ls bs) :: slc 90 2 (.slice A Ls.length c) Ls.length (rcs (rcf cap) Ls bs) :: M) :: F) hi h8 hrd h1).mono ?_
  rintro e w' ⟨A', c', rfl, h2⟩
  refine ⟨A', c', rfl, ?_⟩
  have h3 := rrow_put (cf := rcf cap) (pf := rpf) (x := L) (b := (Ax, cx)) hm hi (rcf_len cap) (.head _) (.tail _ (.tail _ hx)) h2
  refine h3.ro_sub fun B hB => ?_
  rcases List.mem_cons.1 hB with rfl | hB
  · exact .head _
  · exact .tail _ (.tail _ (.tail _ hB))
end
end Go.Proofs.Ytlefefcakffepaa.Br
