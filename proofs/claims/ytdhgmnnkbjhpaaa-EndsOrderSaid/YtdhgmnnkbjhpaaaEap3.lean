/- own, Right: of a message whose words are read. -/
import Derived.Test.YtdhgmnnkbjhpaaaEap2
import Derived.Test.YtdhgmnnkbjhpaaaGivenHead
import Derived.Test.YtdhgmnnkbjhpaaaGivenClone
import Derived.Laws.ResultCell
namespace Go.Proofs.Ytdhgmnnkbjhpaaa.Eps
set_option linter.unusedVariables false
set_option linter.unusedSimpArgs false
open Go.RowKit Go.Proofs.Ytdhgmnnkbjhpaaa.Sep Go.Proofs.Ytdhgmnnkbjhpaaa.Mp Go.Proofs.Ytdhgmnnkbjhpaaa.Given Go.Proofs.YtdhgmnnkbjhpaaaW.PrintWords
open Go.Maps (Keyed)
theorem results_c {fn : Func} {p : Tmp} {ty : TypeId} (h : fn.results = #[.cell p ty]) (tmps : Array Value) (P : Program) (w : World) :
    (results fn tmps).run P w = ((asAddr (tmps.getD p undef)).run P w).andThen fun a w₁ => (loadVar ty a).run P w₁ := by
  simp only [results, h]
  simp [Sem.run_bind, Result.andThen]
theorem ints_of_R {w w' : World} {A : Option Addr} {n c : Nat} {l : List Int} (h : Kd.R (Kd.int .i64) 3 w' w.heap.size (fun _ => True) (.slice A n c) l) : n = l.length ∧ (slc 3 1 (.slice A l.length c) l.length (l.map (Value.int .i64))).X w' (fun k => w.heap.size ≤ k) := by
  obtain ⟨hn, _, hC⟩ := Kd.R_reads' h
  subst hn
  refine ⟨rfl, ?_⟩
  obtain ⟨inner, ho⟩ := Kd.R_own h
  have h0 := ho.2
  have hX : (slc 3 1 (.slice A l.length c) l.length inner).X w' (fun k => w.heap.size ≤ k) := by
    refine slc_of_own ho fun k hk => ?_
    rcases h0 with ⟨e, _⟩ | ⟨g, cap, cur, e, hg, _⟩
    · rw [e] at hk
      cases hk
    · rw [e] at hk
      cases hk
      exact hg
  have hin : inner = l.map (Value.int .i64) := by
    have hl := (slc_one hX).1
    refine List.ext_getElem? fun j => ?_
    by_cases hj : j < l.length
    · obtain ⟨g, o, hA, _, _, _, hc, _⟩ := slc_cells hX (by omega)
      obtain ⟨ad, hA2, hc2⟩ := hC.2.2 (by omega)
      rw [hA] at hA2
      cases hA2
      obtain ⟨cs, e1, e2, e3⟩ := hc2 j l[j] (List.getElem?_eq_getElem hj)
      have e4 : cs = [.int .i64 l[j]] := e2
      have e5 := e3 0 (.int .i64 l[j]) (by rw [e4]; rfl)
      obtain ⟨u1, hu1⟩ : ∃ u, inner[j]? = some u := ⟨_, List.getElem?_eq_getElem (by omega)⟩
      have e6 := hc j u1 hu1
      have e7 : w'.cell? ((⟨g, o, none⟩ : Addr).add (j * 1 + 0)) = some (.int .i64 l[j]) := e5
      rw [Nat.mul_one, Nat.add_zero, Addr.add_mid, e6] at e7
      rw [hu1, e7, List.getElem?_map, List.getElem?_eq_getElem hj]
      rfl
    · rw [List.getElem?_eq_none (by omega), List.getElem?_eq_none (by rw [List.length_map]; omega)]
  rw [← hin]
  exact hX
theorem clone_u {A : Option Addr} {c : Nat} {l : List Int} {w : World} (hr : Kd.C (Kd.int .i64) w A l.length l) (hc : l.length ≤ c) (hb : l.length ≤ 1000) : Calls Try.prog 71 #[.slice A l.length c] w fun x w' =>
    ∃ A' c', x = .returned (.slice A' l.length c') ∧ (slc 3 1 (.slice A' l.length c') l.length (l.map (Value.int .i64))).X w' (fun k => w.heap.size ≤ k) ∧ Up w w' := by
  refine (slices_Clone_int_int.calls A c l l w hr hc (by unfold slices_Clone_int_int.f; rw [if_pos (by omega)])).mono ?_
  rintro x w' ⟨v, rfl, hR, hu⟩
  obtain ⟨A', c', rfl, _⟩ := Kd.R_reads hR
  exact ⟨A', c', rfl, (ints_of_R hR).2, hu⟩
set_option maxHeartbeats 4000000 in
set_option maxRecDepth 100000 in
theorem Right_u (b0 b1 b2 : Int) {A : Option Addr} {c : Nat} {l : List Int} {w : World} (hr : Kd.C (Kd.int .i64) w A l.length l) (hc : l.length ≤ c) : Calls Try.prog 56 #[.agg #[.int .i64 b0, .int .i64 b1, .int .i64 b2, .slice A l.length c]] w fun x w' =>
    x = .returned (.bool (hwrong b0 b1 b2 l == 0)) ∧ Up w w' := by
  have hu := (Up.refl w).alloc (.cells #[.int .i64 b0, .int .i64 b1, .int .i64 b2, .slice A l.length c] 88)
  have HU := Lib.hid hu
  have HW := Lib.hid (head_wrong.calls b0 b1 b2 A c l _ _ (Kd.C_below hr hu) hc rfl)
  clear hu hr hc
  generalize hwrong b0 b1 b2 l = r at *
  go_enter Try.func56, Try.ntmps56
  go_wp2_with fail
  refine HW.out.mono ?_
  rintro x w1 ⟨rfl, hu⟩
  have HU2 := Lib.hid (HU.out.trans hu)
  clear hu HW HU
  go_wp2_with fail
  go_ret
  exact ⟨rfl, HU2.out⟩
set_option maxHeartbeats 4000000 in
set_option maxRecDepth 100000 in
theorem own_u (b0 b1 b2 : Int) {A : Option Addr} {c : Nat} {l : List Int} {w : World} (hr : Kd.C (Kd.int .i64) w A l.length l) (hc : l.length ≤ c) (hb : l.length ≤ 1000) : Calls Try.prog 57 #[.agg #[.int .i64 b0, .int .i64 b1, .int .i64 b2, .slice A l.length c]] w fun x w' =>
    ∃ A' c', x = .returned (.agg #[.int .i64 b0, .int .i64 b1, .int .i64 b2, .slice A' l.length c']) ∧ St No w w' [slc 3 1 (.slice A' l.length c') l.length (l.map (Value.int .i64))] := by
  have h0 := ((St.nil w).alloc #[.int .i64 b0, .int .i64 b1, .int .i64 b2, .slice A l.length c] 88).alloc #[.int .i64 0, .int .i64 0, .int .i64 0, .slice none 0 0] 88
  rw [World.size_alloc] at h0
  have HC := Lib.hid (clone_u (Kd.C_below hr h0.up) hc hb)
  have HS0 := Lib.hid h0
  obtain ⟨n, hn⟩ : ∃ n, l.length = n := ⟨_, rfl⟩
  rw [hn] at HC HS0 ⊢
  clear h0 hr hc hb
  go_enter Try.func57, Try.ntmps57
  go_wp2_with fail
  refine HC.out.mono ?_
  rintro x w1 ⟨A', c', rfl, hX, hu⟩
  have h1 := St.fresh (M := [slc 3 1 (.slice A' n c') n (l.map (Value.int .i64))]) HS0.out hu ⟨_, No, fun _ e => e, fun _ e => e.elim, fun _ _ e => e.elim, hX, trivial⟩
  have hq := (h1.get 1)
  have hp := (h1.get 2)
  have q0 : w1.cell? ⟨w.heap.size + 1, 0, none⟩ = some (.int .i64 0) := cell_of_block hq.bk_at 0
  have q1 : w1.cell? ⟨w.heap.size + 1, 1, none⟩ = some (.int .i64 0) := cell_of_block hq.bk_at 1
  have q2 : w1.cell? ⟨w.heap.size + 1, 2, none⟩ = some (.int .i64 0) := cell_of_block hq.bk_at 2
  have q3 : w1.cell? ⟨w.heap.size + 1, 3, none⟩ = some (.slice none 0 0) := cell_of_block hq.bk_at 3
  have f0 : w1.frozen? ⟨w.heap.size + 1, 0, none⟩ = false := free_of_block hq.bk_at 0
  have f1 : w1.frozen? ⟨w.heap.size + 1, 1, none⟩ = false := free_of_block hq.bk_at 1
  have f2 : w1.frozen? ⟨w.heap.size + 1, 2, none⟩ = false := free_of_block hq.bk_at 2
  have f3 : w1.frozen? ⟨w.heap.size + 1, 3, none⟩ = false := free_of_block hq.bk_at 3
  have p0 : w1.cell? ⟨w.heap.size, 0, none⟩ = some (.int .i64 b0) := cell_of_block hp.bk_at 0
  have p1 : w1.cell? ⟨w.heap.size, 1, none⟩ = some (.int .i64 b1) := cell_of_block hp.bk_at 1
  have p2 : w1.cell? ⟨w.heap.size, 2, none⟩ = some (.int .i64 b2) := cell_of_block hp.bk_at 2
  have p3 : w1.cell? ⟨w.heap.size, 3, none⟩ = some (.slice A n c) := cell_of_block hp.bk_at 3
  have g3 : w1.frozen? ⟨w.heap.size, 3, none⟩ = false := free_of_block hp.bk_at 3
  have HS1 := Lib.hid h1
  clear h1 hq hp hX hu HC HS0 hn
  go_wp2_with fail
  (try simp only [Exit.inBlock, Exit.then])
  refine bodyPost_ret (v := .agg #[.int .i64 b0, .int .i64 b1, .int .i64 b2, .slice A' n c']) ?_ rfl ?_
  · rw [results_c (fn := Try.f57) rfl]
    go_simp
  · have h2 := (((((HS1.out.get 2).set 3 (.slice A' n c')).get 2).set 0 (.int .i64 b0)).set 1 (.int .i64 b1)).set 2 (.int .i64 b2) |>.set 3 (.slice A' n c')
    exact ⟨A', c', rfl, ((h2.get 2).cut 1).cut 1⟩
end Go.Proofs.Ytdhgmnnkbjhpaaa.Eps
