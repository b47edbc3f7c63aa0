/- The reference of the bus, its parts: Put, Drain, Find of a buffer, Store of a memory, over what is only read; written by mkbr1.py. -/
import Derived.Test.YtlefefcakffepaaBusOrd0
import Derived.Test.YtlefefcakffepaaPBusPlaysx2
namespace Go.Proofs.Ytlefefcakffepaa.Br
set_option linter.unusedVariables false
set_option linter.unusedSimpArgs false
open Go.RowKit Go.Proofs.Ytlefefcakffepaa.CellOf Go.Proofs.Ytlefefcakffepaa.CellP Go.Proofs.Ytlefefcakffepaa.Lat Go.Proofs.Ytlefefcakffepaa.Sep Go.Proofs.Ytlefefcakffepaa.Sram Go.Proofs.Ytlefefcakffepaa.Find Go.Proofs.Ytlefefcakffepaa.Sbuf Go.Proofs.Ytlefefcakffepaa.Ref05 Go.Proofs.Ytlefefcakffepaa.Bus Go.Proofs.Ytlefefcakffepaa.PBusPlays Go.Proofs.YtlefefcakffepaaW.PrintWords
theorem _root_.Go.Proofs.Ytlefefcakffepaa.Sep.St.ro_dup {P0 : Nat → Prop} {w0 w : World} {M F : List Rg} {A : Rg} (h : St P0 w0 w (alls M :: F)) (hA : A ∈ M) : St P0 w0 w (alls (A :: M) :: F) := h.ro_add fun P hP => hP A hA
section
variable {P0 : Nat → Prop} {w0 w w' : World} {F : List Rg} {V : Value} {L : List W16}
theorem _root_.Go.Proofs.Ytlefefcakffepaa.Sep.St.slc_set {e sz n c g o : Nat} {xs : List Value} (h : St P0 w0 w (slc e sz (.slice (some ⟨g, o, none⟩) n c) n xs :: F)) (j : Nat) (u : Value) (hj : j < n * sz) :
    St P0 w0 (w.setCell ⟨g, o + j, none⟩ u) (slc e sz (.slice (some ⟨g, o, none⟩) n c) n (xs.set j u) :: F) := by
  obtain ⟨P, ⟨Q, R, hq, hr, hd, hA, _⟩, hs⟩ := St.step (L := [slc e sz (.slice (some ⟨g, o, none⟩) n c) n xs]) h
  rcases hA with ⟨h1, _⟩ | ⟨g', o', c', cur, h1, h2, h3, h4, h5, h6, h7, h8⟩
  · cases h1
  · cases h1
    refine hs (M := [slc e sz (.slice (some ⟨g, o, none⟩) n c) n (xs.set j u)]) ⟨⟨rfl, rfl, rfl, by simp [World.setCell], fun k hk hn => heap_set_far u (fun e => hn (by rw [e]; exact hq g h5))⟩, fun k => k = g, No, ?_, fun _ e => e.elim, fun _ _ e => e.elim, .inr ⟨g, o, c, cur.setIfInBounds (o + j) u, rfl, h2, h3, by simpa using h4, rfl, heap_setCell_same h6 u, by simpa using h7, ?_⟩, trivial⟩
    · rintro k rfl
      exact ⟨.inl (hq k h5), by simpa [World.setCell] using heap_lt h6⟩
    · intro i hi
      have hi' : i < xs.length := by simpa using hi
      have hcur : o + j < cur.size := by
        have := Nat.mul_le_mul_right sz h2
        omega
      rw [List.getElem?_set, Array.getElem?_setIfInBounds]
      by_cases e : j = i
      · subst e
        simp [hi', hcur]
      · rw [if_neg e, if_neg (by omega)]
        exact h8 i hi'
theorem slc_at {e sz n c : Nat} {A : Option Addr} {xs : List Value} (h : St P0 w0 w (slc e sz (.slice A n c) n xs :: F)) (hn : 0 < n) : ∃ g o, A = some ⟨g, o, none⟩ ∧ (∀ j, j < n * sz → ∃ u, w.cell? ⟨g, o + j, none⟩ = some u) ∧ (∀ j, w.frozen? ⟨g, j, none⟩ = false) := by
  obtain ⟨P, ⟨Q, Q2, _, _, _, h2, _⟩, _⟩ := St.step (L := [slc e sz (.slice A n c) n xs]) h
  obtain ⟨g, o, rfl, _, _, _, hc, hf⟩ := slc_cells h2 hn
  refine ⟨g, o, rfl, fun j hj => ?_, hf⟩
  rw [← (slc_one h2).1] at hj
  exact ⟨_, hc j _ (List.getElem?_eq_getElem hj)⟩
set_option maxHeartbeats 4000000 in
set_option maxRecDepth 100000 in
theorem Put_x {M : List Rg} (h : St P0 w0 w (alls M :: F)) (hV : rl V L ∈ M) (cap : Nat) (a v : Int) (hl : L.length ≤ 100000) :
    Calls Try.prog 76 #[rv cap V, .agg #[.int .i64 a, .int .i64 v]] w fun e w' => ∃ V', e = .returned (.tuple #[rv cap V', .int .i64 (putB cap L a v).2]) ∧ St P0 w0 w' (alls (rl V' (putB cap L a v).1 :: M) :: F) := by
  obtain ⟨A, c, rfl, hc1, hc2, hrd, -⟩ := rl_form (h.ro_get hV)
  have HVM := Lib.hid hV
  clear hV
  have HA := Lib.hid (refIs_walk a)
  have HV := Lib.hid (refIs_walk v)
  have hb := ((h.alloc #[.int .i64 (cap : Int), .slice A L.length c] 90).alloc #[.int .i64 a, .int .i64 v] 55).alloc #[.int .i64 0, .slice none 0 0] 90
  rw [World.size_alloc, World.size_alloc] at hb
  have HS := Lib.hid hb
  have HRD := Lib.hid hrd
  have H0 := Lib.hid h
  clear h hb hrd
  cases hx : mkW a v with
  | none =>
    have E : putB cap L a v = (L, 2) := by unfold putB; rw [hx]
    rw [E]
    have h0 := (inW_mkW a v).1 hx
    clear hx E
    have hab : inW a = false ∨ (inW a = true ∧ inW v = false) := by
      cases ha : inW a with
      | false => exact .inl rfl
      | true =>
        cases hv : inW v with
        | false => exact .inr ⟨rfl, rfl⟩
        | true => exact absurd ⟨ha, hv⟩ h0
    clear h0
    rcases hab with ha | ⟨ha, hv⟩
    all_goals
      have Ha := Lib.hid ha
      (try have Hv := Lib.hid hv)
      clear ha
      (try clear hv)
      go_enter Try.func76, Try.ntmps76
      go_wp2_with (first
        | (go_at_call 75; (with_reducible refine (HA.out _).mono ?_); rw [Ha.out]; rintro e w' ⟨rfl, rfl⟩)
        | (go_at_call 75; (with_reducible refine (HV.out _).mono ?_); rw [Hv.out]; rintro e w' ⟨rfl, rfl⟩))
      refine bodyPost_ret (v := .tuple #[rv cap (.slice A L.length c), .int .i64 2]) ?_ rfl ⟨_, rfl, ((((H0.out.allocU _).allocU _).allocU _).ro_dup HVM.out)⟩
      rw [results_cell_tmp (fn := Try.f76) rfl]
      go_simp
  | some x =>
    have hab := mkW_in hx
    have Ha := Lib.hid hab.1
    have Hv := Lib.hid hab.2
    obtain ⟨ea, ev⟩ := mkW_some hx
    by_cases hf : cap ≤ L.length
    · have E : putB cap L a v = (L, 5) := by unfold putB; rw [hx]; exact if_pos hf
      rw [E]
      have d2 : decide (cap ≤ L.length) = true := decide_eq_true hf
      clear E hx hab ea ev
      go_enter Try.func76, Try.ntmps76
      go_wp2_with (first
        | (go_at_call 75; (with_reducible refine (HA.out _).mono ?_); rw [Ha.out]; rintro e w' ⟨rfl, rfl⟩)
        | (go_at_call 75; (with_reducible refine (HV.out _).mono ?_); rw [Hv.out]; rintro e w' ⟨rfl, rfl⟩))
      refine bodyPost_ret (v := .tuple #[rv cap (.slice A L.length c), .int .i64 5]) ?_ rfl ⟨_, rfl, ((((H0.out.allocU _).allocU _).allocU _).ro_dup HVM.out)⟩
      rw [results_cell_tmp (fn := Try.f76) rfl]
      go_simp
    · have E : putB cap L a v = (L ++ [x], 0) := by unfold putB; rw [hx]; exact if_neg hf
      rw [E]
      have d2 : decide (cap ≤ L.length) = false := decide_eq_false hf
      have EX := Lib.hid (show sw x = [.int .i64 a, .int .i64 v] by rw [ea, ev]; rfl)
      clear E hx hab ea ev hf
      obtain ⟨t0, ht0, hz0, hz1, hz2⟩ := Clone.info_of info_store
      have h1 := St.fresh (M := [slc 55 2 (.slice none 0 0) 0 []]) HS.out (Up.refl _) ⟨No, No, fun _ e => e.elim, fun _ e => e.elim, fun _ e => e.elim, slc_nil _ _ _ _, trivial⟩
      have HRD1 := Lib.hid (HRD.out.up ((((Up.refl w).alloc (.cells #[.int .i64 (cap : Int), .slice A L.length c] 90)).alloc (.cells #[.int .i64 a, .int .i64 v] 55)).alloc (.cells #[.int .i64 0, .slice none 0 0] 90)))
      have H1 := Lib.hid h1
      clear h1
      go_enter Try.func76, Try.ntmps76
      go_wp2_with (first
        | (go_at_call 75; (with_reducible refine (HA.out _).mono ?_); rw [Ha.out]; rintro e w' ⟨rfl, rfl⟩)
        | (go_at_call 75; (with_reducible refine (HV.out _).mono ?_); rw [Hv.out]; rintro e w' ⟨rfl, rfl⟩)
        | (at_builtin; refine St.append 55 t0 (.agg #[.int .i64 0, .int .i64 0]) 2 16 H1.out rfl (.tmp 25) (.tmp 27) 53 rfl Try.underlying53 ht0 hz0 hz1 hz2 rfl (by decide) rfl A L.length c (L.flatMap sw) rfl HRD1.out (by unfold maxLen; omega) (by omega) ?_; rw [Nat.zero_add, List.nil_append]; intro A1 c1 w3 hst hsz; have H3 := Lib.hid hst; have q3 : St P0 w0 w3 (bk (w.heap.size + 1) 55 #[.int .i64 a, .int .i64 v] :: _) := hst.get 2; have k0 : w3.cell? ⟨w.heap.size + 1, 0, none⟩ = some (.int .i64 a) := cell_of_block q3.bk_at 0; have k1 : w3.cell? ⟨w.heap.size + 1, 1, none⟩ = some (.int .i64 v) := cell_of_block q3.bk_at 1; have h4 : St P0 w0 (w3.alloc (.cells #[.int .i64 a, .int .i64 v] 55)) (slc 55 2 (.slice A1 L.length c1) L.length (L.flatMap sw) :: _) := (hst.alloc #[.int .i64 a, .int .i64 v] 55).get 1; have H4 := Lib.hid h4; have HRD4 := Lib.hid (Rd.of_block (sz := 2) (m := 1) ((hst.alloc #[.int .i64 a, .int .i64 v] 55).bk_at) rfl (by simp [Value.oneCell'])); clear hst hsz q3 h4)
        | (at_builtin; refine St.append 55 t0 (.agg #[.int .i64 0, .int .i64 0]) 2 16 H4.out rfl (.tmp 29) (.tmp 31) 53 rfl Try.underlying53 ht0 hz0 hz1 hz2 rfl (by decide) rfl (some ⟨w3.heap.size, 0, none⟩) 1 1 [.int .i64 a, .int .i64 v] rfl HRD4.out (by unfold maxLen; omega) (by omega) ?_; intro A2 c2 w5 hst hsz; have H5 := Lib.hid hst; have p4 : St P0 w0 w5 (bk (w.heap.size + 1 + 1) 90 #[.int .i64 0, .slice none 0 0] :: _) := hst.get 2; have p2 : St P0 w0 w5 (bk w.heap.size 90 #[.int .i64 (cap : Int), .slice A L.length c] :: _) := hst.get 4; have x20 : w5.cell? ⟨w.heap.size, 0, none⟩ = some (.int .i64 (cap : Int)) := cell_of_block p2.bk_at 0; have x21 : w5.cell? ⟨w.heap.size, 1, none⟩ = some (.slice A L.length c) := cell_of_block p2.bk_at 1; have f21 : w5.frozen? ⟨w.heap.size, 1, none⟩ = false := free_of_block p2.bk_at 1; have x40 : w5.cell? ⟨w.heap.size + 1 + 1, 0, none⟩ = some (.int .i64 0) := cell_of_block p4.bk_at 0; have x41 : w5.cell? ⟨w.heap.size + 1 + 1, 1, none⟩ = some (.slice none 0 0) := cell_of_block p4.bk_at 1; have f40 : w5.frozen? ⟨w.heap.size + 1 + 1, 0, none⟩ = false := free_of_block p4.bk_at 0; have f41 : w5.frozen? ⟨w.heap.size + 1 + 1, 1, none⟩ = false := free_of_block p4.bk_at 1; clear hst hsz p2 p4))
      have s2 : St P0 w0 (((w5.setCell ⟨w.heap.size, 1, none⟩ (.slice A2 (L.length + 1) c2)).setCell ⟨w.heap.size + 1 + 1, 0, none⟩ (.int .i64 (cap : Int))).setCell ⟨w.heap.size + 1 + 1, 1, none⟩ (.slice A2 (L.length + 1) c2)) (alls M :: slc 55 2 (.slice A2 (L.length + 1) c2) (L.length + 1) (L.flatMap sw ++ [.int .i64 a, .int .i64 v]) :: F) :=
        (((((((((H5.out.get 4).set 1 (.slice A2 (L.length + 1) c2)).get 3).set 0 (.int .i64 (cap : Int))).set 1 (.slice A2 (L.length + 1) c2)).get 5).cut 1).cut 1).cut 2).cut 2
      have e2 : (L ++ [x]).length = L.length + 1 := by simp
      refine bodyPost_ret (v := .tuple #[rv cap (.slice A2 (L.length + 1) c2), .int .i64 0]) ?_ rfl ⟨_, rfl, ?_⟩
      · rw [results_cell_tmp (fn := Try.f76) rfl]
        go_simp
      · unfold rl
        rw [e2, sw_snoc, EX.out]
        exact (s2.get 1).ro_join
set_option maxHeartbeats 4000000 in
set_option maxRecDepth 100000 in
theorem Drain_x {M : List Rg} (h : St P0 w0 w (alls M :: F)) (hV : rl V L ∈ M) (cap : Nat) (hl : L.length ≤ 100000) :
    Calls Try.prog 78 #[rv cap V] w fun e w' => ∃ V', e = .returned (.tuple #[rv cap V', drainT L, .bool (decide (0 < L.length))]) ∧ St P0 w0 w' (alls (rl V' L.tail :: M) :: F) := by
  obtain ⟨A, c, rfl, hc1, hc2, hrd, hcells⟩ := rl_form (h.ro_get hV)
  have HVM := Lib.hid hV
  clear hV
  have H0 := Lib.hid h
  cases L with
  | nil =>
    clear h hrd hcells
    go_enter Try.func78, Try.ntmps78
    go_wp2
    refine bodyPost_ret (v := .tuple #[rv cap (.slice A 0 c), .agg #[.int .i64 0, .int .i64 0], .bool false]) ?_ rfl ⟨_, rfl, ((((H0.out.allocU _).allocU _).allocU _).ro_dup HVM.out)⟩
    simp [results, Try.results78, go_sem]
  | cons x L =>
    obtain ⟨g, o, rfl, k0, k1⟩ := hcells 0 (by simp)
    have hup := (((Up.refl w).alloc (.cells #[.int .i64 (cap : Int), .slice (some ⟨g, o, none⟩) (x :: L).length c] 90)).alloc (.cells #[.int .i64 0, .slice none 0 0] 90)).alloc (.cells #[.int .i64 0, .int .i64 0] 55)
    have k0' := cell_below hup (show w.cell? ⟨g, o, none⟩ = some (.int .i64 (x.a : Int)) by simpa using k0)
    have k1' := cell_below hup (show w.cell? ⟨g, o + 1, none⟩ = some (.int .i64 (x.v : Int)) by simpa using k1)
    have ed : decide (0 < (x :: L).length) = true := by simp
    have EX := Lib.hid (show drainT (x :: L) = .agg #[.int .i64 (x.a : Int), .int .i64 (x.v : Int)] from rfl)
    obtain ⟨t0, ht0, hz0, hz1, hz2⟩ := Clone.info_of info_store
    obtain ⟨A', hsl, h3⟩ : ∃ A', (∀ W : World, (Instr.slice 53 (.slice (some ⟨g, o, none⟩) (x :: L).length c) (some (.int .i64 1)) none none).run Try.prog W = .ok (.slice A' ((x :: L).length - 1) (c - 1)) W) ∧ St P0 w0 w (alls (slc 55 2 (.slice A' ((x :: L).length - 1) (c - 1)) ((x :: L).length - 1) (((x :: L).flatMap sw).drop 2) :: M) :: F) := by
      obtain ⟨hf, Q, R, hq, hr, hd, hA, hL⟩ := h
      obtain ⟨A', q1, q2⟩ := Ref05.slc_drop (P := Try.prog) Try.underlying53 ht0 hz1 (hA _ HVM.out) 1 (by simp) (by omega)
      exact ⟨A', q1, hf, Q, R, hq, hr, hd, fun B hB => (List.mem_cons.1 hB).elim (fun e => by rw [e]; exact q2) (fun e => hA B e), hL⟩
    have HS := Lib.hid h3
    have HN := Lib.hid (show (x :: L).length - 1 = L.length from by simp)
    have hne : (((x :: L).length : Int) == 0) = false := beq_eq_false_iff_ne.2 (by simp; omega)
    have hp1 : 0 < (x :: L).length := by simp
    rw [ed]
    have HV := Lib.hid (rfl : rl (.slice (some ⟨g, o, none⟩) (x :: L).length c) (x :: L) = rl (.slice (some ⟨g, o, none⟩) (x :: L).length c) (x :: L))
    clear h hrd hcells k0 k1 h3 HV hup
    generalize hm : (x :: L).length = m at *
    have HM := Lib.hid hm
    clear hm
    go_enter Try.func78, Try.ntmps78
    go_wp2_with fail
    go_region
    go_wp2
    refine bodyPost_ret (v := .tuple #[rv cap (.slice A' (m - 1) (c - 1)), .agg #[.int .i64 (x.a : Int), .int .i64 (x.v : Int)], .bool true]) ?_ rfl ⟨_, by rw [EX.out], ?_⟩
    · simp [results, Try.results78, go_sem]
    · have hm := HM.out
      subst hm
      have h5 := (((((HS.out.allocU (.cells #[.int .i64 (cap : Int), .slice A' ((x :: L).length - 1) (c - 1)] 90)).allocU (.cells #[.int .i64 (cap : Int), .slice A' ((x :: L).length - 1) (c - 1)] 90)).allocU (.cells #[.int .i64 (x.a : Int), .int .i64 (x.v : Int)] 55)).allocU (.cells #[.int .i64 (x.a : Int), .int .i64 (x.v : Int)] 55)).drew)
      have e1 : ((x :: L).flatMap sw).drop 2 = L.flatMap sw := by simp [sw]
      rw [e1, HN.out] at h5
      rw [HN.out]
      exact h5
set_option maxHeartbeats 4000000 in
set_option maxRecDepth 100000 in
theorem Find_u (h : St P0 w0 w (rl V L :: F)) (cap : Nat) (a : Int) (hl : L.length ≤ 100000) :
    Calls Try.prog 79 #[rv cap V, .int .i64 a] w fun e w' => e = .returned (findV L a) ∧ Up w w' := by
  obtain ⟨A, c, rfl, hc1, hc2, hrd, hcells⟩ := rl_form h
  have H0 := Lib.hid h
  have HC := Lib.hid hcells
  clear h hrd hcells
  go_enter Try.func79, Try.ntmps79
  go_wp2_with fail
  go_loop [8, 6, 7] (fun v8 v6 v7 => ∃ i : Nat, i ≤ L.length ∧ v8 = .int .i64 i ∧ Hid (findV (L.take i) a = .tuple #[v6, v7])) (fun v8 _ _ => L.length - (intOf v8).toNat)
  case atStart => exact ⟨0, Nat.zero_le _, rfl, Lib.hid (by simp [findV, findL])⟩
  case round =>
    obtain ⟨i, hi, rfl, HV⟩ := hrel
    by_cases hlt : i < L.length
    · obtain ⟨g, o, rfl, k0, k1⟩ := HC.out i hlt
      have hup := (Up.refl w).alloc (.cells #[.int .i64 (cap : Int), .slice (some ⟨g, o, none⟩) L.length c] 90)
      have k0' := cell_below hup k0
      have k1' := cell_below hup k1
      have HT := Lib.hid (take_succ' L i hlt)
      have HV2 := Lib.hid (findV_snoc (L.take i) (L.getD i default) a)
      rw [← HT.out] at HV2
      clear k0 k1 hup HC
      generalize L.getD i default = x at *
      by_cases e : (x.a : Int) = a
      · have e1 : ((x.a : Int) == a) = true := beq_iff_eq.2 e
        have HE := Lib.hid e
        clear e
        go_wp2
        go_round
        case rel => exact ⟨i + 1, by omega, by go_num, Lib.hid (by rw [HV2.out, if_pos HE.out])⟩
        case measure => simp [intOf]; omega
      · have e1 : ((x.a : Int) == a) = false := beq_eq_false_iff_ne.2 e
        have HE := Lib.hid e
        clear e
        go_wp2
        go_round
        case rel => exact ⟨i + 1, by omega, by go_num, Lib.hid (by rw [HV2.out, if_neg HE.out, HV.out])⟩
        case measure => simp [intOf]; omega
    · obtain rfl : i = L.length := by omega
      have HT := Lib.hid (List.take_length (l := L))
      go_wp2
      go_ret2
      have h5 := HV.out
      rw [HT.out] at h5
      exact ⟨by rw [h5]; rfl, (Up.refl w).alloc _⟩
end
/-! ### Store of the memory -/
theorem info_int : (Try.prog.info? 3).map (fun i => (i.zero, i.size, i.bytes)) = some (some (.int .i64 0), 1, 8) := by kernel_rfl
theorem lat_rd {w : World} {P : Nat → Prop} {A : Option Addr} {n c : Nat} {q : List Int} (h : LAt w P (.slice A n c) q) (hn : n = q.length) : Rd w 1 A n (q.map (Value.int .i64)) := by
  subst hn
  refine ⟨by simp, oInt q, fun hp => ?_⟩
  obtain ⟨ad, hA, hc⟩ := h.cells (by simpa using hp)
  exact ⟨ad, hA, hc⟩
theorem lat_of_slc {e n : TypeId} {v : Value} {q : List Int} {w : World} {P : Nat → Prop} (h : (slc 3 1 v q.length (q.map (Value.int .i64))).X w P) : LAt w P v q := by
  obtain ⟨A, c, rfl, h1, h2⟩ := slc_form h
  by_cases h0 : 0 < q.length
  · obtain ⟨g, o, rfl, hP, _, _, hc, _⟩ := slc_cells h h0
    refine .inr ⟨_, _, rfl, h1, fun j hj => ⟨hP, ?_⟩⟩
    rw [Addr.add_mid]
    refine hc j _ ?_
    simp [List.getD_eq_getElem?_getD, hj]
  · obtain rfl : q = [] := List.eq_nil_of_length_eq_zero (by omega)
    rcases h with ⟨e1, _, _⟩ | ⟨g, o, c', cur, e1, _, _, _, hP, _⟩
    · exact .inl ⟨e1, rfl⟩
    · cases e1
      exact .inr ⟨_, _, rfl, Nat.zero_le _, fun j hj => absurd hj (by simp)⟩
section
variable {P0 : Nat → Prop} {w0 w w' : World} {F M : List Rg} {vr : Value} {ws : List Int}
theorem lat_form (h : St P0 w0 w (alls M :: F)) (hV : lat vr ws ∈ M) : ∃ A c, vr = .slice A ws.length c ∧ Rd w 1 A ws.length (ws.map (Value.int .i64)) := by
  obtain ⟨P, h1⟩ := h.ro_fact hV
  obtain ⟨A, c, rfl⟩ := LAt.len h1
  exact ⟨A, c, rfl, lat_rd h1 rfl⟩
theorem word_u (a : Int) (w : World) : Calls Try.prog 87 #[.int .i64 a] w fun e w' => e = .returned (.bool (decide (0 ≤ a ∧ a ≤ 65535))) ∧ Up w w' := by
  refine (switchyardref03_word.calls a (decide (0 ≤ a ∧ a ≤ 65535)) w ?_).mono ?_
  · unfold switchyardref03_word.f
    by_cases h0 : a ≥ 0
    · rw [if_pos h0]
      congr 1
      exact decide_eq_decide.2 ⟨fun h => ⟨h0, h⟩, fun h => h.2⟩
    · rw [if_neg h0, decide_eq_false (fun h => h0 h.1)]
  · rintro x w' ⟨rfl, hd⟩
    exact ⟨rfl, hd.below⟩
set_option maxHeartbeats 4000000 in
set_option maxRecDepth 100000 in
theorem RStore_x (h : St P0 w0 w (alls M :: F)) (hV : lat vr ws ∈ M) (a z : Int) (hl : ws.length ≤ 65536) :
    Calls Try.prog 77 #[vr, .int .i64 a, .int .i64 z] w fun e w' => ∃ vr', e = .returned (.tuple #[vr', .int .i64 (fillI ws a 1 z).2]) ∧ St P0 w0 w' (alls (lat vr' (stW ws a z) :: M) :: F) := by
  obtain ⟨A, c, rfl, hrd⟩ := lat_form h hV
  have HS := Lib.hid h
  have HVM := Lib.hid hV
  have HRD := Lib.hid hrd
  have HW := Lib.hid (fun wx => word_u z wx)
  by_cases ha : 0 ≤ a ∧ a < ws.length
  case neg =>
    have E1 : (fillI ws a 1 z).2 = 4 := by unfold fillI; rw [wrongI_neg ha]; rfl
    rw [E1, stW_no ws a z ha]
    clear h hV hrd HRD HW
    generalize ws.length = n at *
    by_cases h0 : a < 0
    · clear ha
      go_enter Try.func77, Try.ntmps77
      go_wp2_with fail
      go_ret2
      exact ⟨_, rfl, HS.out.ro_dup HVM.out⟩
    · have h1 : (n : Int) ≤ a := by omega
      clear ha
      go_enter Try.func77, Try.ntmps77
      go_wp2_with fail
      go_ret2
      exact ⟨_, rfl, HS.out.ro_dup HVM.out⟩
  have E0 : wrongI ws.length a 1 = 0 := wrongI_pos ha
  by_cases hz : 0 ≤ z ∧ z ≤ 65535
  case neg =>
    have E1 : (fillI ws a 1 z).2 = 2 := by unfold fillI; rw [if_neg (by rw [E0]; simp), if_pos (by omega)]
    have E2 : stW ws a z = ws := by unfold stW fillI; rw [if_neg (by rw [E0]; simp), if_pos (by omega)]
    rw [E1, E2]
    rw [decide_eq_false hz] at HW
    obtain ⟨ha0, ha1⟩ := ha
    have ha2 : ¬ a < 0 := by omega
    clear h hV hrd HRD E0 E1 E2 hz
    generalize ws.length = n at *
    go_enter Try.func77, Try.ntmps77
    go_wp2_with fail
    refine (HW.out _).mono ?_
    rintro x w1 ⟨rfl, hu⟩
    have HS1 := Lib.hid (HS.out.more hu)
    clear hu
    go_wp2_with fail
    go_ret2
    exact ⟨_, rfl, HS1.out.ro_dup HVM.out⟩
  have E1 : (fillI ws a 1 z).2 = 0 := by unfold fillI; rw [if_neg (by rw [E0]; simp), if_neg (by omega)]
  rw [E1, stW_set ws a z ha hz]
  rw [decide_eq_true hz] at HW
  obtain ⟨i, rfl⟩ := Int.eq_ofNat_of_zero_le ha.1
  have hi : i < ws.length := by omega
  rw [Int.toNat_natCast]
  obtain ⟨t0, ht0, hz0, hz1, hz2⟩ := Clone.info_of info_int
  have HN := Lib.hid (rfl : ws.length = ws.length)
  have HL : Hid (ws.length = ws.length ∧ ws.length ≤ 65536) := Lib.hid ⟨rfl, hl⟩
  have HF := Lib.hid (fun (v : Value) (wx : World) (F' : List Rg) (h : St P0 w0 wx (slc 3 1 v ws.length ((ws.map (Value.int .i64)).set i (.int .i64 z)) :: alls M :: F)) => (show St P0 w0 wx (alls (lat v (ws.set i z) :: M) :: F) from by
    refine St.ro_join (h.imp fun P hP => ?_)
    refine lat_of_slc (e := 0) (n := 0) (q := ws.set i z) ?_
    rw [List.length_set, List.map_set]
    exact hP))
  clear h hV hrd E0 E1 hz ha
  generalize hnn : ws.length = n at *
  generalize ws.map (Value.int .i64) = cs at *
  generalize ws.set i z = ws' at *
  clear hnn HN HL
  have hi2 : (i : Int) < (n : Int) := by omega
  go_enter Try.func77, Try.ntmps77
  go_wp2_with fail
  refine (HW.out _).mono ?_
  rintro x w1 ⟨rfl, hu⟩
  have HRD1 := Lib.hid (HRD.out.up hu)
  have H1 := Lib.hid (St.fresh (M := [slc 3 1 (.slice none 0 0) 0 []]) (HS.out.more hu) (Up.refl _) ⟨No, No, fun _ e => e.elim, fun _ e => e.elim, fun _ e => e.elim, slc_nil _ _ _ _, trivial⟩)
  clear hu HRD HS
  go_wp2_with (at_builtin; refine St.append 3 t0 (.int .i64 0) 1 8 H1.out rfl (.tmp 22) (.tmp 23) 42 rfl Try.underlying42 ht0 hz0 hz1 hz2 rfl (by decide) rfl A n c cs rfl HRD1.out (by unfold maxLen; omega) (by omega) ?_; rw [Nat.zero_add, List.nil_append]; intro A1 c1 w3 hst hsz; have H3 := Lib.hid hst; obtain ⟨g, o, hA, hcs, hfs⟩ := slc_at hst (by omega); subst hA; obtain ⟨u0, y0⟩ := hcs i (by omega); have f0 := hfs (o + i); clear hst hsz hcs hfs)
  have s0 := H3.out.slc_set i (.int .i64 z) (by omega)
  have HE := Lib.hid (HF.out _ _ [] s0)
  go_ret2
  exact ⟨_, rfl, HE.out⟩
end
end Go.Proofs.Ytlefefcakffepaa.Br
