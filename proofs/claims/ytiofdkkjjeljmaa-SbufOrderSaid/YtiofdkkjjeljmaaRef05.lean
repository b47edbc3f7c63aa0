/- The reference's buffer (a list of stores), over parts of memory: Put, Drain, Find. -/
import Derived.Test.YtiofdkkjjeljmaaSbuf2
import Derived.Laws.ResultCell
namespace Go.Proofs.Ytiofdkkjjeljmaa.Ref05
set_option linter.unusedVariables false
set_option linter.unusedSimpArgs false
open Go.RowKit Go.Proofs.Ytiofdkkjjeljmaa.CellOf Go.Proofs.Ytiofdkkjjeljmaa.CellP Go.Proofs.Ytiofdkkjjeljmaa.Sep Go.Proofs.Ytiofdkkjjeljmaa.Find Go.Proofs.Ytiofdkkjjeljmaa.Sbuf

/-- A store's cells. -/
def sw (x : W16) : List Value := [.int .i64 (x.a : Int), .int .i64 (x.v : Int)]
/-- A slice of stores. -/
abbrev rl (V : Value) (L : List W16) : Rg := slc 83 2 V L.length (L.flatMap sw)
theorem sw_len : ∀ L : List W16, (L.flatMap sw).length = L.length * 2
  | [] => rfl
  | x :: L => by
    rw [List.flatMap_cons, List.length_append, sw_len L]
    simp [sw]
    omega
theorem sw_at : ∀ (L : List W16) (j : Nat), j < L.length → (L.flatMap sw)[j * 2]? = some (.int .i64 ((L.getD j default).a : Int)) ∧ (L.flatMap sw)[j * 2 + 1]? = some (.int .i64 ((L.getD j default).v : Int))
  | [], j, h => absurd h (by simp)
  | x :: L, 0, _ => by simp [sw]
  | x :: L, j + 1, h => by
    have h1 := sw_at L j (by simpa using h)
    rw [List.flatMap_cons]
    have e : (sw x).length = 2 := rfl
    constructor
    · rw [List.getElem?_append_right (by rw [e]; omega), e, show (j + 1) * 2 - 2 = j * 2 by omega, h1.1]
      simp
    · rw [List.getElem?_append_right (by rw [e]; omega), e, show (j + 1) * 2 + 1 - 2 = j * 2 + 1 by omega, h1.2]
      simp
theorem sw_one (L : List W16) : ∀ u ∈ L.flatMap sw, u.oneCell' = true := by
  intro u hu
  obtain ⟨x, _, hx⟩ := List.mem_flatMap.1 hu
  simp [sw] at hx
  rcases hx with rfl | rfl <;> rfl
theorem sw_snoc (L : List W16) (x : W16) : (L ++ [x]).flatMap sw = L.flatMap sw ++ sw x := by simp
section
variable {P0 : Nat → Prop} {w0 w w' : World} {F : List Rg} {V : Value} {L : List W16}
theorem rl_form (h : St P0 w0 w (rl V L :: F)) : ∃ A c, V = .slice A L.length c ∧ L.length ≤ c ∧ c ≤ maxLen ∧ Rd w 2 A L.length (L.flatMap sw) ∧ (∀ j, j < L.length → ∃ g o, A = some ⟨g, o, none⟩ ∧ w.cell? ⟨g, o + j * 2, none⟩ = some (.int .i64 ((L.getD j default).a : Int)) ∧ w.cell? ⟨g, o + j * 2 + 1, none⟩ = some (.int .i64 ((L.getD j default).v : Int))) := by
  obtain ⟨P, ⟨Q, Q2, _, _, _, h2, _⟩, _⟩ := St.step (L := [rl V L]) h
  obtain ⟨A, c, rfl, h3, h4⟩ := slc_form h2
  refine ⟨A, c, rfl, h3, h4, slc_rd h2 (sw_one L), fun j hj => ?_⟩
  obtain ⟨g, o, rfl, _, _, _, hc, _⟩ := slc_cells h2 (by omega)
  have h5 := sw_at L j hj
  exact ⟨g, o, rfl, hc _ _ h5.1, by rw [Nat.add_assoc]; exact hc _ _ h5.2⟩
theorem _root_.Go.Proofs.Ytiofdkkjjeljmaa.Sep.Rd.up {w w' : World} {sz m : Nat} {A : Option Addr} {xs : List Value} (h : Rd w sz A m xs) (hu : Up w w') : Rd w' sz A m xs :=
  ⟨h.1, h.2.1, fun hm => by
    obtain ⟨ad, e, hc⟩ := h.2.2 hm
    exact ⟨ad, e, fun j u hj => cell_below hu (hc j u hj)⟩⟩
theorem info_store : (Try.prog.info? 83).map (fun i => (i.zero, i.size, i.bytes)) = some (some (.agg #[.int .i64 0, .int .i64 0]), 2, 16) := by kernel_rfl
/-- The reference's buffer as a value. -/
abbrev rv (cap : Nat) (V : Value) : Value := .agg #[.int .i64 (cap : Int), V]
theorem inW_mkW (a v : Int) : mkW a v = none ↔ ¬ (inW a = true ∧ inW v = true) := by
  unfold mkW
  rw [inW_iff, inW_iff]
  split <;> simp_all
theorem mkW_in {a v : Int} {x : W16} (h : mkW a v = some x) : inW a = true ∧ inW v = true := by
  have : ¬ mkW a v = none := by rw [h]; simp
  rw [inW_mkW] at this
  exact Decidable.of_not_not this
theorem sw_eq (x : W16) : sw x = [.int .i64 (x.a : Int), .int .i64 (x.v : Int)] := rfl
set_option maxHeartbeats 4000000 in
set_option maxRecDepth 100000 in
theorem Put_st (h : St P0 w0 w (rl V L :: F)) (cap : Nat) (a v : Int) (hl : L.length ≤ 100000) :
    Calls Try.prog 84 #[rv cap V, .agg #[.int .i64 a, .int .i64 v]] w fun e w' => ∃ V', e = .returned (.tuple #[rv cap V', .int .i64 (putB cap L a v).2]) ∧ St P0 w0 w' (both (rl V L) (rl V' (putB cap L a v).1) :: F) := by
  obtain ⟨A, c, rfl, hc1, hc2, hrd, -⟩ := rl_form h
  have HA := Lib.hid (refIs_walk a)
  have HV := Lib.hid (refIs_walk v)
  have hb := ((h.alloc #[.int .i64 (cap : Int), .slice A L.length c] 96).alloc #[.int .i64 a, .int .i64 v] 83).alloc #[.int .i64 0, .slice none 0 0] 96
  rw [World.size_alloc, World.size_alloc] at hb
  have HS := Lib.hid hb
  have HRD := Lib.hid hrd
  have H0 := Lib.hid h
  clear h hb hrd
  cases hx : mkW a v with
  | none =>
    have E : putB cap L a v = (L, 2) := by unfold putB; rw [hx]
    rw [E]
    have h0 := (inW_mkW a v).1 hx
    clear hx E
    have hab : inW a = false ∨ (inW a = true ∧ inW v = false) := by
      cases ha : inW a with
      | false => exact .inl rfl
      | true =>
        cases hv : inW v with
        | false => exact .inr ⟨rfl, rfl⟩
        | true => exact absurd ⟨ha, hv⟩ h0
    clear h0
    rcases hab with ha | ⟨ha, hv⟩
    all_goals
      have Ha := Lib.hid ha
      (try have Hv := Lib.hid hv)
      clear ha
      (try clear hv)
      go_enter Try.func84, Try.ntmps84
      go_wp2_with (first
        | (go_at_call 105; (with_reducible refine (HA.out _).mono ?_); rw [Ha.out]; rintro e w' ⟨rfl, rfl⟩)
        | (go_at_call 105; (with_reducible refine (HV.out _).mono ?_); rw [Hv.out]; rintro e w' ⟨rfl, rfl⟩))
      refine bodyPost_ret (v := .tuple #[rv cap (.slice A L.length c), .int .i64 2]) ?_ rfl ⟨_, rfl, ((((H0.out.allocU _).allocU _).allocU _).twice)⟩
      rw [results_cell_tmp (fn := Try.f84) rfl]
      go_simp
  | some x =>
    have hab := mkW_in hx
    have Ha := Lib.hid hab.1
    have Hv := Lib.hid hab.2
    obtain ⟨ea, ev⟩ := mkW_some hx
    by_cases hf : cap ≤ L.length
    · have E : putB cap L a v = (L, 5) := by unfold putB; rw [hx]; exact if_pos hf
      rw [E]
      have d2 : decide (cap ≤ L.length) = true := decide_eq_true hf
      clear E hx hab ea ev
      go_enter Try.func84, Try.ntmps84
      go_wp2_with (first
        | (go_at_call 105; (with_reducible refine (HA.out _).mono ?_); rw [Ha.out]; rintro e w' ⟨rfl, rfl⟩)
        | (go_at_call 105; (with_reducible refine (HV.out _).mono ?_); rw [Hv.out]; rintro e w' ⟨rfl, rfl⟩))
      refine bodyPost_ret (v := .tuple #[rv cap (.slice A L.length c), .int .i64 5]) ?_ rfl ⟨_, rfl, ((((H0.out.allocU _).allocU _).allocU _).twice)⟩
      rw [results_cell_tmp (fn := Try.f84) rfl]
      go_simp
    · have E : putB cap L a v = (L ++ [x], 0) := by unfold putB; rw [hx]; exact if_neg hf
      rw [E]
      have d2 : decide (cap ≤ L.length) = false := decide_eq_false hf
      have EX := Lib.hid (show sw x = [.int .i64 a, .int .i64 v] by rw [ea, ev]; rfl)
      clear E hx hab ea ev hf
      obtain ⟨t0, ht0, hz0, hz1, hz2⟩ := Clone.info_of info_store
      have h1 := St.fresh (M := [slc 83 2 (.slice none 0 0) 0 []]) HS.out (Up.refl _) ⟨No, No, fun _ e => e.elim, fun _ e => e.elim, fun _ e => e.elim, slc_nil _ _ _ _, trivial⟩
      have HRD1 := Lib.hid (HRD.out.up ((((Up.refl w).alloc (.cells #[.int .i64 (cap : Int), .slice A L.length c] 96)).alloc (.cells #[.int .i64 a, .int .i64 v] 83)).alloc (.cells #[.int .i64 0, .slice none 0 0] 96)))
      have H1 := Lib.hid h1
      clear h1
      go_enter Try.func84, Try.ntmps84
      go_wp2_with (first
        | (go_at_call 105; (with_reducible refine (HA.out _).mono ?_); rw [Ha.out]; rintro e w' ⟨rfl, rfl⟩)
        | (go_at_call 105; (with_reducible refine (HV.out _).mono ?_); rw [Hv.out]; rintro e w' ⟨rfl, rfl⟩)
        | (at_builtin; refine St.append 83 t0 (.agg #[.int .i64 0, .int .i64 0]) 2 16 H1.out rfl (.tmp 25) (.tmp 27) 81 rfl Try.underlying81 ht0 hz0 hz1 hz2 rfl (by decide) rfl A L.length c (L.flatMap sw) rfl HRD1.out (by unfold maxLen; omega) (by omega) ?_; rw [Nat.zero_add, List.nil_append]; intro A1 c1 w3 hst hsz; have H3 := Lib.hid hst; have q3 : St P0 w0 w3 (bk (w.heap.size + 1) 83 #[.int .i64 a, .int .i64 v] :: _) := hst.get 2; have k0 : w3.cell? ⟨w.heap.size + 1, 0, none⟩ = some (.int .i64 a) := cell_of_block q3.bk_at 0; have k1 : w3.cell? ⟨w.heap.size + 1, 1, none⟩ = some (.int .i64 v) := cell_of_block q3.bk_at 1; have h4 : St P0 w0 (w3.alloc (.cells #[.int .i64 a, .int .i64 v] 83)) (slc 83 2 (.slice A1 L.length c1) L.length (L.flatMap sw) :: _) := (hst.alloc #[.int .i64 a, .int .i64 v] 83).get 1; have H4 := Lib.hid h4; have HRD4 := Lib.hid (Rd.of_block (sz := 2) (m := 1) ((hst.alloc #[.int .i64 a, .int .i64 v] 83).bk_at) rfl (by simp [Value.oneCell'])); clear hst hsz q3 h4)
        | (at_builtin; refine St.append 83 t0 (.agg #[.int .i64 0, .int .i64 0]) 2 16 H4.out rfl (.tmp 29) (.tmp 31) 81 rfl Try.underlying81 ht0 hz0 hz1 hz2 rfl (by decide) rfl (some ⟨w3.heap.size, 0, none⟩) 1 1 [.int .i64 a, .int .i64 v] rfl HRD4.out (by unfold maxLen; omega) (by omega) ?_; intro A2 c2 w5 hst hsz; have H5 := Lib.hid hst; have p4 : St P0 w0 w5 (bk (w.heap.size + 1 + 1) 96 #[.int .i64 0, .slice none 0 0] :: _) := hst.get 2; have p2 : St P0 w0 w5 (bk w.heap.size 96 #[.int .i64 (cap : Int), .slice A L.length c] :: _) := hst.get 4; have x20 : w5.cell? ⟨w.heap.size, 0, none⟩ = some (.int .i64 (cap : Int)) := cell_of_block p2.bk_at 0; have x21 : w5.cell? ⟨w.heap.size, 1, none⟩ = some (.slice A L.length c) := cell_of_block p2.bk_at 1; have f21 : w5.frozen? ⟨w.heap.size, 1, none⟩ = false := free_of_block p2.bk_at 1; have x40 : w5.cell? ⟨w.heap.size + 1 + 1, 0, none⟩ = some (.int .i64 0) := cell_of_block p4.bk_at 0; have x41 : w5.cell? ⟨w.heap.size + 1 + 1, 1, none⟩ = some (.slice none 0 0) := cell_of_block p4.bk_at 1; have f40 : w5.frozen? ⟨w.heap.size + 1 + 1, 0, none⟩ = false := free_of_block p4.bk_at 0; have f41 : w5.frozen? ⟨w.heap.size + 1 + 1, 1, none⟩ = false := free_of_block p4.bk_at 1; clear hst hsz p2 p4))
      have s2 : St P0 w0 (((w5.setCell ⟨w.heap.size, 1, none⟩ (.slice A2 (L.length + 1) c2)).setCell ⟨w.heap.size + 1 + 1, 0, none⟩ (.int .i64 (cap : Int))).setCell ⟨w.heap.size + 1 + 1, 1, none⟩ (.slice A2 (L.length + 1) c2)) (rl (.slice A L.length c) L :: slc 83 2 (.slice A2 (L.length + 1) c2) (L.length + 1) (L.flatMap sw ++ [.int .i64 a, .int .i64 v]) :: F) :=
        (((((((((H5.out.get 4).set 1 (.slice A2 (L.length + 1) c2)).get 3).set 0 (.int .i64 (cap : Int))).set 1 (.slice A2 (L.length + 1) c2)).get 5).cut 1).cut 1).cut 2).cut 2
      have e2 : (L ++ [x]).length = L.length + 1 := by simp
      refine bodyPost_ret (v := .tuple #[rv cap (.slice A2 (L.length + 1) c2), .int .i64 0]) ?_ rfl ⟨_, rfl, ?_⟩
      · rw [results_cell_tmp (fn := Try.f84) rfl]
        go_simp
      · unfold rl
        rw [e2, sw_snoc, EX.out]
        exact s2.join
/-- What Drain hands back, with the list. -/
def drainT (L : List W16) : Value := match L with
  | [] => .agg #[.int .i64 0, .int .i64 0]
  | x :: _ => .agg #[.int .i64 (x.a : Int), .int .i64 (x.v : Int)]
theorem slc_drop {P : Program} {t e : TypeId} {i : TypeInfo} (ht : P.underlying t = some (.slice e)) (hi : P.info? e = some i) {sz : Nat} (hsz : i.size = sz) {A : Option Addr} {m c : Nat} {xs : List Value} {w : World} {Q : Nat → Prop} (h : (slc e sz (.slice A m c) m xs).X w Q) (k : Nat) (hk : k ≤ m) (hm : m ≤ 1000000) :
    ∃ A', (∀ W : World, (Instr.slice t (.slice A m c) (some (.int .i64 (k : Int))) none none).run P W = .ok (.slice A' (m - k) (c - k)) W) ∧ (slc e sz (.slice A' (m - k) (c - k)) (m - k) (xs.drop (k * sz))).X w Q := by
  have hel : P.elem t = e := by simp [Program.elem, ht]
  have hu : P.underlying t = some (.slice (P.elem t)) := by rw [hel]; exact ht
  have hrun : ∀ W : World, (Instr.slice t (.slice A m c) (some (.int .i64 (k : Int))) none none).run P W = .ok (.slice (if c = k then A else A.map (·.add (k * sz))) (m - k) (c - k)) W := by
    intro W
    rw [run_slice_l W t A m c hu .i64 k (by omega) (by omega), hel]
    simp [sizeOf, typeInfo, hi, hsz, sliced, Result.andThen]
  refine ⟨_, hrun, ?_⟩
  rcases h with ⟨hv, rfl, rfl⟩ | ⟨g, o, c', cur, hv, h2, h3, h4, h5, h6, h7, h8⟩
  · cases hv
    obtain rfl : k = 0 := by omega
    exact .inl ⟨by simp, by omega, by simp⟩
  · cases hv
    refine .inr ⟨g, if c = k then o else o + k * sz, c - k, cur, ?_, by omega, by omega, by rw [List.length_drop, h4, Nat.sub_mul], h5, h6, ?_, ?_⟩
    · split
      · rfl
      · simp [Addr.add_mid]
    · split
      · next e => rw [e]; simp; omega
      · rw [Nat.sub_mul]
        have := Nat.mul_le_mul_right sz (show k ≤ c by omega)
        omega
    · intro j hj
      rw [List.length_drop] at hj
      rw [List.getElem?_drop]
      split
      · next e =>
        have : m = k := by omega
        subst this
        rw [h4] at hj
        omega
      · rw [← h8 (k * sz + j) (by omega)]
        congr 1
        omega
set_option maxHeartbeats 4000000 in
set_option maxRecDepth 100000 in
theorem Drain_st (h : St P0 w0 w (rl V L :: F)) (cap : Nat) (hl : L.length ≤ 100000) :
    Calls Try.prog 85 #[rv cap V] w fun e w' => ∃ V', e = .returned (.tuple #[rv cap V', drainT L, .bool (decide (0 < L.length))]) ∧ St P0 w0 w' (both (rl V L) (rl V' L.tail) :: F) := by
  obtain ⟨A, c, rfl, hc1, hc2, hrd, hcells⟩ := rl_form h
  have H0 := Lib.hid h
  cases L with
  | nil =>
    clear h hrd hcells
    go_enter Try.func85, Try.ntmps85
    go_wp2
    refine bodyPost_ret (v := .tuple #[rv cap (.slice A 0 c), .agg #[.int .i64 0, .int .i64 0], .bool false]) ?_ rfl ⟨_, rfl, ((((H0.out.allocU _).allocU _).allocU _).twice)⟩
    simp [results, Try.results85, go_sem]
  | cons x L =>
    obtain ⟨g, o, rfl, k0, k1⟩ := hcells 0 (by simp)
    have hup := (((Up.refl w).alloc (.cells #[.int .i64 (cap : Int), .slice (some ⟨g, o, none⟩) (x :: L).length c] 96)).alloc (.cells #[.int .i64 0, .slice none 0 0] 96)).alloc (.cells #[.int .i64 0, .int .i64 0] 83)
    have k0' := cell_below hup (show w.cell? ⟨g, o, none⟩ = some (.int .i64 (x.a : Int)) by simpa using k0)
    have k1' := cell_below hup (show w.cell? ⟨g, o + 1, none⟩ = some (.int .i64 (x.v : Int)) by simpa using k1)
    have ed : decide (0 < (x :: L).length) = true := by simp
    have EX := Lib.hid (show drainT (x :: L) = .agg #[.int .i64 (x.a : Int), .int .i64 (x.v : Int)] from rfl)
    obtain ⟨t0, ht0, hz0, hz1, hz2⟩ := Clone.info_of info_store
    obtain ⟨A', hsl, h3⟩ : ∃ A', (∀ W : World, (Instr.slice 81 (.slice (some ⟨g, o, none⟩) (x :: L).length c) (some (.int .i64 1)) none none).run Try.prog W = .ok (.slice A' ((x :: L).length - 1) (c - 1)) W) ∧ St P0 w0 w (both (rl (.slice (some ⟨g, o, none⟩) (x :: L).length c) (x :: L)) (slc 83 2 (.slice A' ((x :: L).length - 1) (c - 1)) ((x :: L).length - 1) (((x :: L).flatMap sw).drop 2)) :: F) := by
      obtain ⟨hf, Q, R, hq, hr, hd, hA, hL⟩ := h
      obtain ⟨A', q1, q2⟩ := slc_drop (P := Try.prog) Try.underlying81 ht0 hz1 hA 1 (by simp) (by omega)
      exact ⟨A', q1, hf, Q, R, hq, hr, hd, ⟨hA, q2⟩, hL⟩
    have HS := Lib.hid h3
    have HN := Lib.hid (show (x :: L).length - 1 = L.length from by simp)
    have hne : (((x :: L).length : Int) == 0) = false := beq_eq_false_iff_ne.2 (by simp; omega)
    have hp1 : 0 < (x :: L).length := by simp
    rw [ed]
    have HV := Lib.hid (rfl : rl (.slice (some ⟨g, o, none⟩) (x :: L).length c) (x :: L) = rl (.slice (some ⟨g, o, none⟩) (x :: L).length c) (x :: L))
    clear h hrd hcells k0 k1 h3 HV hup
    generalize hm : (x :: L).length = m at *
    have HM := Lib.hid hm
    clear hm
    go_enter Try.func85, Try.ntmps85
    go_wp2_with fail
    go_region
    go_wp2
    refine bodyPost_ret (v := .tuple #[rv cap (.slice A' (m - 1) (c - 1)), .agg #[.int .i64 (x.a : Int), .int .i64 (x.v : Int)], .bool true]) ?_ rfl ⟨_, by rw [EX.out], ?_⟩
    · simp [results, Try.results85, go_sem]
    · have hm := HM.out
      subst hm
      have h5 := (((((HS.out.allocU (.cells #[.int .i64 (cap : Int), .slice A' ((x :: L).length - 1) (c - 1)] 96)).allocU (.cells #[.int .i64 (cap : Int), .slice A' ((x :: L).length - 1) (c - 1)] 96)).allocU (.cells #[.int .i64 (x.a : Int), .int .i64 (x.v : Int)] 83)).allocU (.cells #[.int .i64 (x.a : Int), .int .i64 (x.v : Int)] 83)).drew)
      have e1 : ((x :: L).flatMap sw).drop 2 = L.flatMap sw := by simp [sw]
      rw [e1, HN.out] at h5
      rw [HN.out]
      exact h5
theorem findV_snoc (L : List W16) (x : W16) (a : Int) : findV (L ++ [x]) a = if (x.a : Int) = a then .tuple #[.int .i64 (x.v : Int), .bool true] else findV L a := by
  unfold findV findL
  rw [List.reverse_append]
  simp only [List.reverse_cons, List.reverse_nil, List.nil_append, List.cons_append, List.find?_cons]
  by_cases h : (x.a : Int) = a
  · rw [if_pos h]
    simp [h]
  · rw [if_neg h]
    have : ((x.a : Int) == a) = false := beq_eq_false_iff_ne.2 h
    simp [this]
theorem take_succ' (L : List W16) (i : Nat) (h : i < L.length) : L.take (i + 1) = L.take i ++ [L.getD i default] := by
  rw [List.take_add_one, List.getElem?_eq_getElem h]
  simp [List.getD_eq_getElem?_getD, h]
set_option maxHeartbeats 4000000 in
set_option maxRecDepth 100000 in
theorem Find_st (h : St P0 w0 w (rl V L :: F)) (cap : Nat) (a : Int) (hl : L.length ≤ 100000) :
    Calls Try.prog 86 #[rv cap V, .int .i64 a] w fun e w' => e = .returned (findV L a) ∧ St P0 w0 w' (rl V L :: F) := by
  obtain ⟨A, c, rfl, hc1, hc2, hrd, hcells⟩ := rl_form h
  have H0 := Lib.hid h
  have HC := Lib.hid hcells
  clear h hrd hcells
  go_enter Try.func86, Try.ntmps86
  go_wp2_with fail
  go_loop [8, 6, 7] (fun v8 v6 v7 => ∃ i : Nat, i ≤ L.length ∧ v8 = .int .i64 i ∧ Hid (findV (L.take i) a = .tuple #[v6, v7])) (fun v8 _ _ => L.length - (intOf v8).toNat)
  case atStart => exact ⟨0, Nat.zero_le _, rfl, Lib.hid (by simp [findV, findL])⟩
  case round =>
    obtain ⟨i, hi, rfl, HV⟩ := hrel
    by_cases hlt : i < L.length
    · obtain ⟨g, o, rfl, k0, k1⟩ := HC.out i hlt
      have hup := (Up.refl w).alloc (.cells #[.int .i64 (cap : Int), .slice (some ⟨g, o, none⟩) L.length c] 96)
      have k0' := cell_below hup k0
      have k1' := cell_below hup k1
      have HT := Lib.hid (take_succ' L i hlt)
      have HV2 := Lib.hid (findV_snoc (L.take i) (L.getD i default) a)
      rw [← HT.out] at HV2
      clear k0 k1 hup HC
      generalize L.getD i default = x at *
      by_cases e : (x.a : Int) = a
      · have e1 : ((x.a : Int) == a) = true := beq_iff_eq.2 e
        have HE := Lib.hid e
        clear e
        go_wp2
        go_round
        case rel => exact ⟨i + 1, by omega, by go_num, Lib.hid (by rw [HV2.out, if_pos HE.out])⟩
        case measure => simp [intOf]; omega
      · have e1 : ((x.a : Int) == a) = false := beq_eq_false_iff_ne.2 e
        have HE := Lib.hid e
        clear e
        go_wp2
        go_round
        case rel => exact ⟨i + 1, by omega, by go_num, Lib.hid (by rw [HV2.out, if_neg HE.out, HV.out])⟩
        case measure => simp [intOf]; omega
    · obtain rfl : i = L.length := by omega
      have HT := Lib.hid (List.take_length (l := L))
      go_wp2
      go_ret2
      have h5 := HV.out
      rw [HT.out] at h5
      exact ⟨by rw [h5]; rfl, H0.out.allocU _⟩
end
end Go.Proofs.Ytiofdkkjjeljmaa.Ref05
