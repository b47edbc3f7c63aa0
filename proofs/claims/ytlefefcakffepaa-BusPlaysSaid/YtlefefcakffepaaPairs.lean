/- The laws' Pairs, the reference's Cells and SameCells: lists of cells by both parts. -/
import Derived.Test.YtlefefcakffepaaMC
import Derived.Test.YtlefefcakffepaaWEqStruct
import Derived.Deep.Slices
import Derived.ChangeKeysEq
namespace Go.Proofs.Ytlefefcakffepaa.Pairs
set_option linter.unusedVariables false
set_option linter.unusedSimpArgs false
open Go.RowKit Go.Proofs.Ytlefefcakffepaa.CellOf Go.Proofs.Ytlefefcakffepaa.CellP Go.Proofs.Ytlefefcakffepaa.Sep Go.Proofs.Ytlefefcakffepaa.Find Go.Proofs.Ytlefefcakffepaa.Sbuf Go.Proofs.Ytlefefcakffepaa.Ref05 Go.Proofs.YtlefefcakffepaaW.PrintWords

attribute [local go_sem] run_store_float run_store_complex
/-- A cell by both parts. -/
def pw (x : W16) : List Value := [.float .f64 (floatOfInt .f64 (x.a : Int)), .float .f64 (floatOfInt .f64 (x.v : Int))]
theorem pw_len : ∀ L : List W16, (L.flatMap pw).length = L.length * 2
  | [] => rfl
  | x :: L => by
    rw [List.flatMap_cons, List.length_append, pw_len L]
    simp [pw]
    omega
theorem pw_one (L : List W16) : ∀ u ∈ L.flatMap pw, u.oneCell' = true := by
  intro u hu
  obtain ⟨x, _, hx⟩ := List.mem_flatMap.1 hu
  simp [pw] at hx
  rcases hx with rfl | rfl <;> rfl
theorem pw_at : ∀ (L : List W16) (j : Nat), j < L.length → (L.flatMap pw)[j * 2]? = some (.float .f64 (floatOfInt .f64 ((L.getD j default).a : Int))) ∧ (L.flatMap pw)[j * 2 + 1]? = some (.float .f64 (floatOfInt .f64 ((L.getD j default).v : Int)))
  | [], j, h => absurd h (by simp)
  | x :: L, 0, _ => by simp [pw]
  | x :: L, j + 1, h => by
    have h1 := pw_at L j (by simpa using h)
    rw [List.flatMap_cons]
    have e : (pw x).length = 2 := rfl
    constructor
    · rw [List.getElem?_append_right (by rw [e]; omega), e, show (j + 1) * 2 - 2 = j * 2 by omega, h1.1]
      simp
    · rw [List.getElem?_append_right (by rw [e]; omega), e, show (j + 1) * 2 + 1 - 2 = j * 2 + 1 by omega, h1.2]
      simp
theorem info_cell : (Try.prog.info? 103).map (fun i => (i.zero, i.size, i.bytes)) = some (some (.agg #[.float .f64 0, .float .f64 0]), 2, 16) := by kernel_rfl
theorem rd_at {w : World} {sz : Nat} {A : Option Addr} {n : Nat} {xs : List Value} (h : Rd w sz A n xs) (hn : 0 < n) (j : Nat) (u : Value) (hu : xs[j]? = some u) : ∃ ad, A = some ad ∧ w.cell? (ad.add j) = some u := by
  obtain ⟨ad, e, hc⟩ := h.2.2 hn
  exact ⟨ad, e, hc j u hu⟩
theorem Pair_walk (x : W16) (w : World) : Calls Try.prog 52 #[cw x] w fun e w' => e = .returned (.agg #[.float .f64 (floatOfInt .f64 (x.a : Int)), .float .f64 (floatOfInt .f64 (x.v : Int))]) ∧ Up w w' := by
  unfold cw
  generalize floatOfInt .f64 (x.a : Int) = p
  generalize floatOfInt .f64 (x.v : Int) = q
  go_enter Try.func52, Try.ntmps52
  go_wp2
  refine bodyPost_ret (v := .agg #[.float .f64 p, .float .f64 q]) ?_ rfl ⟨rfl, (Up.refl _).alloc _⟩
  simp [results, Try.results52, go_sem]
theorem pw_take (L : List W16) (i : Nat) (h : i < L.length) : (L.take (i + 1)).flatMap pw = (L.take i).flatMap pw ++ pw (L.getD i default) := by
  rw [take_succ' L i h]
  simp
theorem take_len (L : List W16) (i : Nat) (h : i ≤ L.length) : (L.take i).length = i := by
  rw [List.length_take]
  omega
set_option maxHeartbeats 4000000 in
set_option maxRecDepth 100000 in
theorem Pairs_walk (L : List W16) (A : Option Addr) (c : Nat) (w : World) (h : Rd w 1 A L.length (L.map cw)) (hl : L.length ≤ 100000) :
    Calls Try.prog 24 #[.slice A L.length c] w fun e w' => ∃ A' c', e = .returned (.slice A' L.length c') ∧ Rd w' 2 A' L.length (L.flatMap pw) ∧ Up w w' := by
  have HR := Lib.hid h
  clear h
  obtain ⟨t0, ht0, hz0, hz1, hz2⟩ := Clone.info_of info_cell
  go_enter Try.func24, Try.ntmps24
  go_wp2_with fail
  go_loopw [8, 3] (fun v8 v3 wx => ∃ i : Nat, i ≤ L.length ∧ v8 = .int .i64 i ∧ Hid (St No w wx [slc 103 2 v3 i ((L.take i).flatMap pw)])) (fun v8 _ _ => L.length - (intOf v8).toNat)
  case atStart => exact ⟨0, Nat.zero_le _, rfl, Lib.hid (St.fresh (M := [slc 103 2 (.slice none 0 0) 0 []]) (St.nil w) (Up.refl _) ⟨No, No, fun _ e => e.elim, fun _ e => e.elim, fun _ e => e.elim, slc_nil _ _ _ _, trivial⟩)⟩
  case round =>
    obtain ⟨i, hi, rfl, HS⟩ := hrel
    by_cases hlt : i < L.length
    · obtain ⟨ad, rfl, k0⟩ := rd_at HR.out (by omega) i (cw (L.getD i default)) (by simp [List.getD_eq_getElem?_getD, hlt])
      have k1 := cell_below HS.out.up k0
      have EP := Lib.hid (pw_take L i hlt)
      have HP := Lib.hid (Pair_walk (L.getD i default))
      have EW := Lib.hid (show pw (L.getD i default) = [.float .f64 (floatOfInt .f64 ((L.getD i default).a : Int)), .float .f64 (floatOfInt .f64 ((L.getD i default).v : Int))] from rfl)
      clear k0
      generalize floatOfInt .f64 ((L.getD i default).a : Int) = p at *
      generalize floatOfInt .f64 ((L.getD i default).v : Int) = q at *
      generalize cw (L.getD i default) = cx at *
      go_wp2_with fail
      refine (HP.out _).mono ?_
      rintro e w2 ⟨rfl, hu⟩
      have hs2 := (HS.out.more hu).alloc #[.float .f64 p, .float .f64 q] 103
      have HS2 := Lib.hid (hs2.get 1)
      have HRd := Lib.hid (Rd.of_block (sz := 2) (m := 1) hs2.bk_at rfl (by simp [Value.oneCell']))
      clear hs2 hu HP k1
      go_wp2_with (at_builtin; refine St.append 103 t0 (.agg #[.float .f64 0, .float .f64 0]) 2 16 HS2.out rfl (.tmp 12) (.tmp 15) 59 rfl Try.underlying59 ht0 hz0 hz1 hz2 rfl (by decide) rfl (some ⟨w2.heap.size, 0, none⟩) 1 1 [.float .f64 p, .float .f64 q] rfl HRd.out (by unfold maxLen; omega) (by omega) ?_; intro A2 c2 w3 hst hsz; have H3 := Lib.hid (show St No w w3 [slc 103 2 (.slice A2 (i + 1) c2) (i + 1) ((L.take i).flatMap pw ++ [.float .f64 p, .float .f64 q])] from hst.cut 1); clear hst hsz)
      go_roundw
      case rel => exact ⟨i + 1, by omega, by go_num, by rw [EP.out, EW.out]; exact H3⟩
      case measure => simp [intOf]; omega
    · obtain rfl : i = L.length := by omega
      have hs := HS.out
      rw [List.take_length] at hs
      obtain ⟨P, ⟨Q, Q2, _, _, _, h2, _⟩, _⟩ := St.step (L := [slc 103 2 _ _ _]) hs
      obtain ⟨A', c', rfl, _⟩ := slc_form h2
      have HD := Lib.hid (slc_rd h2 (pw_one L))
      clear h2
      go_wp2
      go_ret
      exact ⟨_, _, rfl, HD.out, HS.out.up⟩
theorem info_f64 : (Try.prog.info? 101).map (fun i => (i.zero, i.size, i.bytes)) = some (some (.float .f64 0), 1, 8) := by kernel_rfl
theorem eq_cell (d : Nat) (w : World) (p q : Nat) (h1 : (FloatKind.f64.format.order p p == some .eq) = true) (h2 : (FloatKind.f64.format.order q q == some .eq) = true) :
    (Op.equalIn (d + 2) 103 (.agg #[.float .f64 p, .float .f64 q]) (.agg #[.float .f64 p, .float .f64 q])).run Try.prog w = .ok (true && true) w := by
  obtain ⟨i0, hi, hz, hs, hb⟩ := Clone.info_of info_f64
  have hc : Try.prog.cellsOf 101 = 1 := by kernel_rfl
  have hu : Try.prog.underlying 101 = some (.float .f64) := by kernel_rfl
  have e1 : ∀ (x : Nat), (FloatKind.f64.format.order x x == some .eq) = true → (Op.equalIn (d + 1) 101 (.float .f64 x) (.float .f64 x)).run Try.prog w = .ok true w := fun x hx => by
    simp [Op.equalIn, run_underlying hu, Op.floatEq, hx]
  have a0 : ∀ x y : Nat, (part 101 #[.float .f64 x, .float .f64 y] 0).run Try.prog w = .ok (.float .f64 x) w := fun x y => by go_simp
  have a1 : ∀ x y : Nat, (part 101 #[.float .f64 x, .float .f64 y] 1).run Try.prog w = .ok (.float .f64 y) w := fun x y => by go_simp
  rw [run_equalIn_array w (d + 1) _ _ Try.underlying103 hi, hc]
  show (Op.eqItems (d + 1) _ 1 _ _ [0, 1]).run _ _ = _
  simp only [Op.eqItems, Sem.run_bind, Nat.zero_mul, Nat.one_mul, a0, a1, e1 _ h1, e1 _ h2, Result.andThen_ok]
  simp [a1, e1 _ h2]
theorem neq_cell (p q : Nat) (h1 : (FloatKind.f64.format.order p p == some .eq) = true) (h2 : (FloatKind.f64.format.order q q == some .eq) = true) (w : World) :
    (binOp .neq 103 (.agg #[.float .f64 p, .float .f64 q]) (.agg #[.float .f64 p, .float .f64 q])).run Try.prog w = .ok (.bool false) w := by
  simp only [binOp]
  simp [Op.equal, Op.maxDepth, eq_cell 9998 w p q h1 h2]
set_option maxHeartbeats 4000000 in
set_option maxRecDepth 100000 in
theorem SameCells_walk (L : List W16) (A B : Option Addr) (c d : Nat) (w : World) (hA : Rd w 2 A L.length (L.flatMap pw)) (hB : Rd w 2 B L.length (L.flatMap pw)) (hl : L.length ≤ 100000) :
    Calls Try.prog 23 #[.slice A L.length c, .slice B L.length d] w fun e w' => e = .returned (.bool true) ∧ Up w w' := by
  have HA := Lib.hid hA
  have HB := Lib.hid hB
  clear hA hB
  go_enter Try.func23, Try.ntmps23
  go_wp2_with fail
  go_loopw [5] (fun v5 wx => ∃ i : Nat, i ≤ L.length ∧ v5 = .int .i64 i ∧ Hid (Drawn w wx)) (fun v5 _ => L.length - (intOf v5).toNat)
  case atStart => exact ⟨0, Nat.zero_le _, rfl, Lib.hid (Drawn.refl _)⟩
  case round =>
    obtain ⟨i, hi, rfl, HU⟩ := hrel
    by_cases hlt : i < L.length
    · have hp := pw_at L i hlt
      have hha := (L.getD i default).ha
      have hhv := (L.getD i default).hv
      have q1 := eqself (L.getD i default).a hha
      have q2 := eqself (L.getD i default).v hhv
      obtain ⟨ad, rfl, a0⟩ := rd_at HA.out (by omega) _ _ hp.1
      obtain ⟨ad', e', a1⟩ := rd_at HA.out (by omega) _ _ hp.2
      cases e'
      obtain ⟨bd, rfl, b0⟩ := rd_at HB.out (by omega) _ _ hp.1
      obtain ⟨bd', e', b1⟩ := rd_at HB.out (by omega) _ _ hp.2
      cases e'
      have a0 := cell_below HU.out.up a0
      have a1 := cell_below HU.out.up a1
      have b0 := cell_below HU.out.up b0
      have b1 := cell_below HU.out.up b1
      rw [← Go.Deep.add_add] at a1 b1
      replace a1 : wr.cell? ⟨(ad.add (i * 2)).block, (ad.add (i * 2)).off + 1, none⟩ = some (.float .f64 (floatOfInt .f64 ((L.getD i default).v : Int))) := a1
      replace b1 : wr.cell? ⟨(bd.add (i * 2)).block, (bd.add (i * 2)).off + 1, none⟩ = some (.float .f64 (floatOfInt .f64 ((L.getD i default).v : Int))) := b1
      clear hp hha hhv
      generalize floatOfInt .f64 ((L.getD i default).a : Int) = p at *
      generalize floatOfInt .f64 ((L.getD i default).v : Int) = q at *
      have hne := fun wx => neq_cell p q q1 q2 wx
      have i0 : (0 : Int) ≤ (i : Int) := by omega
      have i1 : (i : Int) < (L.length : Int) := by omega
      go_wp2_with fail
      go_quiet (fail)
      go_wp2
      go_roundw
      case rel => exact ⟨i + 1, by omega, by go_num, Lib.hid (HU.out.step _)⟩
      case measure => simp [intOf]; omega
    · obtain rfl : i = L.length := by omega
      go_wp2
      go_ret
      exact ⟨rfl, HU.out.up⟩
end Go.Proofs.Ytlefefcakffepaa.Pairs
