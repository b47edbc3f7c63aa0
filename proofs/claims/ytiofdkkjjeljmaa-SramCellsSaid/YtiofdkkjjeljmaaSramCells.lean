/- Contracts of the package sram: Cells. -/
import Derived.Test.YtiofdkkjjeljmaaSramDo
import Derived.Test.YtiofdkkjjeljmaaCellOf
import Derived.Laws.AppendOwnNone
import Derived.Deep.AppendLies
namespace Go.Proofs.Ytiofdkkjjeljmaa.Sram
set_option linter.unusedVariables false
set_option linter.unusedSimpArgs false
open Go.RowKit Go.Proofs.Ytiofdkkjjeljmaa.Lat Go.Proofs.Ytiofdkkjjeljmaa.CellOf

/-- append onto a row of the call's own: the new row written out. -/
theorem wpList_append_out {P : Program} (w : World) {ops : Array Oper} {rest : List Oper} {o : Oper} {a : Act} {Q : Exit → Act → World → Prop} (hgd : o.guard = none) (s x : Operand) (t : TypeId)
    (ho : o.op = .call { callee := .builtin .append, args := #[s, x], argTypes := #[t, t] })
    (base : Nat) (e : TypeId) (i : TypeInfo) (z : Value) (size bytes : Nat) (ht : P.underlying t = some (.slice e)) (hi : P.info? e = some i) (hz : i.zero = some z)
    (hsize : i.size = size) (hby : i.bytes = bytes) (hzs : z.cells.size = size) (hsz : 0 < size)
    (v : Value) (n : Nat) (xs : List Value) (hs : a.eval s = v) (hown : w.ownsRow base e size v n xs)
    (ad : Addr) (m c : Nat) (news : List Value) (hx : a.eval x = .slice (some ad) m c) (hl : news.length = m * size) (hnews : ∀ j u, news[j]? = some u → w.cell? (ad.add j) = some u) (h1 : ∀ u ∈ news, u.oneCell' = true)
    (h63 : n + m ≤ maxLen) (hbytes : (n + m) * bytes ≤ 140737488355328) (hbase : base ≤ w.heap.size)
    (h : ∀ A c w', w'.ownsRow base e size (.slice A (n + m) c) (n + m) (xs ++ news) → w.grownBy w' v.ownBlock → wpList P ops Q rest (a.put o.dst (.slice A (n + m) c)) w') : wpList P ops Q (o :: rest) a w :=
  wpList_append_own w hgd s x t ho base e i z size bytes ht hi hz hsize hby hzs hsz v n xs hs hown ad m c news hx hl hnews h1 h63 hbytes hbase fun v' w' h2 h3 _ => by
    obtain ⟨hl2, hh⟩ := h2
    rcases hh with ⟨rfl, h0⟩ | ⟨g, cap, cur, rfl, hr⟩
    · have := h none 0 w'
      rw [h0] at this
      exact this ⟨by rw [h0] at hl2; exact hl2, .inl ⟨rfl, rfl⟩⟩ h3
    · exact h _ _ w' ⟨hl2, .inr ⟨g, cap, cur, rfl, hr⟩⟩ h3
/-- The cells of the first words. -/
def cellsL (ws : List Int) : Nat → List Value
  | 0 => []
  | i + 1 => cellsL ws i ++ if ws.getD i 0 = 0 then [] else [.complex .f64 (floatOfInt .f64 i) (floatOfInt .f64 (ws.getD i 0))]
theorem cellsL_len (ws : List Int) : ∀ i, (cellsL ws i).length ≤ i
  | 0 => Nat.le_refl _
  | i + 1 => by
    have := cellsL_len ws i
    unfold cellsL
    split <;> simp <;> omega
theorem info_complex : (Try.prog.info? 48).map (fun i => (i.zero, i.size, i.bytes)) = some (some (.complex .f64 0 0), 1, 16) := by kernel_rfl
theorem complex_info : ∃ t0, Try.prog.info? 48 = some t0 ∧ t0.zero = some (.complex .f64 0 0) ∧ t0.size = 1 ∧ t0.bytes = 16 := by
  have h := info_complex
  cases hi : Try.prog.info? 48 with
  | none => rw [hi] at h; cases h
  | some i =>
    rw [hi] at h
    simp at h
    exact ⟨i, rfl, h.1, h.2.1, h.2.2⟩
theorem Cells_nil (w : World) : Calls Try.prog 25 #[.pointer none] w fun e w' => e = .returned (.slice none 0 0) ∧ Up w w' := by
  go_enter Try.func25, Try.ntmps25
  go_wp2
  go_ret
  exact ⟨rfl, Up.refl _⟩
set_option maxHeartbeats 4000000 in
set_option maxRecDepth 100000 in
theorem Cells_ok (b R : Nat) (ws : List Int) (w : World) (h : RamAt w b R ws) : Calls Try.prog 25 #[.pointer (some ⟨b, 0, none⟩)] w fun e w' => ∃ v : Value, e = .returned v ∧ w'.ownsRow w.heap.size 48 1 v (cellsL ws ws.length).length (cellsL ws ws.length) ∧ Up w w' := by
  have HR := Lib.hid h
  have hle := h.le
  obtain ⟨cc, -, c0⟩ := h.b0
  obtain ⟨t0, ht0, hz0, hz1, hz2⟩ := complex_info
  clear h
  go_enter Try.func25, Try.ntmps25
  go_wp2_with fail
  go_loopw [15, 3] (fun v15 v3 wx => ∃ i : Nat, i ≤ ws.length ∧ v15 = .int .i64 i ∧ Hid (wx.ownsRow w.heap.size 48 1 v3 (cellsL ws i).length (cellsL ws i)) ∧ Hid (Up w wx)) (fun v15 _ _ => ws.length - (intOf v15).toNat)
  case atStart => exact ⟨0, Nat.zero_le _, rfl, Lib.hid (World.ownsRow_nil _ _ _ _), Lib.hid (Up.refl _)⟩
  case round =>
    obtain ⟨i, hi, rfl, HO, HU⟩ := hrel
    by_cases hlt : i < ws.length
    · have HA := Lib.hid (HR.out.up HU.out)
      have cR := HA.out.cell i hlt
      have hz := HR.out.ok (ws.getD i 0) (by rw [List.getD_eq_getElem?_getD, List.getElem?_eq_getElem hlt]; exact List.getElem_mem hlt)
      have hci := Lib.hid (cellV_in (a := i) (by omega) hz)
      have hlen := cellsL_len ws i
      have hsz := HU.out.size
      have EL := Lib.hid (show cellsL ws (i + 1) = cellsL ws i ++ if ws.getD i 0 = 0 then [] else [.complex .f64 (floatOfInt .f64 i) (floatOfInt .f64 (ws.getD i 0))] from rfl)
      clear hz
      by_cases hz : ws.getD i 0 = 0
      · rw [hz] at hci cR
        have E := EL.out
        rw [if_pos hz, List.append_nil] at E
        have EL2 := Lib.hid E
        clear EL E hz
        go_wp2_with (go_at_call 61; refine (Of_walk _ _ _).mono ?_; rw [hci.out]; rintro e w' ⟨rfl, rfl⟩)
        go_roundw
        case rel => exact ⟨i + 1, by omega, by go_num, by rw [EL2.out]; exact HO, HU⟩
        case measure => simp [intOf]; omega
      · have E := EL.out
        rw [if_neg hz] at E
        have EL2 := Lib.hid E
        have hzf : (ws.getD i 0 == 0) = false := beq_eq_false_iff_ne.2 hz
        have hzt : (ws.getD i 0 != 0) = true := by rw [bne, hzf]; rfl
        clear EL E hz
        generalize ws.getD i 0 = z at *
        generalize floatOfInt .f64 i = fi at *
        generalize floatOfInt .f64 z = fz at *
        generalize cellsL ws i = cs at *
        go_wp2_with (first | (go_at_call 61; refine (Of_walk _ _ _).mono ?_; rw [hci.out]; rintro e w' ⟨rfl, rfl⟩) | (at_builtin; refine wpList_append_out _ rfl (.tmp 31) (.tmp 33) 47 rfl w.heap.size 48 t0 (.complex .f64 0 0) 1 16 Try.underlying47 ht0 hz0 hz1 hz2 rfl (by decide) _ cs.length _ rfl (HO.out.alloc _) ⟨_, 0, none⟩ 1 1 [.complex .f64 fi fz] rfl (by simp) (World.news_of_block (cs := #[.complex .f64 fi fz]) (t := 48) (fr := (0, 0)) (heap_alloc_new _ _)) (by simp [Value.oneCell']) (by unfold maxLen; omega) (by omega) (by simp; omega) ?_; intro A1 c1 w3 hown hgrow; have HOW := Lib.hid hown; have HGR := Lib.hid hgrow; clear hown hgrow))
        have HU3 : Hid (Up w w3) := Lib.hid (Up.trans_grown (Up.alloc HU.out _) HGR.out (fun q hq => (HO.out.lt q hq).1))
        clear HGR
        go_roundw
        case rel => exact ⟨i + 1, by omega, by go_num, by rw [EL2.out, List.length_append]; exact HOW, HU3⟩
        case measure => simp [intOf]; omega
    · obtain rfl : i = ws.length := by omega
      go_wp2
      go_ret
      exact ⟨_, rfl, HO.out, HU.out⟩
end Go.Proofs.Ytiofdkkjjeljmaa.Sram
