/- Of and Drop: the names of a core. -/
import Derived.Test.YtdhgmnnkbjhpaaaNlist
import Derived.Test.YtdhgmnnkbjhpaaaNnob
namespace Go.Proofs.Ytdhgmnnkbjhpaaa.Ntab
set_option linter.unusedVariables false
set_option linter.unusedSimpArgs false
open Go.RowKit Go.Proofs.Ytdhgmnnkbjhpaaa.Sep Go.Proofs.Ytdhgmnnkbjhpaaa.Mp Go.Proofs.Ytdhgmnnkbjhpaaa.PNamesPlay Go.Proofs.Ytdhgmnnkbjhpaaa.NoteOk Go.Proofs.YtdhgmnnkbjhpaaaW.PrintWords
open Go.Maps (Keyed)
open Go.Sort

/-! ### 1. The closure of Of -/
theorem run_core (c a : Int) (W : World) : (Instr.field 103 (.agg #[.int .i64 c, .int .i64 a]) 0).run Try.prog W = .ok (.int .i64 c) W := by kernel_rfl
def coreN (L : List S66) (s : ByteArray) : Int := match findN L s with | none => 0 | some x => x.f1
section
variable {P0 : Nat → Prop} {w0 w w' : World} {F : List Rg} {t g1 g2 : Nat} {L : List S66} {core : Int}
set_option maxHeartbeats 2000000 in
set_option maxRecDepth 100000 in
theorem clo_st (h : St P0 w0 w (bk g1 44 #[.pointer (some ⟨t, 0, none⟩)] :: bk g2 3 #[.int .i64 core] :: tab t L :: F)) (s : ByteArray) (hs : s.size ≤ maxLen) :
    Calls Try.prog 50 #[.string s, .pointer (some ⟨g1, 0, none⟩), .pointer (some ⟨g2, 0, none⟩)] w fun e w' => e = .returned (.bool (coreN L s != core)) ∧ ∃ q, w' = w.drewN q := by
  have k1 : w.cell? ⟨g1, 0, none⟩ = some (.pointer (some ⟨t, 0, none⟩)) := cell_of_block h.bk_at 0
  have k2 : w.cell? ⟨g2, 0, none⟩ = some (.int .i64 core) := cell_of_block (h.get 1).bk_at 0
  obtain ⟨m, hm, h1⟩ := tab_any (h.get 2)
  have k0 : w.cell? ⟨t, 0, none⟩ = some (.map (some m)) := cell_of_block h1.bk_at 0
  have hl := mp_get (h1.get 1).drew klaw Try.underlying98 (zplace w.drew) (kof hs)
  rw [look_ent] at hl
  obtain ⟨c0, a0, hv, hc⟩ : ∃ c0 a0, (Option.map pv (findN L s)).getD (.agg #[.int .i64 0, .int .i64 0]) = .agg #[.int .i64 c0, .int .i64 a0] ∧ coreN L s = c0 := by
    unfold coreN
    cases findN L s with
    | none => exact ⟨0, 0, rfl, rfl⟩
    | some x => exact ⟨x.f1, x.f2, rfl, rfl⟩
  rw [hv] at hl
  rw [hc]
  clear h h1 hm hs hv hc
  have hfl := fun W => run_core c0 a0 W
  by_cases he : c0 = core
  · subst he
    have g3 : (c0 != c0) = false := by simp
    rw [g3]
    clear g3
    go_enter Try.func50, Try.ntmps50
    go_wp2_with fail
    go_region_held3 (fun wx => wx.cell? ⟨g1, 0, none⟩ = some (.pointer (some ⟨t, 0, none⟩)) ∧ wx.cell? ⟨g2, 0, none⟩ = some (.int .i64 c0) ∧ wx.cell? ⟨t, 0, none⟩ = some (.map (some m))) (exact ⟨k1, k2, k0⟩) (fail)
    go_wp2
    go_ret
    exact ⟨rfl, 1, rfl⟩
  · have g3 : (c0 != core) = true := by simpa using he
    have g4 : (c0 == core) = false := beq_eq_false_iff_ne.2 he
    rw [g3]
    go_enter Try.func50, Try.ntmps50
    go_wp2_with fail
    go_region_held3 (fun wx => wx.cell? ⟨g1, 0, none⟩ = some (.pointer (some ⟨t, 0, none⟩)) ∧ wx.cell? ⟨g2, 0, none⟩ = some (.int .i64 core) ∧ wx.cell? ⟨t, 0, none⟩ = some (.map (some m))) (exact ⟨k1, k2, k0⟩) (fail)
    go_wp2
    go_ret
    exact ⟨rfl, 1, rfl⟩
end
/-! ### 2. slices.DeleteFunc, of names -/
abbrev Nm := { s : ByteArray // s.size ≤ 1000 }
instance : Inhabited Nm := ⟨⟨⟨#[]⟩, by decide⟩⟩
def encN (s : Nm) : Value := .string s.1
theorem sortWorld_at {α : Type} [Inhabited α] (enc : α → Value) (w : World) (blk off n : Nat) (dk : Array α) (os : Array Obj) (k : Nat) (hk : k < w.heap.size) (hne : k ≠ blk) : (sortWorld enc w blk off n dk os).heap[k]? = w.heap[k]? := by
  unfold sortWorld grow putRow mapBlock Sort.ahead
  simp only
  rw [Array.getElem?_append_left (by simpa using hk), Array.getElem?_modify, if_neg (Ne.symm hne)]
theorem sortWorld_size {α : Type} [Inhabited α] (enc : α → Value) (w : World) (blk off n : Nat) (dk : Array α) (os : Array Obj) : w.heap.size ≤ (sortWorld enc w blk off n dk os).heap.size := by
  unfold sortWorld grow putRow mapBlock Sort.ahead
  simp
section
variable {P0 : Nat → Prop} {w0 w w' : World} {F : List Rg} {t g1 g2 : Nat} {L : List S66} {core : Int}
theorem sortWorld_os {α : Type} [Inhabited α] (enc : α → Value) (w : World) (blk off n : Nat) (dk : Array α) (os : Array Obj) : (sortWorld enc w blk off n dk os).os = w.os ∧ (sortWorld enc w blk off n dk os).tape = w.tape ∧ (sortWorld enc w blk off n dk os).output = w.output := ⟨rfl, rfl, rfl⟩
theorem DelF_st {v : Value} (ln : List Nm) (h : St P0 w0 w (nms v (ln.map (·.1)) :: bk g1 44 #[.pointer (some ⟨t, 0, none⟩)] :: bk g2 3 #[.int .i64 core] :: tab t L :: F)) :
    Calls Try.prog 49 #[v, .func (.func 50) #[] #[.pointer (some ⟨g1, 0, none⟩), .pointer (some ⟨g2, 0, none⟩)]] w fun e w' =>
      ∃ v', e = .returned v' ∧ St P0 w0 w' (nms v' ((ln.filter fun s => !(coreN L s.1 != core)).map (·.1)) :: bk g1 44 #[.pointer (some ⟨t, 0, none⟩)] :: bk g2 3 #[.int .i64 core] :: tab t L :: F) := by
  have h0 := h
  obtain ⟨hf, Q, R, hq, hr, hd, hA, hL⟩ := h
  rcases hA with ⟨rfl, hn, -⟩ | ⟨g, o, c, cur, rfl, hn, hm, hlen, hQg, hheap, hsz, hcur⟩
  · have e0 : ln = [] := by simpa using hn
    subst e0
    refine (DeleteFunc_nil _ _).mono ?_
    rintro e w' ⟨rfl, rfl⟩
    exact ⟨_, rfl, h0⟩
  · have hll : (ln.map (·.1)).length = ln.length := by simp
    have hlt : g < w.heap.size := heap_lt hheap
    have hcl : ∀ W : World, (∀ k, R k → k < w.heap.size → W.heap[k]? = w.heap[k]?) → ∀ x : Nm, Calls Try.prog 50 #[.string x.1, .pointer (some ⟨g1, 0, none⟩), .pointer (some ⟨g2, 0, none⟩)] W fun e w' => e = .returned (.bool (coreN L x.1 != core)) ∧ ∃ q, w' = W.drewN q :=
      fun W hW x => clo_st (St.start (Sep.move hL hW)) x.1 (by have := x.2; unfold maxLen; omega)
    have hH : Holds encN w g o ln.toArray := by
      intro j hj
      have hj' : j < ln.length := by simpa using hj
      have hx : (strs (ln.map (·.1)))[j]? = some (encN ln[j]) := by
        unfold strs encN
        simp [hj']
      refine ⟨?_, free_of_block hheap (o + j)⟩
      have e1 : ln.toArray[j]! = ln[j] := by simp [hj']
      rw [e1, cell_of_block hheap, ← hx]
      exact hcur j (by rw [hlen, hll]; omega)
    have hcon := AnyE.slices_DeleteFunc Try.delf49 encN (fun _ => rfl) (fun s => coreN L s.1 != core) 50 #[.pointer (some ⟨g1, 0, none⟩), .pointer (some ⟨g2, 0, none⟩)]
      (fun args w => enters_of Try.func50 (by kernel_rfl) rfl args w) default Try.zeroValue9 g o c ln.toArray w
      (fun W x hb => hcl W (fun k hk hk2 => hb.block k hk2) x)
      (fun n os dk x hs => hcl _ (fun k hk hk2 => sortWorld_at encN w g o n dk os k hk2 (fun e => hd g hQg (e ▸ hk))) x)
      hH (by rw [List.size_toArray]; unfold maxLen at hm; omega) (by rw [List.size_toArray]; omega)
    change Calls Try.prog 49 _ _ _ at hcon
    rw [List.size_toArray] at hcon
    rw [hll]
    refine hcon.mono ?_
    rintro e w' ⟨rfl, q, rfl⟩
    have hd2 : (ln.filter fun s => !(coreN L s.1 != core)).length ≤ ln.length := List.length_filter_le _ _
    generalize hr2 : (ln.filter fun s => !(coreN L s.1 != core)) = r at *
    have hdsz : ((r ++ List.replicate (ln.length - r.length) default : List Nm).toArray).size = ln.toArray.size := by simp; omega
    have hH2 := holds_putRow encN (Sort.ahead w q) g o ln.toArray _ (holds_ahead encN w q g o _ hH) hdsz
    have hb2 : (putRow encN (Sort.ahead w q) g o (r ++ List.replicate (ln.length - r.length) default : List Nm).toArray).heap[g]? = some (.cells (putCells encN o (r ++ List.replicate (ln.length - r.length) default : List Nm).toArray cur) 9 (0, 0)) := by
      unfold putRow mapBlock Sort.ahead
      simp only
      rw [Array.getElem?_modify, if_pos rfl, hheap]
      rfl
    obtain ⟨P, hSep, hs⟩ := St.step (L := [nms (.slice (some ⟨g, o, none⟩) (ln.map (·.1)).length c) (ln.map (·.1))]) h0
    obtain ⟨Q', R', hq', hr', hd', hA', -⟩ := hSep
    have hPg : P g := by
      rcases hA' with ⟨e, _⟩ | ⟨g', o', c', cur', e, _, _, _, hg', _⟩
      · cases e
      · cases e
        exact hq' _ hg'
    refine ⟨_, rfl, hs (w' := putRow encN (Sort.ahead w q) g o (r ++ List.replicate (ln.length - r.length) default : List Nm).toArray) (M := [nms (.slice (some ⟨g, o, none⟩) r.length c) (r.map (·.1))]) ⟨⟨rfl, rfl, rfl, by simp [Sort.ahead], fun k hk hn => ?_⟩, fun k => k = g, No, ?_, fun _ e => e.elim, fun _ _ e => e.elim, ?_, trivial⟩⟩
    · have := sortWorld_at encN w g o q (r ++ List.replicate (ln.length - r.length) default : List Nm).toArray #[] k hk (fun e => hn (e ▸ hPg))
      rw [← this]
      unfold sortWorld
      rw [grow_empty]
    · rintro k rfl
      exact ⟨.inl hPg, by simpa [Sort.ahead] using hlt⟩
    · have hrl : (r.map (·.1)).length = r.length := by simp
      refine .inr ⟨g, o, c, _, by rw [hrl], by rw [hrl]; omega, hm, by unfold strs; simp, rfl, hb2, ?_, fun j hj => ?_⟩
      · have : (putCells encN o (r ++ List.replicate (ln.length - r.length) default : List Nm).toArray cur).size = cur.size := by simp [putCells]
        rw [this]
        exact hsz
      · have hj' : j < r.length := by unfold strs at hj; simpa using hj
        have h1 := (hH2 j (by simp; omega)).1
        rw [cell_of_block hb2] at h1
        rw [h1]
        unfold strs encN
        simp [hj', List.getElem?_append_left]
end
end Go.Proofs.Ytdhgmnnkbjhpaaa.Ntab
