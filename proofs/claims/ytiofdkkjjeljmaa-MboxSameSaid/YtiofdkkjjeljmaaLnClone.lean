/- The contracts of All and Clone of a lane, in the seat of chapter 09. -/
import Derived.Test.YtiofdkkjjeljmaaLn
import Derived.Test.YtiofdkkjjeljmaaLat
import Derived.Test.YtiofdkkjjeljmaaMbNew
import Derived.Laws.CopyOwn
import Derived.Deep.DrawnRows
namespace Go.Proofs.Ytiofdkkjjeljmaa.Lane
set_option linter.unusedVariables false
set_option linter.unusedSimpArgs false
open Go.RowKit Go.Proofs.Ytiofdkkjjeljmaa.Lat Go.Proofs.YtiofdkkjjeljmaaW.PrintWords

theorem bl2 (w : World) (o o' : Obj) : ((w.alloc o).alloc o').heap[w.heap.size + 1]? = some o' := by
  have h := block_new (w.alloc o) o'
  have hs : (w.alloc o).heap.size = w.heap.size + 1 := by simp
  rw [hs] at h
  exact h
theorem bl1 (w : World) (o o' : Obj) : ((w.alloc o).alloc o').heap[w.heap.size]? = some o := block_up ((Up.refl (w.alloc o)).alloc o') (block_new w o)
theorem oInt (q : List Int) : ∀ u ∈ q.map (Value.int .i64), u.oneCell' = true := by
  intro u hu
  obtain ⟨z, _, rfl⟩ := List.mem_map.1 hu
  rfl
theorem All_q (b R n : Nat) (q : List Int) (w : World) (h : QAt w b R n q) :
    Calls Try.prog 89 #[.pointer (some ⟨b, 0, none⟩)] w fun e w' => ∃ v : Value, e = .returned v ∧ w'.ownsRow w.heap.size 3 1 v q.length (q.map (Value.int .i64)) ∧ Up w w' := by
  obtain ⟨room, f, h1, h2, h3⟩ := h
  have h4 := All_ok b R f _ room w h1
  rw [h3] at h4
  exact h4
theorem All_s (b R n : Nat) (q : List Int) (w : World) (h : QAt w b R n q) :
    Calls Try.prog 89 #[.pointer (some ⟨b, 0, none⟩)] w fun e w' => ∃ A c, e = .returned (.slice A q.length c) ∧ LAt w' (fun k => w.heap.size ≤ k) (.slice A q.length c) q ∧ Up w w' := by
  refine (All_q b R n q w h).mono ?_
  rintro e w' ⟨v, rfl, hv, hu⟩
  have hl := LAt.of_own hv
  obtain ⟨A, c, rfl⟩ := hl.len
  exact ⟨A, c, rfl, hl, hu⟩
theorem row_app (q : List Int) (m : Nat) : row (q ++ List.replicate m 0) 0 q.length = q := by
  apply List.ext_getElem
  · simp [row]
  · intro i h1 h2
    have hi : i < q.length := h2
    simp only [row, List.getElem_map, List.getElem_range, Nat.zero_add]
    rw [Nat.mod_eq_of_lt (by simp; omega)]
    simp [List.getD_eq_getElem?_getD, List.getElem?_append_left hi, hi]
theorem lat_cells {w : World} {P : Nat → Prop} {A : Option Addr} {c : Nat} {q : List Int} (h : LAt w P (.slice A q.length c) q) (hp : 0 < (q.map (Value.int .i64)).length) :
    ∃ ad, A = some ad ∧ ∀ (j : Nat) (v : Value), (q.map (Value.int .i64))[j]? = some v → w.cell? (ad.add j) = some v := by
  rcases h with ⟨_, rfl⟩ | ⟨ad, c', hv, _, h3⟩
  · simp at hp
  · injection hv with h1 h2 h4
    refine ⟨ad, h1, fun j v hj => ?_⟩
    obtain ⟨z, hz, rfl⟩ := by simpa using hj
    obtain ⟨hl, rfl⟩ := List.getElem?_eq_some_iff.1 hz
    have hc := (h3 j hl).2
    simp [List.getD_eq_getElem?_getD, hl] at hc
    exact hc
/-- One block alone has turned. -/
structure Row1 (g : Nat) (w w' : World) : Prop where
  os : w'.os = w.os
  tape : w'.tape = w.tape
  output : w'.output = w.output
  size : w'.heap.size = w.heap.size
  block : ∀ k, k ≠ g → w'.heap[k]? = w.heap[k]?
theorem Up.row1 {g : Nat} {a w w' : World} (h : Up a w) (k : Row1 g w w') (hg : a.heap.size ≤ g) : Up a w' :=
  ⟨k.os.trans h.os, k.tape.trans h.tape, k.output.trans h.output, by rw [k.size]; exact h.size, fun i hi => (k.block i (by omega)).trans (h.block i hi)⟩
theorem step_copy_row1 {P : Program} {ops : Array Oper} {o : Oper} {a : Act} {w : World} {K : Act → World → Prop} {Q : Exit → Act → World → Prop} {E : Prop} (hgd : o.guard = none) (d s : Operand) (dT sT : TypeId)
    (ho : o.op = .call { callee := .builtin .copy, args := #[d, s], argTypes := #[dT, sT] }) (elem : TypeId) (hu : P.underlying dT = some (.slice elem)) (hsz : (P.info? elem).map (·.size) = some 1)
    (dp sp : Option Addr) (dLen dCap sLen sCap : Nat) (hd : a.eval d = .slice dp dLen dCap) (hs : a.eval s = .slice sp sLen sCap)
    (g off : Nat) (cur : List Value) (t : TypeId) (hg : w.heap[g]? = some (.cells cur.toArray t (0, 0))) (cs : List Value) (hn : cs.length = Nat.min sLen dLen)
    (hpos : 0 < cs.length → dp = some ⟨g, off, none⟩ ∧ ∃ ad, sp = some ad ∧ ∀ (j : Nat) (v : Value), cs[j]? = some v → w.cell? (ad.add j) = some v)
    (hfit : off + cs.length ≤ cur.length) (h1 : ∀ v ∈ cs, v.oneCell' = true)
    (h : ∀ w', Hid (w'.heap[g]? = some (.cells (splice cur off cs).toArray t (0, 0))) → Row1 g w w' → K (a.put o.dst (goInt cs.length)) w') :
    if Region.wanted o (yielded ops a.tmps) = true then Oper.wp P o a w K Q else E := by
  have hw : Region.wanted o (yielded ops a.tmps) = true := by simp [Region.wanted, hgd]
  rw [if_pos hw]
  by_cases h0 : cs.length = 0
  · obtain rfl : cs = [] := List.eq_nil_of_length_eq_zero h0
    have hrun := run_copy_none (P := P) w dT sT o.type elem dp sp dLen dCap sLen sCap hu hsz (by simpa using hn.symm)
    unfold Oper.wp
    simp [execOp, ho, resolve, invoke, builtin, hd, hs, hrun, Result.andThen]
    exact h w (show _ = _ by simpa [splice] using hg) ⟨rfl, rfl, rfl, rfl, fun _ _ => rfl⟩
  · obtain ⟨rfl, ad, rfl, hsrc⟩ := hpos (by omega)
    have hrun := run_copy_row (P := P) w dT sT o.type elem g off dLen dCap ad sLen sCap cur.toArray t cs hu hsz hg hn hsrc (by simpa using hfit) h1
    unfold Oper.wp
    simp [execOp, ho, resolve, invoke, builtin, hd, hs, hrun, Result.andThen]
    exact h _ (show _ = _ by simpa [splice] using setRow_heap w g _ _ t _ hg) ⟨rfl, rfl, rfl, by simp [World.setRow], fun k hk => setRow_other w g k _ hk⟩
theorem int_size : (Try.prog.info? 3).map (·.size) = some 1 := by kernel_rfl
attribute [local go_sem ↓] Go.wp_at_zero Go.wp_at_succ
set_option maxHeartbeats 8000000 in
set_option maxRecDepth 100000 in
theorem Clone_q (b R n : Nat) (q : List Int) (w : World) (h : QAt w b R n q) :
    Calls Try.prog 90 #[.pointer (some ⟨b, 0, none⟩)] w fun e w' => ∃ b' R', e = .returned (.pointer (some ⟨b', 0, none⟩)) ∧ QAt w' b' R' n q ∧ Up w w' ∧ w.heap.size ≤ b' ∧ w.heap.size ≤ R' := by
  have HQ := Lib.hid h
  have hle := h.le
  obtain ⟨room, f, h1, h2, h3⟩ := h
  have hpos := h1.pos
  have c0 : w.cell? ⟨b, 0, none⟩ = some (.slice (some ⟨R, 0, none⟩) n n) := by rw [← h2]; exact cell_of_block h1.hb 0
  have c2 : w.cell? ⟨b, 2, none⟩ = some (.int .i64 q.length) := cell_of_block h1.hb 2
  have hne0 := World.new_ne w _ c0
  have hn1 : 1 ≤ n := h2 ▸ hpos
  clear h1 h2 h3 hpos
  have hm := fun wx => run_mk n (by omega) wx
  go_enter Try.func90, Try.ntmps90
  go_wp2
  go_region_held3 (fun wx => wx.cell? ⟨b, 0, none⟩ = some (.slice (some ⟨R, 0, none⟩) n n) ∧ wx.cell? ⟨b, 2, none⟩ = some (.int .i64 q.length)) (go_keep) (fail)
  have hs1 : (w.alloc (.cells (Array.replicate n (.int .i64 0)) 3)).heap.size = w.heap.size + 1 := by simp
  have hu1 : Up w (((w.alloc (.cells (Array.replicate n (.int .i64 0)) 3)).alloc (.cells #[.slice (some ⟨w.heap.size, 0, none⟩) n n, .int .i64 0, .int .i64 q.length] 165)).drew) := Up.drew (((Up.refl w).alloc _).alloc _)
  have hR1 : (((w.alloc (.cells (Array.replicate n (.int .i64 0)) 3)).alloc (.cells #[.slice (some ⟨w.heap.size, 0, none⟩) n n, .int .i64 0, .int .i64 q.length] 165)).drew).heap[w.heap.size]? = some (.cells (Array.replicate n (.int .i64 0)) 3) := bl1 w _ _
  have hB1 : (((w.alloc (.cells (Array.replicate n (.int .i64 0)) 3)).alloc (.cells #[.slice (some ⟨w.heap.size, 0, none⟩) n n, .int .i64 0, .int .i64 q.length] 165)).drew).heap[w.heap.size + 1]? = some (.cells #[.slice (some ⟨w.heap.size, 0, none⟩) n n, .int .i64 0, .int .i64 q.length] 165) := bl2 w _ _
  have HR1 := Lib.hid hR1
  have HB1 := Lib.hid hB1
  have HU1 := Lib.hid hu1
  clear hs1 hu1 hR1 hB1 hm hne0 c0 c2
  go_split_ands
  generalize (((w.alloc (.cells (Array.replicate n (.int .i64 0)) 3)).alloc (.cells #[.slice (some ⟨w.heap.size, 0, none⟩) n n, .int .i64 0, .int .i64 q.length] 165)).drew) = w1 at *
  have o0 : w1.cell? ⟨w.heap.size + 1, 0, none⟩ = some (.slice (some ⟨w.heap.size, 0, none⟩) n n) := cell_of_block HB1.out 0
  have HREP := Lib.hid (show (List.replicate n (Value.int .i64 0)).toArray = Array.replicate n (Value.int .i64 0) from by simp)
  go_wp2_with fail
  go_region_held3 (fun wx => wx.cell? ⟨w.heap.size + 1, 0, none⟩ = some (.slice (some ⟨w.heap.size, 0, none⟩) n n) ∧ Hid (Up w wx))
    (first | exact ⟨o0, Lib.hid (Up.drew HU1.out)⟩ | (go_split_ands; exact ⟨(World.cell?_of_block (hrow.block _ (Nat.succ_ne_self _))).trans (by assumption), Lib.hid (Up.row1 (Hid.out (by assumption)) hrow (Nat.le_refl _))⟩) | (go_split_ands; exact ⟨pw_cell_below hu (by assumption), Lib.hid (Up.trans (Hid.out (by assumption)) hu)⟩))
    (first
      | (go_at_call 89; refine (All_s b R n q _ ?_).mono ?_; (go_split_ands; exact HQ.out.up (Hid.out (by assumption))); rintro e w3 ⟨A, c, rfl, hl, hu⟩)
      | (refine step_copy_row1 (by rfl) _ _ _ _ (by rfl) 3 Try.underlying31 int_size (some ⟨w.heap.size, 0, none⟩) A n n q.length c (by rfl) (by rfl) w.heap.size 0 (List.replicate n (.int .i64 0)) 3 (by rw [HREP.out]; exact block_up hu HR1.out) (q.map (.int .i64)) (by rw [List.length_map]; exact (Nat.min_eq_left HQ.out.le.1).symm) (fun hp => ⟨rfl, lat_cells hl hp⟩) (by simp; omega) (oInt q) ?_; intro w4 hsp hrow))
  go_split_ands
  have HU4 := Lib.hid (Up.row1 (Up.trans (Up.drew HU1.out) hu) hrow (Nat.le_refl _))
  have HB4 := Lib.hid ((hrow.block _ (Nat.succ_ne_self _)).trans (block_up hu HB1.out))
  have HS4 := Lib.hid hsp.out
  clear hu hl hrow hsp
  go_wp2
  go_ret
  refine ⟨w.heap.size + 1, w.heap.size, rfl, ⟨q ++ List.replicate (n - q.length) 0, 0, ⟨?_, ?_, ?_, ?_, ?_, ?_, by omega⟩, by simp; omega, row_app q _⟩, HU4.out, by omega, by omega⟩
  · have e : (q ++ List.replicate (n - q.length) (0 : Int)).length = n := by simp; omega
    rw [e]
    exact HB4.out
  · have e : splice (List.replicate n (Value.int .i64 0)) 0 (q.map (Value.int .i64)) = (q ++ List.replicate (n - q.length) 0).map (Value.int .i64) := by
      simp [splice]
    rw [← e]
    exact HS4.out
  · simp; omega
  · simp; omega
  · simp; omega
  · simp
end Go.Proofs.Ytiofdkkjjeljmaa.Lane
