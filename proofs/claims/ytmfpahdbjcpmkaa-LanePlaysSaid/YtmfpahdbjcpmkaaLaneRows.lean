/- What a walk over lanes and own rows needs; a list of calls in memory. -/
import Derived.Test.YtmfpahdbjcpmkaaLaneDo
import Derived.Test.YtmfpahdbjcpmkaaWWords
import Derived.Deep.Slices
namespace Go.Proofs.Ytmfpahdbjcpmkaa.Lane
set_option linter.unusedVariables false
set_option linter.unusedSimpArgs false
open Go.RowKit Go.Proofs.YtmfpahdbjcpmkaaW.PrintWords

theorem LaneAt.grown {w w' : World} {b R f k : Nat} {room : List Int} {rw_ : Option Nat} (h : LaneAt w b R room f k) (hg : w.grownBy w' rw_) (hb : rw_ ≠ some b) (hR : rw_ ≠ some R) : LaneAt w' b R room f k :=
  ⟨blk_grown h.hb hg (Ne.symm hb), blk_grown h.hR hg (Ne.symm hR), h.pos, h.le, h.flt, h.kle, h.ne⟩
theorem QAt.grown {w w' : World} {b R n : Nat} {q : List Int} {rw_ : Option Nat} (h : QAt w b R n q) (hg : w.grownBy w' rw_) (hb : rw_ ≠ some b) (hR : rw_ ≠ some R) : QAt w' b R n q := by
  obtain ⟨room, f, h1, h2, h3⟩ := h
  exact ⟨room, f, h1.grown hg hb hR, h2, h3⟩
theorem QAt.lt {w : World} {b R n : Nat} {q : List Int} (h : QAt w b R n q) : b < w.heap.size ∧ R < w.heap.size := by
  obtain ⟨room, f, h1, h2, h3⟩ := h
  exact ⟨World.block_lt_of_cell? w _ (cell_of_block h1.hb 0), lane_lt h1⟩
theorem Len_q (b R n : Nat) (q : List Int) (w : World) (h : QAt w b R n q) : Calls Try.prog 14 #[.pointer (some ⟨b, 0, none⟩)] w fun e w' => e = .returned (.int .i64 q.length) ∧ w' = w := by
  obtain ⟨room, f, h1, h2, h3⟩ := h
  exact Len_walk b R f _ room w h1
theorem Cap_q (b R n : Nat) (q : List Int) (w : World) (h : QAt w b R n q) : Calls Try.prog 15 #[.pointer (some ⟨b, 0, none⟩)] w fun e w' => e = .returned (.int .i64 n) ∧ w' = w := by
  obtain ⟨room, f, h1, h2, h3⟩ := h
  rw [← h2]
  exact Cap_walk b R f _ room w h1
theorem All_q (b R n : Nat) (q : List Int) (w : World) (h : QAt w b R n q) :
    Calls Try.prog 17 #[.pointer (some ⟨b, 0, none⟩)] w fun e w' => ∃ v : Value, e = .returned v ∧ w'.ownsRow w.heap.size 3 1 v q.length (q.map (Value.int .i64)) ∧ Up w w' := by
  obtain ⟨room, f, h1, h2, h3⟩ := h
  have h4 := All_ok b R f _ room w h1
  rw [h3] at h4
  exact h4
/-- A row of the call's own stays where only other blocks turn. -/
theorem own_off {w w' : World} {b R base : Nat} {e : TypeId} {size : Nat} {v : Value} {n : Nat} {xs : List Value} (h : w.ownsRow base e size v n xs) (ho : Off b R w w') (hb : v.ownBlock ≠ some b) (hR : v.ownBlock ≠ some R) : w'.ownsRow base e size v n xs := by
  obtain ⟨hl, h⟩ := h
  refine ⟨hl, ?_⟩
  rcases h with h | ⟨g, cap, cur, rfl, hg, hc, h1, h2, h3, h4⟩
  · exact .inl h
  · have hlt : g < w.heap.size := by
      rcases Nat.lt_or_ge g w.heap.size with h' | h'
      · exact h'
      · simp [Array.getElem?_eq_none h'] at hc
    exact .inr ⟨g, cap, cur, rfl, hg, (ho.block g hlt (fun e => hb (by rw [e]; rfl)) (fun e => hR (by rw [e]; rfl))).trans hc, h1, h2, h3, h4⟩
/-- append onto a row of the call's own: the new row written out. -/
theorem wpList_append_out {P : Program} (w : World) {ops : Array Oper} {rest : List Oper} {o : Oper} {a : Act} {Q : Exit → Act → World → Prop} (hgd : o.guard = none) (s x : Operand) (t : TypeId)
    (ho : o.op = .call { callee := .builtin .append, args := #[s, x], argTypes := #[t, t] })
    (base : Nat) (e : TypeId) (i : TypeInfo) (z : Value) (size bytes : Nat) (ht : P.underlying t = some (.slice e)) (hi : P.info? e = some i) (hz : i.zero = some z)
    (hsize : i.size = size) (hby : i.bytes = bytes) (hzs : z.cells.size = size) (hsz : 0 < size)
    (v : Value) (n : Nat) (xs : List Value) (hs : a.eval s = v) (hown : w.ownsRow base e size v n xs)
    (ad : Addr) (m c : Nat) (news : List Value) (hx : a.eval x = .slice (some ad) m c) (hl : news.length = m * size) (hnews : ∀ j u, news[j]? = some u → w.cell? (ad.add j) = some u) (h1 : ∀ u ∈ news, u.oneCell' = true)
    (h63 : n + m ≤ maxLen) (hbytes : (n + m) * bytes ≤ 140737488355328) (hbase : base ≤ w.heap.size)
    (h : ∀ A c w', w'.ownsRow base e size (.slice A (n + m) c) (n + m) (xs ++ news) → w.grownBy w' v.ownBlock → wpList P ops Q rest (a.put o.dst (.slice A (n + m) c)) w') : wpList P ops Q (o :: rest) a w :=
  wpList_append_own w hgd s x t ho base e i z size bytes ht hi hz hsize hby hzs hsz v n xs hs hown ad m c news hx hl hnews h1 h63 hbytes hbase fun v' w' h2 h3 _ => by
    obtain ⟨hl2, hh⟩ := h2
    rcases hh with ⟨rfl, h0⟩ | ⟨g, cap, cur, rfl, hr⟩
    · have := h none 0 w'
      rw [h0] at this
      exact this ⟨by rw [h0] at hl2; exact hl2, .inl ⟨rfl, rfl⟩⟩ h3
    · exact h _ _ w' ⟨hl2, .inr ⟨g, cap, cur, rfl, hr⟩⟩ h3
def Apart (u v : Value) : Prop := ∀ g, u.ownBlock = some g → v.ownBlock = some g → False

/-- A list of calls, read in memory. -/
def OpsAt (w : World) (A : Option Addr) (ops : List (Int × Int)) : Prop := ∀ i, i < ops.length → ∃ ad, A = some ad ∧ w.cell? (ad.add (i * 2)) = some (.int .i64 (ops.getD i (0, 0)).1) ∧ w.cell? (ad.add (i * 2 + 1)) = some (.int .i64 (ops.getD i (0, 0)).2)
end Go.Proofs.Ytmfpahdbjcpmkaa.Lane
