/- append onto a slice that lies in a part of its own. No program, no condition. -/
import Derived.Test.YtdhgmnnkbjhpaaaSep
import Derived.ArgAppend
import Derived.OwnWalk
import Derived.Deep.RegionLaw
namespace Go.Proofs.Ytdhgmnnkbjhpaaa.Sep
set_option linter.unusedVariables false
set_option linter.unusedSimpArgs false
open Go.RowKit

/-- Cells that can be read: m elements. -/
def Rd (w : World) (sz : Nat) (A : Option Addr) (m : Nat) (news : List Value) : Prop :=
  news.length = m * sz ∧ (∀ u ∈ news, u.oneCell' = true) ∧ (0 < m → ∃ ad, A = some ad ∧ ∀ j u, news[j]? = some u → w.cell? (ad.add j) = some u)
theorem Rd.of_block {w : World} {g sz m : Nat} {cs : Array Value} {t : TypeId} {fr : Nat × Nat} (h : w.heap[g]? = some (.cells cs t fr)) (hl : cs.size = m * sz) (h1 : ∀ u ∈ cs.toList, u.oneCell' = true) : Rd w sz (some ⟨g, 0, none⟩) m cs.toList :=
  ⟨by simpa using hl, h1, fun _ => ⟨_, rfl, fun j u hu => by
    rw [Addr.add_mid, cell_of_block h]
    simpa using hu⟩⟩
theorem slc_one {e sz n : Nat} {v : Value} {xs : List Value} {w : World} {P : Nat → Prop} (h : (slc e sz v n xs).X w P) : xs.length = n * sz ∧ n ≤ maxLen := by
  rcases h with ⟨_, rfl, rfl⟩ | ⟨g, o, c, cur, h1, h2, h3, h4, _⟩
  · exact ⟨by simp, Nat.zero_le _⟩
  · exact ⟨h4, by omega⟩
theorem slc_form {e sz n : Nat} {v : Value} {xs : List Value} {w : World} {P : Nat → Prop} (h : (slc e sz v n xs).X w P) : ∃ A c, v = .slice A n c ∧ n ≤ c ∧ c ≤ maxLen := by
  rcases h with ⟨rfl, rfl, rfl⟩ | ⟨g, o, c, cur, h1, h2, h3, h4, _⟩
  · exact ⟨none, 0, rfl, Nat.le_refl _, Nat.zero_le _⟩
  · exact ⟨_, c, h1, h2, h3⟩
theorem slc_cells {e sz n : Nat} {A : Option Addr} {c : Nat} {xs : List Value} {w : World} {P : Nat → Prop} (h : (slc e sz (.slice A n c) n xs).X w P) (hn : 0 < n) :
    ∃ g o, A = some ⟨g, o, none⟩ ∧ P g ∧ n ≤ c ∧ c ≤ maxLen ∧ (∀ j u, xs[j]? = some u → w.cell? ⟨g, o + j, none⟩ = some u) ∧ (∀ j, w.frozen? ⟨g, j, none⟩ = false) := by
  rcases h with ⟨_, rfl, _⟩ | ⟨g, o, c', cur, h1, h2, h3, h4, h5, h6, h7, h8⟩
  · omega
  · cases h1
    refine ⟨g, o, rfl, h5, h2, h3, fun j u hu => ?_, fun j => free_of_block h6 j⟩
    have hj := (List.getElem?_eq_some_iff.1 hu).1
    rw [cell_of_block h6, h8 j hj, hu]
theorem slc_rd {e sz n : Nat} {A : Option Addr} {c : Nat} {xs : List Value} {w : World} {P : Nat → Prop} (h : (slc e sz (.slice A n c) n xs).X w P) (h1 : ∀ u ∈ xs, u.oneCell' = true) : Rd w sz A n xs :=
  ⟨(slc_one h).1, h1, fun hn => by
    obtain ⟨g, o, rfl, _, _, _, hc, _⟩ := slc_cells h hn
    exact ⟨_, rfl, fun j u hu => by rw [Addr.add_mid]; exact hc j u hu⟩⟩
section
variable {P : Program} (w : World)
theorem run_append_zero (t ty e : TypeId) (i : TypeInfo) (ht : P.underlying t = some (.slice e)) (hi : P.info? e = some i) (A : Option Addr) (n c : Nat) (hn : n ≤ c) (B : Option Addr) (d : Nat) :
    (Builtin.append_ #[t, t] ty #[.slice A n c, .slice B 0 d]).run P w = .ok (.slice A n c) w := by
  cases A <;> cases B <;> simp [Builtin.append_, run_underlying ht, sizeOf, typeInfo, hi, Builtin.lenOf, Builtin.firstCells, hn, storeCells, loadCells, loadCellsFrom]
theorem run_append_slc (t ty e : TypeId) (i : TypeInfo) (z : Value) (size bytes : Nat) (ht : P.underlying t = some (.slice e)) (hi : P.info? e = some i) (hz : i.zero = some z)
    (hsize : i.size = size) (hby : i.bytes = bytes) (hzs : z.cells.size = size) (hsz : 0 < size)
    (v : Value) (n : Nat) (xs : List Value) {S : Nat → Prop} (h : (slc e size v n xs).X w S)
    (B : Option Addr) (m d : Nat) (news : List Value) (hr : Rd w size B m news)
    (h63 : n + m ≤ maxLen) (hbytes : (n + m) * bytes ≤ 140737488355328) :
    ∃ A c w', (Builtin.append_ #[t, t] ty #[v, .slice B m d]).run P w = .ok (.slice A (n + m) c) w' ∧ Fr S w w' ∧ (slc e size (.slice A (n + m) c) (n + m) (xs ++ news)).X w' (fun k => S k ∨ w.heap.size ≤ k) := by
  subst hsize
  subst hby
  obtain ⟨hl, h1, hc⟩ := hr
  have hxl := (slc_one h).1
  rcases Nat.eq_zero_or_pos m with rfl | hm
  · obtain ⟨A, c, rfl, hnc, _⟩ := slc_form h
    obtain rfl : news = [] := List.eq_nil_of_length_eq_zero (by simpa using hl)
    refine ⟨A, c, w, run_append_zero w t ty e i ht hi A n c hnc B d, Fr.refl _ _, ?_⟩
    rw [List.append_nil, Nat.add_zero]
    exact (slc e i.size _ n xs).mono h fun k hk => .inl hk
  · obtain ⟨ad, rfl, hcell⟩ := hc hm
    have hnew : ∀ (old : Nat), old < n + m → Fr S w (w.drew.alloc (.cells (xs.toArray ++ news.toArray ++ Builtin.zeroCells z.cells (grownCap w (n + m) old e - (n + m))) e)) ∧
        (slc e i.size (.slice (some ⟨w.heap.size, 0, none⟩) (n + m) (grownCap w (n + m) old e)) (n + m) (xs ++ news)).X (w.drew.alloc (.cells (xs.toArray ++ news.toArray ++ Builtin.zeroCells z.cells (grownCap w (n + m) old e - (n + m))) e)) (fun k => S k ∨ w.heap.size ≤ k) := by
      intro old ho
      have hge := grownCap_ge w (n + m) old e
      have hcm : grownCap w (n + m) old e ≤ maxLen := grownCap_le_maxLen w (n + m) old e h63
      refine ⟨Fr.of_up (((Up.refl w).drew).alloc _), .inr ⟨w.heap.size, 0, _, _, rfl, hge, hcm, by rw [List.length_append, hxl, hl, Nat.add_mul], .inr (Nat.le_refl _), block_new w.drew _, ?_, ?_⟩⟩
      · simp only [Array.size_append, List.size_toArray, size_zeroCells, hzs, hxl, hl, ← Nat.add_mul, Nat.zero_add]
        exact Nat.le_of_eq (by congr 1; omega)
      · intro j hj
        rw [Nat.zero_add, Array.getElem?_append_left (by simpa using hj)]
        simp
    rcases h with ⟨rfl, rfl, rfl⟩ | ⟨g, o, c, cur, rfl, h2, h3, h4, h5, h6, h7, h8⟩
    · have hr := run_append_nil (P := P) w t ty e i z ht hi hz ad m d news hl hcell hm (by simp only [maxLen] at h63; omega) (by have hb := hbytes; simp only [Nat.zero_add] at hb; omega)
      have hg := hnew 0 (by omega)
      simp only [Nat.zero_add, List.nil_append, Array.empty_append] at hg ⊢
      exact ⟨_, _, _, hr, hg⟩
    · by_cases hroom : n + m ≤ c
      · have hfc := run_firstCells_some (P := P) w i.size m ad m d news hl hcell
        have hfit : o + n * i.size + news.length ≤ cur.size := by
          rw [hl]
          have := Nat.mul_le_mul_right i.size hroom
          rw [Nat.add_mul] at this
          omega
        have hst := run_storeCells_at P g (o + n * i.size) e news 0 cur w h6 (by simpa using hfit) h1
        simp only [Nat.add_zero] at hst
        refine ⟨some ⟨g, o, none⟩, c, w.setRow g (cur.toList.take (o + n * i.size) ++ news ++ cur.toList.drop (o + n * i.size + news.length)).toArray, ?_, ⟨rfl, rfl, rfl, by simp, fun k hk hn => setRow_other w g k _ (fun e => hn (by rw [e]; exact h5))⟩, ?_⟩
        · simp [Builtin.append_, run_underlying ht, sizeOf, typeInfo, hi, Builtin.lenOf, hroom, hfc, Addr.add_lit, hst]
        · refine .inr ⟨g, o, c, _, rfl, hroom, h3, by rw [List.length_append, hxl, hl, Nat.add_mul], .inl h5, setRow_heap w g cur _ e _ h6, ?_, ?_⟩
          · simp only [List.size_toArray, List.length_append, List.length_take, List.length_drop, Array.length_toList]
            omega
          · intro j hj
            rw [List.length_append, hxl, hl] at hj
            rw [hl] at hfit
            simp only [List.getElem?_toArray, List.append_assoc]
            by_cases hjx : j < n * i.size
            · rw [List.getElem?_append_left (by simp; omega), List.getElem?_take, if_pos (by omega), List.getElem?_append_left (by omega), ← h8 j (by omega)]
              simp
            · have hlt : (cur.toList.take (o + n * i.size)).length = o + n * i.size := by simp; omega
              rw [List.getElem?_append_right (by omega), List.getElem?_append_left (by omega), List.getElem?_append_right (by omega), hlt, hxl]
              congr 1
              omega
      · have holds : ∀ j u, xs[j]? = some u → w.cell? ((⟨g, o, none⟩ : Addr).add j) = some u := fun j u hu => by
          have hj := (List.getElem?_eq_some_iff.1 hu).1
          rw [Addr.add_mid, cell_of_block h6, h8 j hj, hu]
        have hr := run_append_grow (P := P) w t ty e i z ht hi hz ⟨g, o, none⟩ n c xs h4 holds ad m d news hl hcell (by omega) (by simp only [maxLen] at h63; omega) (growslice_fits (by omega) hbytes)
        exact ⟨_, _, _, hr, hnew c (by omega)⟩
end
section
variable {p : Program} {P0 : Nat → Prop} {w0 w w' : World} {L : List Rg}
/-- append in a walk: on a state whose first part is the slice. -/
theorem St.run_append (t ty e : TypeId) (i : TypeInfo) (z : Value) (size bytes : Nat) {v : Value} {n : Nat} {xs : List Value} (h : St P0 w0 w (slc e size v n xs :: L))
    (ht : p.underlying t = some (.slice e)) (hi : p.info? e = some i) (hz : i.zero = some z)
    (hsize : i.size = size) (hby : i.bytes = bytes) (hzs : z.cells.size = size) (hsz : 0 < size)
    (B : Option Addr) (m d : Nat) (news : List Value) (hr : Rd w size B m news)
    (h63 : n + m ≤ maxLen) (hbytes : (n + m) * bytes ≤ 140737488355328) :
    ∃ A c w', (Builtin.append_ #[t, t] ty #[v, .slice B m d]).run p w = .ok (.slice A (n + m) c) w' ∧ St P0 w0 w' (slc e size (.slice A (n + m) c) (n + m) (xs ++ news) :: L) ∧ w.heap.size ≤ w'.heap.size := by
  obtain ⟨P, ⟨Q, R, hq, hr', hd, hA, _⟩, hs⟩ := St.step (L := [slc e size v n xs]) h
  obtain ⟨A, c, w', h1, h2, h3⟩ := run_append_slc (P := p) w t ty e i z size bytes ht hi hz hsize hby hzs hsz v n xs hA B m d news hr h63 hbytes
  refine ⟨A, c, w', h1, hs (M := [slc e size (.slice A (n + m) c) (n + m) (xs ++ news)]) ⟨h2.mono fun k hk _ => hq k hk, _, No, ?_, fun _ e => e.elim, fun _ _ e => e.elim, (slc e size _ (n + m) _).bound h3, trivial⟩, h2.size⟩
  rintro k ⟨hk | hk, hlt⟩
  · exact ⟨.inl (hq k hk), hlt⟩
  · exact ⟨.inr hk, hlt⟩
theorem St.append {ops : Array Oper} {rest : List Oper} {o : Oper} {a : Act} {Q : Exit → Act → World → Prop} (e : TypeId) (i : TypeInfo) (z : Value) (size bytes : Nat) {v : Value} {n : Nat} {xs : List Value} (h : St P0 w0 w (slc e size v n xs :: L))
    (hgd : o.guard = none) (s x : Operand) (t : TypeId)
    (ho : o.op = .call { callee := .builtin .append, args := #[s, x], argTypes := #[t, t] })
    (ht : p.underlying t = some (.slice e)) (hi : p.info? e = some i) (hz : i.zero = some z)
    (hsize : i.size = size) (hby : i.bytes = bytes) (hzs : z.cells.size = size) (hsz : 0 < size)
    (hs : a.eval s = v) (B : Option Addr) (m d : Nat) (news : List Value) (hx : a.eval x = .slice B m d) (hr : Rd w size B m news)
    (h63 : n + m ≤ maxLen) (hbytes : (n + m) * bytes ≤ 140737488355328)
    (hK : ∀ A c w', St P0 w0 w' (slc e size (.slice A (n + m) c) (n + m) (xs ++ news) :: L) → w.heap.size ≤ w'.heap.size → wpList p ops Q rest (a.put o.dst (.slice A (n + m) c)) w') : wpList p ops Q (o :: rest) a w := by
  obtain ⟨A, c, w', h1, h2, h3⟩ := St.run_append (p := p) t o.type e i z size bytes h ht hi hz hsize hby hzs hsz B m d news hr h63 hbytes
  refine wpList_plain hgd fun K hK' => ?_
  unfold Oper.wp execOp
  simp only [ho, resolve, invoke, builtin, Sem.run_bind, Sem.run_pure, Result.andThen_ok, List.map_toArray, List.map_cons, List.map_nil, hs, hx, h1]
  exact hK' _ _ (hK A c w' h2 h3)
/-- append at a step of a region that draws its order. -/
theorem St.step_append {ops : Array Oper} {o : Oper} {a : Act} {K : Act → World → Prop} {Q : Exit → Act → World → Prop} {E : Prop} (e : TypeId) (i : TypeInfo) (z : Value) (size bytes : Nat) {v : Value} {n : Nat} {xs : List Value} (h : St P0 w0 w (slc e size v n xs :: L))
    (hgd : o.guard = none) (s x : Operand) (t : TypeId)
    (ho : o.op = .call { callee := .builtin .append, args := #[s, x], argTypes := #[t, t] })
    (ht : p.underlying t = some (.slice e)) (hi : p.info? e = some i) (hz : i.zero = some z)
    (hsize : i.size = size) (hby : i.bytes = bytes) (hzs : z.cells.size = size) (hsz : 0 < size)
    (hs : a.eval s = v) (B : Option Addr) (m d : Nat) (news : List Value) (hx : a.eval x = .slice B m d) (hr : Rd w size B m news)
    (h63 : n + m ≤ maxLen) (hbytes : (n + m) * bytes ≤ 140737488355328)
    (hK : ∀ A c w', St P0 w0 w' (slc e size (.slice A (n + m) c) (n + m) (xs ++ news) :: L) → w.heap.size ≤ w'.heap.size → K (a.put o.dst (.slice A (n + m) c)) w') :
    if Region.wanted o (yielded ops a.tmps) = true then Oper.wp p o a w K Q else E := by
  have hw : Region.wanted o (yielded ops a.tmps) = true := by simp [Region.wanted, hgd]
  rw [if_pos hw]
  obtain ⟨A, c, w', h1, h2, h3⟩ := St.run_append (p := p) t o.type e i z size bytes h ht hi hz hsize hby hzs hsz B m d news hr h63 hbytes
  unfold Oper.wp execOp
  simp only [ho, resolve, invoke, builtin, Sem.run_bind, Sem.run_pure, Result.andThen_ok, List.map_toArray, List.map_cons, List.map_nil, hs, hx, h1]
  exact hK A c w' h2 h3
end
end Go.Proofs.Ytdhgmnnkbjhpaaa.Sep
