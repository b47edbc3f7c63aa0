/- A made list of lists of stores, as a part: its block holds the slices, which lie in blocks of their own. -/
import Derived.Test.YtlefefcakffepaaBusPlain4
import Derived.Test.YtlefefcakffepaaBusAlone
namespace Go.Proofs.Ytlefefcakffepaa.Bus
set_option linter.unusedVariables false
set_option linter.unusedSimpArgs false
open Go.RowKit Go.Proofs.Ytlefefcakffepaa.Lat Go.Proofs.Ytlefefcakffepaa.Sep Go.Proofs.Ytlefefcakffepaa.Sram Go.Proofs.Ytlefefcakffepaa.Find Go.Proofs.Ytlefefcakffepaa.Sbuf Go.Proofs.Ytlefefcakffepaa.Ref05

abbrev rlf (L : List W16) (v : Value) : Rg := rl v L
def sts (g : Nat) (SS : List (List W16)) : Rg := ex fun vs : List Value => big [bk g 53 vs.toArray, big (rps rlf SS vs), pu (vs.length = SS.length)]
def stsx (g : Nat) (SS : List (List W16)) (i : Nat) (v : Value) : Rg := ex fun vs : List Value => big [bk g 53 vs.toArray, big ((rps rlf SS vs).eraseIdx i), pu (vs.length = SS.length ∧ vs.getD i default = v)]
section
variable {P0 : Nat → Prop} {w0 w w' : World} {F : List Rg} {g : Nat} {SS : List (List W16)}
theorem sts_any (h : St P0 w0 w (sts g SS :: F)) : ∃ vs : List Value, vs.length = SS.length ∧ St P0 w0 w (bk g 53 vs.toArray :: big (rps rlf SS vs) :: F) := by
  obtain ⟨vs, h2⟩ := h.ex_open
  have h3 : St P0 w0 w (pu (vs.length = SS.length) :: bk g 53 vs.toArray :: big (rps rlf SS vs) :: F) := (h2.big_open).get 2
  exact ⟨vs, h3.pu_open⟩
theorem sts_shut {vs : List Value} (hm : vs.length = SS.length) (h : St P0 w0 w (bk g 53 vs.toArray :: big (rps rlf SS vs) :: F)) : St P0 w0 w (sts g SS :: F) := by
  have h1 : St P0 w0 w (_ :: _ :: pu (vs.length = SS.length) :: F) := (St.pu_shut hm h).put 2
  exact St.ex_shut vs (St.big_shut (M := [_, _, pu _]) h1)
theorem stsx_any {i : Nat} {v : Value} (h : St P0 w0 w (stsx g SS i v :: F)) : ∃ vs : List Value, (vs.length = SS.length ∧ vs.getD i default = v) ∧ St P0 w0 w (bk g 53 vs.toArray :: big ((rps rlf SS vs).eraseIdx i) :: F) := by
  obtain ⟨vs, h2⟩ := h.ex_open
  have h3 : St P0 w0 w (pu (vs.length = SS.length ∧ vs.getD i default = v) :: bk g 53 vs.toArray :: big ((rps rlf SS vs).eraseIdx i) :: F) := (h2.big_open).get 2
  exact ⟨vs, h3.pu_open⟩
theorem stsx_shut {i : Nat} {vs : List Value} (hm : vs.length = SS.length) (h : St P0 w0 w (bk g 53 vs.toArray :: big ((rps rlf SS vs).eraseIdx i) :: F)) : St P0 w0 w (stsx g SS i (vs.getD i default) :: F) := by
  have h1 : St P0 w0 w (_ :: _ :: pu (vs.length = SS.length ∧ vs.getD i default = vs.getD i default) :: F) := (St.pu_shut ⟨hm, rfl⟩ h).put 2
  exact St.ex_shut vs (St.big_shut (M := [_, _, pu _]) h1)
/-- A list of the lists is taken out. -/
theorem sts_open (h : St P0 w0 w (sts g SS :: F)) (i : Nat) (hi : i < SS.length) : ∃ v, w.cell? ⟨g, i, none⟩ = some v ∧ w.frozen? ⟨g, i, none⟩ = false ∧ St P0 w0 w (rl v (SS.getD i default) :: stsx g SS i v :: F) := by
  obtain ⟨vs, hm, h1⟩ := sts_any h
  have c0 := cell_of_block h1.bk_at i
  have f0 : w.frozen? ⟨g, i, none⟩ = false := free_of_block h1.bk_at i
  have hl := rps_len (pf := rlf) SS vs hm
  have h3 : St P0 w0 w (big (rps rlf SS vs) :: bk g 53 vs.toArray :: F) := h1.get 1
  have h4 := (h3.big_open).get i (by simp; omega)
  have e1 : (rps rlf SS vs ++ bk g 53 vs.toArray :: F).getD i (pu True) = (rps rlf SS vs).getD i (pu True) := by
    simp [List.getD_eq_getElem?_getD, List.getElem?_append_left (show i < (rps rlf SS vs).length by omega)]
  rw [e1, rps_at default default _ SS vs i hm hi, List.eraseIdx_append_of_lt_length (by omega)] at h4
  have h5 := St.big_shut (M := (rps rlf SS vs).eraseIdx i) (h4.perm (List.perm_middle.symm))
  have h6 : St P0 w0 w (bk g 53 vs.toArray :: big ((rps rlf SS vs).eraseIdx i) :: rl (vs.getD i default) (SS.getD i default) :: F) := h5.get 2
  refine ⟨vs.getD i default, ?_, f0, (stsx_shut hm h6).get 1⟩
  rw [c0]
  simp [List.getD_eq_getElem?_getD, show i < vs.length by omega]
theorem sts_close0 {i : Nat} {vs : List Value} {v : Value} {L : List W16} (hm : vs.length = SS.length) (hi : i < SS.length) (h : St P0 w0 w (rl v L :: bk g 53 (vs.set i v).toArray :: big ((rps rlf SS vs).eraseIdx i) :: F)) : St P0 w0 w (sts g (SS.set i L) :: F) := by
  have hl := rps_len (pf := rlf) SS vs hm
  have hs := rps_set (pf := rlf) SS vs i L v hm hi
  have e1 : (rps rlf (SS.set i L) (vs.set i v)).Perm (rl v L :: (rps rlf SS vs).eraseIdx i) := by
    have := perm_get (rps rlf (SS.set i L) (vs.set i v)) i (pu True) (by rw [rps_len _ _ (by simpa using hm)]; simpa using hi)
    have e2 : (rps rlf (SS.set i L) (vs.set i v)).getD i (pu True) = rl v L := by
      rw [hs, List.getD_eq_getElem?_getD, List.getElem?_set_self (by omega)]
      rfl
    rw [e2] at this
    rw [hs] at this ⊢
    rw [List.eraseIdx_set_eq] at this
    exact this
  have h3 : St P0 w0 w (big ((rps rlf SS vs).eraseIdx i) :: rl v L :: bk g 53 (vs.set i v).toArray :: F) := h.get 2
  have h4 := h3.big_open
  have h5 : St P0 w0 w (rps rlf (SS.set i L) (vs.set i v) ++ (bk g 53 (vs.set i v).toArray :: F)) := by
    refine h4.perm ?_
    refine List.Perm.trans ?_ (List.Perm.append_right _ e1.symm)
    exact List.perm_middle
  have h6 : St P0 w0 w (bk g 53 (vs.set i v).toArray :: big (rps rlf (SS.set i L) (vs.set i v)) :: F) := (St.big_shut h5).get 1
  exact sts_shut (by simpa using hm) h6
/-- It is put back. -/
theorem sts_back {i : Nat} {v : Value} (hi : i < SS.length) (h : St P0 w0 w (rl v (SS.getD i default) :: stsx g SS i v :: F)) : St P0 w0 w (sts g SS :: F) := by
  obtain ⟨vs, ⟨hm, rfl⟩, h1⟩ := stsx_any (h.get 1)
  have e : vs.set i (vs.getD i default) = vs := by
    rw [List.getD_eq_getElem?_getD, List.getElem?_eq_getElem (by omega)]
    simp
  have h2 : St P0 w0 w (rl (vs.getD i default) (SS.getD i default) :: bk g 53 vs.toArray :: big ((rps rlf SS vs).eraseIdx i) :: F) := h1.get 2
  have h3 := sts_close0 (v := vs.getD i default) (L := SS.getD i default) hm hi (by rw [e]; exact h2)
  rw [set_self SS i hi] at h3
  exact h3
/-- Another list is put in its place. -/
theorem sts_store {i : Nat} {v v' : Value} {L : List W16} (hi : i < SS.length) (h : St P0 w0 w (rl v' L :: stsx g SS i v :: F)) : St P0 w0 (w.setCell ⟨g, i, none⟩ v') (sts g (SS.set i L) :: F) := by
  obtain ⟨vs, ⟨hm, -⟩, h1⟩ := stsx_any (h.get 1)
  have h2 := h1.set i v'
  have e : vs.toArray.setIfInBounds i v' = (vs.set i v').toArray := by simp
  rw [e] at h2
  exact sts_close0 hm hi (h2.get 2)
theorem stsx_cell {i : Nat} {v : Value} (hi : i < SS.length) (h : St P0 w0 w (stsx g SS i v :: F)) : w.cell? ⟨g, i, none⟩ = some v ∧ w.frozen? ⟨g, i, none⟩ = false := by
  obtain ⟨vs, ⟨hm, rfl⟩, h1⟩ := stsx_any h
  have c0 := cell_of_block h1.bk_at i
  refine ⟨?_, free_of_block h1.bk_at i⟩
  rw [c0]
  simp [List.getD_eq_getElem?_getD, show i < vs.length by omega]
/-- Empty lists. -/
theorem sts_nils (h : St P0 w0 w F) : ∀ n, St P0 w0 w (big (rps rlf (List.replicate n []) (List.replicate n (Value.slice none 0 0))) :: F)
  | 0 => St.big_shut (M := []) h
  | n + 1 => by
    have h1 := sts_nils h n
    have h2 : St P0 w0 w (rl (.slice none 0 0) [] :: big (rps rlf (List.replicate n []) (List.replicate n (Value.slice none 0 0))) :: F) :=
      St.fresh (M := [rl (.slice none 0 0) []]) h1 (Up.refl _) ⟨No, No, fun _ e => e.elim, fun _ e => e.elim, fun _ e => e.elim, slc_nil _ _ _ _, trivial⟩
    have h3 : St P0 w0 w (big (rps rlf (List.replicate n []) (List.replicate n (Value.slice none 0 0))) :: rl (.slice none 0 0) [] :: F) := h2.get 1
    have h4 := h3.big_open
    have h5 : St P0 w0 w ((rl (.slice none 0 0) [] :: rps rlf (List.replicate n []) (List.replicate n (Value.slice none 0 0))) ++ F) := h4.perm List.perm_middle
    exact St.big_shut h5
theorem sts_new (n : Nat) (h : St P0 w0 w F) : St P0 w0 (w.alloc (.cells (List.replicate n (Value.slice none 0 0)).toArray 53)) (sts w.heap.size (List.replicate n []) :: F) := by
  have h1 := h.alloc (List.replicate n (Value.slice none 0 0)).toArray 53
  exact sts_shut (by simp) ((sts_nils h1 n).get 1)
end
theorem info_lst : (Try.prog.info? 53).map (fun i => (i.zero, i.size, i.bytes)) = some (some (.slice none 0 0), 1, 24) := by kernel_rfl
theorem run_mkSts (n : Nat) (h2 : n ≤ 8) (w : World) : (Instr.makeSlice 51 (.int .i64 n) (.int .i64 n)).run Try.prog w = .ok (.slice (some ⟨w.heap.size, 0, none⟩) n n) (w.alloc (.cells (List.replicate n (Value.slice none 0 0)).toArray 53)) := by
  obtain ⟨i, hi, hz, hs, hb⟩ := info_of' info_lst
  have h := run_makeSlice w 51 53 i _ Try.underlying51 hi hz .i64 .i64 n n (by omega) (Int.le_refl _) (by rw [hs]; simp; omega) (by rw [hb]; omega) (by omega)
  have hm : madeCells (Value.cells (.slice none 0 0)) (n * 1) = (List.replicate n (Value.slice none 0 0)).toArray := by
    apply Array.ext
    · simp [madeCells]
    · intro i h1 h2
      simp [madeCells, Value.cells, Nat.mod_one]
  rw [hs, Int.toNat_natCast, hm] at h
  exact h
end Go.Proofs.Ytlefefcakffepaa.Bus
