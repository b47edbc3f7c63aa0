/- Waits as a reader; what BusOrder's walk wants of lists. -/
import Derived.Test.YtlefefcakffepaaBusSts
import Derived.Test.YtlefefcakffepaaBusSame
import Derived.Test.YtlefefcakffepaaCells05
namespace Go.Proofs.Ytlefefcakffepaa.Bus
set_option linter.unusedVariables false
set_option linter.unusedSimpArgs false
open Go.RowKit Go.Proofs.Ytlefefcakffepaa.Lat Go.Proofs.Ytlefefcakffepaa.Sep Go.Proofs.Ytlefefcakffepaa.Sram Go.Proofs.Ytlefefcakffepaa.Find Go.Proofs.Ytlefefcakffepaa.Sbuf Go.Proofs.Ytlefefcakffepaa.Ref05

section
variable {P0 : Nat → Prop} {w0 w w' : World} {F : List Rg} {b cap x r : Nat} {ws : List Int} {Ls : List (List W16)} {L : List W16} {V : Value}
theorem waits_clo_u {c1 : Nat} {t1 : TypeId} (h : St P0 w0 w (buf x cap L :: ram r ws :: hb b r V :: bk c1 t1 #[.slice none 0 0] :: F)) :
    Calls Try.prog 50 #[.pointer (some ⟨x, 0, none⟩), .pointer (some ⟨c1, 0, none⟩)] w fun e w' => ∃ A c w2, e = .returned (.int .i64 0) ∧ St P0 w0 w' (bk c1 t1 #[.slice A L.length c] :: cl (.slice A L.length c) L :: F) ∧ Up w w2 ∧ w' = w2.setCell ⟨c1, 0, none⟩ (.slice A L.length c) := by
  have HD := Lib.hid (All_walk h)
  clear h
  go_enter Try.func50, Try.ntmps50
  go_wp2_with fail
  refine HD.out.mono ?_
  rintro e w2 ⟨A, c, rfl, hs, hu⟩
  have y2 : St P0 w0 w2 (bk c1 t1 #[.slice none 0 0] :: cl (.slice A L.length c) L :: F) := ((((hs.get 4).cut 2).cut 2).cut 2)
  have z2 : w2.cell? ⟨c1, 0, none⟩ = some (.slice none 0 0) := cell_of_block y2.bk_at 0
  have zf2 : w2.frozen? ⟨c1, 0, none⟩ = false := free_of_block y2.bk_at 0
  have HS := Lib.hid y2
  have HU := Lib.hid hu
  clear hs y2 HD hu
  go_wp2
  go_ret
  exact ⟨A, c, w2, rfl, HS.out.set 0 _, HU.out, rfl⟩
theorem Waits_u (h : St P0 w0 w (bus b cap ws Ls :: F)) (i : Nat) (hi : i < Ls.length) : Calls Try.prog 22 #[.pointer (some ⟨b, 0, none⟩), .int .i64 (i : Int)] w fun e w' => ∃ A c, e = .returned (.slice A (Ls.getD i default).length c) ∧ Rd w' 1 A (Ls.getD i default).length ((Ls.getD i default).map cw) ∧ Up w w' := by
  obtain ⟨r, g, o, c, hm, h1⟩ := bus_form h
  have ha := (h1.alloc #[.slice none 0 0] 56)
  have hbk : (w.alloc (.cells #[.slice none 0 0] 56)).cell? ⟨b, 1, none⟩ = some (.slice (some ⟨g, o, none⟩) Ls.length c) := cell_of_block (ha.get 1).bk_at 1
  obtain ⟨x, hx, h2⟩ := bus_open (F := bk w.heap.size 56 #[.slice none 0 0] :: F) ((((ha).get 3).get 3).get 3) i hi
  have hc := waits_clo_u (F := bufx cap (.slice (some ⟨g, o, none⟩) Ls.length c) Ls i x :: F) ((((((h2).get 3).get 4).get 4).get 4).get 4)
  have hu1 : Up w (w.alloc (.cells #[.slice none 0 0] 56)) := (Up.refl w).alloc _
  have hc := hc.mono (R' := fun e w' => e = .returned (.int .i64 0) ∧ ∃ A c9, St P0 w0 w' (bk w.heap.size 56 #[.slice A (Ls.getD i default).length c9] :: cl (.slice A (Ls.getD i default).length c9) (Ls.getD i default) :: bufx cap (.slice (some ⟨g, o, none⟩) Ls.length c) Ls i x :: F) ∧ Up w w') (by
    rintro e w' ⟨A, c9, w2, h1, h2, h3, rfl⟩
    exact ⟨h1, A, c9, h2, Below.setCell (hu1.trans (h3.mono (by simp))) (Nat.le_refl _) _⟩)
  have HK := Lib.hid (ask_Waits b g o Ls.length c i x (.pointer (some ⟨w.heap.size, 0, none⟩)) _ hbk hx hi hc)
  clear h h1 ha h2 hbk hx hc hm hi hu1
  go_enter Try.func22, Try.ntmps22
  go_wp2_with (go_at_call 35; refine HK.out.mono ?_; rintro e w2 ⟨rfl, A, c9, hs, hu⟩; have HS := Lib.hid hs; have HU := Lib.hid hu; have c0 : w2.cell? ⟨w.heap.size, 0, none⟩ = some (.slice A (Ls.getD i default).length c9) := cell_of_block hs.bk_at 0; have f0 : w2.frozen? ⟨w.heap.size, 0, none⟩ = false := free_of_block hs.bk_at 0; clear hs hu)
  have hf := (HS.out.set 0 (.slice A (Ls.getD i default).length c9)).get 1
  obtain ⟨P, ⟨Q, Q2, _, _, _, h2, _⟩, _⟩ := St.step (L := [cl (.slice A (Ls.getD i default).length c9) (Ls.getD i default)]) hf
  refine bodyPost_ret (v := .slice A (Ls.getD i default).length c9) ?_ rfl ⟨_, _, rfl, slc_rd h2 (cw_one _), Below.setCell HU.out (Nat.le_refl _) _⟩
  simp [results, Try.results22, go_sem, *]
theorem sts_ne {g o : Nat} {SS : List (List W16)} {t : TypeId} {cs : Array Value} (h : St P0 w0 w (bk o t cs :: sts g SS :: F)) : o ≠ g := by
  obtain ⟨vs, -, h1⟩ := sts_any (h.get 1)
  exact bk_ne (h1.get 2)
end
/-- What an accepted call made of the law's own lists. -/
structure Acc (m n c i : Nat) (Ls SS : List (List W16)) (os : List Int) (T L' D : List W16) (SS' : List (List W16)) : Prop where
  hc : c < n
  hL : Ls.length = n
  hS : SS'.length = n
  ho : os.length = n
  len : (D ++ (T ++ L')).length ≤ i + 1
  bound : ∀ x ∈ D ++ (T ++ L'), x.a < m
  here : SS'.getD c default = D ++ (T ++ L')
  off : ∀ c', c' ≠ c → SS'.getD c' default = SS.getD c' default
  od : os.getD c 0 = (D.length : Int)
/-- What the law's own lists hold. -/
structure Inv (m n i : Nat) (ws : List Int) (Ls SS : List (List W16)) (os : List Int) : Prop where
  hw : ws.length = m
  hL : Ls.length = n
  hS : SS.length = n
  ho : os.length = n
  each : ∀ c, c < n → (SS.getD c default).length ≤ i ∧ (∀ x ∈ SS.getD c default, x.a < m) ∧ ∃ D, SS.getD c default = D ++ Ls.getD c default ∧ os.getD c 0 = (D.length : Int)
theorem inv_next {m n c i : Nat} {ws : List Int} {Ls SS : List (List W16)} {os : List Int} {T L' D : List W16} {SS' : List (List W16)} (hI : Inv m n i ws Ls SS os) (hA : Acc m n c i Ls SS os T L' D SS') :
    Inv m n (i + 1) (feM ws T) (Ls.set c L') SS' (os.set c ((D.length + T.length : Nat) : Int)) := by
  have hc := hA.hc
  refine ⟨by rw [feM_len]; exact hI.hw, by rw [List.length_set]; exact hI.hL, hA.hS, by rw [List.length_set]; exact hI.ho, fun k hk => ?_⟩
  by_cases e : k = c
  · subst e
    rw [hA.here]
    refine ⟨hA.len, hA.bound, D ++ T, ?_, ?_⟩
    · rw [set_getD Ls k L' (by rw [hI.hL]; exact hc), List.append_assoc]
    · rw [List.length_append]
      simp [List.getD_eq_getElem?_getD, List.getElem?_set_self (show k < os.length by rw [hI.ho]; exact hc)]
  · obtain ⟨h1, h2, D', h3, h4⟩ := hI.each k hk
    rw [hA.off k e]
    refine ⟨by omega, h2, D', ?_, ?_⟩
    · rw [h3]
      simp [List.getD_eq_getElem?_getD, List.getElem?_set_ne (Ne.symm e)]
    · rw [← h4]
      simp [List.getD_eq_getElem?_getD, List.getElem?_set_ne (Ne.symm e)]
/-- The store that is drained next. -/
theorem drain_next {ws : List Int} {D T L' : List W16} {m : Nat} (hw : ws.length = m) (hb : ∀ x ∈ D ++ (T ++ L'), x.a < m) (j : Nat) (hj : j < T.length) :
    ∃ x : W16, (D ++ (T ++ L')).getD (D.length + j) default = x ∧ x.a < m ∧ (feM ws (T.take j)).set x.a x.v = feM ws (T.take (j + 1)) := by
  refine ⟨T[j], ?_, hb _ (List.mem_append_right _ (List.mem_append_left _ (List.getElem_mem hj))), ?_⟩
  · rw [List.getD_eq_getElem?_getD, List.getElem?_append_right (by omega), Nat.add_sub_cancel_left, List.getElem?_append_left hj, List.getElem?_eq_getElem hj]
    rfl
  · have ha : (T[j]).a < ws.length := by rw [hw]; exact hb _ (List.mem_append_right _ (List.mem_append_left _ (List.getElem_mem hj)))
    rw [List.take_succ_eq_append_getElem hj, feM_app]
    show _ = stW (feM ws (T.take j)) ((T[j]).a : Int) ((T[j]).v : Int)
    rw [stW_set _ _ _ (by rw [feM_len]; omega) (by have := (T[j]).hv; omega), Int.toNat_natCast]
theorem os_set {os : List Int} {c : Nat} (h : c < os.length) (z : Int) : (os.set c z).getD c 0 = z := by simp [List.getD_eq_getElem?_getD, List.getElem?_set_self h]
theorem sw_drop : ∀ (L : List W16) (k : Nat), (L.drop k).flatMap sw = (L.flatMap sw).drop (k * 2)
  | L, 0 => by simp
  | [], k + 1 => by simp
  | x :: L, k + 1 => by
    rw [List.drop_succ_cons, sw_drop L k, List.flatMap_cons, show (k + 1) * 2 = 2 + k * 2 by omega, ← List.drop_drop]
    rfl
section
variable {P0 : Nat → Prop} {w0 w w' : World} {F F' : List Rg}
theorem Same_u {u v : Value} {l : List Int} (h : St P0 w0 w (lat u l :: F)) (h2 : St P0 w0 w (lat v l :: F')) (hl : l.length ≤ 1000) :
    Calls Try.prog 14 #[u, v] w fun e w' => e = .returned (.bool true) ∧ Up w w' := by
  obtain ⟨P, ⟨Q, Q2, _, _, _, h1, _⟩, _⟩ := St.step (L := [lat u l]) h
  obtain ⟨P', ⟨Q', Q2', _, _, _, h2, _⟩, _⟩ := St.step (L := [lat v l]) h2
  obtain ⟨A0, c0, rfl⟩ := LAt.len h1
  obtain ⟨A1, c1, rfl⟩ := LAt.len h2
  have := Same3.Same_l l l _ _ _ _ _ _ _ _ w h1 h2 hl (by omega)
  rw [decide_eq_true (rfl : l = l)] at this
  exact this
end
end Go.Proofs.Ytlefefcakffepaa.Bus
