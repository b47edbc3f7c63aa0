/- MD: the texts Bus, BusIn, BusClo, BusAsk, BusOps, BusNew, BusDo in one (merge.py). -/
import Derived.Test.YtlefefcakffepaaMB
import Derived.Test.YtlefefcakffepaaMC
import Derived.Test.YtlefefcakffepaaMA
import Derived.Deep.RegionHeld3
import Derived.Deep.AppendLies
import Derived.Deep.RegionLaw
/- The bus as a part of memory: its own block, the memory, and the buffers. -/
namespace Go.Proofs.Ytlefefcakffepaa.Bus
set_option linter.unusedVariables false
set_option linter.unusedSimpArgs false
open Go.RowKit Go.Proofs.Ytlefefcakffepaa.Sep Go.Proofs.Ytlefefcakffepaa.Sram Go.Proofs.Ytlefefcakffepaa.Find Go.Proofs.Ytlefefcakffepaa.Sbuf

abbrev hb (b r : Nat) (V : Value) : Rg := bk b 79 #[.pointer (some ⟨r, 0, none⟩), V]
def pcf (_ : List W16) (x : Nat) : List Value := [.pointer (some ⟨x, 0, none⟩)]
theorem pcf_len (L : List W16) (x : Nat) : (pcf L x).length = 1 := rfl
abbrev bufs (cap : Nat) (V : Value) (Ls : List (List W16)) : Rg := row 75 1 pcf (fun L x => buf x cap L) V Ls
abbrev bufx (cap : Nat) (V : Value) (Ls : List (List W16)) (i x : Nat) : Rg := rowx 75 1 pcf (fun L x => buf x cap L) V Ls i x
/-- A bus. -/
def bus (b cap : Nat) (ws : List Int) (Ls : List (List W16)) : Rg := ex fun r : Nat => ex fun V : Value => big [hb b r V, ram r ws, bufs cap V Ls, pu ((1 ≤ Ls.length ∧ Ls.length ≤ 8) ∧ 1 ≤ cap ∧ cap ≤ 16)]
section
variable {P0 : Nat → Prop} {w0 w w' : World} {F : List Rg} {b cap : Nat} {ws : List Int} {Ls : List (List W16)}
theorem bus_any (h : St P0 w0 w (bus b cap ws Ls :: F)) : ∃ r V, ((1 ≤ Ls.length ∧ Ls.length ≤ 8) ∧ 1 ≤ cap ∧ cap ≤ 16) ∧ St P0 w0 w (hb b r V :: ram r ws :: bufs cap V Ls :: F) := by
  obtain ⟨r, h1⟩ := h.ex_open
  obtain ⟨V, h2⟩ := h1.ex_open
  have h3 : St P0 w0 w (pu ((1 ≤ Ls.length ∧ Ls.length ≤ 8) ∧ 1 ≤ cap ∧ cap ≤ 16) :: _ :: _ :: _ :: F) := (h2.big_open).get 3
  exact ⟨r, V, h3.pu_open⟩
theorem bus_shut {r : Nat} {V : Value} (hm : (1 ≤ Ls.length ∧ Ls.length ≤ 8) ∧ 1 ≤ cap ∧ cap ≤ 16) (h : St P0 w0 w (hb b r V :: ram r ws :: bufs cap V Ls :: F)) : St P0 w0 w (bus b cap ws Ls :: F) := by
  have h1 : St P0 w0 w (_ :: _ :: _ :: pu ((1 ≤ Ls.length ∧ Ls.length ≤ 8) ∧ 1 ≤ cap ∧ cap ≤ 16) :: F) := (St.pu_shut hm h).put 3
  exact St.ex_shut r (St.ex_shut V (St.big_shut (M := [_, _, _, pu _]) h1))
theorem bus_le (h : St P0 w0 w (bus b cap ws Ls :: F)) : (1 ≤ Ls.length ∧ Ls.length ≤ 8) ∧ 1 ≤ cap ∧ cap ≤ 16 := by
  obtain ⟨r, V, hm, _⟩ := bus_any h
  exact hm
theorem bus_ram (h : St P0 w0 w (bus b cap ws Ls :: F)) : (1 ≤ ws.length ∧ ws.length ≤ 65536) ∧ ∀ z ∈ ws, 0 ≤ z ∧ z ≤ 65535 := by
  obtain ⟨r, V, hm, h1⟩ := bus_any h
  exact ⟨ram_le (h1.get 1), ram_ok (h1.get 1)⟩
/-- The slice's form. -/
theorem bus_form (h : St P0 w0 w (bus b cap ws Ls :: F)) : ∃ r g o c, ((1 ≤ Ls.length ∧ Ls.length ≤ 8) ∧ 1 ≤ cap ∧ cap ≤ 16) ∧ St P0 w0 w (hb b r (.slice (some ⟨g, o, none⟩) Ls.length c) :: ram r ws :: bufs cap (.slice (some ⟨g, o, none⟩) Ls.length c) Ls :: F) := by
  obtain ⟨r, V, hm, h1⟩ := bus_any h
  obtain ⟨g, o, c, x, rfl, _⟩ := row_open (h1.get 2) pcf_len 0 (by omega)
  exact ⟨r, g, o, c, hm, h1⟩
/-- A core's buffer is taken out. -/
theorem bus_open {r g o c : Nat} (h : St P0 w0 w (hb b r (.slice (some ⟨g, o, none⟩) Ls.length c) :: ram r ws :: bufs cap (.slice (some ⟨g, o, none⟩) Ls.length c) Ls :: F)) (i : Nat) (hi : i < Ls.length) :
    ∃ x, w.cell? ⟨g, o + i, none⟩ = some (.pointer (some ⟨x, 0, none⟩)) ∧ St P0 w0 w (buf x cap (Ls.getD i default) :: ram r ws :: hb b r (.slice (some ⟨g, o, none⟩) Ls.length c) :: bufx cap (.slice (some ⟨g, o, none⟩) Ls.length c) Ls i x :: F) := by
  obtain ⟨g', o', c', x, e, hc, _, h1⟩ := row_open (h.get 2) pcf_len i hi
  obtain ⟨e1, -, rfl⟩ := Value.slice.inj e
  obtain ⟨rfl, rfl, -⟩ := Addr.mk.inj (Option.some.inj e1)
  have h2 := hc 0 (by omega) _ rfl
  rw [Nat.mul_one, Nat.add_zero] at h2
  have h3 : St P0 w0 w (buf x cap (Ls.getD i default) :: ram r ws :: hb b r (.slice (some ⟨g, o, none⟩) Ls.length c) :: bufx cap (.slice (some ⟨g, o, none⟩) Ls.length c) Ls i x :: F) := ((h1.get 2).get 3).get 2 |>.get 0
  exact ⟨x, h2, h3⟩
theorem bus_close {r i x : Nat} {V : Value} {L : List W16} (hm : (1 ≤ Ls.length ∧ Ls.length ≤ 8) ∧ 1 ≤ cap ∧ cap ≤ 16) (hi : i < Ls.length) (h : St P0 w0 w (buf x cap L :: ram r ws :: hb b r V :: bufx cap V Ls i x :: F)) : St P0 w0 w (bus b cap ws (Ls.set i L) :: F) := by
  have h1 : St P0 w0 w (bufx cap V Ls i x :: hb b r V :: ram r ws :: buf x cap L :: F) := ((h.get 1).get 2).get 3
  have h3 : St P0 w0 w (buf x cap L :: bufx cap V Ls i x :: hb b r V :: ram r ws :: F) := h1.get 3
  have h2 := row_close (cf := pcf) (pf := fun L x => buf x cap L) (x := L) hi rfl h3
  refine bus_shut (r := r) (V := V) (by simpa using hm) ?_
  exact (h2.get 2).get 2
end
end Go.Proofs.Ytlefefcakffepaa.Bus

/- bus's wrong, drain and fence. -/
namespace Go.Proofs.Ytlefefcakffepaa.Bus
set_option linter.unusedVariables false
set_option linter.unusedSimpArgs false
open Go.RowKit Go.Proofs.Ytlefefcakffepaa.Sep Go.Proofs.Ytlefefcakffepaa.Sram Go.Proofs.Ytlefefcakffepaa.Find Go.Proofs.Ytlefefcakffepaa.Sbuf

/-- Why a word can't be stored. -/
def wrongE (n : Nat) (a z : Int) : Int := if 0 ≤ a ∧ a < n then (if 0 ≤ z ∧ z ≤ 65535 then 0 else 2) else 4
/-- The words behind a store. -/
def stW (ws : List Int) (a z : Int) : List Int := (fillI ws a 1 z).1
theorem stW_len (ws : List Int) (a z : Int) : (stW ws a z).length = ws.length := by
  unfold stW fillI
  split
  · rfl
  · split
    · rfl
    · exact fillL_len _ _ _ _
theorem stW_ok (ws : List Int) (a : Nat) (z : Int) (ha : a < ws.length) (hz : 0 ≤ z ∧ z ≤ 65535) : fillI ws a 1 z = (ws.set a z, 0) := by
  unfold fillI
  rw [if_neg (by rw [wrongI_pos (by omega)]; decide)]
  rw [if_neg (by omega)]
  rfl
/-- A store of a core is drained. -/
def drM (ws : List Int) : List W16 → List Int × List W16
  | [] => (ws, [])
  | x :: L => (stW ws x.a x.v, L)
/-- All are. -/
def feM (ws : List Int) : List W16 → List Int
  | [] => ws
  | x :: L => feM (stW ws x.a x.v) L
theorem feM_len : ∀ (L : List W16) (ws : List Int), (feM ws L).length = ws.length
  | [], ws => rfl
  | x :: L, ws => by rw [feM, feM_len L, stW_len]
section
variable {P0 : Nat → Prop} {w0 w w' : World} {F : List Rg} {b r x cap : Nat} {V : Value} {ws : List Int} {L : List W16}
theorem wrong_st (h : St P0 w0 w (ram r ws :: hb b r V :: F)) (a z : Int) : Calls Try.prog 64 #[.pointer (some ⟨b, 0, none⟩), .int .i64 a, .int .i64 z] w fun e w' => e = .returned (.int .i64 (wrongE ws.length a z)) ∧ St P0 w0 w' (ram r ws :: hb b r V :: F) := by
  have k0 : w.cell? ⟨b, 0, none⟩ = some (.pointer (some ⟨r, 0, none⟩)) := cell_of_block (h.get 1).bk_at 0
  have HL := Lib.hid (Load_st h a)
  clear h
  by_cases h1 : 0 ≤ a ∧ a < ws.length
  · have e1 : loadI ws a = (ws.getD a.toNat 0, 0) := if_pos h1
    rw [e1] at HL
    by_cases h2 : 0 ≤ z ∧ z ≤ 65535
    · have E : wrongE ws.length a z = 0 := by unfold wrongE; rw [if_pos h1, if_pos h2]
      rw [E]
      have d1 : decide (z < 0) = false := decide_eq_false (by omega)
      have d2 : decide (z > 65535) = false := decide_eq_false (by omega)
      clear h1 h2 E e1
      generalize ws.getD a.toNat 0 = u at *
      go_enter Try.func64, Try.ntmps64
      go_wp2_with (go_at_call 61; refine HL.out.mono ?_; rintro e w2 ⟨rfl, hs⟩; have HS := Lib.hid hs; clear hs)
      go_ret
      exact ⟨rfl, HS.out⟩
    · have E : wrongE ws.length a z = 2 := by unfold wrongE; rw [if_pos h1, if_neg h2]
      rw [E]
      have d : decide (z < 0) = true ∨ (decide (z < 0) = false ∧ z > 65535) := by
        by_cases h3 : z < 0
        · exact .inl (decide_eq_true h3)
        · exact .inr ⟨decide_eq_false h3, by omega⟩
      clear h1 h2 E e1
      generalize ws.getD a.toNat 0 = u at *
      rcases d with d | ⟨d, d'⟩
      all_goals
        go_enter Try.func64, Try.ntmps64
        go_wp2_with (go_at_call 61; refine HL.out.mono ?_; rintro e w2 ⟨rfl, hs⟩; have HS := Lib.hid hs; clear hs)
        go_ret
        exact ⟨rfl, HS.out⟩
  · have e1 : loadI ws a = (0, 4) := if_neg h1
    rw [e1] at HL
    have E : wrongE ws.length a z = 4 := if_neg h1
    rw [E]
    clear h1 E e1
    go_enter Try.func64, Try.ntmps64
    go_wp2_with (go_at_call 61; refine HL.out.mono ?_; rintro e w2 ⟨rfl, hs⟩; have HS := Lib.hid hs; clear hs)
    go_ret
    exact ⟨rfl, HS.out⟩
theorem drain_st (h : St P0 w0 w (buf x cap L :: ram r ws :: hb b r V :: F)) : Calls Try.prog 66 #[.pointer (some ⟨b, 0, none⟩), .pointer (some ⟨x, 0, none⟩)] w fun e w' => e = .returned (.bool (decide (0 < L.length))) ∧ St P0 w0 w' (buf x cap (drM ws L).2 :: ram r (drM ws L).1 :: hb b r V :: F) := by
  have HD := Lib.hid (Drain_st h)
  clear h
  cases L with
  | nil =>
    have ed : decide (0 < ([] : List W16).length) = false := rfl
    rw [ed]
    unfold drainV at HD
    go_enter Try.func66, Try.ntmps66
    go_wp2_with (go_at_call 84; refine HD.out.mono ?_; rintro e w2 ⟨rfl, hs⟩; have HS := Lib.hid hs; clear hs)
    go_ret
    exact ⟨rfl, HS.out⟩
  | cons y L =>
    have ed : decide (0 < (y :: L).length) = true := by simp
    rw [ed]
    unfold drainV at HD
    go_enter Try.func66, Try.ntmps66
    go_wp2_with (first
      | (go_at_call 84; refine HD.out.mono ?_; rintro e w2 ⟨rfl, hs⟩; have k0 : w2.cell? ⟨b, 0, none⟩ = some (.pointer (some ⟨r, 0, none⟩)) := cell_of_block (hs.get 2).bk_at 0; have HL := Lib.hid (Store_st (hs.get 1) (y.a : Int) (y.v : Int)); clear hs)
      | (go_at_call 70; refine HL.out.mono ?_; rintro e w3 ⟨rfl, hs⟩; have HS := Lib.hid (hs.get 1); clear hs))
    go_ret
    exact ⟨rfl, HS.out⟩
set_option maxHeartbeats 2000000 in
theorem fence_st (h : St P0 w0 w (buf x cap L :: ram r ws :: hb b r V :: F)) : Calls Try.prog 37 #[.pointer (some ⟨b, 0, none⟩), .pointer (some ⟨x, 0, none⟩)] w fun e w' => e = .returned (.int .i64 (L.length : Int)) ∧ St P0 w0 w' (buf x cap [] :: ram r (feM ws L) :: hb b r V :: F) := by
  have hle := buf_le h
  obtain ⟨n, hn⟩ : ∃ n, L.length = n := ⟨_, rfl⟩
  rw [hn] at hle ⊢
  have HN := Lib.hid hn
  have HS := Lib.hid h
  clear h hn
  go_enter Try.func37, Try.ntmps37
  go_wp2_with fail
  go_loopw [5] (fun v5 wx => ∃ (i : Nat) (M : List W16) (us : List Int), i ≤ n ∧ v5 = .int .i64 i ∧ Hid (M.length + i = n ∧ feM us M = feM ws L) ∧ Hid (St P0 w0 wx (buf x cap M :: ram r us :: hb b r V :: F))) (fun v5 _ => n + 1 - (intOf v5).toNat)
  case atStart => exact ⟨0, L, ws, Nat.zero_le _, rfl, Lib.hid ⟨HN.out, rfl⟩, HS⟩
  case round =>
    clear HS
    obtain ⟨i, M, us, hi, rfl, HM, HS⟩ := hrel
    have HD := Lib.hid (drain_st HS.out)
    cases M with
    | nil =>
      have hin : Hid (i = n) := Lib.hid (by have := HM.out.1; simpa using this)
      have HE : Hid (us = feM ws L) := Lib.hid HM.out.2
      have ed : decide (0 < ([] : List W16).length) = false := rfl
      rw [ed] at HD
      clear HS HM
      go_wp2_with (go_at_call 66; refine HD.out.mono ?_; rintro e w2 ⟨rfl, hs⟩; have HS := Lib.hid hs; clear hs)
      go_ret
      exact ⟨by rw [hin.out]; rfl, by rw [← HE.out]; exact HS.out⟩
    | cons y M =>
      have hlt : i < n := by have := HM.out.1; simp at this; omega
      have HM2 : Hid (M.length + (i + 1) = n ∧ feM (stW us y.a y.v) M = feM ws L) := Lib.hid ⟨by have := HM.out.1; simp at this; omega, HM.out.2⟩
      have ed : decide (0 < (y :: M).length) = true := by simp
      rw [ed] at HD
      clear HS HM
      go_wp2_with (go_at_call 66; refine HD.out.mono ?_; rintro e w2 ⟨rfl, hs⟩; have HS := Lib.hid hs; clear hs)
      go_roundw
      case rel => exact ⟨i + 1, M, _, by omega, by go_num, HM2, HS⟩
      case measure => simp [intOf]; omega
end
end Go.Proofs.Ytlefefcakffepaa.Bus

/- The closures that bus's ask is called with. -/
namespace Go.Proofs.Ytlefefcakffepaa.Bus
set_option linter.unusedVariables false
set_option linter.unusedSimpArgs false
open Go.RowKit Go.Proofs.Ytlefefcakffepaa.Sep Go.Proofs.Ytlefefcakffepaa.Sram Go.Proofs.Ytlefefcakffepaa.Find Go.Proofs.Ytlefefcakffepaa.Sbuf Go.Proofs.Ytlefefcakffepaa.Ref05

/-- What a core loads. -/
def ldM (ws : List Int) (L : List W16) (a : Int) : Int × Int := if 0 ≤ a ∧ a < ws.length then (if findB L a = true then findW L a else ws.getD a.toNat 0, 0) else (0, 4)
/-- A store: the words then, the stores then, the error. -/
def soM (cap : Nat) (ws : List Int) (L : List W16) (a z : Int) : List Int × List W16 × Int :=
  if wrongE ws.length a z ≠ 0 then (ws, L, wrongE ws.length a z)
  else if L.length = cap then ((drM ws L).1, (putB cap (drM ws L).2 a z).1, (putB cap (drM ws L).2 a z).2)
  else (ws, (putB cap L a z).1, (putB cap L a z).2)
/-- A swap: the words then, the stores then, the word that was, the error. -/
def swM (ws : List Int) (L : List W16) (a z : Int) : List Int × List W16 × Int × Int :=
  if wrongE ws.length a z ≠ 0 then (ws, L, 0, wrongE ws.length a z) else (stW (feM ws L) a z, [], (loadI (feM ws L) a).1, (fillI (feM ws L) a 1 z).2)
section
variable {P0 : Nat → Prop} {w0 w w' : World} {F : List Rg} {b r x cap : Nat} {V : Value} {ws : List Int} {L : List W16}
theorem bk_ne {g g' : Nat} {t t' : TypeId} {cs cs' : Array Value} (h : St P0 w0 w (bk g t cs :: bk g' t' cs' :: F)) : g ≠ g' := by
  obtain ⟨hf, Q, R, hq, hr, hd, hA, Q2, R2, hq2, hr2, hd2, hB, hL⟩ := h
  intro e
  exact hd g hA.1 (by rw [e]; exact hq2 _ hB.1)
theorem Load_su (h : St P0 w0 w (ram r ws :: F)) (a : Int) : Calls Try.prog 61 #[.pointer (some ⟨r, 0, none⟩), .int .i64 a] w fun e w' => e = .returned (.tuple #[.int .i64 (loadI ws a).1, .int .i64 (loadI ws a).2]) ∧ Up w w' := by
  obtain ⟨R, h1, hs⟩ := ram_step h
  exact load_walk r R ws a w h1
set_option maxHeartbeats 4000000 in
theorem load_clo {c1 c2 c3 : Nat} {t1 t2 t3 : TypeId} {a : Int} (h : St P0 w0 w (buf x cap L :: ram r ws :: hb b r V :: bk c1 t1 #[.pointer (some ⟨b, 0, none⟩)] :: bk c2 t2 #[.int .i64 a] :: bk c3 t3 #[.int .i64 0] :: F)) :
    Calls Try.prog 60 #[.pointer (some ⟨x, 0, none⟩), .pointer (some ⟨c1, 0, none⟩), .pointer (some ⟨c2, 0, none⟩), .pointer (some ⟨c3, 0, none⟩)] w fun e w' => e = .returned (.int .i64 (ldM ws L a).2) ∧ St P0 w0 w' (bk c3 t3 #[.int .i64 (ldM ws L a).1] :: buf x cap L :: ram r ws :: hb b r V :: bk c1 t1 #[.pointer (some ⟨b, 0, none⟩)] :: bk c2 t2 #[.int .i64 a] :: F) := by
  have n13 : c1 ≠ c3 := bk_ne ((h.get 5).get 4)
  have n23 : c2 ≠ c3 := bk_ne ((h.get 5).get 5)
  have nb3 : b ≠ c3 := bk_ne ((h.get 5).get 3)
  have x1 : w.cell? ⟨c1, 0, none⟩ = some (.pointer (some ⟨b, 0, none⟩)) := cell_of_block (h.get 3).bk_at 0
  have x2 : w.cell? ⟨c2, 0, none⟩ = some (.int .i64 a) := cell_of_block (h.get 4).bk_at 0
  have x3 : w.cell? ⟨b, 0, none⟩ = some (.pointer (some ⟨r, 0, none⟩)) := cell_of_block (h.get 2).bk_at 0
  have HS := Lib.hid (show St P0 w0 w (bk c3 t3 #[.int .i64 0] :: buf x cap L :: ram r ws :: hb b r V :: bk c1 t1 #[.pointer (some ⟨b, 0, none⟩)] :: bk c2 t2 #[.int .i64 a] :: F) from h.get 5)
  clear h
  have HFV := Lib.hid (findV_eq L a)
  by_cases hin : 0 ≤ a ∧ a < ws.length
  · have e1 : loadI ws a = (ws.getD a.toNat 0, 0) := if_pos hin
    have E : ldM ws L a = (if findB L a = true then findW L a else ws.getD a.toNat 0, 0) := if_pos hin
    rw [E]
    have HE := Lib.hid e1
    clear e1 E hin
    generalize ws.getD a.toNat 0 = u at *
    generalize findW L a = fw at *
    generalize findB L a = fb at *
    go_enter Try.func60, Try.ntmps60
    go_wp2_with fail
    go_region_held3 (fun wx => wx.cell? ⟨c1, 0, none⟩ = some (.pointer (some ⟨b, 0, none⟩)) ∧ wx.cell? ⟨c2, 0, none⟩ = some (.int .i64 a) ∧ wx.cell? ⟨b, 0, none⟩ = some (.pointer (some ⟨r, 0, none⟩)) ∧ Hid (∃ v0 : Value, St P0 w0 wx (bk c3 t3 #[v0] :: buf x cap L :: ram r ws :: hb b r V :: bk c1 t1 #[.pointer (some ⟨b, 0, none⟩)] :: bk c2 t2 #[.int .i64 a] :: F)))
      (first | exact ⟨x1, x2, x3, Lib.hid ⟨_, HS.out.drew⟩⟩ | (go_split_ands; exact ⟨cell_up hu (by assumption), cell_up hu (by assumption), cell_up hu (by assumption), Lib.hid ⟨_, hst.more hu⟩⟩) | (go_split_ands; exact ⟨cell_set_far n13 (cell_up hu (by assumption)), cell_set_far n23 (cell_up hu (by assumption)), cell_set_far nb3 (cell_up hu (by assumption)), Lib.hid ⟨_, (hst.more hu).set 0 _⟩⟩))
      (first
        | (go_at_call 61; go_split_ands; obtain ⟨v0, hst⟩ := Hid.out (‹Hid (∃ v0 : Value, St P0 w0 _ _)›); refine (Load_su (hst.get 2) a).mono ?_; rw [HE.out]; rintro e w8 ⟨rfl, hu⟩; have hst' := (hst.more hu).set 0 (.int .i64 u); have z0 : w8.cell? ⟨c3, 0, none⟩ = some v0 := cell_of_block ((hst.more hu).bk_at) 0; have zf0 : w8.frozen? ⟨c3, 0, none⟩ = false := free_of_block ((hst.more hu).bk_at) 0))
    go_split_ands
    have H1 := Lib.hid hst'
    clear hst hst' hu z0 zf0
    go_wp2_with fail
    refine (Find_st (H1.out.get 1) a).mono ?_
    rw [HFV.out]
    rintro e w9 ⟨rfl, hs⟩
    have y3 : St P0 w0 w9 (bk c3 t3 #[.int .i64 u] :: _) := hs.get 1
    have z3 : w9.cell? ⟨c3, 0, none⟩ = some (.int .i64 u) := cell_of_block y3.bk_at 0
    have zf3 : w9.frozen? ⟨c3, 0, none⟩ = false := free_of_block y3.bk_at 0
    have H2 := Lib.hid (show St P0 w0 w9 (bk c3 t3 #[.int .i64 u] :: buf x cap L :: ram r ws :: hb b r V :: bk c1 t1 #[.pointer (some ⟨b, 0, none⟩)] :: bk c2 t2 #[.int .i64 a] :: F) from y3)
    clear hs y3 H1 HS
    cases fb with
    | true =>
      go_wp2
      go_ret
      exact ⟨rfl, by simpa using H2.out.set 0 (.int .i64 fw)⟩
    | false =>
      go_wp2
      go_ret
      exact ⟨rfl, by simpa using H2.out⟩
  · have e1 : loadI ws a = (0, 4) := if_neg hin
    have E : ldM ws L a = (0, 4) := if_neg hin
    rw [E]
    have HE := Lib.hid e1
    clear e1 E hin
    go_enter Try.func60, Try.ntmps60
    go_wp2_with fail
    go_region_held3 (fun wx => wx.cell? ⟨c1, 0, none⟩ = some (.pointer (some ⟨b, 0, none⟩)) ∧ wx.cell? ⟨c2, 0, none⟩ = some (.int .i64 a) ∧ wx.cell? ⟨b, 0, none⟩ = some (.pointer (some ⟨r, 0, none⟩)) ∧ Hid (∃ v0 : Value, St P0 w0 wx (bk c3 t3 #[v0] :: buf x cap L :: ram r ws :: hb b r V :: bk c1 t1 #[.pointer (some ⟨b, 0, none⟩)] :: bk c2 t2 #[.int .i64 a] :: F)))
      (first | exact ⟨x1, x2, x3, Lib.hid ⟨_, HS.out.drew⟩⟩ | (go_split_ands; exact ⟨cell_up hu (by assumption), cell_up hu (by assumption), cell_up hu (by assumption), Lib.hid ⟨_, hst.more hu⟩⟩) | (go_split_ands; exact ⟨cell_set_far n13 (cell_up hu (by assumption)), cell_set_far n23 (cell_up hu (by assumption)), cell_set_far nb3 (cell_up hu (by assumption)), Lib.hid ⟨_, (hst.more hu).set 0 _⟩⟩))
      (first
        | (go_at_call 61; go_split_ands; obtain ⟨v0, hst⟩ := Hid.out (‹Hid (∃ v0 : Value, St P0 w0 _ _)›); refine (Load_su (hst.get 2) a).mono ?_; rw [HE.out]; rintro e w8 ⟨rfl, hu⟩; have hst' := (hst.more hu).set 0 (.int .i64 0); have z0 : w8.cell? ⟨c3, 0, none⟩ = some v0 := cell_of_block ((hst.more hu).bk_at) 0; have zf0 : w8.frozen? ⟨c3, 0, none⟩ = false := free_of_block ((hst.more hu).bk_at) 0))
    go_split_ands
    have H1 := Lib.hid hst'
    clear hst hst' hu z0 zf0
    go_wp2
    go_ret
    exact ⟨rfl, H1.out⟩
set_option maxHeartbeats 4000000 in
theorem fence_clo {c1 c2 : Nat} {t1 t2 : TypeId} (h : St P0 w0 w (buf x cap L :: ram r ws :: hb b r V :: bk c1 t1 #[.pointer (some ⟨b, 0, none⟩)] :: bk c2 t2 #[.int .i64 0] :: F)) :
    Calls Try.prog 36 #[.pointer (some ⟨x, 0, none⟩), .pointer (some ⟨c1, 0, none⟩), .pointer (some ⟨c2, 0, none⟩)] w fun e w' => e = .returned (.int .i64 0) ∧ St P0 w0 w' (bk c2 t2 #[.int .i64 (L.length : Int)] :: buf x cap [] :: ram r (feM ws L) :: hb b r V :: bk c1 t1 #[.pointer (some ⟨b, 0, none⟩)] :: F) := by
  have x1 : w.cell? ⟨c1, 0, none⟩ = some (.pointer (some ⟨b, 0, none⟩)) := cell_of_block (h.get 3).bk_at 0
  have HD := Lib.hid (fence_st h)
  clear h
  generalize (L.length : Int) = v at HD ⊢
  go_enter Try.func36, Try.ntmps36
  go_wp2_with fail
  refine HD.out.mono ?_
  rintro e w2 ⟨rfl, hs⟩
  have y2 : St P0 w0 w2 (bk c2 t2 #[.int .i64 0] :: _) := hs.get 4
  have z2 : w2.cell? ⟨c2, 0, none⟩ = some (.int .i64 0) := cell_of_block y2.bk_at 0
  have zf2 : w2.frozen? ⟨c2, 0, none⟩ = false := free_of_block y2.bk_at 0
  have HS := Lib.hid (show St P0 w0 w2 (bk c2 t2 #[.int .i64 0] :: buf x cap [] :: ram r (feM ws L) :: hb b r V :: bk c1 t1 #[.pointer (some ⟨b, 0, none⟩)] :: F) from y2)
  clear hs y2 HD
  go_wp2
  go_ret
  exact ⟨rfl, HS.out.set 0 _⟩
set_option maxHeartbeats 4000000 in
theorem drain_clo {c1 c2 : Nat} {t1 t2 : TypeId} (h : St P0 w0 w (buf x cap L :: ram r ws :: hb b r V :: bk c1 t1 #[.pointer (some ⟨b, 0, none⟩)] :: bk c2 t2 #[.bool false] :: F)) :
    Calls Try.prog 68 #[.pointer (some ⟨x, 0, none⟩), .pointer (some ⟨c1, 0, none⟩), .pointer (some ⟨c2, 0, none⟩)] w fun e w' => e = .returned (.int .i64 0) ∧ St P0 w0 w' (bk c2 t2 #[.bool (decide (0 < L.length))] :: buf x cap (drM ws L).2 :: ram r (drM ws L).1 :: hb b r V :: bk c1 t1 #[.pointer (some ⟨b, 0, none⟩)] :: F) := by
  have x1 : w.cell? ⟨c1, 0, none⟩ = some (.pointer (some ⟨b, 0, none⟩)) := cell_of_block (h.get 3).bk_at 0
  have HD := Lib.hid (drain_st h)
  clear h
  generalize decide (0 < L.length) = v at HD ⊢
  go_enter Try.func68, Try.ntmps68
  go_wp2_with fail
  refine HD.out.mono ?_
  rintro e w2 ⟨rfl, hs⟩
  have y2 : St P0 w0 w2 (bk c2 t2 #[.bool false] :: _) := hs.get 4
  have z2 : w2.cell? ⟨c2, 0, none⟩ = some (.bool false) := cell_of_block y2.bk_at 0
  have zf2 : w2.frozen? ⟨c2, 0, none⟩ = false := free_of_block y2.bk_at 0
  have HS := Lib.hid (show St P0 w0 w2 (bk c2 t2 #[.bool false] :: buf x cap (drM ws L).2 :: ram r (drM ws L).1 :: hb b r V :: bk c1 t1 #[.pointer (some ⟨b, 0, none⟩)] :: F) from y2)
  clear hs y2 HD
  go_wp2
  go_ret
  exact ⟨rfl, HS.out.set 0 _⟩
set_option maxHeartbeats 4000000 in
theorem lose_clo {c1 : Nat} {t1 : TypeId} (h : St P0 w0 w (buf x cap L :: ram r ws :: hb b r V :: bk c1 t1 #[.int .i64 0] :: F)) :
    Calls Try.prog 71 #[.pointer (some ⟨x, 0, none⟩), .pointer (some ⟨c1, 0, none⟩)] w fun e w' => e = .returned (.int .i64 0) ∧ St P0 w0 w' (bk c1 t1 #[.int .i64 (L.length : Int)] :: buf x cap [] :: ram r ws :: hb b r V :: F) := by
  have HD := Lib.hid (Clear_st h)
  clear h
  go_enter Try.func71, Try.ntmps71
  go_wp2_with fail
  refine HD.out.mono ?_
  rintro e w2 ⟨rfl, hs⟩
  have y2 : St P0 w0 w2 (bk c1 t1 #[.int .i64 0] :: _) := hs.get 3
  have z2 : w2.cell? ⟨c1, 0, none⟩ = some (.int .i64 0) := cell_of_block y2.bk_at 0
  have zf2 : w2.frozen? ⟨c1, 0, none⟩ = false := free_of_block y2.bk_at 0
  have HS := Lib.hid (show St P0 w0 w2 (bk c1 t1 #[.int .i64 0] :: buf x cap [] :: ram r ws :: hb b r V :: F) from y2)
  clear hs y2 HD
  go_wp2
  go_ret
  exact ⟨rfl, HS.out.set 0 _⟩
set_option maxHeartbeats 4000000 in
theorem waits_clo {c1 : Nat} {t1 : TypeId} (h : St P0 w0 w (buf x cap L :: ram r ws :: hb b r V :: bk c1 t1 #[.slice none 0 0] :: F)) :
    Calls Try.prog 50 #[.pointer (some ⟨x, 0, none⟩), .pointer (some ⟨c1, 0, none⟩)] w fun e w' => ∃ A c, e = .returned (.int .i64 0) ∧ St P0 w0 w' (bk c1 t1 #[.slice A L.length c] :: cl (.slice A L.length c) L :: buf x cap L :: ram r ws :: hb b r V :: F) := by
  have HD := Lib.hid (All_st h)
  clear h
  go_enter Try.func50, Try.ntmps50
  go_wp2_with fail
  refine HD.out.mono ?_
  rintro e w2 ⟨A, c, rfl, hs⟩
  have y2 : St P0 w0 w2 (bk c1 t1 #[.slice none 0 0] :: _) := hs.get 4
  have z2 : w2.cell? ⟨c1, 0, none⟩ = some (.slice none 0 0) := cell_of_block y2.bk_at 0
  have zf2 : w2.frozen? ⟨c1, 0, none⟩ = false := free_of_block y2.bk_at 0
  have HS := Lib.hid (show St P0 w0 w2 (bk c1 t1 #[.slice none 0 0] :: cl (.slice A L.length c) L :: buf x cap L :: ram r ws :: hb b r V :: F) from y2)
  clear hs y2 HD
  go_wp2
  go_ret
  exact ⟨A, c, rfl, HS.out.set 0 _⟩
set_option maxHeartbeats 4000000 in
theorem store_clo {c1 c2 c3 : Nat} {t1 t2 t3 : TypeId} {a z : Int} (h : St P0 w0 w (buf x cap L :: ram r ws :: hb b r V :: bk c1 t1 #[.pointer (some ⟨b, 0, none⟩)] :: bk c2 t2 #[.int .i64 a] :: bk c3 t3 #[.int .i64 z] :: F)) :
    Calls Try.prog 63 #[.pointer (some ⟨x, 0, none⟩), .pointer (some ⟨c1, 0, none⟩), .pointer (some ⟨c2, 0, none⟩), .pointer (some ⟨c3, 0, none⟩)] w fun e w' => e = .returned (.int .i64 (soM cap ws L a z).2.2) ∧ St P0 w0 w' (buf x cap (soM cap ws L a z).2.1 :: ram r (soM cap ws L a z).1 :: hb b r V :: bk c1 t1 #[.pointer (some ⟨b, 0, none⟩)] :: bk c2 t2 #[.int .i64 a] :: bk c3 t3 #[.int .i64 z] :: F) := by
  have HS0 := Lib.hid h
  clear h
  by_cases hwe : wrongE ws.length a z = 0
  · have HWE := Lib.hid hwe
    by_cases hl : L.length = cap
    · have E : soM cap ws L a z = ((drM ws L).1, (putB cap (drM ws L).2 a z).1, (putB cap (drM ws L).2 a z).2) := by
        unfold soM
        rw [if_neg (by rw [hwe]; simp), if_pos hl]
      rw [E]
      have hq : ((L.length : Int) == (cap : Int)) = true := by simp [hl]
      clear E hwe
      have p0 : w.cell? ⟨c1, 0, none⟩ = some (.pointer (some ⟨b, 0, none⟩)) := cell_of_block (St.bk_at ((HS0.out).get 3 : St P0 w0 w (bk c1 t1 #[.pointer (some ⟨b, 0, none⟩)] :: buf x cap L :: ram r ws :: hb b r V :: bk c2 t2 #[.int .i64 a] :: bk c3 t3 #[.int .i64 z] :: F))) 0
      have q0 : w.cell? ⟨c2, 0, none⟩ = some (.int .i64 a) := cell_of_block (St.bk_at ((HS0.out).get 4 : St P0 w0 w (bk c2 t2 #[.int .i64 a] :: buf x cap L :: ram r ws :: hb b r V :: bk c1 t1 #[.pointer (some ⟨b, 0, none⟩)] :: bk c3 t3 #[.int .i64 z] :: F))) 0
      have u0 : w.cell? ⟨c3, 0, none⟩ = some (.int .i64 z) := cell_of_block (St.bk_at ((HS0.out).get 5 : St P0 w0 w (bk c3 t3 #[.int .i64 z] :: buf x cap L :: ram r ws :: hb b r V :: bk c1 t1 #[.pointer (some ⟨b, 0, none⟩)] :: bk c2 t2 #[.int .i64 a] :: F))) 0
      go_enter Try.func63, Try.ntmps63
      have HS1 : Hid (St P0 w0 w (ram r ws :: hb b r V :: buf x cap L :: bk c1 t1 #[.pointer (some ⟨b, 0, none⟩)] :: bk c2 t2 #[.int .i64 a] :: bk c3 t3 #[.int .i64 z] :: F)) := Lib.hid (((HS0.out).get 2).get 2)
      clear HS0
      go_wp2_with fail
      refine (wrong_st HS1.out a z).mono ?_
      rw [HWE.out]
      rintro e w2 ⟨rfl, hs⟩
      have HS2 : Hid (St P0 w0 w2 (ram r ws :: hb b r V :: buf x cap L :: bk c1 t1 #[.pointer (some ⟨b, 0, none⟩)] :: bk c2 t2 #[.int .i64 a] :: bk c3 t3 #[.int .i64 z] :: F)) := Lib.hid (hs)
      clear hs HS1
      clear p0 q0 u0
      have p0 : w2.cell? ⟨c1, 0, none⟩ = some (.pointer (some ⟨b, 0, none⟩)) := cell_of_block (St.bk_at ((HS2.out).get 3 : St P0 w0 w2 (bk c1 t1 #[.pointer (some ⟨b, 0, none⟩)] :: ram r ws :: hb b r V :: buf x cap L :: bk c2 t2 #[.int .i64 a] :: bk c3 t3 #[.int .i64 z] :: F))) 0
      have q0 : w2.cell? ⟨c2, 0, none⟩ = some (.int .i64 a) := cell_of_block (St.bk_at ((HS2.out).get 4 : St P0 w0 w2 (bk c2 t2 #[.int .i64 a] :: ram r ws :: hb b r V :: buf x cap L :: bk c1 t1 #[.pointer (some ⟨b, 0, none⟩)] :: bk c3 t3 #[.int .i64 z] :: F))) 0
      have u0 : w2.cell? ⟨c3, 0, none⟩ = some (.int .i64 z) := cell_of_block (St.bk_at ((HS2.out).get 5 : St P0 w0 w2 (bk c3 t3 #[.int .i64 z] :: ram r ws :: hb b r V :: buf x cap L :: bk c1 t1 #[.pointer (some ⟨b, 0, none⟩)] :: bk c2 t2 #[.int .i64 a] :: F))) 0
      have HS3 : Hid (St P0 w0 w2 (buf x cap L :: ram r ws :: hb b r V :: bk c1 t1 #[.pointer (some ⟨b, 0, none⟩)] :: bk c2 t2 #[.int .i64 a] :: bk c3 t3 #[.int .i64 z] :: F)) := Lib.hid ((HS2.out).get 2)
      clear HS2
      go_wp2_with fail
      refine (Len_st HS3.out).mono ?_
      rintro e w4 ⟨rfl, hs⟩
      have HS4 : Hid (St P0 w0 w4 (buf x cap L :: ram r ws :: hb b r V :: bk c1 t1 #[.pointer (some ⟨b, 0, none⟩)] :: bk c2 t2 #[.int .i64 a] :: bk c3 t3 #[.int .i64 z] :: F)) := Lib.hid (hs)
      clear hs HS3
      go_wp2_with fail
      refine (Cap_st HS4.out).mono ?_
      rintro e w5 ⟨rfl, hs⟩
      have HS5 : Hid (St P0 w0 w5 (buf x cap L :: ram r ws :: hb b r V :: bk c1 t1 #[.pointer (some ⟨b, 0, none⟩)] :: bk c2 t2 #[.int .i64 a] :: bk c3 t3 #[.int .i64 z] :: F)) := Lib.hid (hs)
      clear hs HS4
      clear p0 q0 u0
      have p0 : w5.cell? ⟨c1, 0, none⟩ = some (.pointer (some ⟨b, 0, none⟩)) := cell_of_block (St.bk_at ((HS5.out).get 3 : St P0 w0 w5 (bk c1 t1 #[.pointer (some ⟨b, 0, none⟩)] :: buf x cap L :: ram r ws :: hb b r V :: bk c2 t2 #[.int .i64 a] :: bk c3 t3 #[.int .i64 z] :: F))) 0
      have q0 : w5.cell? ⟨c2, 0, none⟩ = some (.int .i64 a) := cell_of_block (St.bk_at ((HS5.out).get 4 : St P0 w0 w5 (bk c2 t2 #[.int .i64 a] :: buf x cap L :: ram r ws :: hb b r V :: bk c1 t1 #[.pointer (some ⟨b, 0, none⟩)] :: bk c3 t3 #[.int .i64 z] :: F))) 0
      have u0 : w5.cell? ⟨c3, 0, none⟩ = some (.int .i64 z) := cell_of_block (St.bk_at ((HS5.out).get 5 : St P0 w0 w5 (bk c3 t3 #[.int .i64 z] :: buf x cap L :: ram r ws :: hb b r V :: bk c1 t1 #[.pointer (some ⟨b, 0, none⟩)] :: bk c2 t2 #[.int .i64 a] :: F))) 0
      clear hl
      go_wp2_with fail
      refine (drain_st HS5.out).mono ?_
      rintro e w6 ⟨rfl, hs⟩
      have HS6 : Hid (St P0 w0 w6 (buf x cap (drM ws L).2 :: ram r (drM ws L).1 :: hb b r V :: bk c1 t1 #[.pointer (some ⟨b, 0, none⟩)] :: bk c2 t2 #[.int .i64 a] :: bk c3 t3 #[.int .i64 z] :: F)) := Lib.hid (hs)
      clear hs HS5
      clear p0 q0 u0
      have q0 : w6.cell? ⟨c2, 0, none⟩ = some (.int .i64 a) := cell_of_block (St.bk_at ((HS6.out).get 4 : St P0 w0 w6 (bk c2 t2 #[.int .i64 a] :: buf x cap (drM ws L).2 :: ram r (drM ws L).1 :: hb b r V :: bk c1 t1 #[.pointer (some ⟨b, 0, none⟩)] :: bk c3 t3 #[.int .i64 z] :: F))) 0
      have u0 : w6.cell? ⟨c3, 0, none⟩ = some (.int .i64 z) := cell_of_block (St.bk_at ((HS6.out).get 5 : St P0 w0 w6 (bk c3 t3 #[.int .i64 z] :: buf x cap (drM ws L).2 :: ram r (drM ws L).1 :: hb b r V :: bk c1 t1 #[.pointer (some ⟨b, 0, none⟩)] :: bk c2 t2 #[.int .i64 a] :: F))) 0
      go_wp2_with fail
      refine (Sbuf.Put_st HS6.out a z).mono ?_
      rintro e w7 ⟨rfl, hs⟩
      have HS7 : Hid (St P0 w0 w7 (buf x cap (putB cap (drM ws L).2 a z).1 :: ram r (drM ws L).1 :: hb b r V :: bk c1 t1 #[.pointer (some ⟨b, 0, none⟩)] :: bk c2 t2 #[.int .i64 a] :: bk c3 t3 #[.int .i64 z] :: F)) := Lib.hid (hs)
      clear hs HS6
      go_wp2
      go_ret
      exact ⟨rfl, ((((((HS7.out).get 5).get 5).get 5).get 5).get 5).get 5⟩
    · have E : soM cap ws L a z = (ws, (putB cap L a z).1, (putB cap L a z).2) := by
        unfold soM
        rw [if_neg (by rw [hwe]; simp), if_neg hl]
      rw [E]
      have hq : ((L.length : Int) == (cap : Int)) = false := by
        rw [beq_eq_false_iff_ne]
        omega
      clear E hwe
      have p0 : w.cell? ⟨c1, 0, none⟩ = some (.pointer (some ⟨b, 0, none⟩)) := cell_of_block (St.bk_at ((HS0.out).get 3 : St P0 w0 w (bk c1 t1 #[.pointer (some ⟨b, 0, none⟩)] :: buf x cap L :: ram r ws :: hb b r V :: bk c2 t2 #[.int .i64 a] :: bk c3 t3 #[.int .i64 z] :: F))) 0
      have q0 : w.cell? ⟨c2, 0, none⟩ = some (.int .i64 a) := cell_of_block (St.bk_at ((HS0.out).get 4 : St P0 w0 w (bk c2 t2 #[.int .i64 a] :: buf x cap L :: ram r ws :: hb b r V :: bk c1 t1 #[.pointer (some ⟨b, 0, none⟩)] :: bk c3 t3 #[.int .i64 z] :: F))) 0
      have u0 : w.cell? ⟨c3, 0, none⟩ = some (.int .i64 z) := cell_of_block (St.bk_at ((HS0.out).get 5 : St P0 w0 w (bk c3 t3 #[.int .i64 z] :: buf x cap L :: ram r ws :: hb b r V :: bk c1 t1 #[.pointer (some ⟨b, 0, none⟩)] :: bk c2 t2 #[.int .i64 a] :: F))) 0
      go_enter Try.func63, Try.ntmps63
      have HS1 : Hid (St P0 w0 w (ram r ws :: hb b r V :: buf x cap L :: bk c1 t1 #[.pointer (some ⟨b, 0, none⟩)] :: bk c2 t2 #[.int .i64 a] :: bk c3 t3 #[.int .i64 z] :: F)) := Lib.hid (((HS0.out).get 2).get 2)
      clear HS0
      go_wp2_with fail
      refine (wrong_st HS1.out a z).mono ?_
      rw [HWE.out]
      rintro e w2 ⟨rfl, hs⟩
      have HS2 : Hid (St P0 w0 w2 (ram r ws :: hb b r V :: buf x cap L :: bk c1 t1 #[.pointer (some ⟨b, 0, none⟩)] :: bk c2 t2 #[.int .i64 a] :: bk c3 t3 #[.int .i64 z] :: F)) := Lib.hid (hs)
      clear hs HS1
      clear p0 q0 u0
      have p0 : w2.cell? ⟨c1, 0, none⟩ = some (.pointer (some ⟨b, 0, none⟩)) := cell_of_block (St.bk_at ((HS2.out).get 3 : St P0 w0 w2 (bk c1 t1 #[.pointer (some ⟨b, 0, none⟩)] :: ram r ws :: hb b r V :: buf x cap L :: bk c2 t2 #[.int .i64 a] :: bk c3 t3 #[.int .i64 z] :: F))) 0
      have q0 : w2.cell? ⟨c2, 0, none⟩ = some (.int .i64 a) := cell_of_block (St.bk_at ((HS2.out).get 4 : St P0 w0 w2 (bk c2 t2 #[.int .i64 a] :: ram r ws :: hb b r V :: buf x cap L :: bk c1 t1 #[.pointer (some ⟨b, 0, none⟩)] :: bk c3 t3 #[.int .i64 z] :: F))) 0
      have u0 : w2.cell? ⟨c3, 0, none⟩ = some (.int .i64 z) := cell_of_block (St.bk_at ((HS2.out).get 5 : St P0 w0 w2 (bk c3 t3 #[.int .i64 z] :: ram r ws :: hb b r V :: buf x cap L :: bk c1 t1 #[.pointer (some ⟨b, 0, none⟩)] :: bk c2 t2 #[.int .i64 a] :: F))) 0
      have HS3 : Hid (St P0 w0 w2 (buf x cap L :: ram r ws :: hb b r V :: bk c1 t1 #[.pointer (some ⟨b, 0, none⟩)] :: bk c2 t2 #[.int .i64 a] :: bk c3 t3 #[.int .i64 z] :: F)) := Lib.hid ((HS2.out).get 2)
      clear HS2
      go_wp2_with fail
      refine (Len_st HS3.out).mono ?_
      rintro e w4 ⟨rfl, hs⟩
      have HS4 : Hid (St P0 w0 w4 (buf x cap L :: ram r ws :: hb b r V :: bk c1 t1 #[.pointer (some ⟨b, 0, none⟩)] :: bk c2 t2 #[.int .i64 a] :: bk c3 t3 #[.int .i64 z] :: F)) := Lib.hid (hs)
      clear hs HS3
      go_wp2_with fail
      refine (Cap_st HS4.out).mono ?_
      rintro e w5 ⟨rfl, hs⟩
      have HS5 : Hid (St P0 w0 w5 (buf x cap L :: ram r ws :: hb b r V :: bk c1 t1 #[.pointer (some ⟨b, 0, none⟩)] :: bk c2 t2 #[.int .i64 a] :: bk c3 t3 #[.int .i64 z] :: F)) := Lib.hid (hs)
      clear hs HS4
      clear p0 q0 u0
      have p0 : w5.cell? ⟨c1, 0, none⟩ = some (.pointer (some ⟨b, 0, none⟩)) := cell_of_block (St.bk_at ((HS5.out).get 3 : St P0 w0 w5 (bk c1 t1 #[.pointer (some ⟨b, 0, none⟩)] :: buf x cap L :: ram r ws :: hb b r V :: bk c2 t2 #[.int .i64 a] :: bk c3 t3 #[.int .i64 z] :: F))) 0
      have q0 : w5.cell? ⟨c2, 0, none⟩ = some (.int .i64 a) := cell_of_block (St.bk_at ((HS5.out).get 4 : St P0 w0 w5 (bk c2 t2 #[.int .i64 a] :: buf x cap L :: ram r ws :: hb b r V :: bk c1 t1 #[.pointer (some ⟨b, 0, none⟩)] :: bk c3 t3 #[.int .i64 z] :: F))) 0
      have u0 : w5.cell? ⟨c3, 0, none⟩ = some (.int .i64 z) := cell_of_block (St.bk_at ((HS5.out).get 5 : St P0 w0 w5 (bk c3 t3 #[.int .i64 z] :: buf x cap L :: ram r ws :: hb b r V :: bk c1 t1 #[.pointer (some ⟨b, 0, none⟩)] :: bk c2 t2 #[.int .i64 a] :: F))) 0
      clear hl
      go_wp2_with fail
      refine (Sbuf.Put_st HS5.out a z).mono ?_
      rintro e w6 ⟨rfl, hs⟩
      have HS6 : Hid (St P0 w0 w6 (buf x cap (putB cap L a z).1 :: ram r ws :: hb b r V :: bk c1 t1 #[.pointer (some ⟨b, 0, none⟩)] :: bk c2 t2 #[.int .i64 a] :: bk c3 t3 #[.int .i64 z] :: F)) := Lib.hid (hs)
      clear hs HS5
      go_wp2
      go_ret
      exact ⟨rfl, ((((((HS6.out).get 5).get 5).get 5).get 5).get 5).get 5⟩
  · have E : soM cap ws L a z = (ws, L, wrongE ws.length a z) := if_pos hwe
    rw [E]
    obtain ⟨we, hw⟩ : ∃ we, wrongE ws.length a z = we := ⟨_, rfl⟩
    rw [hw] at hwe ⊢
    have HWE := Lib.hid hw
    have hne : (we != 0) = true := by simpa using hwe
    have hne' : (we == 0) = false := by simpa using hwe
    clear E hwe hw
    have p0 : w.cell? ⟨c1, 0, none⟩ = some (.pointer (some ⟨b, 0, none⟩)) := cell_of_block (St.bk_at ((HS0.out).get 3 : St P0 w0 w (bk c1 t1 #[.pointer (some ⟨b, 0, none⟩)] :: buf x cap L :: ram r ws :: hb b r V :: bk c2 t2 #[.int .i64 a] :: bk c3 t3 #[.int .i64 z] :: F))) 0
    have q0 : w.cell? ⟨c2, 0, none⟩ = some (.int .i64 a) := cell_of_block (St.bk_at ((HS0.out).get 4 : St P0 w0 w (bk c2 t2 #[.int .i64 a] :: buf x cap L :: ram r ws :: hb b r V :: bk c1 t1 #[.pointer (some ⟨b, 0, none⟩)] :: bk c3 t3 #[.int .i64 z] :: F))) 0
    have u0 : w.cell? ⟨c3, 0, none⟩ = some (.int .i64 z) := cell_of_block (St.bk_at ((HS0.out).get 5 : St P0 w0 w (bk c3 t3 #[.int .i64 z] :: buf x cap L :: ram r ws :: hb b r V :: bk c1 t1 #[.pointer (some ⟨b, 0, none⟩)] :: bk c2 t2 #[.int .i64 a] :: F))) 0
    go_enter Try.func63, Try.ntmps63
    have HS1 : Hid (St P0 w0 w (ram r ws :: hb b r V :: buf x cap L :: bk c1 t1 #[.pointer (some ⟨b, 0, none⟩)] :: bk c2 t2 #[.int .i64 a] :: bk c3 t3 #[.int .i64 z] :: F)) := Lib.hid (((HS0.out).get 2).get 2)
    clear HS0
    go_wp2_with fail
    refine (wrong_st HS1.out a z).mono ?_
    rw [HWE.out]
    rintro e w2 ⟨rfl, hs⟩
    have HS2 : Hid (St P0 w0 w2 (ram r ws :: hb b r V :: buf x cap L :: bk c1 t1 #[.pointer (some ⟨b, 0, none⟩)] :: bk c2 t2 #[.int .i64 a] :: bk c3 t3 #[.int .i64 z] :: F)) := Lib.hid (hs)
    clear hs HS1
    clear p0 q0 u0
    have p0 : w2.cell? ⟨c1, 0, none⟩ = some (.pointer (some ⟨b, 0, none⟩)) := cell_of_block (St.bk_at ((HS2.out).get 3 : St P0 w0 w2 (bk c1 t1 #[.pointer (some ⟨b, 0, none⟩)] :: ram r ws :: hb b r V :: buf x cap L :: bk c2 t2 #[.int .i64 a] :: bk c3 t3 #[.int .i64 z] :: F))) 0
    have q0 : w2.cell? ⟨c2, 0, none⟩ = some (.int .i64 a) := cell_of_block (St.bk_at ((HS2.out).get 4 : St P0 w0 w2 (bk c2 t2 #[.int .i64 a] :: ram r ws :: hb b r V :: buf x cap L :: bk c1 t1 #[.pointer (some ⟨b, 0, none⟩)] :: bk c3 t3 #[.int .i64 z] :: F))) 0
    have u0 : w2.cell? ⟨c3, 0, none⟩ = some (.int .i64 z) := cell_of_block (St.bk_at ((HS2.out).get 5 : St P0 w0 w2 (bk c3 t3 #[.int .i64 z] :: ram r ws :: hb b r V :: buf x cap L :: bk c1 t1 #[.pointer (some ⟨b, 0, none⟩)] :: bk c2 t2 #[.int .i64 a] :: F))) 0
    go_wp2
    go_ret
    exact ⟨rfl, ((((((HS2.out).get 5).get 5).get 5).get 4).get 4).get 5⟩
set_option maxHeartbeats 4000000 in
theorem swap_clo {c1 c2 c3 c4 : Nat} {t1 t2 t3 t4 : TypeId} {a z : Int} (h : St P0 w0 w (buf x cap L :: ram r ws :: hb b r V :: bk c1 t1 #[.pointer (some ⟨b, 0, none⟩)] :: bk c2 t2 #[.int .i64 a] :: bk c3 t3 #[.int .i64 z] :: bk c4 t4 #[.int .i64 0] :: F)) :
    Calls Try.prog 69 #[.pointer (some ⟨x, 0, none⟩), .pointer (some ⟨c1, 0, none⟩), .pointer (some ⟨c2, 0, none⟩), .pointer (some ⟨c3, 0, none⟩), .pointer (some ⟨c4, 0, none⟩)] w fun e w' => e = .returned (.int .i64 (swM ws L a z).2.2.2) ∧ St P0 w0 w' (bk c4 t4 #[.int .i64 (swM ws L a z).2.2.1] :: buf x cap (swM ws L a z).2.1 :: ram r (swM ws L a z).1 :: hb b r V :: bk c1 t1 #[.pointer (some ⟨b, 0, none⟩)] :: bk c2 t2 #[.int .i64 a] :: bk c3 t3 #[.int .i64 z] :: F) := by
  have HS0 := Lib.hid h
  clear h
  by_cases hwe : wrongE ws.length a z = 0
  · have HWE := Lib.hid hwe
    have E : swM ws L a z = (stW (feM ws L) a z, [], (loadI (feM ws L) a).1, (fillI (feM ws L) a 1 z).2) := by
      unfold swM
      rw [if_neg (by rw [hwe]; simp)]
    rw [E]
    obtain ⟨uw, huw⟩ : ∃ uw, (loadI (feM ws L) a).1 = uw := ⟨_, rfl⟩
    rw [huw]
    have HUW := Lib.hid huw
    clear E hwe huw
    have p0 : w.cell? ⟨c1, 0, none⟩ = some (.pointer (some ⟨b, 0, none⟩)) := cell_of_block (St.bk_at ((HS0.out).get 3 : St P0 w0 w (bk c1 t1 #[.pointer (some ⟨b, 0, none⟩)] :: buf x cap L :: ram r ws :: hb b r V :: bk c2 t2 #[.int .i64 a] :: bk c3 t3 #[.int .i64 z] :: bk c4 t4 #[.int .i64 0] :: F))) 0
    have q0 : w.cell? ⟨c2, 0, none⟩ = some (.int .i64 a) := cell_of_block (St.bk_at ((HS0.out).get 4 : St P0 w0 w (bk c2 t2 #[.int .i64 a] :: buf x cap L :: ram r ws :: hb b r V :: bk c1 t1 #[.pointer (some ⟨b, 0, none⟩)] :: bk c3 t3 #[.int .i64 z] :: bk c4 t4 #[.int .i64 0] :: F))) 0
    have u0 : w.cell? ⟨c3, 0, none⟩ = some (.int .i64 z) := cell_of_block (St.bk_at ((HS0.out).get 5 : St P0 w0 w (bk c3 t3 #[.int .i64 z] :: buf x cap L :: ram r ws :: hb b r V :: bk c1 t1 #[.pointer (some ⟨b, 0, none⟩)] :: bk c2 t2 #[.int .i64 a] :: bk c4 t4 #[.int .i64 0] :: F))) 0
    go_enter Try.func69, Try.ntmps69
    have HS1 : Hid (St P0 w0 w (ram r ws :: hb b r V :: buf x cap L :: bk c1 t1 #[.pointer (some ⟨b, 0, none⟩)] :: bk c2 t2 #[.int .i64 a] :: bk c3 t3 #[.int .i64 z] :: bk c4 t4 #[.int .i64 0] :: F)) := Lib.hid (((HS0.out).get 2).get 2)
    clear HS0
    go_wp2_with fail
    refine (wrong_st HS1.out a z).mono ?_
    rw [HWE.out]
    rintro e w2 ⟨rfl, hs⟩
    have HS2 : Hid (St P0 w0 w2 (ram r ws :: hb b r V :: buf x cap L :: bk c1 t1 #[.pointer (some ⟨b, 0, none⟩)] :: bk c2 t2 #[.int .i64 a] :: bk c3 t3 #[.int .i64 z] :: bk c4 t4 #[.int .i64 0] :: F)) := Lib.hid (hs)
    clear hs HS1
    clear p0 q0 u0
    have p0 : w2.cell? ⟨c1, 0, none⟩ = some (.pointer (some ⟨b, 0, none⟩)) := cell_of_block (St.bk_at ((HS2.out).get 3 : St P0 w0 w2 (bk c1 t1 #[.pointer (some ⟨b, 0, none⟩)] :: ram r ws :: hb b r V :: buf x cap L :: bk c2 t2 #[.int .i64 a] :: bk c3 t3 #[.int .i64 z] :: bk c4 t4 #[.int .i64 0] :: F))) 0
    have q0 : w2.cell? ⟨c2, 0, none⟩ = some (.int .i64 a) := cell_of_block (St.bk_at ((HS2.out).get 4 : St P0 w0 w2 (bk c2 t2 #[.int .i64 a] :: ram r ws :: hb b r V :: buf x cap L :: bk c1 t1 #[.pointer (some ⟨b, 0, none⟩)] :: bk c3 t3 #[.int .i64 z] :: bk c4 t4 #[.int .i64 0] :: F))) 0
    have u0 : w2.cell? ⟨c3, 0, none⟩ = some (.int .i64 z) := cell_of_block (St.bk_at ((HS2.out).get 5 : St P0 w0 w2 (bk c3 t3 #[.int .i64 z] :: ram r ws :: hb b r V :: buf x cap L :: bk c1 t1 #[.pointer (some ⟨b, 0, none⟩)] :: bk c2 t2 #[.int .i64 a] :: bk c4 t4 #[.int .i64 0] :: F))) 0
    have HS3 : Hid (St P0 w0 w2 (buf x cap L :: ram r ws :: hb b r V :: bk c1 t1 #[.pointer (some ⟨b, 0, none⟩)] :: bk c2 t2 #[.int .i64 a] :: bk c3 t3 #[.int .i64 z] :: bk c4 t4 #[.int .i64 0] :: F)) := Lib.hid ((((HS2.out).get 1).get 1).get 2)
    clear HS2
    go_wp2_with fail
    refine (fence_st HS3.out).mono ?_
    rintro e w4 ⟨rfl, hs⟩
    have HS4 : Hid (St P0 w0 w4 (buf x cap [] :: ram r (feM ws L) :: hb b r V :: bk c1 t1 #[.pointer (some ⟨b, 0, none⟩)] :: bk c2 t2 #[.int .i64 a] :: bk c3 t3 #[.int .i64 z] :: bk c4 t4 #[.int .i64 0] :: F)) := Lib.hid (hs)
    clear hs HS3
    have HS5 : Hid (St P0 w0 w4 (bk c4 t4 #[.int .i64 0] :: buf x cap [] :: ram r (feM ws L) :: hb b r V :: bk c1 t1 #[.pointer (some ⟨b, 0, none⟩)] :: bk c2 t2 #[.int .i64 a] :: bk c3 t3 #[.int .i64 z] :: F)) := Lib.hid ((HS4.out).get 6)
    clear HS4
    have n14 : c1 ≠ c4 := fun e => bk_ne ((((((((HS5.out).get 6).get 6).get 5).get 5).get 5).get 6).get 6) e.symm
    have n24 : c2 ≠ c4 := fun e => bk_ne ((((((((HS5.out).get 6).get 5).get 5).get 5).get 5).get 6).get 6) e.symm
    have nb4 : b ≠ c4 := fun e => bk_ne ((((((((HS5.out).get 6).get 6).get 6).get 5).get 5).get 6).get 6) e.symm
    clear p0 q0 u0
    have p0 : w4.cell? ⟨c1, 0, none⟩ = some (.pointer (some ⟨b, 0, none⟩)) := cell_of_block (St.bk_at ((HS5.out).get 4 : St P0 w0 w4 (bk c1 t1 #[.pointer (some ⟨b, 0, none⟩)] :: bk c4 t4 #[.int .i64 0] :: buf x cap [] :: ram r (feM ws L) :: hb b r V :: bk c2 t2 #[.int .i64 a] :: bk c3 t3 #[.int .i64 z] :: F))) 0
    have q0 : w4.cell? ⟨c2, 0, none⟩ = some (.int .i64 a) := cell_of_block (St.bk_at ((HS5.out).get 5 : St P0 w0 w4 (bk c2 t2 #[.int .i64 a] :: bk c4 t4 #[.int .i64 0] :: buf x cap [] :: ram r (feM ws L) :: hb b r V :: bk c1 t1 #[.pointer (some ⟨b, 0, none⟩)] :: bk c3 t3 #[.int .i64 z] :: F))) 0
    have u0 : w4.cell? ⟨c3, 0, none⟩ = some (.int .i64 z) := cell_of_block (St.bk_at ((HS5.out).get 6 : St P0 w0 w4 (bk c3 t3 #[.int .i64 z] :: bk c4 t4 #[.int .i64 0] :: buf x cap [] :: ram r (feM ws L) :: hb b r V :: bk c1 t1 #[.pointer (some ⟨b, 0, none⟩)] :: bk c2 t2 #[.int .i64 a] :: F))) 0
    have y0 : w4.cell? ⟨b, 0, none⟩ = some (.pointer (some ⟨r, 0, none⟩)) := cell_of_block (St.bk_at ((HS5.out).get 3)) 0
    go_wp2_with fail
    go_region_held3 (fun wx => wx.cell? ⟨c1, 0, none⟩ = some (.pointer (some ⟨b, 0, none⟩)) ∧ wx.cell? ⟨c2, 0, none⟩ = some (.int .i64 a) ∧ wx.cell? ⟨b, 0, none⟩ = some (.pointer (some ⟨r, 0, none⟩)) ∧ Hid (∃ v0 : Value, St P0 w0 wx (bk c4 t4 #[v0] :: buf x cap [] :: ram r (feM ws L) :: hb b r V :: bk c1 t1 #[.pointer (some ⟨b, 0, none⟩)] :: bk c2 t2 #[.int .i64 a] :: bk c3 t3 #[.int .i64 z] :: F)))
      (first | exact ⟨p0, q0, y0, Lib.hid ⟨_, ((((((((HS5.out).get 6).get 6).get 6).get 6).get 6).get 6).get 6).drew⟩⟩ | (go_split_ands; exact ⟨cell_up hu (by assumption), cell_up hu (by assumption), cell_up hu (by assumption), Lib.hid ⟨_, hst.more hu⟩⟩) | (go_split_ands; exact ⟨cell_set_far n14 (cell_up hu (by assumption)), cell_set_far n24 (cell_up hu (by assumption)), cell_set_far nb4 (cell_up hu (by assumption)), Lib.hid ⟨_, (hst.more hu).set 0 _⟩⟩))
      (first
        | (go_at_call 61; go_split_ands; obtain ⟨v0, hst⟩ := Hid.out (‹Hid (∃ v0 : Value, St P0 w0 _ _)›); refine (Load_su (hst.get 2) a).mono ?_; rw [HUW.out]; rintro e w8 ⟨rfl, hu⟩; have hst' := (hst.more hu).set 0 (.int .i64 uw); have z0 : w8.cell? ⟨c4, 0, none⟩ = some v0 := cell_of_block ((hst.more hu).bk_at) 0; have zf0 : w8.frozen? ⟨c4, 0, none⟩ = false := free_of_block ((hst.more hu).bk_at) 0))
    go_split_ands
    have HS6 : Hid (St P0 w0 (w8.setCell ⟨c4, 0, none⟩ (.int .i64 uw)) (bk c4 t4 #[.int .i64 uw] :: buf x cap [] :: ram r (feM ws L) :: hb b r V :: bk c1 t1 #[.pointer (some ⟨b, 0, none⟩)] :: bk c2 t2 #[.int .i64 a] :: bk c3 t3 #[.int .i64 z] :: F)) := Lib.hid hst'
    clear hst hst' hu z0 zf0 p0 q0 u0 y0 HS5
    obtain ⟨w9, hw9⟩ : ∃ w9, w8.setCell ⟨c4, 0, none⟩ (.int .i64 uw) = w9 := ⟨_, rfl⟩
    rw [hw9] at HS6 ⊢
    clear hw9
    have p0 : w9.cell? ⟨c1, 0, none⟩ = some (.pointer (some ⟨b, 0, none⟩)) := cell_of_block (St.bk_at ((HS6.out).get 4 : St P0 w0 w9 (bk c1 t1 #[.pointer (some ⟨b, 0, none⟩)] :: bk c4 t4 #[.int .i64 uw] :: buf x cap [] :: ram r (feM ws L) :: hb b r V :: bk c2 t2 #[.int .i64 a] :: bk c3 t3 #[.int .i64 z] :: F))) 0
    have q0 : w9.cell? ⟨c2, 0, none⟩ = some (.int .i64 a) := cell_of_block (St.bk_at ((HS6.out).get 5 : St P0 w0 w9 (bk c2 t2 #[.int .i64 a] :: bk c4 t4 #[.int .i64 uw] :: buf x cap [] :: ram r (feM ws L) :: hb b r V :: bk c1 t1 #[.pointer (some ⟨b, 0, none⟩)] :: bk c3 t3 #[.int .i64 z] :: F))) 0
    have u0 : w9.cell? ⟨c3, 0, none⟩ = some (.int .i64 z) := cell_of_block (St.bk_at ((HS6.out).get 6 : St P0 w0 w9 (bk c3 t3 #[.int .i64 z] :: bk c4 t4 #[.int .i64 uw] :: buf x cap [] :: ram r (feM ws L) :: hb b r V :: bk c1 t1 #[.pointer (some ⟨b, 0, none⟩)] :: bk c2 t2 #[.int .i64 a] :: F))) 0
    have y0 : w9.cell? ⟨b, 0, none⟩ = some (.pointer (some ⟨r, 0, none⟩)) := cell_of_block (St.bk_at ((HS6.out).get 3)) 0
    go_wp2_with fail
    have HP := Lib.hid (Store_st (((((((((HS6.out).get 6).get 6).get 6).get 6).get 5).get 5).get 6).drew) a z)
    go_region_with (go_at_call 70; (with_reducible refine HP.out.mono ?_); rintro e w10 ⟨rfl, hs⟩; have HF := Lib.hid hs; clear hs)
    all_goals (try go_wp2)
    all_goals
      go_ret
      exact ⟨rfl, (((((((HF.out).get 6).get 6).get 6).get 6).get 4).get 6).get 6⟩
  · have E : swM ws L a z = (ws, L, 0, wrongE ws.length a z) := if_pos hwe
    rw [E]
    obtain ⟨we, hw⟩ : ∃ we, wrongE ws.length a z = we := ⟨_, rfl⟩
    rw [hw] at hwe ⊢
    have HWE := Lib.hid hw
    have hne : (we != 0) = true := by simpa using hwe
    have hne' : (we == 0) = false := by simpa using hwe
    clear E hwe hw
    have p0 : w.cell? ⟨c1, 0, none⟩ = some (.pointer (some ⟨b, 0, none⟩)) := cell_of_block (St.bk_at ((HS0.out).get 3 : St P0 w0 w (bk c1 t1 #[.pointer (some ⟨b, 0, none⟩)] :: buf x cap L :: ram r ws :: hb b r V :: bk c2 t2 #[.int .i64 a] :: bk c3 t3 #[.int .i64 z] :: bk c4 t4 #[.int .i64 0] :: F))) 0
    have q0 : w.cell? ⟨c2, 0, none⟩ = some (.int .i64 a) := cell_of_block (St.bk_at ((HS0.out).get 4 : St P0 w0 w (bk c2 t2 #[.int .i64 a] :: buf x cap L :: ram r ws :: hb b r V :: bk c1 t1 #[.pointer (some ⟨b, 0, none⟩)] :: bk c3 t3 #[.int .i64 z] :: bk c4 t4 #[.int .i64 0] :: F))) 0
    have u0 : w.cell? ⟨c3, 0, none⟩ = some (.int .i64 z) := cell_of_block (St.bk_at ((HS0.out).get 5 : St P0 w0 w (bk c3 t3 #[.int .i64 z] :: buf x cap L :: ram r ws :: hb b r V :: bk c1 t1 #[.pointer (some ⟨b, 0, none⟩)] :: bk c2 t2 #[.int .i64 a] :: bk c4 t4 #[.int .i64 0] :: F))) 0
    go_enter Try.func69, Try.ntmps69
    have HS1 : Hid (St P0 w0 w (ram r ws :: hb b r V :: buf x cap L :: bk c1 t1 #[.pointer (some ⟨b, 0, none⟩)] :: bk c2 t2 #[.int .i64 a] :: bk c3 t3 #[.int .i64 z] :: bk c4 t4 #[.int .i64 0] :: F)) := Lib.hid (((HS0.out).get 2).get 2)
    clear HS0
    go_wp2_with fail
    refine (wrong_st HS1.out a z).mono ?_
    rw [HWE.out]
    rintro e w2 ⟨rfl, hs⟩
    have HS2 : Hid (St P0 w0 w2 (ram r ws :: hb b r V :: buf x cap L :: bk c1 t1 #[.pointer (some ⟨b, 0, none⟩)] :: bk c2 t2 #[.int .i64 a] :: bk c3 t3 #[.int .i64 z] :: bk c4 t4 #[.int .i64 0] :: F)) := Lib.hid (hs)
    clear hs HS1
    clear p0 q0 u0
    have p0 : w2.cell? ⟨c1, 0, none⟩ = some (.pointer (some ⟨b, 0, none⟩)) := cell_of_block (St.bk_at ((HS2.out).get 3 : St P0 w0 w2 (bk c1 t1 #[.pointer (some ⟨b, 0, none⟩)] :: ram r ws :: hb b r V :: buf x cap L :: bk c2 t2 #[.int .i64 a] :: bk c3 t3 #[.int .i64 z] :: bk c4 t4 #[.int .i64 0] :: F))) 0
    have q0 : w2.cell? ⟨c2, 0, none⟩ = some (.int .i64 a) := cell_of_block (St.bk_at ((HS2.out).get 4 : St P0 w0 w2 (bk c2 t2 #[.int .i64 a] :: ram r ws :: hb b r V :: buf x cap L :: bk c1 t1 #[.pointer (some ⟨b, 0, none⟩)] :: bk c3 t3 #[.int .i64 z] :: bk c4 t4 #[.int .i64 0] :: F))) 0
    have u0 : w2.cell? ⟨c3, 0, none⟩ = some (.int .i64 z) := cell_of_block (St.bk_at ((HS2.out).get 5 : St P0 w0 w2 (bk c3 t3 #[.int .i64 z] :: ram r ws :: hb b r V :: buf x cap L :: bk c1 t1 #[.pointer (some ⟨b, 0, none⟩)] :: bk c2 t2 #[.int .i64 a] :: bk c4 t4 #[.int .i64 0] :: F))) 0
    go_wp2
    go_ret
    exact ⟨rfl, (((((((HS2.out).get 5).get 5).get 5).get 4).get 4).get 5).get 6⟩
end
end Go.Proofs.Ytlefefcakffepaa.Bus

/- bus's ask: nobody, no such core, and each of the closures that it is called with. -/
namespace Go.Proofs.Ytlefefcakffepaa.Bus
set_option linter.unusedVariables false
set_option linter.unusedSimpArgs false
open Go.RowKit Go.Proofs.Ytlefefcakffepaa.Sep Go.Proofs.Ytlefefcakffepaa.Sram Go.Proofs.Ytlefefcakffepaa.Find Go.Proofs.Ytlefefcakffepaa.Sbuf

theorem ask_nil (i : Int) (k : FuncId) (caps : Array Value) (w : World) : Calls Try.prog 35 #[.pointer none, .int .i64 i, .func (.func k) #[] caps] w fun e w' => e = .returned (.int .i64 1) ∧ w' = w := by
  go_enter Try.func35, Try.ntmps35
  go_wp2
  go_ret
  exact ⟨rfl, rfl⟩
theorem ask_no (b n c : Nat) (A : Option Addr) (i : Int) (k : FuncId) (caps : Array Value) (w : World) (hb : w.cell? ⟨b, 1, none⟩ = some (.slice A n c)) (hi : i < 0 ∨ (n : Int) ≤ i) : Calls Try.prog 35 #[.pointer (some ⟨b, 0, none⟩), .int .i64 i, .func (.func k) #[] caps] w fun e w' => e = .returned (.int .i64 3) ∧ w' = w := by
  have hg : decide (i < 0) = true ∨ (decide (i < 0) = false ∧ i ≥ (n : Int)) := by
    by_cases h : i < 0
    · exact .inl (decide_eq_true h)
    · exact .inr ⟨decide_eq_false h, by omega⟩
  clear hi
  rcases hg with hg | ⟨hg, hg'⟩
  all_goals
    go_enter Try.func35, Try.ntmps35
    go_wp2
    go_ret
    exact ⟨rfl, rfl⟩
theorem ask_Load (b g o n c i x : Nat) (t0 t1 t2 : Value) (w : World) (hb : w.cell? ⟨b, 1, none⟩ = some (.slice (some ⟨g, o, none⟩) n c)) (hx : w.cell? ⟨g, o + i, none⟩ = some (.pointer (some ⟨x, 0, none⟩))) (hi : i < n) {z : Int} {R : World → Prop} (hK : Calls Try.prog 60 #[.pointer (some ⟨x, 0, none⟩), t0, t1, t2] w fun e w' => e = .returned (.int .i64 z) ∧ R w') :
    Calls Try.prog 35 #[.pointer (some ⟨b, 0, none⟩), .int .i64 (i : Int), .func (.func 60) #[] #[t0, t1, t2]] w fun e w' => e = .returned (.int .i64 z) ∧ R w' := by
  have HK := Lib.hid hK
  have g0 : decide ((i : Int) < 0) = false := decide_eq_false (by omega)
  clear hK
  go_enter Try.func35, Try.ntmps35
  go_wp2_with (go_at_call 60; refine HK.out.mono ?_; rintro e w1 ⟨rfl, hr⟩; have HR := Lib.hid hr; clear hr)
  go_ret
  exact ⟨rfl, HR.out⟩
theorem ask_Store (b g o n c i x : Nat) (t0 t1 t2 : Value) (w : World) (hb : w.cell? ⟨b, 1, none⟩ = some (.slice (some ⟨g, o, none⟩) n c)) (hx : w.cell? ⟨g, o + i, none⟩ = some (.pointer (some ⟨x, 0, none⟩))) (hi : i < n) {z : Int} {R : World → Prop} (hK : Calls Try.prog 63 #[.pointer (some ⟨x, 0, none⟩), t0, t1, t2] w fun e w' => e = .returned (.int .i64 z) ∧ R w') :
    Calls Try.prog 35 #[.pointer (some ⟨b, 0, none⟩), .int .i64 (i : Int), .func (.func 63) #[] #[t0, t1, t2]] w fun e w' => e = .returned (.int .i64 z) ∧ R w' := by
  have HK := Lib.hid hK
  have g0 : decide ((i : Int) < 0) = false := decide_eq_false (by omega)
  clear hK
  go_enter Try.func35, Try.ntmps35
  go_wp2_with (go_at_call 63; refine HK.out.mono ?_; rintro e w1 ⟨rfl, hr⟩; have HR := Lib.hid hr; clear hr)
  go_ret
  exact ⟨rfl, HR.out⟩
theorem ask_Fence (b g o n c i x : Nat) (t0 t1 : Value) (w : World) (hb : w.cell? ⟨b, 1, none⟩ = some (.slice (some ⟨g, o, none⟩) n c)) (hx : w.cell? ⟨g, o + i, none⟩ = some (.pointer (some ⟨x, 0, none⟩))) (hi : i < n) {z : Int} {R : World → Prop} (hK : Calls Try.prog 36 #[.pointer (some ⟨x, 0, none⟩), t0, t1] w fun e w' => e = .returned (.int .i64 z) ∧ R w') :
    Calls Try.prog 35 #[.pointer (some ⟨b, 0, none⟩), .int .i64 (i : Int), .func (.func 36) #[] #[t0, t1]] w fun e w' => e = .returned (.int .i64 z) ∧ R w' := by
  have HK := Lib.hid hK
  have g0 : decide ((i : Int) < 0) = false := decide_eq_false (by omega)
  clear hK
  go_enter Try.func35, Try.ntmps35
  go_wp2_with (go_at_call 36; refine HK.out.mono ?_; rintro e w1 ⟨rfl, hr⟩; have HR := Lib.hid hr; clear hr)
  go_ret
  exact ⟨rfl, HR.out⟩
theorem ask_Drain (b g o n c i x : Nat) (t0 t1 : Value) (w : World) (hb : w.cell? ⟨b, 1, none⟩ = some (.slice (some ⟨g, o, none⟩) n c)) (hx : w.cell? ⟨g, o + i, none⟩ = some (.pointer (some ⟨x, 0, none⟩))) (hi : i < n) {z : Int} {R : World → Prop} (hK : Calls Try.prog 68 #[.pointer (some ⟨x, 0, none⟩), t0, t1] w fun e w' => e = .returned (.int .i64 z) ∧ R w') :
    Calls Try.prog 35 #[.pointer (some ⟨b, 0, none⟩), .int .i64 (i : Int), .func (.func 68) #[] #[t0, t1]] w fun e w' => e = .returned (.int .i64 z) ∧ R w' := by
  have HK := Lib.hid hK
  have g0 : decide ((i : Int) < 0) = false := decide_eq_false (by omega)
  clear hK
  go_enter Try.func35, Try.ntmps35
  go_wp2_with (go_at_call 68; refine HK.out.mono ?_; rintro e w1 ⟨rfl, hr⟩; have HR := Lib.hid hr; clear hr)
  go_ret
  exact ⟨rfl, HR.out⟩
theorem ask_Swap (b g o n c i x : Nat) (t0 t1 t2 t3 : Value) (w : World) (hb : w.cell? ⟨b, 1, none⟩ = some (.slice (some ⟨g, o, none⟩) n c)) (hx : w.cell? ⟨g, o + i, none⟩ = some (.pointer (some ⟨x, 0, none⟩))) (hi : i < n) {z : Int} {R : World → Prop} (hK : Calls Try.prog 69 #[.pointer (some ⟨x, 0, none⟩), t0, t1, t2, t3] w fun e w' => e = .returned (.int .i64 z) ∧ R w') :
    Calls Try.prog 35 #[.pointer (some ⟨b, 0, none⟩), .int .i64 (i : Int), .func (.func 69) #[] #[t0, t1, t2, t3]] w fun e w' => e = .returned (.int .i64 z) ∧ R w' := by
  have HK := Lib.hid hK
  have g0 : decide ((i : Int) < 0) = false := decide_eq_false (by omega)
  clear hK
  go_enter Try.func35, Try.ntmps35
  go_wp2_with (go_at_call 69; refine HK.out.mono ?_; rintro e w1 ⟨rfl, hr⟩; have HR := Lib.hid hr; clear hr)
  go_ret
  exact ⟨rfl, HR.out⟩
theorem ask_Lose (b g o n c i x : Nat) (t0 : Value) (w : World) (hb : w.cell? ⟨b, 1, none⟩ = some (.slice (some ⟨g, o, none⟩) n c)) (hx : w.cell? ⟨g, o + i, none⟩ = some (.pointer (some ⟨x, 0, none⟩))) (hi : i < n) {z : Int} {R : World → Prop} (hK : Calls Try.prog 71 #[.pointer (some ⟨x, 0, none⟩), t0] w fun e w' => e = .returned (.int .i64 z) ∧ R w') :
    Calls Try.prog 35 #[.pointer (some ⟨b, 0, none⟩), .int .i64 (i : Int), .func (.func 71) #[] #[t0]] w fun e w' => e = .returned (.int .i64 z) ∧ R w' := by
  have HK := Lib.hid hK
  have g0 : decide ((i : Int) < 0) = false := decide_eq_false (by omega)
  clear hK
  go_enter Try.func35, Try.ntmps35
  go_wp2_with (go_at_call 71; refine HK.out.mono ?_; rintro e w1 ⟨rfl, hr⟩; have HR := Lib.hid hr; clear hr)
  go_ret
  exact ⟨rfl, HR.out⟩
theorem ask_Waits (b g o n c i x : Nat) (t0 : Value) (w : World) (hb : w.cell? ⟨b, 1, none⟩ = some (.slice (some ⟨g, o, none⟩) n c)) (hx : w.cell? ⟨g, o + i, none⟩ = some (.pointer (some ⟨x, 0, none⟩))) (hi : i < n) {z : Int} {R : World → Prop} (hK : Calls Try.prog 50 #[.pointer (some ⟨x, 0, none⟩), t0] w fun e w' => e = .returned (.int .i64 z) ∧ R w') :
    Calls Try.prog 35 #[.pointer (some ⟨b, 0, none⟩), .int .i64 (i : Int), .func (.func 50) #[] #[t0]] w fun e w' => e = .returned (.int .i64 z) ∧ R w' := by
  have HK := Lib.hid hK
  have g0 : decide ((i : Int) < 0) = false := decide_eq_false (by omega)
  clear hK
  go_enter Try.func35, Try.ntmps35
  go_wp2_with (go_at_call 50; refine HK.out.mono ?_; rintro e w1 ⟨rfl, hr⟩; have HR := Lib.hid hr; clear hr)
  go_ret
  exact ⟨rfl, HR.out⟩
end Go.Proofs.Ytlefefcakffepaa.Bus

/- bus's methods that a core calls. -/
namespace Go.Proofs.Ytlefefcakffepaa.Bus
set_option linter.unusedVariables false
set_option linter.unusedSimpArgs false
open Go.RowKit Go.Proofs.Ytlefefcakffepaa.Sep Go.Proofs.Ytlefefcakffepaa.Sram Go.Proofs.Ytlefefcakffepaa.Find Go.Proofs.Ytlefefcakffepaa.Sbuf

abbrev inC (Ls : List (List W16)) (k : Int) : Prop := 0 ≤ k ∧ k < Ls.length
abbrev at_ (Ls : List (List W16)) (k : Int) : List W16 := Ls.getD k.toNat default
def loadB (ws : List Int) (Ls : List (List W16)) (k a : Int) : Int × Int := if inC Ls k then ldM ws (at_ Ls k) a else (0, 3)
def storeB (cap : Nat) (ws : List Int) (Ls : List (List W16)) (k a z : Int) : List Int × List (List W16) × Int := if inC Ls k then ((soM cap ws (at_ Ls k) a z).1, Ls.set k.toNat (soM cap ws (at_ Ls k) a z).2.1, (soM cap ws (at_ Ls k) a z).2.2) else (ws, Ls, 3)
def fenceB (ws : List Int) (Ls : List (List W16)) (k : Int) : List Int × List (List W16) × Int × Int := if inC Ls k then (feM ws (at_ Ls k), Ls.set k.toNat [], ((at_ Ls k).length : Int), 0) else (ws, Ls, 0, 3)
def drainB (ws : List Int) (Ls : List (List W16)) (k : Int) : List Int × List (List W16) × Bool × Int := if inC Ls k then ((drM ws (at_ Ls k)).1, Ls.set k.toNat (drM ws (at_ Ls k)).2, decide (0 < (at_ Ls k).length), 0) else (ws, Ls, false, 3)
def swapB (ws : List Int) (Ls : List (List W16)) (k a z : Int) : List Int × List (List W16) × Int × Int := if inC Ls k then ((swM ws (at_ Ls k) a z).1, Ls.set k.toNat (swM ws (at_ Ls k) a z).2.1, (swM ws (at_ Ls k) a z).2.2.1, (swM ws (at_ Ls k) a z).2.2.2) else (ws, Ls, 0, 3)
def loseB (Ls : List (List W16)) (k : Int) : List (List W16) × Int × Int := if inC Ls k then (Ls.set k.toNat [], ((at_ Ls k).length : Int), 0) else (Ls, 0, 3)
def waitsB (Ls : List (List W16)) (k : Int) : List W16 := if inC Ls k then at_ Ls k else []
theorem set_self (Ls : List (List W16)) (i : Nat) (hi : i < Ls.length) : Ls.set i (Ls.getD i default) = Ls := by
  rw [List.getD_eq_getElem?_getD, List.getElem?_eq_getElem hi]
  simp
section
variable {P0 : Nat → Prop} {w0 w w' : World} {F : List Rg} {b cap : Nat} {ws : List Int} {Ls : List (List W16)}
set_option maxHeartbeats 2000000 in
theorem Load_st (h : St P0 w0 w (bus b cap ws Ls :: F)) (core : Int) (a : Int) : Calls Try.prog 28 #[.pointer (some ⟨b, 0, none⟩), .int .i64 core, .int .i64 a] w fun e w' => e = .returned (.tuple #[.int .i64 (loadB ws Ls core a).1, .int .i64 (loadB ws Ls core a).2]) ∧ St P0 w0 w' (bus b cap ws Ls :: F) := by
  obtain ⟨r, g, o, c, hm, h1⟩ := bus_form h
  have ha := (((h1.alloc #[.pointer (some ⟨b, 0, none⟩)] 23).alloc #[.int .i64 a] 3).alloc #[.int .i64 0] 3)
  simp only [World.size_alloc] at ha
  have hbk : (((w.alloc (.cells #[.pointer (some ⟨b, 0, none⟩)] 23)).alloc (.cells #[.int .i64 a] 3)).alloc (.cells #[.int .i64 0] 3)).cell? ⟨b, 1, none⟩ = some (.slice (some ⟨g, o, none⟩) Ls.length c) := cell_of_block (ha.get 3).bk_at 1
  by_cases hi : 0 ≤ core ∧ core < Ls.length
  · obtain ⟨i, rfl⟩ := Int.eq_ofNat_of_zero_le hi.1
    have hi' : i < Ls.length := by omega
    have E : loadB ws Ls (i : Int) a = ldM ws (Ls.getD i default) a := by unfold loadB; rw [if_pos hi]; rfl
    rw [E]
    obtain ⟨x, hx, h2⟩ := bus_open (F := bk (w.heap.size + 1 + 1) 3 #[.int .i64 0] :: bk (w.heap.size + 1) 3 #[.int .i64 a] :: bk w.heap.size 23 #[.pointer (some ⟨b, 0, none⟩)] :: F) (((((((ha).get 2).get 2).get 2).get 5).get 5).get 5) i hi'
    have hc := load_clo (F := bufx cap (.slice (some ⟨g, o, none⟩) Ls.length c) Ls i x :: F) ((((((((h2).get 3).get 4).get 5).get 6).get 6).get 6).get 6)
    have HK := Lib.hid (ask_Load b g o Ls.length c i x (.pointer (some ⟨w.heap.size, 0, none⟩)) (.pointer (some ⟨w.heap.size + 1, 0, none⟩)) (.pointer (some ⟨w.heap.size + 1 + 1, 0, none⟩)) _ hbk hx hi' hc)
    have HM := Lib.hid hm
    have HI := Lib.hid hi'
    have HSS := Lib.hid (set_self Ls i hi')
    clear h h1 ha h2 hbk hx hc hm hi hi' E
    generalize (ldM ws (Ls.getD i default) a).1 = u at *
    generalize (ldM ws (Ls.getD i default) a).2 = v at *
    go_enter Try.func28, Try.ntmps28
    go_wp2_with (go_at_call 35; refine HK.out.mono ?_; rintro e w2 ⟨rfl, hs⟩; have HS := Lib.hid hs; have c0 : w2.cell? ⟨w.heap.size + 1 + 1, 0, none⟩ = some (.int .i64 u) := cell_of_block hs.bk_at 0; have f0 : w2.frozen? ⟨w.heap.size + 1 + 1, 0, none⟩ = false := free_of_block hs.bk_at 0; clear hs)
    have hf := bus_close HM.out HI.out ((((((((((((HS.out.set 0 (.int .i64 u))).get 5).get 5).get 2).get 6).get 6).get 6).get 6).cut 4).cut 4).cut 4)
    rw [HSS.out] at hf
    refine bodyPost_ret (v := .tuple #[.int .i64 u, .int .i64 v]) ?_ rfl ⟨rfl, hf⟩
    simp [results, Try.results28, go_sem, *]
  · have E : loadB ws Ls core a = (0, 3) := if_neg hi
    rw [E]
    have HK := Lib.hid (fun k caps => ask_no b Ls.length c (some ⟨g, o, none⟩) core k caps _ hbk (by omega))
    have HS := Lib.hid ha
    have c0 : (((w.alloc (.cells #[.pointer (some ⟨b, 0, none⟩)] 23)).alloc (.cells #[.int .i64 a] 3)).alloc (.cells #[.int .i64 0] 3)).cell? ⟨w.heap.size + 1 + 1, 0, none⟩ = some (.int .i64 0) := cell_of_block (St.bk_at (((((((ha).get 5).get 5).get 5).get 5).get 5).get 5)) 0
    have f0 : (((w.alloc (.cells #[.pointer (some ⟨b, 0, none⟩)] 23)).alloc (.cells #[.int .i64 a] 3)).alloc (.cells #[.int .i64 0] 3)).frozen? ⟨w.heap.size + 1 + 1, 0, none⟩ = false := free_of_block (St.bk_at (((((((ha).get 5).get 5).get 5).get 5).get 5).get 5)) 0
    have HM := Lib.hid hm
    clear h h1 ha hbk E hm hi
    go_enter Try.func28, Try.ntmps28
    go_wp2_with (go_at_call 35; refine (HK.out _ _).mono ?_; rintro e w2 ⟨rfl, rfl⟩)
    refine bodyPost_ret (v := .tuple #[.int .i64 0, .int .i64 3]) ?_ rfl ⟨rfl, bus_shut HM.out ((((HS.out).drop).drop).drop)⟩
    simp [results, Try.results28, go_sem, *]
set_option maxHeartbeats 2000000 in
theorem Store_st (h : St P0 w0 w (bus b cap ws Ls :: F)) (core : Int) (a : Int) (z : Int) : Calls Try.prog 29 #[.pointer (some ⟨b, 0, none⟩), .int .i64 core, .int .i64 a, .int .i64 z] w fun e w' => e = .returned (.int .i64 (storeB cap ws Ls core a z).2.2) ∧ St P0 w0 w' (bus b cap (storeB cap ws Ls core a z).1 (storeB cap ws Ls core a z).2.1 :: F) := by
  obtain ⟨r, g, o, c, hm, h1⟩ := bus_form h
  have ha := (((h1.alloc #[.pointer (some ⟨b, 0, none⟩)] 23).alloc #[.int .i64 a] 3).alloc #[.int .i64 z] 3)
  simp only [World.size_alloc] at ha
  have hbk : (((w.alloc (.cells #[.pointer (some ⟨b, 0, none⟩)] 23)).alloc (.cells #[.int .i64 a] 3)).alloc (.cells #[.int .i64 z] 3)).cell? ⟨b, 1, none⟩ = some (.slice (some ⟨g, o, none⟩) Ls.length c) := cell_of_block (ha.get 3).bk_at 1
  by_cases hi : 0 ≤ core ∧ core < Ls.length
  · obtain ⟨i, rfl⟩ := Int.eq_ofNat_of_zero_le hi.1
    have hi' : i < Ls.length := by omega
    have E : storeB cap ws Ls (i : Int) a z = ((soM cap ws (Ls.getD i default) a z).1, Ls.set i (soM cap ws (Ls.getD i default) a z).2.1, (soM cap ws (Ls.getD i default) a z).2.2) := by unfold storeB; rw [if_pos hi]; rfl
    rw [E]
    obtain ⟨x, hx, h2⟩ := bus_open (F := bk (w.heap.size + 1 + 1) 3 #[.int .i64 z] :: bk (w.heap.size + 1) 3 #[.int .i64 a] :: bk w.heap.size 23 #[.pointer (some ⟨b, 0, none⟩)] :: F) (((((((ha).get 2).get 2).get 2).get 5).get 5).get 5) i hi'
    have hc := store_clo (F := bufx cap (.slice (some ⟨g, o, none⟩) Ls.length c) Ls i x :: F) ((((((((h2).get 3).get 4).get 5).get 6).get 6).get 6).get 6)
    have HK := Lib.hid (ask_Store b g o Ls.length c i x (.pointer (some ⟨w.heap.size, 0, none⟩)) (.pointer (some ⟨w.heap.size + 1, 0, none⟩)) (.pointer (some ⟨w.heap.size + 1 + 1, 0, none⟩)) _ hbk hx hi' hc)
    have HM := Lib.hid hm
    have HI := Lib.hid hi'
    clear h h1 ha h2 hbk hx hc hm hi hi' E
    go_enter Try.func29, Try.ntmps29
    go_wp2_with (go_at_call 35; refine HK.out.mono ?_; rintro e w2 ⟨rfl, hs⟩; have HS := Lib.hid hs; clear hs)
    go_ret
    exact ⟨rfl, bus_close HM.out HI.out (((((((((((HS.out).get 5).get 5).get 5).get 6).get 6).get 6).get 6).cut 4).cut 4).cut 4)⟩
  · have E : storeB cap ws Ls core a z = (ws, Ls, 3) := if_neg hi
    rw [E]
    have HK := Lib.hid (fun k caps => ask_no b Ls.length c (some ⟨g, o, none⟩) core k caps _ hbk (by omega))
    have HS := Lib.hid ha
    have HM := Lib.hid hm
    clear h h1 ha hbk E hm hi
    go_enter Try.func29, Try.ntmps29
    go_wp2_with (go_at_call 35; refine (HK.out _ _).mono ?_; rintro e w2 ⟨rfl, rfl⟩)
    go_ret
    exact ⟨rfl, bus_shut HM.out ((((HS.out).drop).drop).drop)⟩
set_option maxHeartbeats 2000000 in
theorem Fence_st (h : St P0 w0 w (bus b cap ws Ls :: F)) (core : Int) : Calls Try.prog 13 #[.pointer (some ⟨b, 0, none⟩), .int .i64 core] w fun e w' => e = .returned (.tuple #[.int .i64 (fenceB ws Ls core).2.2.1, .int .i64 (fenceB ws Ls core).2.2.2]) ∧ St P0 w0 w' (bus b cap (fenceB ws Ls core).1 (fenceB ws Ls core).2.1 :: F) := by
  obtain ⟨r, g, o, c, hm, h1⟩ := bus_form h
  have ha := ((h1.alloc #[.pointer (some ⟨b, 0, none⟩)] 23).alloc #[.int .i64 0] 3)
  simp only [World.size_alloc] at ha
  have hbk : ((w.alloc (.cells #[.pointer (some ⟨b, 0, none⟩)] 23)).alloc (.cells #[.int .i64 0] 3)).cell? ⟨b, 1, none⟩ = some (.slice (some ⟨g, o, none⟩) Ls.length c) := cell_of_block (ha.get 2).bk_at 1
  by_cases hi : 0 ≤ core ∧ core < Ls.length
  · obtain ⟨i, rfl⟩ := Int.eq_ofNat_of_zero_le hi.1
    have hi' : i < Ls.length := by omega
    have E : fenceB ws Ls (i : Int) = (feM ws (Ls.getD i default), Ls.set i [], ((Ls.getD i default).length : Int), 0) := by unfold fenceB; rw [if_pos hi]; rfl
    rw [E]
    obtain ⟨x, hx, h2⟩ := bus_open (F := bk (w.heap.size + 1) 3 #[.int .i64 0] :: bk w.heap.size 23 #[.pointer (some ⟨b, 0, none⟩)] :: F) ((((((ha).get 1).get 1).get 4).get 4).get 4) i hi'
    have hc := fence_clo (F := bufx cap (.slice (some ⟨g, o, none⟩) Ls.length c) Ls i x :: F) (((((((h2).get 3).get 4).get 5).get 5).get 5).get 5)
    have HK := Lib.hid (ask_Fence b g o Ls.length c i x (.pointer (some ⟨w.heap.size, 0, none⟩)) (.pointer (some ⟨w.heap.size + 1, 0, none⟩)) _ hbk hx hi' hc)
    have HM := Lib.hid hm
    have HI := Lib.hid hi'
    clear h h1 ha h2 hbk hx hc hm hi hi' E
    go_enter Try.func13, Try.ntmps13
    go_wp2_with (go_at_call 35; refine HK.out.mono ?_; rintro e w2 ⟨rfl, hs⟩; have HS := Lib.hid hs; have c0 : w2.cell? ⟨w.heap.size + 1, 0, none⟩ = some (.int .i64 ((Ls.getD i default).length : Int)) := cell_of_block hs.bk_at 0; have f0 : w2.frozen? ⟨w.heap.size + 1, 0, none⟩ = false := free_of_block hs.bk_at 0; clear hs)
    refine bodyPost_ret (v := .tuple #[.int .i64 ((Ls.getD i default).length : Int), .int .i64 0]) ?_ rfl ⟨rfl, bus_close HM.out HI.out ((((((((((HS.out.set 0 (.int .i64 ((Ls.getD i default).length : Int)))).get 4).get 1).get 5).get 5).get 5).get 5).cut 4).cut 4)⟩
    simp [results, Try.results13, go_sem, *]
  · have E : fenceB ws Ls core = (ws, Ls, 0, 3) := if_neg hi
    rw [E]
    have HK := Lib.hid (fun k caps => ask_no b Ls.length c (some ⟨g, o, none⟩) core k caps _ hbk (by omega))
    have HS := Lib.hid ha
    have c0 : ((w.alloc (.cells #[.pointer (some ⟨b, 0, none⟩)] 23)).alloc (.cells #[.int .i64 0] 3)).cell? ⟨w.heap.size + 1, 0, none⟩ = some (.int .i64 0) := cell_of_block (St.bk_at ((((((ha).get 4).get 4).get 4).get 4).get 4)) 0
    have f0 : ((w.alloc (.cells #[.pointer (some ⟨b, 0, none⟩)] 23)).alloc (.cells #[.int .i64 0] 3)).frozen? ⟨w.heap.size + 1, 0, none⟩ = false := free_of_block (St.bk_at ((((((ha).get 4).get 4).get 4).get 4).get 4)) 0
    have HM := Lib.hid hm
    clear h h1 ha hbk E hm hi
    go_enter Try.func13, Try.ntmps13
    go_wp2_with (go_at_call 35; refine (HK.out _ _).mono ?_; rintro e w2 ⟨rfl, rfl⟩)
    refine bodyPost_ret (v := .tuple #[.int .i64 0, .int .i64 3]) ?_ rfl ⟨rfl, bus_shut HM.out (((HS.out).drop).drop)⟩
    simp [results, Try.results13, go_sem, *]
set_option maxHeartbeats 2000000 in
theorem Drain_st (h : St P0 w0 w (bus b cap ws Ls :: F)) (core : Int) : Calls Try.prog 32 #[.pointer (some ⟨b, 0, none⟩), .int .i64 core] w fun e w' => e = .returned (.tuple #[.bool (drainB ws Ls core).2.2.1, .int .i64 (drainB ws Ls core).2.2.2]) ∧ St P0 w0 w' (bus b cap (drainB ws Ls core).1 (drainB ws Ls core).2.1 :: F) := by
  obtain ⟨r, g, o, c, hm, h1⟩ := bus_form h
  have ha := ((h1.alloc #[.pointer (some ⟨b, 0, none⟩)] 23).alloc #[.bool false] 4)
  simp only [World.size_alloc] at ha
  have hbk : ((w.alloc (.cells #[.pointer (some ⟨b, 0, none⟩)] 23)).alloc (.cells #[.bool false] 4)).cell? ⟨b, 1, none⟩ = some (.slice (some ⟨g, o, none⟩) Ls.length c) := cell_of_block (ha.get 2).bk_at 1
  by_cases hi : 0 ≤ core ∧ core < Ls.length
  · obtain ⟨i, rfl⟩ := Int.eq_ofNat_of_zero_le hi.1
    have hi' : i < Ls.length := by omega
    have E : drainB ws Ls (i : Int) = ((drM ws (Ls.getD i default)).1, Ls.set i (drM ws (Ls.getD i default)).2, decide (0 < (Ls.getD i default).length), 0) := by unfold drainB; rw [if_pos hi]; rfl
    rw [E]
    obtain ⟨x, hx, h2⟩ := bus_open (F := bk (w.heap.size + 1) 4 #[.bool false] :: bk w.heap.size 23 #[.pointer (some ⟨b, 0, none⟩)] :: F) ((((((ha).get 1).get 1).get 4).get 4).get 4) i hi'
    have hc := drain_clo (F := bufx cap (.slice (some ⟨g, o, none⟩) Ls.length c) Ls i x :: F) (((((((h2).get 3).get 4).get 5).get 5).get 5).get 5)
    have HK := Lib.hid (ask_Drain b g o Ls.length c i x (.pointer (some ⟨w.heap.size, 0, none⟩)) (.pointer (some ⟨w.heap.size + 1, 0, none⟩)) _ hbk hx hi' hc)
    have HM := Lib.hid hm
    have HI := Lib.hid hi'
    clear h h1 ha h2 hbk hx hc hm hi hi' E
    generalize decide (0 < (Ls.getD i default).length) = ok at *
    go_enter Try.func32, Try.ntmps32
    go_wp2_with (go_at_call 35; refine HK.out.mono ?_; rintro e w2 ⟨rfl, hs⟩; have HS := Lib.hid hs; have c0 : w2.cell? ⟨w.heap.size + 1, 0, none⟩ = some (.bool (ok)) := cell_of_block hs.bk_at 0; have f0 : w2.frozen? ⟨w.heap.size + 1, 0, none⟩ = false := free_of_block hs.bk_at 0; clear hs)
    refine bodyPost_ret (v := .tuple #[.bool (ok), .int .i64 0]) ?_ rfl ⟨rfl, bus_close HM.out HI.out ((((((((((HS.out.set 0 (.bool (ok)))).get 4).get 1).get 5).get 5).get 5).get 5).cut 4).cut 4)⟩
    simp [results, Try.results32, go_sem, *]
  · have E : drainB ws Ls core = (ws, Ls, false, 3) := if_neg hi
    rw [E]
    have HK := Lib.hid (fun k caps => ask_no b Ls.length c (some ⟨g, o, none⟩) core k caps _ hbk (by omega))
    have HS := Lib.hid ha
    have c0 : ((w.alloc (.cells #[.pointer (some ⟨b, 0, none⟩)] 23)).alloc (.cells #[.bool false] 4)).cell? ⟨w.heap.size + 1, 0, none⟩ = some (.bool false) := cell_of_block (St.bk_at ((((((ha).get 4).get 4).get 4).get 4).get 4)) 0
    have f0 : ((w.alloc (.cells #[.pointer (some ⟨b, 0, none⟩)] 23)).alloc (.cells #[.bool false] 4)).frozen? ⟨w.heap.size + 1, 0, none⟩ = false := free_of_block (St.bk_at ((((((ha).get 4).get 4).get 4).get 4).get 4)) 0
    have HM := Lib.hid hm
    clear h h1 ha hbk E hm hi
    go_enter Try.func32, Try.ntmps32
    go_wp2_with (go_at_call 35; refine (HK.out _ _).mono ?_; rintro e w2 ⟨rfl, rfl⟩)
    refine bodyPost_ret (v := .tuple #[.bool false, .int .i64 3]) ?_ rfl ⟨rfl, bus_shut HM.out (((HS.out).drop).drop)⟩
    simp [results, Try.results32, go_sem, *]
set_option maxHeartbeats 2000000 in
theorem Swap_st (h : St P0 w0 w (bus b cap ws Ls :: F)) (core : Int) (a : Int) (z : Int) : Calls Try.prog 33 #[.pointer (some ⟨b, 0, none⟩), .int .i64 core, .int .i64 a, .int .i64 z] w fun e w' => e = .returned (.tuple #[.int .i64 (swapB ws Ls core a z).2.2.1, .int .i64 (swapB ws Ls core a z).2.2.2]) ∧ St P0 w0 w' (bus b cap (swapB ws Ls core a z).1 (swapB ws Ls core a z).2.1 :: F) := by
  obtain ⟨r, g, o, c, hm, h1⟩ := bus_form h
  have ha := ((((h1.alloc #[.pointer (some ⟨b, 0, none⟩)] 23).alloc #[.int .i64 a] 3).alloc #[.int .i64 z] 3).alloc #[.int .i64 0] 3)
  simp only [World.size_alloc] at ha
  have hbk : ((((w.alloc (.cells #[.pointer (some ⟨b, 0, none⟩)] 23)).alloc (.cells #[.int .i64 a] 3)).alloc (.cells #[.int .i64 z] 3)).alloc (.cells #[.int .i64 0] 3)).cell? ⟨b, 1, none⟩ = some (.slice (some ⟨g, o, none⟩) Ls.length c) := cell_of_block (ha.get 4).bk_at 1
  by_cases hi : 0 ≤ core ∧ core < Ls.length
  · obtain ⟨i, rfl⟩ := Int.eq_ofNat_of_zero_le hi.1
    have hi' : i < Ls.length := by omega
    have E : swapB ws Ls (i : Int) a z = ((swM ws (Ls.getD i default) a z).1, Ls.set i (swM ws (Ls.getD i default) a z).2.1, (swM ws (Ls.getD i default) a z).2.2.1, (swM ws (Ls.getD i default) a z).2.2.2) := by unfold swapB; rw [if_pos hi]; rfl
    rw [E]
    obtain ⟨x, hx, h2⟩ := bus_open (F := bk (w.heap.size + 1 + 1 + 1) 3 #[.int .i64 0] :: bk (w.heap.size + 1 + 1) 3 #[.int .i64 z] :: bk (w.heap.size + 1) 3 #[.int .i64 a] :: bk w.heap.size 23 #[.pointer (some ⟨b, 0, none⟩)] :: F) ((((((((ha).get 3).get 3).get 3).get 3).get 6).get 6).get 6) i hi'
    have hc := swap_clo (F := bufx cap (.slice (some ⟨g, o, none⟩) Ls.length c) Ls i x :: F) (((((((((h2).get 3).get 4).get 5).get 6).get 7).get 7).get 7).get 7)
    have HK := Lib.hid (ask_Swap b g o Ls.length c i x (.pointer (some ⟨w.heap.size, 0, none⟩)) (.pointer (some ⟨w.heap.size + 1, 0, none⟩)) (.pointer (some ⟨w.heap.size + 1 + 1, 0, none⟩)) (.pointer (some ⟨w.heap.size + 1 + 1 + 1, 0, none⟩)) _ hbk hx hi' hc)
    have HM := Lib.hid hm
    have HI := Lib.hid hi'
    clear h h1 ha h2 hbk hx hc hm hi hi' E
    go_enter Try.func33, Try.ntmps33
    go_wp2_with (go_at_call 35; refine HK.out.mono ?_; rintro e w2 ⟨rfl, hs⟩; have HS := Lib.hid hs; have c0 : w2.cell? ⟨w.heap.size + 1 + 1 + 1, 0, none⟩ = some (.int .i64 (swM ws (Ls.getD i default) a z).2.2.1) := cell_of_block hs.bk_at 0; have f0 : w2.frozen? ⟨w.heap.size + 1 + 1 + 1, 0, none⟩ = false := free_of_block hs.bk_at 0; clear hs)
    refine bodyPost_ret (v := .tuple #[.int .i64 (swM ws (Ls.getD i default) a z).2.2.1, .int .i64 (swM ws (Ls.getD i default) a z).2.2.2]) ?_ rfl ⟨rfl, bus_close HM.out HI.out ((((((((((((((HS.out.set 0 (.int .i64 (swM ws (Ls.getD i default) a z).2.2.1))).get 6).get 6).get 6).get 3).get 7).get 7).get 7).get 7).cut 4).cut 4).cut 4).cut 4)⟩
    simp [results, Try.results33, go_sem, *]
  · have E : swapB ws Ls core a z = (ws, Ls, 0, 3) := if_neg hi
    rw [E]
    have HK := Lib.hid (fun k caps => ask_no b Ls.length c (some ⟨g, o, none⟩) core k caps _ hbk (by omega))
    have HS := Lib.hid ha
    have c0 : ((((w.alloc (.cells #[.pointer (some ⟨b, 0, none⟩)] 23)).alloc (.cells #[.int .i64 a] 3)).alloc (.cells #[.int .i64 z] 3)).alloc (.cells #[.int .i64 0] 3)).cell? ⟨w.heap.size + 1 + 1 + 1, 0, none⟩ = some (.int .i64 0) := cell_of_block (St.bk_at ((((((((ha).get 6).get 6).get 6).get 6).get 6).get 6).get 6)) 0
    have f0 : ((((w.alloc (.cells #[.pointer (some ⟨b, 0, none⟩)] 23)).alloc (.cells #[.int .i64 a] 3)).alloc (.cells #[.int .i64 z] 3)).alloc (.cells #[.int .i64 0] 3)).frozen? ⟨w.heap.size + 1 + 1 + 1, 0, none⟩ = false := free_of_block (St.bk_at ((((((((ha).get 6).get 6).get 6).get 6).get 6).get 6).get 6)) 0
    have HM := Lib.hid hm
    clear h h1 ha hbk E hm hi
    go_enter Try.func33, Try.ntmps33
    go_wp2_with (go_at_call 35; refine (HK.out _ _).mono ?_; rintro e w2 ⟨rfl, rfl⟩)
    refine bodyPost_ret (v := .tuple #[.int .i64 0, .int .i64 3]) ?_ rfl ⟨rfl, bus_shut HM.out (((((HS.out).drop).drop).drop).drop)⟩
    simp [results, Try.results33, go_sem, *]
set_option maxHeartbeats 2000000 in
theorem Lose_st (h : St P0 w0 w (bus b cap ws Ls :: F)) (core : Int) : Calls Try.prog 34 #[.pointer (some ⟨b, 0, none⟩), .int .i64 core] w fun e w' => e = .returned (.tuple #[.int .i64 (loseB Ls core).2.1, .int .i64 (loseB Ls core).2.2]) ∧ St P0 w0 w' (bus b cap ws (loseB Ls core).1 :: F) := by
  obtain ⟨r, g, o, c, hm, h1⟩ := bus_form h
  have ha := (h1.alloc #[.int .i64 0] 3)
  have hbk : (w.alloc (.cells #[.int .i64 0] 3)).cell? ⟨b, 1, none⟩ = some (.slice (some ⟨g, o, none⟩) Ls.length c) := cell_of_block (ha.get 1).bk_at 1
  by_cases hi : 0 ≤ core ∧ core < Ls.length
  · obtain ⟨i, rfl⟩ := Int.eq_ofNat_of_zero_le hi.1
    have hi' : i < Ls.length := by omega
    have E : loseB Ls (i : Int) = (Ls.set i [], ((Ls.getD i default).length : Int), 0) := by unfold loseB; rw [if_pos hi]; rfl
    rw [E]
    obtain ⟨x, hx, h2⟩ := bus_open (F := bk w.heap.size 3 #[.int .i64 0] :: F) ((((ha).get 3).get 3).get 3) i hi'
    have hc := lose_clo (F := bufx cap (.slice (some ⟨g, o, none⟩) Ls.length c) Ls i x :: F) ((((((h2).get 3).get 4).get 4).get 4).get 4)
    have HK := Lib.hid (ask_Lose b g o Ls.length c i x (.pointer (some ⟨w.heap.size, 0, none⟩)) _ hbk hx hi' hc)
    have HM := Lib.hid hm
    have HI := Lib.hid hi'
    clear h h1 ha h2 hbk hx hc hm hi hi' E
    go_enter Try.func34, Try.ntmps34
    go_wp2_with (go_at_call 35; refine HK.out.mono ?_; rintro e w2 ⟨rfl, hs⟩; have HS := Lib.hid hs; have c0 : w2.cell? ⟨w.heap.size, 0, none⟩ = some (.int .i64 ((Ls.getD i default).length : Int)) := cell_of_block hs.bk_at 0; have f0 : w2.frozen? ⟨w.heap.size, 0, none⟩ = false := free_of_block hs.bk_at 0; clear hs)
    refine bodyPost_ret (v := .tuple #[.int .i64 ((Ls.getD i default).length : Int), .int .i64 0]) ?_ rfl ⟨rfl, bus_close HM.out HI.out (((((((HS.out.set 0 (.int .i64 ((Ls.getD i default).length : Int)))).get 4).get 4).get 4).get 4).cut 4)⟩
    simp [results, Try.results34, go_sem, *]
  · have E : loseB Ls core = (Ls, 0, 3) := if_neg hi
    rw [E]
    have HK := Lib.hid (fun k caps => ask_no b Ls.length c (some ⟨g, o, none⟩) core k caps _ hbk (by omega))
    have HS := Lib.hid ha
    have c0 : (w.alloc (.cells #[.int .i64 0] 3)).cell? ⟨w.heap.size, 0, none⟩ = some (.int .i64 0) := cell_of_block (St.bk_at (((((ha).get 3).get 3).get 3).get 3)) 0
    have f0 : (w.alloc (.cells #[.int .i64 0] 3)).frozen? ⟨w.heap.size, 0, none⟩ = false := free_of_block (St.bk_at (((((ha).get 3).get 3).get 3).get 3)) 0
    have HM := Lib.hid hm
    clear h h1 ha hbk E hm hi
    go_enter Try.func34, Try.ntmps34
    go_wp2_with (go_at_call 35; refine (HK.out _ _).mono ?_; rintro e w2 ⟨rfl, rfl⟩)
    refine bodyPost_ret (v := .tuple #[.int .i64 0, .int .i64 3]) ?_ rfl ⟨rfl, bus_shut HM.out ((HS.out).drop)⟩
    simp [results, Try.results34, go_sem, *]
set_option maxHeartbeats 2000000 in
theorem Waits_st (h : St P0 w0 w (bus b cap ws Ls :: F)) (core : Int) : Calls Try.prog 22 #[.pointer (some ⟨b, 0, none⟩), .int .i64 core] w fun e w' => ∃ A c, e = .returned (.slice A (waitsB Ls core).length c) ∧ St P0 w0 w' (cl (.slice A (waitsB Ls core).length c) (waitsB Ls core) :: bus b cap ws Ls :: F) := by
  obtain ⟨r, g, o, c, hm, h1⟩ := bus_form h
  have ha := (h1.alloc #[.slice none 0 0] 56)
  have hbk : (w.alloc (.cells #[.slice none 0 0] 56)).cell? ⟨b, 1, none⟩ = some (.slice (some ⟨g, o, none⟩) Ls.length c) := cell_of_block (ha.get 1).bk_at 1
  by_cases hi : 0 ≤ core ∧ core < Ls.length
  · obtain ⟨i, rfl⟩ := Int.eq_ofNat_of_zero_le hi.1
    have hi' : i < Ls.length := by omega
    have E : waitsB Ls (i : Int) = (Ls.getD i default) := by unfold waitsB; rw [if_pos hi]; rfl
    rw [E]
    obtain ⟨x, hx, h2⟩ := bus_open (F := bk w.heap.size 56 #[.slice none 0 0] :: F) ((((ha).get 3).get 3).get 3) i hi'
    have hc := waits_clo (F := bufx cap (.slice (some ⟨g, o, none⟩) Ls.length c) Ls i x :: F) ((((((h2).get 3).get 4).get 4).get 4).get 4)
    have hc := hc.mono (R' := fun e w' => e = .returned (.int .i64 0) ∧ ∃ A c9, St P0 w0 w' (bk w.heap.size 56 #[.slice A (Ls.getD i default).length c9] :: cl (.slice A (Ls.getD i default).length c9) (Ls.getD i default) :: buf x cap (Ls.getD i default) :: ram r ws :: hb b r (.slice (some ⟨g, o, none⟩) Ls.length c) :: bufx cap (.slice (some ⟨g, o, none⟩) Ls.length c) Ls i x :: F)) (by
      rintro e w' ⟨A, c9, h1, h2⟩
      exact ⟨h1, A, c9, h2⟩)
    have HK := Lib.hid (ask_Waits b g o Ls.length c i x (.pointer (some ⟨w.heap.size, 0, none⟩)) _ hbk hx hi' hc)
    have HM := Lib.hid hm
    have HI := Lib.hid hi'
    have HSS := Lib.hid (set_self Ls i hi')
    clear h h1 ha h2 hbk hx hc hm hi hi' E
    go_enter Try.func22, Try.ntmps22
    go_wp2_with (go_at_call 35; refine HK.out.mono ?_; rintro e w2 ⟨rfl, A, c9, hs⟩; have HS := Lib.hid hs; have c0 : w2.cell? ⟨w.heap.size, 0, none⟩ = some (.slice A (Ls.getD i default).length c9) := cell_of_block hs.bk_at 0; have f0 : w2.frozen? ⟨w.heap.size, 0, none⟩ = false := free_of_block hs.bk_at 0; clear hs)
    have hf := bus_close HM.out HI.out ((((((((HS.out.set 0 (.slice A (Ls.getD i default).length c9))).get 1).get 5).get 5).get 5).get 5).cut 5)
    rw [HSS.out] at hf
    refine bodyPost_ret (v := .slice A (Ls.getD i default).length c9) ?_ rfl ⟨_, _, rfl, hf.get 1⟩
    simp [results, Try.results22, go_sem, *]
  · have E : waitsB Ls core = [] := if_neg hi
    rw [E]
    have HK := Lib.hid (fun k caps => ask_no b Ls.length c (some ⟨g, o, none⟩) core k caps _ hbk (by omega))
    have HS := Lib.hid ha
    have c0 : (w.alloc (.cells #[.slice none 0 0] 56)).cell? ⟨w.heap.size, 0, none⟩ = some (.slice none 0 0) := cell_of_block (St.bk_at (((((ha).get 3).get 3).get 3).get 3)) 0
    have f0 : (w.alloc (.cells #[.slice none 0 0] 56)).frozen? ⟨w.heap.size, 0, none⟩ = false := free_of_block (St.bk_at (((((ha).get 3).get 3).get 3).get 3)) 0
    have HM := Lib.hid hm
    clear h h1 ha hbk E hm hi
    go_enter Try.func22, Try.ntmps22
    go_wp2_with (go_at_call 35; refine (HK.out _ _).mono ?_; rintro e w2 ⟨rfl, rfl⟩)
    refine bodyPost_ret (v := .slice none 0 0) ?_ rfl ⟨none, 0, rfl, by simpa using (St.fresh (M := [cl (.slice none 0 0) []]) (bus_shut HM.out ((HS.out).drop)) (Up.refl _) ⟨No, No, fun _ e => e.elim, fun _ e => e.elim, fun _ e => e.elim, slc_nil _ _ _ _, trivial⟩)⟩
    simp [results, Try.results22, go_sem, *]
end
end Go.Proofs.Ytlefefcakffepaa.Bus

/- bus.New. -/
namespace Go.Proofs.Ytlefefcakffepaa.Bus
set_option linter.unusedVariables false
set_option linter.unusedSimpArgs false
open Go.RowKit Go.Proofs.Ytlefefcakffepaa.Sep Go.Proofs.Ytlefefcakffepaa.Sram Go.Proofs.Ytlefefcakffepaa.Find Go.Proofs.Ytlefefcakffepaa.Sbuf

theorem info_pbuf : (Try.prog.info? 75).map (fun i => (i.zero, i.size, i.bytes)) = some (some (.pointer none), 1, 8) := by kernel_rfl
theorem info_of' {P : Program} {t : TypeId} {z : Value} {n b : Nat} (h : (P.info? t).map (fun i => (i.zero, i.size, i.bytes)) = some (some z, n, b)) : ∃ i, P.info? t = some i ∧ i.zero = some z ∧ i.size = n ∧ i.bytes = b := by
  cases hi : P.info? t with
  | none => rw [hi] at h; cases h
  | some i =>
    rw [hi] at h
    simp at h
    exact ⟨i, rfl, h.1, h.2.1, h.2.2⟩
section
variable {P0 : Nat → Prop} {w0 w w' : World} {F : List Rg} {b cap : Nat} {ws : List Int} {Ls : List (List W16)}
theorem New_no (n m k : Int) (h : ¬ ((1 ≤ n ∧ n ≤ 8) ∧ (1 ≤ m ∧ m ≤ 65536) ∧ 1 ≤ k ∧ k ≤ 16)) (w : World) : Calls Try.prog 9 #[.int .i64 n, .int .i64 m, .int .i64 k] w fun e w' => e = .returned (.tuple #[.pointer none, .int .i64 2]) ∧ Up w w' := by
  by_cases hm : 1 ≤ m ∧ m ≤ 65536
  · obtain ⟨j, rfl⟩ : ∃ j : Nat, m = (j : Int) := ⟨m.toNat, by omega⟩
    have HN := Lib.hid (fun w => Sram.New_st (L := []) (St.nil w) j (by omega) (by omega))
    have hg : decide (n < 1) = true ∨ (decide (n < 1) = false ∧ decide (n > 8) = true) ∨ (decide (n < 1) = false ∧ decide (n > 8) = false ∧ Hid (k < 1 ∨ 16 < k)) := by
      by_cases h1 : n < 1
      · exact .inl (decide_eq_true h1)
      · by_cases h2 : n > 8
        · exact .inr (.inl ⟨decide_eq_false h1, decide_eq_true h2⟩)
        · exact .inr (.inr ⟨decide_eq_false h1, decide_eq_false h2, Lib.hid (by omega)⟩)
    clear h hm
    rcases hg with g1 | ⟨g1, g2⟩ | ⟨g1, g2, HK⟩
    all_goals
      go_enter Try.func9, Try.ntmps9
      go_wp2_with (first
        | (go_at_call 30; refine (HN.out _).mono ?_; rintro e w1 ⟨b1, rfl, hs⟩; have HS := Lib.hid hs; clear hs)
        | (go_at_call 31; refine (Sbuf.New_no _ HK.out _).mono ?_; rintro e w2 ⟨rfl, rfl⟩))
      refine bodyPost_ret (v := .tuple #[.pointer none, .int .i64 2]) ?_ rfl ⟨rfl, HS.out.up⟩
      simp [results, Try.results9, go_sem, *]
  · have HN := Lib.hid (Sram.new_no m (by omega))
    clear h hm
    go_enter Try.func9, Try.ntmps9
    go_wp2_with (go_at_call 30; refine (HN.out _).mono ?_; rintro e w1 ⟨rfl, hu⟩; have HU := Lib.hid hu; clear hu)
    refine bodyPost_ret (v := .tuple #[.pointer none, .int .i64 2]) ?_ rfl ⟨rfl, HU.out⟩
    simp [results, Try.results9, go_sem, *]
/-- One more buffer. -/
theorem bufs_more {V : Value} {L : List W16} {x i : Nat} {bs : List Nat} (hm : bs.length = Ls.length) (hi : i = Ls.length) (h : St P0 w0 w (slc 75 1 V (i + 1) (rcs pcf Ls bs ++ [.pointer (some ⟨x, 0, none⟩)]) :: big (rps (fun L x => buf x cap L) Ls bs) :: buf x cap L :: F)) : St P0 w0 w (bufs cap V (Ls ++ [L]) :: F) := by
  subst hi
  exact row_push (x := L) (b := x) hm h
set_option maxHeartbeats 4000000 in
set_option maxRecDepth 100000 in
theorem New_st (h : St P0 w0 w F) (n m k : Nat) (hh : (1 ≤ n ∧ n ≤ 8) ∧ (1 ≤ m ∧ m ≤ 65536) ∧ 1 ≤ k ∧ k ≤ 16) : Calls Try.prog 9 #[.int .i64 n, .int .i64 m, .int .i64 k] w fun e w' => ∃ b, e = .returned (.tuple #[.pointer (some ⟨b, 0, none⟩), .int .i64 0]) ∧ St P0 w0 w' (bus b k (List.replicate m 0) (List.replicate n []) :: F) := by
  have d1 : decide ((n : Int) < 1) = false := decide_eq_false (by omega)
  have d2 : decide ((n : Int) > 8) = false := decide_eq_false (by omega)
  have HN := Lib.hid (Sram.New_st h m (by omega) (by omega))
  have HH := Lib.hid hh
  obtain ⟨t0, ht0, hz0, hz1, hz2⟩ := info_of' info_pbuf
  have hn8 : n ≤ 8 := hh.1.2
  clear h hh
  go_enter Try.func9, Try.ntmps9
  go_wp2_with (first
    | (go_at_call 30; refine (HN.out).mono ?_; rintro e w1 ⟨r, rfl, hs⟩; have HS0 := Lib.hid hs; clear hs)
    | (go_at_call 31; refine (Sbuf.New_st HS0.out k HH.out.2.2.1 HH.out.2.2.2).mono ?_; rintro e w2 ⟨x2, rfl, hs⟩; have HS := Lib.hid (((row_nil (e := 75) (sz := 1) (cf := pcf) (pf := fun L x => buf x k L) (hs.drop.alloc #[.pointer (some ⟨r, 0, none⟩), .slice none 0 0] 79)).get 1)); clear hs))
  clear HN HS0
  go_loopw [35] (fun v35 wx => ∃ (i : Nat) (V : Value), i ≤ n ∧ v35 = .int .i64 i ∧ Hid (St P0 w0 wx (hb w2.heap.size r V :: bufs k V (List.replicate i []) :: ram r (List.replicate m 0) :: F))) (fun v35 _ => n - (intOf v35).toNat)
  case atStart => exact ⟨0, .slice none 0 0, Nat.zero_le _, rfl, HS⟩
  case round =>
    clear HS
    obtain ⟨i, V, hi, rfl, HS⟩ := hrel
    by_cases hlt : i < n
    · obtain ⟨bs, hbs, hs⟩ := row_any (HS.out.get 1)
      have hbs' := hbs
      rw [List.length_replicate] at hbs'
      simp only [List.length_replicate] at hs
      have hf : ∃ A c, V = .slice A i c ∧ i ≤ c ∧ c ≤ maxLen := by
        obtain ⟨P, ⟨Q, Q2, _, _, _, h2, _⟩, _⟩ := St.step (L := [slc 75 1 V i (rcs pcf (List.replicate i []) bs)]) hs
        exact slc_form h2
      obtain ⟨A, c, rfl, hc⟩ := hf
      have HB := Lib.hid hbs
      have q0 : wr.drew.cell? ⟨w2.heap.size, 1, none⟩ = some (.slice A i c) := cell_of_block (hs.drew.get 2).bk_at 1
      have HS1 := Lib.hid hs.drew
      clear hs HS hbs hbs'
      go_wp2_with fail
      go_region_law (first
        | (refine St.step_append 75 t0 (.pointer none) 1 8 HS2.out (by rfl) _ _ 77 (by rfl) Try.underlying77 ht0 hz0 hz1 hz2 (by rfl) (by decide) (by rfl) (some ⟨w3.heap.size, 0, none⟩) 1 1 [.pointer (some ⟨l, 0, none⟩)] (by rfl) HRD.out (by unfold maxLen; omega) (by omega) ?_; intro A4 c4 w4 hst hsz; have HS4 := Lib.hid hst; have q4 : w4.cell? ⟨w2.heap.size, 1, none⟩ = some (.slice A i c) := cell_of_block (hst.get 4).bk_at 1; have f4 : w4.frozen? ⟨w2.heap.size, 1, none⟩ = false := free_of_block (hst.get 4).bk_at 1; clear hst hsz)
        | (go_simp; go_at_call 31; refine (Sbuf.New_st HS1.out k HH.out.2.2.1 HH.out.2.2.2).mono ?_; rintro e w3 ⟨l, rfl, hs⟩; have HS2 := Lib.hid ((hs.alloc #[.pointer (some ⟨l, 0, none⟩)] 75).get 2); have q2 : w3.cell? ⟨w2.heap.size, 1, none⟩ = some (.slice A i c) := cell_of_block (hs.get 3).bk_at 1; have hnn := World.new_ne w3 _ q2; have hl9 := World.block_lt_of_cell? w3 _ q2; have HRD := Lib.hid (Rd.of_block (sz := 1) (m := 1) ((hs.alloc #[.pointer (some ⟨l, 0, none⟩)] 75).bk_at) rfl (by simp [Value.oneCell'])); clear hs))
      all_goals
        have hb := bufs_more (Ls := List.replicate i []) (L := []) (i := i) (x := l) (cap := k) HB.out (by rw [List.length_replicate]) (((((HS4.out.get 4).set 1 (.slice A4 (i + 1) c4)).cut 2).get 2).get 3 |>.get 3)
        rw [← List.replicate_succ'] at hb
        have HB2 := Lib.hid (hb.get 1)
        clear hb HS4 q4 f4 HS2 q2 HRD HS1 q0
        go_wp2
        go_roundw
        case rel => exact ⟨i + 1, _, by omega, by go_num, HB2⟩
        case measure => simp [intOf]; omega
    · obtain rfl : i = n := by omega
      have HF := Lib.hid (bus_shut (Ls := List.replicate i []) (by rw [List.length_replicate]; exact ⟨HH.out.1, HH.out.2.2⟩) ((HS.out.get 1).get 2 |>.get 2))
      clear HS
      go_wp2
      refine bodyPost_ret (v := .tuple #[.pointer (some ⟨w2.heap.size, 0, none⟩), .int .i64 0]) ?_ rfl ⟨_, rfl, HF.out⟩
      simp [results, Try.results9, go_sem, *]
theorem Cores_q (w : World) (h : St P0 w0 w (bus b cap ws Ls :: F)) : Calls Try.prog 21 #[.pointer (some ⟨b, 0, none⟩)] w fun e w' => e = .returned (.int .i64 (Ls.length : Int)) ∧ w' = w := by
  obtain ⟨r, g, o, c, hm, h1⟩ := bus_form h
  have hbk : w.cell? ⟨b, 1, none⟩ = some (.slice (some ⟨g, o, none⟩) Ls.length c) := cell_of_block h1.bk_at 1
  clear h h1
  go_enter Try.func21, Try.ntmps21
  go_wp2
  go_ret
  exact ⟨rfl, rfl⟩
theorem Cores_nil (w : World) : Calls Try.prog 21 #[.pointer none] w fun e w' => e = .returned (.int .i64 0) ∧ w' = w := by
  go_enter Try.func21, Try.ntmps21
  go_wp2
  go_ret
  exact ⟨rfl, rfl⟩
theorem Ram_nil (w : World) : Calls Try.prog 16 #[.pointer none] w fun e w' => e = .returned (.pointer none) ∧ w' = w := by
  go_enter Try.func16, Try.ntmps16
  go_wp2
  go_ret
  exact ⟨rfl, rfl⟩
theorem Clone_nil (w : World) : Calls Try.prog 26 #[.pointer none] w fun e w' => e = .returned (.pointer none) ∧ w' = w := by
  go_enter Try.func26, Try.ntmps26
  go_wp2
  go_ret
  exact ⟨rfl, rfl⟩
theorem Ram_st (h : St P0 w0 w (bus b cap ws Ls :: F)) : Calls Try.prog 16 #[.pointer (some ⟨b, 0, none⟩)] w fun e w' => ∃ r', e = .returned (.pointer (some ⟨r', 0, none⟩)) ∧ St P0 w0 w' (ram r' ws :: bus b cap ws Ls :: F) := by
  obtain ⟨r, V, hm, h1⟩ := bus_any h
  have hbk : w.cell? ⟨b, 0, none⟩ = some (.pointer (some ⟨r, 0, none⟩)) := cell_of_block h1.bk_at 0
  have HC := Lib.hid (Sram.Clone_st (h1.get 1))
  have HM := Lib.hid hm
  clear h h1 hm
  go_enter Try.func16, Try.ntmps16
  go_wp2_with (go_at_call 40; refine HC.out.mono ?_; rintro e w1 ⟨r', rfl, hs⟩; have HS := Lib.hid hs; clear hs)
  go_ret
  exact ⟨_, rfl, (bus_shut HM.out ((HS.out.get 3).get 2 |>.get 3)).get 1⟩
end
end Go.Proofs.Ytlefefcakffepaa.Bus

/- The example and the law's Do of chapter 06. -/
namespace Go.Proofs.Ytlefefcakffepaa.Bus
set_option linter.unusedVariables false
set_option linter.unusedSimpArgs false
open Go.RowKit Go.Proofs.Ytlefefcakffepaa.Sep Go.Proofs.Ytlefefcakffepaa.Sram Go.Proofs.Ytlefefcakffepaa.Find Go.Proofs.Ytlefefcakffepaa.Sbuf

def e0 : W16 := ⟨1, 5, by omega, by omega⟩
theorem st_a : storeB 2 [0, 0, 0, 0] [[], []] 0 1 5 = ([0, 0, 0, 0], [[e0], []], 0) := by rfl
theorem ld_a : loadB [0, 0, 0, 0] [[e0], []] 0 1 = (5, 0) := by rfl
theorem ld_b : loadB [0, 0, 0, 0] [[e0], []] 1 1 = (0, 0) := by rfl
theorem fe_a : fenceB [0, 0, 0, 0] [[e0], []] 0 = ([0, 5, 0, 0], [[], []], 1, 0) := by rfl
theorem ld_c : loadB [0, 5, 0, 0] [[], []] 1 1 = (5, 0) := by rfl
set_option maxHeartbeats 4000000 in
set_option maxRecDepth 100000 in
theorem alive_walk (w : World) : Calls Try.prog 11 #[] w fun e w' => e = .returned (.bool true) ∧ Up w w' := by
  have HS0 := Lib.hid (St.nil w)
  go_enter Try.func11, Try.ntmps11
  go_wp2_with fail
  refine (New_st HS0.out 2 4 2 (by omega)).mono ?_
  rintro e w1 ⟨b, rfl, hs⟩
  have HS1 : Hid (St No w w1 [bus b 2 [0, 0, 0, 0] [[], []]]) := Lib.hid (hs)
  clear hs HS0
  go_wp2_with fail
  refine (Store_st HS1.out 0 1 5).mono ?_
  rw [st_a]
  rintro e w2 ⟨rfl, hs⟩
  have HS2 : Hid (St No w w2 [bus b 2 [0, 0, 0, 0] [[e0], []]]) := Lib.hid (hs)
  clear hs HS1
  go_wp2_with fail
  refine (Load_st HS2.out 0 1).mono ?_
  rw [ld_a]
  rintro e w3 ⟨rfl, hs⟩
  have HS3 : Hid (St No w w3 [bus b 2 [0, 0, 0, 0] [[e0], []]]) := Lib.hid (hs)
  clear hs HS2
  go_wp2_with fail
  refine (Load_st HS3.out 1 1).mono ?_
  rw [ld_b]
  rintro e w4 ⟨rfl, hs⟩
  have HS4 : Hid (St No w w4 [bus b 2 [0, 0, 0, 0] [[e0], []]]) := Lib.hid (hs)
  clear hs HS3
  go_wp2_with fail
  refine (Fence_st HS4.out 0).mono ?_
  rw [fe_a]
  rintro e w5 ⟨rfl, hs⟩
  have HS5 : Hid (St No w w5 [bus b 2 [0, 5, 0, 0] [[], []]]) := Lib.hid (hs)
  clear hs HS4
  go_wp2_with fail
  refine (Load_st HS5.out 1 1).mono ?_
  rw [ld_c]
  rintro e w6 ⟨rfl, hs⟩
  have HS6 : Hid (St No w w6 [bus b 2 [0, 5, 0, 0] [[], []]]) := Lib.hid (hs)
  clear hs HS5
  go_wp2
  go_ret
  exact ⟨rfl, HS6.out.up⟩
theorem alive_st {w0 w : World} {P0 : Nat → Prop} {L : List Rg} (h : St P0 w0 w L) : Calls Try.prog 11 #[] w fun e w' => e = .returned (.bool true) ∧ St P0 w0 w' L := by
  refine (alive_walk w).mono ?_
  rintro e w' ⟨rfl, hu⟩
  exact ⟨rfl, h.more hu⟩
/-- What a call does: the memory and the stores that wait then, what is told, and the error. -/
def doB (cap : Nat) (ws : List Int) (Ls : List (List W16)) (k core a z : Int) : List Int × List (List W16) × Int × Int :=
  if k = 0 then ((storeB cap ws Ls core a z).1, (storeB cap ws Ls core a z).2.1, 0, (storeB cap ws Ls core a z).2.2)
  else if k = 2 then ((drainB ws Ls core).1, (drainB ws Ls core).2.1, (if (drainB ws Ls core).2.2.1 then 1 else 0), (drainB ws Ls core).2.2.2)
  else if k = 3 then fenceB ws Ls core
  else if k = 4 then swapB ws Ls core a z
  else if k = 5 then (ws, (loseB Ls core).1, (loseB Ls core).2.1, (loseB Ls core).2.2)
  else (ws, Ls, (loadB ws Ls core a).1, (loadB ws Ls core a).2)
section
variable {P0 : Nat → Prop} {w0 w w' : World} {F : List Rg} {b cap : Nat} {ws : List Int} {Ls : List (List W16)}
set_option maxHeartbeats 8000000 in
set_option maxRecDepth 100000 in
theorem do_st (h : St P0 w0 w (bus b cap ws Ls :: F)) (k core a z : Int) :
    Calls Try.prog 12 #[.pointer (some ⟨b, 0, none⟩), .agg #[.int .i64 k, .int .i64 core, .int .i64 a, .int .i64 z]] w fun e w' => e = .returned (.tuple #[.int .i64 (doB cap ws Ls k core a z).2.2.1, .int .i64 (doB cap ws Ls k core a z).2.2.2]) ∧ St P0 w0 w' (bus b cap (doB cap ws Ls k core a z).1 (doB cap ws Ls k core a z).2.1 :: F) := by
  have hb := h.alloc #[.int .i64 k, .int .i64 core, .int .i64 a, .int .i64 z] 31
  have HS : Hid (St P0 w0 _ (bus b cap ws Ls :: bk w.heap.size 31 #[.int .i64 k, .int .i64 core, .int .i64 a, .int .i64 z] :: F)) := Lib.hid (hb.get 1)
  clear h hb
  by_cases h0 : k = 0
  · subst h0
    have HP := Lib.hid (Store_st HS.out core a z)
    have E : doB cap ws Ls 0 core a z = ((storeB cap ws Ls core a z).1, (storeB cap ws Ls core a z).2.1, 0, (storeB cap ws Ls core a z).2.2) := by unfold doB; rw [if_pos rfl]
    rw [E]
    clear E
    generalize storeB cap ws Ls core a z = d at *
    go_enter Try.func12, Try.ntmps12
    go_wp2_with fail
    refine HP.out.mono ?_
    rintro e w1 ⟨rfl, hs⟩
    have H1 := Lib.hid hs
    clear hs HS HP
    go_wp2
    refine bodyPost_ret (v := .tuple #[.int .i64 _, .int .i64 _]) ?_ rfl ⟨rfl, H1.out.cut 1⟩
    simp [results, Try.results12, go_sem, *]
  · have e0 : (k == 0) = false := beq_eq_false_iff_ne.2 h0
    by_cases h2 : k = 2
    · subst h2
      have HP := Lib.hid (Drain_st HS.out core)
      have E : doB cap ws Ls 2 core a z = ((drainB ws Ls core).1, (drainB ws Ls core).2.1, (if (drainB ws Ls core).2.2.1 then 1 else 0), (drainB ws Ls core).2.2.2) := by unfold doB; rw [if_neg h0, if_pos rfl]
      rw [E]
      clear E
      generalize drainB ws Ls core = d at *
      obtain ⟨d1, d2, d3, d4⟩ := d
      rcases d3 with _ | _
      all_goals
        go_enter Try.func12, Try.ntmps12
        go_wp2_with fail
        refine HP.out.mono ?_
        rintro e w1 ⟨rfl, hs⟩
        have H1 := Lib.hid hs
        clear hs HS HP
        go_wp2
        refine bodyPost_ret (v := .tuple #[.int .i64 _, .int .i64 _]) ?_ rfl ⟨rfl, H1.out.cut 1⟩
        simp [results, Try.results12, go_sem, *]
    · have e2 : (k == 2) = false := beq_eq_false_iff_ne.2 h2
      by_cases h3 : k = 3
      · subst h3
        have HP := Lib.hid (Fence_st HS.out core)
        have E : doB cap ws Ls 3 core a z = fenceB ws Ls core := by unfold doB; rw [if_neg h0, if_neg h2, if_pos rfl]
        rw [E]
        clear E
        generalize fenceB ws Ls core = d at *
        go_enter Try.func12, Try.ntmps12
        go_wp2_with fail
        refine HP.out.mono ?_
        rintro e w1 ⟨rfl, hs⟩
        have H1 := Lib.hid hs
        clear hs HS HP
        go_wp2
        refine bodyPost_ret (v := .tuple #[.int .i64 _, .int .i64 _]) ?_ rfl ⟨rfl, H1.out.cut 1⟩
        simp [results, Try.results12, go_sem, *]
      · have e3 : (k == 3) = false := beq_eq_false_iff_ne.2 h3
        by_cases h4 : k = 4
        · subst h4
          have HP := Lib.hid (Swap_st HS.out core a z)
          have E : doB cap ws Ls 4 core a z = swapB ws Ls core a z := by unfold doB; rw [if_neg h0, if_neg h2, if_neg h3, if_pos rfl]
          rw [E]
          clear E
          generalize swapB ws Ls core a z = d at *
          go_enter Try.func12, Try.ntmps12
          go_wp2_with fail
          refine HP.out.mono ?_
          rintro e w1 ⟨rfl, hs⟩
          have H1 := Lib.hid hs
          clear hs HS HP
          go_wp2
          refine bodyPost_ret (v := .tuple #[.int .i64 _, .int .i64 _]) ?_ rfl ⟨rfl, H1.out.cut 1⟩
          simp [results, Try.results12, go_sem, *]
        · have e4 : (k == 4) = false := beq_eq_false_iff_ne.2 h4
          by_cases h5 : k = 5
          · subst h5
            have HP := Lib.hid (Lose_st HS.out core)
            have E : doB cap ws Ls 5 core a z = (ws, (loseB Ls core).1, (loseB Ls core).2.1, (loseB Ls core).2.2) := by unfold doB; rw [if_neg h0, if_neg h2, if_neg h3, if_neg h4, if_pos rfl]
            rw [E]
            clear E
            generalize loseB Ls core = d at *
            go_enter Try.func12, Try.ntmps12
            go_wp2_with fail
            refine HP.out.mono ?_
            rintro e w1 ⟨rfl, hs⟩
            have H1 := Lib.hid hs
            clear hs HS HP
            go_wp2
            refine bodyPost_ret (v := .tuple #[.int .i64 _, .int .i64 _]) ?_ rfl ⟨rfl, H1.out.cut 1⟩
            simp [results, Try.results12, go_sem, *]
          · have e5 : (k == 5) = false := beq_eq_false_iff_ne.2 h5
            have HP := Lib.hid (Load_st HS.out core a)
            have E : doB cap ws Ls k core a z = (ws, Ls, (loadB ws Ls core a).1, (loadB ws Ls core a).2) := by unfold doB; rw [if_neg h0, if_neg h2, if_neg h3, if_neg h4, if_neg h5]
            rw [E]
            clear E
            generalize loadB ws Ls core a = d at *
            go_enter Try.func12, Try.ntmps12
            go_wp2_with fail
            refine HP.out.mono ?_
            rintro e w1 ⟨rfl, hs⟩
            have H1 := Lib.hid hs
            clear hs HS HP
            go_wp2
            refine bodyPost_ret (v := .tuple #[.int .i64 _, .int .i64 _]) ?_ rfl ⟨rfl, H1.out.cut 1⟩
            simp [results, Try.results12, go_sem, *]
end
set_option maxHeartbeats 1000000 in
theorem Store_nil (core a z : Int) (w : World) : Calls Try.prog 29 #[.pointer none, .int .i64 core, .int .i64 a, .int .i64 z] w fun e w' => e = .returned (.int .i64 1) ∧ Up w w' := by
  go_enter Try.func29, Try.ntmps29
  go_wp2_with (go_at_call 35; refine (ask_nil _ _ _ _).mono ?_; rintro e w2 ⟨rfl, rfl⟩)
  refine bodyPost_ret (v := .int .i64 1) ?_ rfl ⟨rfl, by first | exact (Up.refl w).alloc _ | exact ((Up.refl w).alloc _).alloc _ | exact (((Up.refl w).alloc _).alloc _).alloc _ | exact ((((Up.refl w).alloc _).alloc _).alloc _).alloc _⟩
  simp [results, Try.results29, go_sem, *]
set_option maxHeartbeats 1000000 in
theorem Drain_nil (core a z : Int) (w : World) : Calls Try.prog 32 #[.pointer none, .int .i64 core] w fun e w' => e = .returned (.tuple #[.bool false, .int .i64 1]) ∧ Up w w' := by
  go_enter Try.func32, Try.ntmps32
  go_wp2_with (go_at_call 35; refine (ask_nil _ _ _ _).mono ?_; rintro e w2 ⟨rfl, rfl⟩)
  refine bodyPost_ret (v := .tuple #[.bool false, .int .i64 1]) ?_ rfl ⟨rfl, by first | exact (Up.refl w).alloc _ | exact ((Up.refl w).alloc _).alloc _ | exact (((Up.refl w).alloc _).alloc _).alloc _ | exact ((((Up.refl w).alloc _).alloc _).alloc _).alloc _⟩
  simp [results, Try.results32, go_sem, *]
set_option maxHeartbeats 1000000 in
theorem Fence_nil (core a z : Int) (w : World) : Calls Try.prog 13 #[.pointer none, .int .i64 core] w fun e w' => e = .returned (.tuple #[.int .i64 0, .int .i64 1]) ∧ Up w w' := by
  go_enter Try.func13, Try.ntmps13
  go_wp2_with (go_at_call 35; refine (ask_nil _ _ _ _).mono ?_; rintro e w2 ⟨rfl, rfl⟩)
  refine bodyPost_ret (v := .tuple #[.int .i64 0, .int .i64 1]) ?_ rfl ⟨rfl, by first | exact (Up.refl w).alloc _ | exact ((Up.refl w).alloc _).alloc _ | exact (((Up.refl w).alloc _).alloc _).alloc _ | exact ((((Up.refl w).alloc _).alloc _).alloc _).alloc _⟩
  simp [results, Try.results13, go_sem, *]
set_option maxHeartbeats 1000000 in
theorem Swap_nil (core a z : Int) (w : World) : Calls Try.prog 33 #[.pointer none, .int .i64 core, .int .i64 a, .int .i64 z] w fun e w' => e = .returned (.tuple #[.int .i64 0, .int .i64 1]) ∧ Up w w' := by
  go_enter Try.func33, Try.ntmps33
  go_wp2_with (go_at_call 35; refine (ask_nil _ _ _ _).mono ?_; rintro e w2 ⟨rfl, rfl⟩)
  refine bodyPost_ret (v := .tuple #[.int .i64 0, .int .i64 1]) ?_ rfl ⟨rfl, by first | exact (Up.refl w).alloc _ | exact ((Up.refl w).alloc _).alloc _ | exact (((Up.refl w).alloc _).alloc _).alloc _ | exact ((((Up.refl w).alloc _).alloc _).alloc _).alloc _⟩
  simp [results, Try.results33, go_sem, *]
set_option maxHeartbeats 1000000 in
theorem Lose_nil (core a z : Int) (w : World) : Calls Try.prog 34 #[.pointer none, .int .i64 core] w fun e w' => e = .returned (.tuple #[.int .i64 0, .int .i64 1]) ∧ Up w w' := by
  go_enter Try.func34, Try.ntmps34
  go_wp2_with (go_at_call 35; refine (ask_nil _ _ _ _).mono ?_; rintro e w2 ⟨rfl, rfl⟩)
  refine bodyPost_ret (v := .tuple #[.int .i64 0, .int .i64 1]) ?_ rfl ⟨rfl, by first | exact (Up.refl w).alloc _ | exact ((Up.refl w).alloc _).alloc _ | exact (((Up.refl w).alloc _).alloc _).alloc _ | exact ((((Up.refl w).alloc _).alloc _).alloc _).alloc _⟩
  simp [results, Try.results34, go_sem, *]
set_option maxHeartbeats 1000000 in
theorem Load_nil (core a z : Int) (w : World) : Calls Try.prog 28 #[.pointer none, .int .i64 core, .int .i64 a] w fun e w' => e = .returned (.tuple #[.int .i64 0, .int .i64 1]) ∧ Up w w' := by
  go_enter Try.func28, Try.ntmps28
  go_wp2_with (go_at_call 35; refine (ask_nil _ _ _ _).mono ?_; rintro e w2 ⟨rfl, rfl⟩)
  refine bodyPost_ret (v := .tuple #[.int .i64 0, .int .i64 1]) ?_ rfl ⟨rfl, by first | exact (Up.refl w).alloc _ | exact ((Up.refl w).alloc _).alloc _ | exact (((Up.refl w).alloc _).alloc _).alloc _ | exact ((((Up.refl w).alloc _).alloc _).alloc _).alloc _⟩
  simp [results, Try.results28, go_sem, *]
set_option maxHeartbeats 1000000 in
theorem Waits_nil (core a z : Int) (w : World) : Calls Try.prog 22 #[.pointer none, .int .i64 core] w fun e w' => e = .returned (.slice none 0 0) ∧ Up w w' := by
  go_enter Try.func22, Try.ntmps22
  go_wp2_with (go_at_call 35; refine (ask_nil _ _ _ _).mono ?_; rintro e w2 ⟨rfl, rfl⟩)
  refine bodyPost_ret (v := .slice none 0 0) ?_ rfl ⟨rfl, by first | exact (Up.refl w).alloc _ | exact ((Up.refl w).alloc _).alloc _ | exact (((Up.refl w).alloc _).alloc _).alloc _ | exact ((((Up.refl w).alloc _).alloc _).alloc _).alloc _⟩
  simp [results, Try.results22, go_sem, *]
set_option maxHeartbeats 4000000 in
set_option maxRecDepth 100000 in
theorem do_nil (k core a z : Int) (w : World) : Calls Try.prog 12 #[.pointer none, .agg #[.int .i64 k, .int .i64 core, .int .i64 a, .int .i64 z]] w fun e w' => e = .returned (.tuple #[.int .i64 0, .int .i64 1]) ∧ Up w w' := by
  by_cases h0 : k = 0
  · subst h0
    go_enter Try.func12, Try.ntmps12
    go_wp2_with fail
    refine (Store_nil core a z _).mono ?_
    rintro e w1 ⟨rfl, hu⟩
    have H1 := Lib.hid (((Up.refl w).alloc _).trans hu)
    clear hu
    go_wp2
    refine bodyPost_ret (v := .tuple #[.int .i64 0, .int .i64 1]) ?_ rfl ⟨rfl, H1.out⟩
    simp [results, Try.results12, go_sem, *]
  · have e0 : (k == 0) = false := beq_eq_false_iff_ne.2 h0
    by_cases h2 : k = 2
    · subst h2
      go_enter Try.func12, Try.ntmps12
      go_wp2_with fail
      refine (Drain_nil core a z _).mono ?_
      rintro e w1 ⟨rfl, hu⟩
      have H1 := Lib.hid (((Up.refl w).alloc _).trans hu)
      clear hu
      go_wp2
      refine bodyPost_ret (v := .tuple #[.int .i64 0, .int .i64 1]) ?_ rfl ⟨rfl, H1.out⟩
      simp [results, Try.results12, go_sem, *]
    · have e2 : (k == 2) = false := beq_eq_false_iff_ne.2 h2
      by_cases h3 : k = 3
      · subst h3
        go_enter Try.func12, Try.ntmps12
        go_wp2_with fail
        refine (Fence_nil core a z _).mono ?_
        rintro e w1 ⟨rfl, hu⟩
        have H1 := Lib.hid (((Up.refl w).alloc _).trans hu)
        clear hu
        go_wp2
        refine bodyPost_ret (v := .tuple #[.int .i64 0, .int .i64 1]) ?_ rfl ⟨rfl, H1.out⟩
        simp [results, Try.results12, go_sem, *]
      · have e3 : (k == 3) = false := beq_eq_false_iff_ne.2 h3
        by_cases h4 : k = 4
        · subst h4
          go_enter Try.func12, Try.ntmps12
          go_wp2_with fail
          refine (Swap_nil core a z _).mono ?_
          rintro e w1 ⟨rfl, hu⟩
          have H1 := Lib.hid (((Up.refl w).alloc _).trans hu)
          clear hu
          go_wp2
          refine bodyPost_ret (v := .tuple #[.int .i64 0, .int .i64 1]) ?_ rfl ⟨rfl, H1.out⟩
          simp [results, Try.results12, go_sem, *]
        · have e4 : (k == 4) = false := beq_eq_false_iff_ne.2 h4
          by_cases h5 : k = 5
          · subst h5
            go_enter Try.func12, Try.ntmps12
            go_wp2_with fail
            refine (Lose_nil core a z _).mono ?_
            rintro e w1 ⟨rfl, hu⟩
            have H1 := Lib.hid (((Up.refl w).alloc _).trans hu)
            clear hu
            go_wp2
            refine bodyPost_ret (v := .tuple #[.int .i64 0, .int .i64 1]) ?_ rfl ⟨rfl, H1.out⟩
            simp [results, Try.results12, go_sem, *]
          · have e5 : (k == 5) = false := beq_eq_false_iff_ne.2 h5
            go_enter Try.func12, Try.ntmps12
            go_wp2_with fail
            refine (Load_nil core a z _).mono ?_
            rintro e w1 ⟨rfl, hu⟩
            have H1 := Lib.hid (((Up.refl w).alloc _).trans hu)
            clear hu
            go_wp2
            refine bodyPost_ret (v := .tuple #[.int .i64 0, .int .i64 1]) ?_ rfl ⟨rfl, H1.out⟩
            simp [results, Try.results12, go_sem, *]
end Go.Proofs.Ytlefefcakffepaa.Bus
