/- Contracts that the print does not write: wrap.Hex (an array) and wrap.Read (a range over a text), in the print's own form. No condition. -/
import Derived.Test.YtpkdanfiplolhaaProg
import Derived.Test.YtpkdanfiplolhaaBase
import Derived.Laws.RangeAny
namespace Go.Proofs.Ytpkdanfiplolhaa.Given
set_option linter.unusedVariables false
set_option linter.unusedSimpArgs false
open Go.RowKit

theorem Word_walk (a : Int) (w : World) : Calls Try.prog 13 #[.int .i64 a] w fun e w' => e = .returned (.int .i64 (wd a)) ∧ w' = w := by
  have H := Lib.hid (wd_and a)
  go_enter Try.func13, Try.ntmps13
  go_wp2
  go_ret
  exact ⟨congrArg (fun x => Ending.returned (.int .i64 x)) H.out, rfl⟩

/-! ### wrap.Hex -/
def wrap_Hex.f (a0 : Int) : Option ByteArray := some (hexs (wd a0))
theorem Hex_walk (a : Int) (w : World) : Calls Try.prog 25 #[.int .i64 a] w fun e w' => e = .returned (.string (hexs (wd a))) ∧ Up w w' := by
  go_enter Try.func25, Try.ntmps25
  go_wp2_with (go_at_call 13; refine (Word_walk _ _).mono ?_; rintro e w' ⟨rfl, rfl⟩)
  have hb1 := wd_lo a
  have hb2 := wd_hi a
  generalize hb : wd a = b at *
  have Hb := Lib.hid hb
  clear hb
  have c0 : bits .and .i64 b 15 = b % 16 := and_mask b 4 (by decide)
  have c1 : bits .and .i64 (b / 16) 15 = b / 16 % 16 := and_mask _ 4 (by decide)
  have c2 : bits .and .i64 (b / 256) 15 = b / 256 % 16 := and_mask _ 4 (by decide)
  have c3 : bits .and .i64 (b / 4096) 15 = b / 4096 % 16 := and_mask _ 4 (by decide)
  have q1 : b / 16 / 16 = b / 256 := by omega
  have q2 : b / 256 / 16 = b / 4096 := by omega
  have m0 : 0 ≤ b % 16 ∧ b % 16 < 16 := by omega
  have m1 : 0 ≤ b / 16 % 16 ∧ b / 16 % 16 < 16 := by omega
  have m2 : 0 ≤ b / 256 % 16 ∧ b / 256 % 16 < 16 := by omega
  have m3 : 0 ≤ b / 4096 % 16 ∧ b / 4096 % 16 < 16 := by omega
  have k0 := hexd_at (b % 16) (by omega)
  have k1 := hexd_at (b / 16 % 16) (by omega)
  have k2 := hexd_at (b / 256 % 16) (by omega)
  have k3 := hexd_at (b / 4096 % 16) (by omega)
  have kc := convert4 (P := Try.prog) w 67 5 9 66 Try.underlying67 Try.underlying5 Try.underlying9 (hexd (b / 4096 % 16)) (hexd (b / 256 % 16)) (hexd (b / 16 % 16)) (hexd (b % 16))
  refine wp_loop_rounds 5 ?_; rw [rounds_succ]
  go_wp2
  all_goals (rw [rounds_succ])
  go_wp2
  all_goals (rw [rounds_succ])
  go_wp2
  all_goals (rw [rounds_succ])
  go_wp2
  all_goals (rw [rounds_succ])
  go_wp2
  go_ret
  exact ⟨by rw [Hb.out]; rfl, (Up.refl _).alloc _⟩
theorem wrap_Hex.calls (a0 : Int) (r : ByteArray) (w : World) (h : wrap_Hex.f a0 = some r) :
    Calls Try.prog 25 #[.int .i64 a0] w fun e w' => e = .returned (.string r) ∧ Below w.heap.size w w' := by
  obtain rfl := Option.some.inj h
  exact Hex_walk a0 w

/-! ### the reference's Hex -/
theorem refWord_walk (a : Int) (w : World) : Calls Try.prog 14 #[.int .i64 a] w fun e w' => e = .returned (.int .i64 (wd a)) ∧ w' = w := by
  by_cases h : Int.tmod a 65536 < 0
  · have e : Int.tmod a 65536 + 65536 = wd a := (tmod_k a 65536 (by decide)).1 h
    have h1 : 0 ≤ Int.tmod a 65536 + 65536 := by rw [e]; exact wd_lo a
    have h2 : Int.tmod a 65536 + 65536 < 65536 := by rw [e]; exact wd_hi a
    have E := Lib.hid e
    clear e
    go_enter Try.func14, Try.ntmps14
    go_wp2
    go_ret
    exact ⟨by rw [← E.out]; rfl, rfl⟩
  · have e : Int.tmod a 65536 = wd a := (tmod_k a 65536 (by decide)).2 h
    have E := Lib.hid e
    clear e
    go_enter Try.func14, Try.ntmps14
    go_wp2
    go_ret
    exact ⟨by rw [← E.out]; rfl, rfl⟩
def switchyardref01_Hex.f (a0 : Int) : Option ByteArray := some (hexs (wd a0))
theorem refHex_walk (a : Int) (w : World) : Calls Try.prog 26 #[.int .i64 a] w fun e w' => e = .returned (.string (hexs (wd a))) ∧ Drawn w w' := by
  go_enter Try.func26, Try.ntmps26
  go_wp2_with (go_at_call 14; refine (refWord_walk _ _).mono ?_; rintro e w' ⟨rfl, rfl⟩)
  have hb1 := wd_lo a
  have hb2 := wd_hi a
  generalize hb : wd a = b at *
  have Hb := Lib.hid hb
  clear hb
  have q1 : b / 16 / 16 = b / 256 := by omega
  have q2 : b / 256 / 16 = b / 4096 := by omega
  have m0 : 0 ≤ b % 16 ∧ b % 16 < 16 := by omega
  have m1 : 0 ≤ b / 16 % 16 ∧ b / 16 % 16 < 16 := by omega
  have m2 : 0 ≤ b / 256 % 16 ∧ b / 256 % 16 < 16 := by omega
  have m3 : 0 ≤ b / 4096 % 16 ∧ b / 4096 % 16 < 16 := by omega
  refine wp_loop_rounds 5 ?_; rw [rounds_succ]
  go_wp2
  all_goals (rw [rounds_succ])
  go_wp2
  all_goals (rw [rounds_succ])
  go_wp2
  all_goals (rw [rounds_succ])
  go_wp2
  all_goals (rw [rounds_succ])
  go_wp2
  go_ret
  refine ⟨?_, Drawn.refl _⟩
  rw [Hb.out]
  have E : hexs b = _ := (cat4 (hexd (b / 4096 % 16)) (hexd (b / 256 % 16)) (hexd (b / 16 % 16)) (hexd (b % 16))).symm
  rw [E, ← cutd _ m0.1 m0.2, ← cutd _ m1.1 m1.2, ← cutd _ m2.1 m2.2, ← cutd _ m3.1 m3.2]
  rfl
theorem switchyardref01_Hex.calls (a0 : Int) (r : ByteArray) (w : World) (h : switchyardref01_Hex.f a0 = some r) :
    Calls Try.prog 26 #[.int .i64 a0] w fun e w' => e = .returned (.string r) ∧ Below w.heap.size w w' := by
  obtain rfl := Option.some.inj h
  exact (refHex_walk a0 w).mono fun e w' ⟨h1, h2⟩ => ⟨h1, h2.up⟩

/-! ### wrap.Read -/
def wrap_Read.f (a0 : ByteArray) : Option (Int × Bool) := some (hread a0)
theorem Read_walk (s : ByteArray) (w : World) : Calls Try.prog 23 #[.string s] w fun e w' => e = .returned (.tuple #[.int .i64 (hread s).1, .bool (hread s).2]) ∧ Up w w' := by
  by_cases hs : s.size = 4
  · have hsz : ((s.size : Int) != 4) = false := by simp [hs]
    go_enter Try.func23, Try.ntmps23
    go_wp2
    go_loopw [4] (fun v wr => ∃ k : Nat, k ≤ 4 ∧ wr = w.iter s k ∧ dok s k = true ∧ v = .int .i64 (dn s k)) (fun _ wr => 4 - wr.iterPos w.heap.size)
    case atStart => exact ⟨0, by omega, rfl, rfl, rfl⟩
    case round =>
      obtain ⟨k, hk, rfl, hok, rfl⟩ := hrel
      by_cases hp : k < s.size
      · have hd := dn_bd s k hok
        have hx : (16 : Int) ^ k ≤ 4096 := by
          have : k = 0 ∨ k = 1 ∨ k = 2 ∨ k = 3 := by omega
          rcases this with rfl | rfl | rfl | rfl <;> decide
        have hd0 : 0 ≤ dn s k := hd.1
        have hd1 : dn s k < 4096 := by omega
        have hc := bAt_lt s k
        clear hd hx
        have Hok := Lib.hid hok
        clear hok
        by_cases ha : (s[k]'hp).toNat < 128
        · have hnx : ∀ ty, (Instr.next (.pointer (some ⟨w.heap.size, 0, none⟩)) true ty).run Try.prog (w.iter s k) = _ := fun ty => run_next_ascii w s k ty hp ha
          rw [bAt_eq s k hp] at hnx
          clear ha
          go_wp2
          · go_roundw
            case rel => exact ⟨k + 1, by omega, rfl, dok_step Hok.out (dv_dig ‹_› ‹_›) (by omega), dn_step hd0 hd1 (dv_dig ‹_› ‹_›) (by omega) (by omega)⟩
            case measure => simp; omega
          · go_roundw
            case rel => exact ⟨k + 1, by omega, rfl, dok_step Hok.out (dv_let ‹_› ‹_›) (by omega), dn_step hd0 hd1 (dv_let ‹_› ‹_›) (by omega) (by omega)⟩
            case measure => simp; omega
          all_goals
            go_ret2
            exact ⟨by rw [hread_no (k := k) (by omega) (dv_not (by omega) (by omega))]; rfl, (Up.refl _).alloc _⟩
        · have hdec := decode_high s k hp (by omega)
          rw [bAt_eq s k hp] at ha
          have hnx : ∀ ty, (Instr.next (.pointer (some ⟨w.heap.size, 0, none⟩)) true ty).run Try.prog (w.iter s k) = _ := fun ty => run_next_any w s k ty hp
          generalize Utf8.decode s k = q at *
          have hq : (128 : Int) ≤ (q.1 : Int) := by omega
          have hno := dv_not (c := bAt s k) (by omega) (by omega)
          go_wp2
          go_ret2
          exact ⟨by rw [hread_no (k := k) (by omega) hno]; rfl, (Up.refl _).alloc _⟩
      · have Hok := Lib.hid hok
        clear hok
        have hk4 : k = 4 := by omega
        have hnx : ∀ ty, (Instr.next (.pointer (some ⟨w.heap.size, 0, none⟩)) true ty).run Try.prog (w.iter s k) = _ := fun ty => run_next_end w s k ty hp
        have Hk := Lib.hid hk4
        clear hk4
        go_wp2
        go_ret2
        exact ⟨by have := Hk.out; subst this; rw [hread_yes hs Hok.out]; rfl, (Up.refl _).alloc _⟩
  · have hsz : ((s.size : Int) != 4) = true := by simp; omega
    go_enter Try.func23, Try.ntmps23
    go_wp2
    go_ret2
    exact ⟨by rw [hread_len hs]; rfl, Up.refl _⟩
theorem wrap_Read.calls (a0 : ByteArray) (r1 : Int) (r2 : Bool) (w : World) (h : wrap_Read.f a0 = some (r1, r2)) :
    Calls Try.prog 23 #[.string a0] w fun e w' => e = .returned (.tuple #[.int .i64 r1, .bool r2]) ∧ Below w.heap.size w w' := by
  have h' : hread a0 = (r1, r2) := Option.some.inj h
  have := Read_walk a0 w
  rw [h'] at this
  exact this
end Go.Proofs.Ytpkdanfiplolhaa.Given
