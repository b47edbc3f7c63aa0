/- The contract of wrap.Hex (an array), in the form of the print. No condition. -/
import Derived.Test.YtmfpahdbjcpmkaaProg
import Derived.Test.YtmfpahdbjcpmkaaBase
namespace Go.Proofs.Ytmfpahdbjcpmkaa.Given
set_option linter.unusedVariables false
set_option linter.unusedSimpArgs false
open Go.RowKit

theorem Word_walk (a : Int) (w : World) : Calls Try.prog 34 #[.int .i64 a] w fun e w' => e = .returned (.int .i64 (wd a)) ∧ w' = w := by
  have H := Lib.hid (wd_and a)
  go_enter Try.func34, Try.ntmps34
  go_wp2
  go_ret
  exact ⟨congrArg (fun x => Ending.returned (.int .i64 x)) H.out, rfl⟩

/-! ### wrap.Hex -/
def wrap_Hex.f (a0 : Int) : Option ByteArray := some (hexs (wd a0))
theorem Hex_walk (a : Int) (w : World) : Calls Try.prog 37 #[.int .i64 a] w fun e w' => e = .returned (.string (hexs (wd a))) ∧ Up w w' := by
  go_enter Try.func37, Try.ntmps37
  go_wp2_with (go_at_call 34; refine (Word_walk _ _).mono ?_; rintro e w' ⟨rfl, rfl⟩)
  have hb1 := wd_lo a
  have hb2 := wd_hi a
  generalize hb : wd a = b at *
  have Hb := Lib.hid hb
  clear hb
  have c0 : bits .and .i64 b 15 = b % 16 := and_mask b 4 (by decide)
  have c1 : bits .and .i64 (b / 16) 15 = b / 16 % 16 := and_mask _ 4 (by decide)
  have c2 : bits .and .i64 (b / 256) 15 = b / 256 % 16 := and_mask _ 4 (by decide)
  have c3 : bits .and .i64 (b / 4096) 15 = b / 4096 % 16 := and_mask _ 4 (by decide)
  have q1 : b / 16 / 16 = b / 256 := by omega
  have q2 : b / 256 / 16 = b / 4096 := by omega
  have m0 : 0 ≤ b % 16 ∧ b % 16 < 16 := by omega
  have m1 : 0 ≤ b / 16 % 16 ∧ b / 16 % 16 < 16 := by omega
  have m2 : 0 ≤ b / 256 % 16 ∧ b / 256 % 16 < 16 := by omega
  have m3 : 0 ≤ b / 4096 % 16 ∧ b / 4096 % 16 < 16 := by omega
  have k0 := hexd_at (b % 16) (by omega)
  have k1 := hexd_at (b / 16 % 16) (by omega)
  have k2 := hexd_at (b / 256 % 16) (by omega)
  have k3 := hexd_at (b / 4096 % 16) (by omega)
  have kc := convert4 (P := Try.prog) w 76 5 9 74 Try.underlying76 Try.underlying5 Try.underlying9 (hexd (b / 4096 % 16)) (hexd (b / 256 % 16)) (hexd (b / 16 % 16)) (hexd (b % 16))
  refine wp_loop_rounds 5 ?_; rw [rounds_succ]
  go_wp2
  all_goals (rw [rounds_succ])
  go_wp2
  all_goals (rw [rounds_succ])
  go_wp2
  all_goals (rw [rounds_succ])
  go_wp2
  all_goals (rw [rounds_succ])
  go_wp2
  go_ret
  exact ⟨by rw [Hb.out]; rfl, (Up.refl _).alloc _⟩
theorem wrap_Hex.calls (a0 : Int) (r : ByteArray) (w : World) (h : wrap_Hex.f a0 = some r) :
    Calls Try.prog 37 #[.int .i64 a0] w fun e w' => e = .returned (.string r) ∧ Below w.heap.size w w' := by
  obtain rfl := Option.some.inj h
  exact Hex_walk a0 w

end Go.Proofs.Ytmfpahdbjcpmkaa.Given
