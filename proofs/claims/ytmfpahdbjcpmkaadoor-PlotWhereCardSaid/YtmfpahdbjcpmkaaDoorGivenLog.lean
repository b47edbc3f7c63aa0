/- The contracts of math/bits.TrailingZeros64 and wrap.Log, in the form of the print, where the table of bits lies in its variable as the program's text lays it. -/
import Derived.Test.YtmfpahdbjcpmkaaDoorProg
import Derived.Test.YtmfpahdbjcpmkaaDoorBase
import Derived.Shelf.Spec.TrailingZeros
import Derived.Test.YtmfpahdbjcpmkaaDoorWWords
namespace Go.Proofs.YtmfpahdbjcpmkaaDoor.Given
set_option linter.unusedVariables false
set_option linter.unusedSimpArgs false
open Go.RowKit Go.Proofs.YtmfpahdbjcpmkaaDoorW.PrintWords

/-- The table of bits lies in its variable. -/
def TabOk (w : World) : Prop := TabAt 1 Lib.deBruijn64tab w
theorem tz_core (x k idx : Nat) (w : World) (hx0 : ((x : Int) == 0) = false)
    (key : IntKind.u64.wrap (bits BinOp.and IntKind.u64 (x : Int) (IntKind.u64.wrap (-(x : Int))) * 285870213051353865) / 288230376151711744 = (idx : Int))
    (hi : idx < 64) (hk : k < 64) (hcell : w.cell? ⟨1, idx, none⟩ = some (.int .u8 k)) :
    Calls Tryd.prog 25 #[.int .u64 x] w fun e w' => e = .returned (.int .i64 k) ∧ w' = w := by
  go_enter Tryd.func25, Tryd.ntmps25
  go_wp2_with (simp only [key])
  go_ret
  exact ⟨rfl, rfl⟩
theorem tz_walk (x : Nat) (h0 : x ≠ 0) (hx : x < 18446744073709551616) (w : World) (ht : TabOk w) :
    Calls Tryd.prog 25 #[.int .u64 x] w fun e w' => e = .returned (.int .i64 (Lib.ctz 64 x)) ∧ w' = w := by
  obtain ⟨hlow, hk⟩ := Lib.lowest_bit 64 x h0 hx
  obtain ⟨hi, htab⟩ := Lib.deBruijn64_at _ hk
  have hcell := ht _ hi
  rw [htab] at hcell
  exact tz_core x _ _ w (by simp; omega) (tz64_key x _ hx h0 hlow) hi hk hcell
/-- Of which power of two a number is, or that it is none. -/
def lg (n : Int) : Int × Bool := if n < 1 then (0, false) else if bits .and .i64 n (n - 1) = 0 then (((Lib.ctz 64 n.toNat : Nat) : Int), true) else (0, false)
def wrap_Log.f (a0 : Int) : Option (Int × Bool) := if (Lit.int .i64 a0).wf = true then some (lg a0) else none
theorem Log_walk (n : Int) (hn : (Lit.int .i64 n).wf = true) (w : World) (ht : TabOk w) :
    Calls Tryd.prog 24 #[.int .i64 n] w fun e w' => e = .returned (.tuple #[.int .i64 (lg n).1, .bool (lg n).2]) ∧ w' = w := by
  have hr : -9223372036854775808 ≤ n ∧ n < 9223372036854775808 := by
    have e : IntKind.i64.min = -9223372036854775808 := by decide
    simp [Lit.wf, e] at hn
    omega
  by_cases h1 : n < 1
  · have E := Lib.hid (show lg n = (0, false) from if_pos h1)
    go_enter Tryd.func24, Tryd.ntmps24
    go_wp2
    go_ret2
    exact ⟨by rw [E.out]; rfl, rfl⟩
  · by_cases h2 : bits .and .i64 n (n - 1) = 0
    · have E := Lib.hid (show lg n = (((Lib.ctz 64 n.toNat : Nat) : Int), true) by unfold lg; rw [if_neg h1, if_pos h2])
      have ew : wrap64 (n - 1) = n - 1 := by unfold wrap64; omega
      have hc := Lib.hid (tz_walk n.toNat (by omega) (by omega) w ht)
      obtain ⟨m, rfl⟩ := Int.eq_ofNat_of_zero_le (show 0 ≤ n by omega)
      rw [Int.toNat_natCast] at hc E
      go_enter Tryd.func24, Tryd.ntmps24
      go_wp2_with (go_at_call 25; refine hc.out.mono ?_; rintro e w' ⟨rfl, rfl⟩)
      go_ret2
      exact ⟨by rw [E.out]; rfl, rfl⟩
    · have E := Lib.hid (show lg n = (0, false) by unfold lg; rw [if_neg h1, if_neg h2])
      have ew : wrap64 (n - 1) = n - 1 := by unfold wrap64; omega
      go_enter Tryd.func24, Tryd.ntmps24
      go_wp2
      go_ret2
      exact ⟨by rw [E.out]; rfl, rfl⟩
theorem wrap_Log.calls (a0 : Int) (r1 : Int) (r2 : Bool) (w : World) (h : wrap_Log.f a0 = some (r1, r2)) (ht : TabOk w := by assumption) :
    Calls Tryd.prog 24 #[.int .i64 a0] w fun e w' => e = .returned (.tuple #[.int .i64 r1, .bool r2]) ∧ Drawn0 w w' := by
  unfold wrap_Log.f at h
  split at h
  · rename_i hn
    have e := Option.some.inj h
    refine (Log_walk a0 hn w ht).mono ?_
    rintro e w' ⟨rfl, rfl⟩
    rw [e]
    exact ⟨rfl, ⟨0, rfl⟩⟩
  · cases h
end Go.Proofs.YtmfpahdbjcpmkaaDoor.Given
