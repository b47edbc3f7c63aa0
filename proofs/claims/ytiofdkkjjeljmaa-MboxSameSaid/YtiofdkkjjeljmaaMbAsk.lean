/- mbox's ask: nobody, no such core, and each of the closures it is asked with. -/
import Derived.Test.YtiofdkkjjeljmaaMb
namespace Go.Proofs.Ytiofdkkjjeljmaa.Mb
set_option linter.unusedVariables false
set_option linter.unusedSimpArgs false
open Go.RowKit Go.Proofs.Ytiofdkkjjeljmaa.Sep Go.Proofs.Ytiofdkkjjeljmaa.Lane

theorem ask_nil (i : Int) (k : FuncId) (caps : Array Value) (w : World) : Calls Try.prog 73 #[.pointer none, .int .i64 i, .func (.func k) #[] caps] w fun e w' => e = .returned (.int .i64 1) ∧ w' = w := by
  go_enter Try.func73, Try.ntmps73
  go_wp2
  go_ret
  exact ⟨rfl, rfl⟩
theorem ask_no (b n c : Nat) (A : Option Addr) (i : Int) (k : FuncId) (caps : Array Value) (w : World) (hb : w.cell? ⟨b, 0, none⟩ = some (.slice A n c)) (hi : i < 0 ∨ (n : Int) ≤ i) : Calls Try.prog 73 #[.pointer (some ⟨b, 0, none⟩), .int .i64 i, .func (.func k) #[] caps] w fun e w' => e = .returned (.int .i64 3) ∧ w' = w := by
  have hg : decide (i < 0) = true ∨ (decide (i < 0) = false ∧ i ≥ (n : Int)) := by
    by_cases h : i < 0
    · exact .inl (decide_eq_true h)
    · exact .inr ⟨decide_eq_false h, by omega⟩
  clear hi
  rcases hg with hg | ⟨hg, hg'⟩
  all_goals
    go_enter Try.func73, Try.ntmps73
    go_wp2
    go_ret
    exact ⟨rfl, rfl⟩
theorem ask_Pending (b g o n c i : Nat) (t0 : Value) (w : World) (hb : w.cell? ⟨b, 0, none⟩ = some (.slice (some ⟨g, o, none⟩) n c)) (hi : i < n) {z : Int} {R : World → Prop} (hK : Calls Try.prog 74 #[.pointer (some ⟨g, o + i * 2, none⟩), t0] w fun e w' => e = .returned (.int .i64 z) ∧ R w') :
    Calls Try.prog 73 #[.pointer (some ⟨b, 0, none⟩), .int .i64 (i : Int), .func (.func 74) #[] #[t0]] w fun e w' => e = .returned (.int .i64 z) ∧ R w' := by
  have HK := Lib.hid hK
  have g0 : decide ((i : Int) < 0) = false := decide_eq_false (by omega)
  clear hK
  go_enter Try.func73, Try.ntmps73
  go_wp2_with (go_at_call 74; refine HK.out.mono ?_; rintro e w1 ⟨rfl, hr⟩; have HR := Lib.hid hr; clear hr)
  go_ret
  exact ⟨rfl, HR.out⟩
theorem ask_Waits (b g o n c i : Nat) (t0 : Value) (w : World) (hb : w.cell? ⟨b, 0, none⟩ = some (.slice (some ⟨g, o, none⟩) n c)) (hi : i < n) {z : Int} {R : World → Prop} (hK : Calls Try.prog 75 #[.pointer (some ⟨g, o + i * 2, none⟩), t0] w fun e w' => e = .returned (.int .i64 z) ∧ R w') :
    Calls Try.prog 73 #[.pointer (some ⟨b, 0, none⟩), .int .i64 (i : Int), .func (.func 75) #[] #[t0]] w fun e w' => e = .returned (.int .i64 z) ∧ R w' := by
  have HK := Lib.hid hK
  have g0 : decide ((i : Int) < 0) = false := decide_eq_false (by omega)
  clear hK
  go_enter Try.func73, Try.ntmps73
  go_wp2_with (go_at_call 75; refine HK.out.mono ?_; rintro e w1 ⟨rfl, hr⟩; have HR := Lib.hid hr; clear hr)
  go_ret
  exact ⟨rfl, HR.out⟩
theorem ask_Ring (b g o n c i : Nat) (t0 t1 t2 t3 : Value) (w : World) (hb : w.cell? ⟨b, 0, none⟩ = some (.slice (some ⟨g, o, none⟩) n c)) (hi : i < n) {z : Int} {R : World → Prop} (hK : Calls Try.prog 94 #[.pointer (some ⟨g, o + i * 2, none⟩), t0, t1, t2, t3] w fun e w' => e = .returned (.int .i64 z) ∧ R w') :
    Calls Try.prog 73 #[.pointer (some ⟨b, 0, none⟩), .int .i64 (i : Int), .func (.func 94) #[] #[t0, t1, t2, t3]] w fun e w' => e = .returned (.int .i64 z) ∧ R w' := by
  have HK := Lib.hid hK
  have g0 : decide ((i : Int) < 0) = false := decide_eq_false (by omega)
  clear hK
  go_enter Try.func73, Try.ntmps73
  go_wp2_with (go_at_call 94; refine HK.out.mono ?_; rintro e w1 ⟨rfl, hr⟩; have HR := Lib.hid hr; clear hr)
  go_ret
  exact ⟨rfl, HR.out⟩
theorem ask_Ring2 (b g o n c i : Nat) (t0 t1 : Value) (w : World) (hb : w.cell? ⟨b, 0, none⟩ = some (.slice (some ⟨g, o, none⟩) n c)) (hi : i < n) {z : Int} {R : World → Prop} (hK : Calls Try.prog 95 #[.pointer (some ⟨g, o + i * 2, none⟩), t0, t1] w fun e w' => e = .returned (.int .i64 z) ∧ R w') :
    Calls Try.prog 73 #[.pointer (some ⟨b, 0, none⟩), .int .i64 (i : Int), .func (.func 95) #[] #[t0, t1]] w fun e w' => e = .returned (.int .i64 z) ∧ R w' := by
  have HK := Lib.hid hK
  have g0 : decide ((i : Int) < 0) = false := decide_eq_false (by omega)
  clear hK
  go_enter Try.func73, Try.ntmps73
  go_wp2_with (go_at_call 95; refine HK.out.mono ?_; rintro e w1 ⟨rfl, hr⟩; have HR := Lib.hid hr; clear hr)
  go_ret
  exact ⟨rfl, HR.out⟩
theorem ask_Take (b g o n c i : Nat) (t0 t1 : Value) (w : World) (hb : w.cell? ⟨b, 0, none⟩ = some (.slice (some ⟨g, o, none⟩) n c)) (hi : i < n) {z : Int} {R : World → Prop} (hK : Calls Try.prog 98 #[.pointer (some ⟨g, o + i * 2, none⟩), t0, t1] w fun e w' => e = .returned (.int .i64 z) ∧ R w') :
    Calls Try.prog 73 #[.pointer (some ⟨b, 0, none⟩), .int .i64 (i : Int), .func (.func 98) #[] #[t0, t1]] w fun e w' => e = .returned (.int .i64 z) ∧ R w' := by
  have HK := Lib.hid hK
  have g0 : decide ((i : Int) < 0) = false := decide_eq_false (by omega)
  clear hK
  go_enter Try.func73, Try.ntmps73
  go_wp2_with (go_at_call 98; refine HK.out.mono ?_; rintro e w1 ⟨rfl, hr⟩; have HR := Lib.hid hr; clear hr)
  go_ret
  exact ⟨rfl, HR.out⟩
theorem ask_Ack (b g o n c i : Nat) (t0 : Value) (w : World) (hb : w.cell? ⟨b, 0, none⟩ = some (.slice (some ⟨g, o, none⟩) n c)) (hi : i < n) {z : Int} {R : World → Prop} (hK : Calls Try.prog 100 #[.pointer (some ⟨g, o + i * 2, none⟩), t0] w fun e w' => e = .returned (.int .i64 z) ∧ R w') :
    Calls Try.prog 73 #[.pointer (some ⟨b, 0, none⟩), .int .i64 (i : Int), .func (.func 100) #[] #[t0]] w fun e w' => e = .returned (.int .i64 z) ∧ R w' := by
  have HK := Lib.hid hK
  have g0 : decide ((i : Int) < 0) = false := decide_eq_false (by omega)
  clear hK
  go_enter Try.func73, Try.ntmps73
  go_wp2_with (go_at_call 100; refine HK.out.mono ?_; rintro e w1 ⟨rfl, hr⟩; have HR := Lib.hid hr; clear hr)
  go_ret
  exact ⟨rfl, HR.out⟩
theorem ask_Reset (b g o n c i : Nat) (t0 : Value) (w : World) (hb : w.cell? ⟨b, 0, none⟩ = some (.slice (some ⟨g, o, none⟩) n c)) (hi : i < n) {z : Int} {R : World → Prop} (hK : Calls Try.prog 101 #[.pointer (some ⟨g, o + i * 2, none⟩), t0] w fun e w' => e = .returned (.int .i64 z) ∧ R w') :
    Calls Try.prog 73 #[.pointer (some ⟨b, 0, none⟩), .int .i64 (i : Int), .func (.func 101) #[] #[t0]] w fun e w' => e = .returned (.int .i64 z) ∧ R w' := by
  have HK := Lib.hid hK
  have g0 : decide ((i : Int) < 0) = false := decide_eq_false (by omega)
  clear hK
  go_enter Try.func73, Try.ntmps73
  go_wp2_with (go_at_call 101; refine HK.out.mono ?_; rintro e w1 ⟨rfl, hr⟩; have HR := Lib.hid hr; clear hr)
  go_ret
  exact ⟨rfl, HR.out⟩
end Go.Proofs.Ytiofdkkjjeljmaa.Mb
