/- The pure statement of WrapBack: for any two numbers and any text the law's function comes to true. No condition. -/
import Derived.Test.YtpkdanfiplolhaaPWrapBackx1
namespace Go.Proofs.Ytpkdanfiplolhaa.Pure
set_option linter.unusedVariables false
set_option linter.unusedSimpArgs false
open Go.RowKit Go.Proofs.Ytpkdanfiplolhaa.Given Go.Proofs.Ytpkdanfiplolhaa.PWrapBack Go.Proofs.YtpkdanfiplolhaaW.PrintWords Go.Proofs.YtpkdanfiplolhaaW.PrintLast
theorem w64 {n : Int} (h0 : -65536 ≤ n) (h1 : n ≤ 4294967296) : wrap64 n = n := by unfold wrap64; omega
theorem pWord (a : Int) : wrap_Word.f a = some (wd a) := congrArg some (wd_and a)
theorem wd_bd (a : Int) : 0 ≤ wd a ∧ wd a < 65536 := ⟨wd_lo a, wd_hi a⟩
theorem pAdd (a b : Int) : wrap_Add.f a b = some (wadd a b) := by
  have := wd_bd a; have := wd_bd b
  unfold wrap_Add.f
  simp only [pWord, Option.bind_some]
  rw [w64 (by omega) (by omega)]; rfl
theorem pSub (a b : Int) : wrap_Sub.f a b = some (wsub a b) := by
  have := wd_bd a; have := wd_bd b
  unfold wrap_Sub.f
  simp only [pWord, Option.bind_some]
  rw [w64 (by omega) (by omega)]; rfl
theorem pAhead (a b : Int) : wrap_Ahead.f a b = some (whead a b) := by
  have h1 := wd_bd (wd b - wd a)
  have h2 := wd_bd (wsub b a + 32768)
  have h3 : 0 ≤ wsub b a ∧ wsub b a < 65536 := h1
  unfold wrap_Ahead.f
  simp only [pSub, pWord, Option.bind_some]
  rw [w64 (n := wsub b a + 32768) (by omega) (by omega), w64 (by omega) (by omega)]; rfl
theorem pAlive : switchyardlaw01_alive.f = some true := by
  unfold switchyardlaw01_alive.f
  have e1 : wsub 3 5 = 65534 := by decide
  have e2 : whead 65534 3 = 5 := by decide
  simp only [pSub, pAhead, Option.bind_some, e1, e2, if_true, wrap_Hex.f]
  decide +kernel

theorem WrapBack : switchyardlaw01_WrapBack.Pure := by
  intro a b s _ _ _
  refine ⟨4, ?_⟩
  unfold switchyardlaw01_WrapBack.f
  have ha := wd_bd a
  have hb := wd_bd b
  have e1 : wsub (wadd a b) b = wd a := by unfold wsub wadd wd at *; omega
  have e2 : wadd (wsub a b) b = wd a := by unfold wsub wadd wd at *; omega
  have e3 : wadd a (whead a b) = wd b := by unfold wadd whead wsub wd at *; omega
  have e4 : ¬ whead a b < -32768 := by unfold whead; have := wd_bd (wsub b a + 32768); omega
  have e5 : ¬ whead a b > 32767 := by unfold whead; have := wd_bd (wsub b a + 32768); omega
  have e6 := hread_hexs (wd a) ha.1 ha.2
  by_cases h : (s.size : Int) > 200
  · rw [if_pos h, pAlive]; rfl
  · rw [if_neg h]
    simp only [pWord, pAdd, pSub, pAhead, Option.bind_some]
    rw [if_neg (by omega), if_neg (by omega), e1, if_pos rfl, e2, if_pos rfl, e3]
    simp only [bne_self_eq_false, switchyardlaw01_WrapBack.j0, pAhead, Option.bind_some, Bool.false_eq_true, if_false]
    rw [if_neg e4, decide_eq_false e5]
    simp only [switchyardlaw01_WrapBack.j1, wrap_Hex.f, wrap_Read.f, e6, Option.bind_some, Bool.false_eq_true, if_false, if_true, bne_self_eq_false]
    simp only [switchyardlaw01_WrapBack.j2, wrap_Hex.f, wrap_Read.f, Option.bind_some, Bool.false_eq_true, if_false, pAlive]
    by_cases hr : (hread s).2 = true
    · rw [if_pos hr]
      have h7 := hexs_hread s hr
      rw [wd_small h7.2.1 h7.2.2, h7.1, if_pos rfl]
    · rw [if_neg hr]

end Go.Proofs.Ytpkdanfiplolhaa.Pure
