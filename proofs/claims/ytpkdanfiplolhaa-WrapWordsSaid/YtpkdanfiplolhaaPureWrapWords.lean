/- The pure statement of WrapWords: for any two numbers the law's function comes to true. No condition. -/
import Derived.Test.YtpkdanfiplolhaaPWrapWordsx1
namespace Go.Proofs.Ytpkdanfiplolhaa.Pure
set_option linter.unusedVariables false
set_option linter.unusedSimpArgs false
open Go.RowKit Go.Proofs.Ytpkdanfiplolhaa.Given Go.Proofs.Ytpkdanfiplolhaa.PWrapWords Go.Proofs.YtpkdanfiplolhaaW.PrintWords Go.Proofs.YtpkdanfiplolhaaW.PrintLast
theorem w64 {n : Int} (h0 : -65536 ≤ n) (h1 : n ≤ 4294967296) : wrap64 n = n := by unfold wrap64; omega
theorem pWord (a : Int) : wrap_Word.f a = some (wd a) := congrArg some (wd_and a)
theorem wd_bd (a : Int) : 0 ≤ wd a ∧ wd a < 65536 := ⟨wd_lo a, wd_hi a⟩
theorem pAdd (a b : Int) : wrap_Add.f a b = some (wadd a b) := by
  have := wd_bd a; have := wd_bd b
  unfold wrap_Add.f
  simp only [pWord, Option.bind_some]
  rw [w64 (by omega) (by omega)]; rfl
theorem pSub (a b : Int) : wrap_Sub.f a b = some (wsub a b) := by
  have := wd_bd a; have := wd_bd b
  unfold wrap_Sub.f
  simp only [pWord, Option.bind_some]
  rw [w64 (by omega) (by omega)]; rfl
theorem pAhead (a b : Int) : wrap_Ahead.f a b = some (whead a b) := by
  have h1 := wd_bd (wd b - wd a)
  have h2 := wd_bd (wsub b a + 32768)
  have h3 : 0 ≤ wsub b a ∧ wsub b a < 65536 := h1
  unfold wrap_Ahead.f
  simp only [pSub, pWord, Option.bind_some]
  rw [w64 (n := wsub b a + 32768) (by omega) (by omega), w64 (by omega) (by omega)]; rfl
theorem pAlive : switchyardlaw01_alive.f = some true := by
  unfold switchyardlaw01_alive.f
  have e1 : wsub 3 5 = 65534 := by decide
  have e2 : whead 65534 3 = 5 := by decide
  simp only [pSub, pAhead, Option.bind_some, e1, e2, if_true, wrap_Hex.f]
  decide +kernel
theorem rWord (a : Int) : switchyardref01_Word.f a = some (wd a) := by
  unfold switchyardref01_Word.f
  have h := tmod_k a 65536 (by decide)
  have hb := wd_bd a
  unfold wd at hb ⊢
  split
  · rename_i h'
    rw [w64 (by have := h.1 h'; omega) (by have := h.1 h'; omega), h.1 h']
  · rename_i h'
    rw [h.2 h']
theorem rAdd (a b : Int) : switchyardref01_Add.f a b = some (wadd a b) := by
  have := wd_bd a; have := wd_bd b
  unfold switchyardref01_Add.f
  simp only [rWord, Option.bind_some]
  rw [w64 (by omega) (by omega)]; rfl
theorem rSub (a b : Int) : switchyardref01_Sub.f a b = some (wsub a b) := by
  have := wd_bd a; have := wd_bd b
  unfold switchyardref01_Sub.f
  simp only [rWord, Option.bind_some]
  rw [w64 (by omega) (by omega)]; rfl
theorem rAhead (a b : Int) : switchyardref01_Ahead.f a b = some (whead a b) := by
  have h3 : 0 ≤ wsub b a ∧ wsub b a < 65536 := wd_bd _
  unfold switchyardref01_Ahead.f
  simp only [rSub, Option.bind_some]
  unfold whead wd
  split
  · rw [w64 (by omega) (by omega)]; congr 1; omega
  · congr 1; omega

theorem WrapWords : switchyardlaw01_WrapWords.Pure := by
  intro a b _ _
  unfold switchyardlaw01_WrapWords.f
  simp only [pWord, pAdd, pSub, pAhead, rWord, rAdd, rSub, rAhead, pAlive, Option.bind_some, if_true]

end Go.Proofs.Ytpkdanfiplolhaa.Pure
