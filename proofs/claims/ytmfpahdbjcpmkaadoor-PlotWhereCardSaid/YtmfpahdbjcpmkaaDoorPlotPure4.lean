/- What the reference's Where answers. -/
import Derived.Test.YtmfpahdbjcpmkaaDoorPlotPure3
namespace Go.Proofs.YtmfpahdbjcpmkaaDoor.Plot
set_option linter.unusedVariables false
set_option linter.unusedSimpArgs false
open Go.RowKit Go.Proofs.YtmfpahdbjcpmkaaDoorW.PrintWords Go.Proofs.YtmfpahdbjcpmkaaDoor.PPlotWhere

section
variable {c r q : Int} (hc : rtB c r q = true) (x : Int) (a b : Int)
theorem at_ev (base f s i : Int) (h0 : 0 ≤ base) (h1 : base ≤ 100000) (hr : rgB r = true) : Ev (fun k => switchyardref13_At.f k base r f s i) (atV base r f s i) :=
  at_r base r f s i h0 h1 (by have := rgB_bd hr; omega) (by have := rgB_bd hr; omega)
abbrev R6 := Int × Int × Int × Int × Int × Bool
theorem w_l4_hit (base f s i : Int) (h0 : 0 ≤ base) (h1 : base ≤ 100000) (hr : rgB r = true) (hi : i < 8) (ho : okAt r f s i) (hx : base + off r f s i = x) :
    Ev (fun k => switchyardref13_Where.l4 k x a b base f s i c r q) (a, b, f, s, i, true) := by
  have h := at_ev base f s i h0 h1 hr
  rw [at_off _ _ _ _ _ ho, hx] at h
  have h2 := Ev.bind (f := fun k bt123 => if bt123.2 = true then (if bt123.1 = x then (some (a, b, f, s, i, true)) else (switchyardref13_Where.l4 k x a b base f s (wrap64 (i + 1)) c r q)) else (switchyardref13_Where.l4 k x a b base f s (wrap64 (i + 1)) c r q)) h
    (r := (a, b, f, s, i, true)) (Ev.congr (f := fun _ => some (a, b, f, s, i, true)) (fun k => by simp) (Ev.now _))
  refine Ev.step (fun k => ?_) h2
  simp only [switchyardref13_Where.l4]
  rw [if_pos hi]
theorem w_l4_skip (base f s i : Int) (h0 : 0 ≤ base) (h1 : base ≤ 100000) (hr : rgB r = true) (hi0 : 0 ≤ i) (hi : i < 8) (hn : ¬ (okAt r f s i ∧ base + off r f s i = x)) (res : R6)
    (h : Ev (fun k => switchyardref13_Where.l4 k x a b base f s (i + 1) c r q) res) : Ev (fun k => switchyardref13_Where.l4 k x a b base f s i c r q) res := by
  have hA := at_ev base f s i h0 h1 hr
  have hw : wrap64 (i + 1) = i + 1 := w64 (by omega) (by omega)
  have h2 := Ev.bind (f := fun k bt123 => if bt123.2 = true then (if bt123.1 = x then (some (a, b, f, s, i, true)) else (switchyardref13_Where.l4 k x a b base f s (wrap64 (i + 1)) c r q)) else (switchyardref13_Where.l4 k x a b base f s (wrap64 (i + 1)) c r q)) hA
    (r := res) (Ev.congr (f := fun k => switchyardref13_Where.l4 k x a b base f s (i + 1) c r q) (fun k => by
      by_cases ho : okAt r f s i
      · rw [at_off _ _ _ _ _ ho]
        rw [if_pos rfl, if_neg (fun e => hn ⟨ho, e⟩), hw]
      · rw [atV_no _ _ _ _ _ ho]
        rw [if_neg (by decide), hw]) h)
  refine Ev.step (fun k => ?_) h2
  simp only [switchyardref13_Where.l4]
  rw [if_pos hi]
/-- Field, slot and index at which addr lies: F, S, I. -/
structure Lies (r base x F S I : Int) : Prop where
  ok : okAt r F S I
  is : base + off r F S I = x
  one : ∀ f s i, okAt r f s i → base + off r f s i = x → f = F ∧ s = S ∧ i = I
theorem w_l4_yes (base F S I : Int) (h0 : 0 ≤ base) (h1 : base ≤ 100000) (hr : rgB r = true) (L : Lies r base x F S I) : ∀ (d : Nat) (i : Int), (d : Int) = I - i → 0 ≤ i →
    Ev (fun k => switchyardref13_Where.l4 k x a b base F S i c r q) (a, b, F, S, I, true)
  | 0, i, hd, hi => by
    obtain rfl : i = I := by omega
    exact w_l4_hit x a b base F S i h0 h1 hr (by have := L.ok.2.2.2.2.2; have := many_or F; omega) L.ok L.is
  | d + 1, i, hd, hi => w_l4_skip x a b base F S i h0 h1 hr hi (by have := L.ok.2.2.2.2.2; have := many_or F; omega) (fun h => by have := L.one _ _ _ h.1 h.2; omega) _ (w_l4_yes base F S I h0 h1 hr L d (i + 1) (by omega) (by omega))
theorem w_l4_no (base F S I f s : Int) (h0 : 0 ≤ base) (h1 : base ≤ 100000) (hr : rgB r = true) (L : Lies r base x F S I) (hn : ¬ (f = F ∧ s = S)) (hs : -1 ≤ s) (hs2 : s ≤ 100) (res : R6) (h : Ev (fun k => switchyardref13_Where.l3 k x a b base f (s + 1) c r q) res) : ∀ (d : Nat) (i : Int), (d : Int) = 8 - i → 0 ≤ i →
    Ev (fun k => switchyardref13_Where.l4 k x a b base f s i c r q) res
  | 0, i, hd, hi => by
    refine Ev.step (fun k => ?_) h
    simp only [switchyardref13_Where.l4]
    rw [if_neg (by omega), w64 (by omega) (by omega)]
  | d + 1, i, hd, hi => w_l4_skip x a b base f s i h0 h1 hr hi (by omega) (fun h => by have := L.one _ _ _ h.1 h.2; exact hn ⟨this.1, this.2.1⟩) _ (w_l4_no base F S I f s h0 h1 hr L hn hs hs2 res h d (i + 1) (by omega) (by omega))
theorem slot_lt {F S I : Int} (hr : rgB r = true) (ho : okAt r F S I) : S < r := by
  have h := ho.2.2.2.1
  have hb := rgB_bd hr
  unfold slotsI at h
  split at h <;> omega
theorem w_l3_yes (base F S I : Int) (h0 : 0 ≤ base) (h1 : base ≤ 100000) (hr : rgB r = true) (L : Lies r base x F S I) : ∀ (d : Nat) (s : Int), (d : Int) = S - s → 0 ≤ s →
    Ev (fun k => switchyardref13_Where.l3 k x a b base F s c r q) (a, b, F, S, I, true)
  | 0, s, hd, hs => by
    obtain rfl : s = S := by omega
    refine Ev.step (fun k => ?_) (w_l4_yes (c := c) (q := q) x a b base F s I h0 h1 hr L I.toNat 0 (by have := L.ok.2.2.2.2.1; omega) (by omega))
    simp only [switchyardref13_Where.l3]
    rw [if_pos (slot_lt hr L.ok)]
  | d + 1, s, hd, hs => by
    have hlt := slot_lt hr L.ok
    have hb := rgB_bd hr
    refine Ev.step (fun k => ?_) (w_l4_no x a b base F S I F s h0 h1 hr L (by omega) (by omega) (by omega) _ (w_l3_yes base F S I h0 h1 hr L d (s + 1) (by omega) (by omega)) 8 0 (by omega) (by omega))
    simp only [switchyardref13_Where.l3]
    rw [if_pos (by omega)]
theorem w_l3_no (base F S I f : Int) (h0 : 0 ≤ base) (h1 : base ≤ 100000) (hr : rgB r = true) (L : Lies r base x F S I) (hn : f ≠ F) (hf0 : 0 ≤ f) (hf1 : f ≤ 8) (res : R6) (h : Ev (fun k => switchyardref13_Where.l2 k x a b base (f + 1) c r q) res) : ∀ (d : Nat) (s : Int), (d : Int) = r - s → 0 ≤ s →
    Ev (fun k => switchyardref13_Where.l3 k x a b base f s c r q) res
  | 0, s, hd, hs => by
    refine Ev.step (fun k => ?_) h
    simp only [switchyardref13_Where.l3]
    rw [if_neg (by omega), w64 (by omega) (by omega)]
  | d + 1, s, hd, hs => by
    have hb := rgB_bd hr
    refine Ev.step (fun k => ?_) (w_l4_no x a b base F S I f s h0 h1 hr L (fun e => hn e.1) (by omega) (by omega) _ (w_l3_no base F S I f h0 h1 hr L hn hf0 hf1 res h d (s + 1) (by omega) (by omega)) 8 0 (by omega) (by omega))
    simp only [switchyardref13_Where.l3]
    rw [if_pos (by omega)]
theorem w_l2_yes (base F S I : Int) (h0 : 0 ≤ base) (h1 : base ≤ 100000) (hr : rgB r = true) (L : Lies r base x F S I) : ∀ (d : Nat) (f : Int), (d : Int) = F - f → 1 ≤ f →
    Ev (fun k => switchyardref13_Where.l2 k x a b base f c r q) (a, b, F, S, I, true)
  | 0, f, hd, hf => by
    obtain rfl : f = F := by omega
    refine Ev.step (fun k => ?_) (w_l3_yes (c := c) (q := q) x a b base f S I h0 h1 hr L S.toNat 0 (by have := L.ok.2.2.1; omega) (by omega))
    simp only [switchyardref13_Where.l2]
    rw [if_pos L.ok.2.1]
  | d + 1, f, hd, hf => by
    have hb := rgB_bd hr
    have h8 := L.ok.2.1
    refine Ev.step (fun k => ?_) (w_l3_no x a b base F S I f h0 h1 hr L (by omega) (by omega) (by omega) _ (w_l2_yes base F S I h0 h1 hr L d (f + 1) (by omega) (by omega)) r.toNat 0 (by omega) (by omega))
    simp only [switchyardref13_Where.l2]
    rw [if_pos (by omega)]

/-! ### the channels -/
theorem base_ev (f t : Int) : Ev (fun k => switchyardref13_Base.f k c r q f t) (if chB c r q f t = true then (chI c r f t, true) else (0, false)) :=
  ⟨200, fun k hk => by
    obtain ⟨m, rfl⟩ : ∃ m, k = m + 200 := ⟨k - 200, by omega⟩
    exact base_r c r q f t m⟩
theorem size_ev : Ev (fun k => switchyardref13_Size.f k r) (szI r) := ⟨7, fun k hk => size_r r k hk⟩
theorem w_j3_skip (base : Int) (hb0 : 0 ≤ b) (hb1 : b ≤ 100) (res : R6) (h : Ev (fun k => switchyardref13_Where.l1 k x a (b + 1) c r q) res) : Ev (fun k => switchyardref13_Where.j3 k x a b base true c r q) res := by
  refine Ev.step (fun k => ?_) h
  simp only [switchyardref13_Where.j3]
  rw [if_pos trivial, w64 (by omega) (by omega)]
theorem w_j3_go (base : Int) (res : R6) (h : Ev (fun k => switchyardref13_Where.l2 k x a b base 1 c r q) res) : Ev (fun k => switchyardref13_Where.j3 k x a b base false c r q) res := by
  refine Ev.step (fun k => ?_) h
  simp only [switchyardref13_Where.j3]
  rw [if_neg (by decide)]
theorem w_l1_go (hb : b < c) (hch : chB c r q a b = true) (h0 : chI c r a b ≤ x) (h1 : x < chI c r a b + szI r) (res : R6) (h : Ev (fun k => switchyardref13_Where.l2 k x a b (chI c r a b) 1 c r q) res) :
    Ev (fun k => switchyardref13_Where.l1 k x a b c r q) res := by
  have hB := @base_ev c r q a b
  rw [if_pos hch] at hB
  have hbd := chI_bd hch
  have hsz := @szI_bd r
  have h3 := w_j3_go x a b (chI c r a b) res h
  have hS := Ev.bind (f := fun k t122 => switchyardref13_Where.j3 k x a b (chI c r a b) (decide (x ≥ (wrap64 (chI c r a b + t122)))) c r q) (@size_ev r) (r := res) (Ev.congr (f := fun k => switchyardref13_Where.j3 k x a b (chI c r a b) false c r q) (fun k => by rw [w64 (by omega) (by omega), decide_eq_false (by omega)]) h3)
  have h2 := Ev.bind (f := fun k bt120 => (if bt120.2 = true then (if x < bt120.1 then (switchyardref13_Where.j3 k x a b bt120.1 true c r q) else ((switchyardref13_Size.f k r).bind fun t122 => (switchyardref13_Where.j3 k x a b bt120.1 (decide (x ≥ (wrap64 (bt120.1 + t122)))) c r q))) else (switchyardref13_Where.j3 k x a b bt120.1 true c r q))) hB
    (r := res) (Ev.congr (f := fun k => (switchyardref13_Size.f k r).bind fun t122 => switchyardref13_Where.j3 k x a b (chI c r a b) (decide (x ≥ (wrap64 (chI c r a b + t122)))) c r q) (fun k => by rw [if_pos rfl, if_neg (show ¬ (x < (chI c r a b, true).1) by dsimp only; omega)]) hS)
  refine Ev.step (fun k => ?_) h2
  simp only [switchyardref13_Where.l1]
  rw [if_pos hb]
theorem w_l1_skip (hb0 : 0 ≤ b) (hb : b < c) (hc8 : c ≤ 8) (hn : ¬ (chB c r q a b = true ∧ chI c r a b ≤ x ∧ x < chI c r a b + szI r)) (res : R6) (h : Ev (fun k => switchyardref13_Where.l1 k x a (b + 1) c r q) res) :
    Ev (fun k => switchyardref13_Where.l1 k x a b c r q) res := by
  have hB := @base_ev c r q a b
  have hj := fun base => w_j3_skip x a b base hb0 (by omega) res h
  have key : Ev (fun k => (fun k bt120 => (if bt120.2 = true then (if x < bt120.1 then (switchyardref13_Where.j3 k x a b bt120.1 true c r q) else ((switchyardref13_Size.f k r).bind fun t122 => (switchyardref13_Where.j3 k x a b bt120.1 (decide (x ≥ (wrap64 (bt120.1 + t122)))) c r q))) else (switchyardref13_Where.j3 k x a b bt120.1 true c r q))) k (if chB c r q a b = true then (chI c r a b, true) else (0, false))) res := by
    by_cases hch : chB c r q a b = true
    · rw [if_pos hch]
      have hbd := chI_bd hch
      have hsz := @szI_bd r
      by_cases h1 : x < chI c r a b
      · exact Ev.congr (fun k => by dsimp only; rw [if_pos rfl, if_pos h1]) (hj (chI c r a b))
      · have hS := Ev.bind (f := fun k t122 => switchyardref13_Where.j3 k x a b (chI c r a b) (decide (x ≥ (wrap64 (chI c r a b + t122)))) c r q) (@size_ev r) (r := res) (Ev.congr (f := fun k => switchyardref13_Where.j3 k x a b (chI c r a b) true c r q) (fun k => by rw [w64 (by omega) (by omega), decide_eq_true (by by_cases h5 : x < chI c r a b + szI r; exact absurd ⟨hch, by omega, h5⟩ hn; omega)]) (hj (chI c r a b)))
        exact Ev.congr (fun k => by dsimp only; rw [if_pos rfl, if_neg h1]) hS
    · rw [if_neg hch]
      exact Ev.congr (fun k => by dsimp only; rw [if_neg (by decide)]) (hj 0)
  refine Ev.step (fun k => ?_) (Ev.bind (f := fun k bt120 => (if bt120.2 = true then (if x < bt120.1 then (switchyardref13_Where.j3 k x a b bt120.1 true c r q) else ((switchyardref13_Size.f k r).bind fun t122 => (switchyardref13_Where.j3 k x a b bt120.1 (decide (x ≥ (wrap64 (bt120.1 + t122)))) c r q))) else (switchyardref13_Where.j3 k x a b bt120.1 true c r q))) hB key)
  simp only [switchyardref13_Where.l1]
  rw [if_pos hb]
theorem w_l1_no (ha0 : 0 ≤ a) (ha : a ≤ 100) (hc8 : c ≤ 8) (res : R6) (h : Ev (fun k => switchyardref13_Where.l0 k x (a + 1) c r q) res) : ∀ (d : Nat) (b : Int), (d : Int) = c - b → 0 ≤ b → (∀ b', b ≤ b' → b' < c → ¬ (chB c r q a b' = true ∧ chI c r a b' ≤ x ∧ x < chI c r a b' + szI r)) →
    Ev (fun k => switchyardref13_Where.l1 k x a b c r q) res
  | 0, b, hd, hb, hn => by
    refine Ev.step (fun k => ?_) h
    simp only [switchyardref13_Where.l1]
    rw [if_neg (by omega), w64 (by omega) (by omega)]
  | d + 1, b, hd, hb, hn => w_l1_skip x a b hb (by omega) hc8 (hn b (Int.le_refl _) (by omega)) res (w_l1_no ha0 ha hc8 res h d (b + 1) (by omega) (by omega) (fun b' h1 h2 => hn b' (by omega) h2))
theorem w_l1_yes (B : Int) (hc8 : c ≤ 8) (hB : B < c) (hch : chB c r q a B = true) (h0 : chI c r a B ≤ x) (h1 : x < chI c r a B + szI r) (res : R6) (h : Ev (fun k => switchyardref13_Where.l2 k x a B (chI c r a B) 1 c r q) res) : ∀ (d : Nat) (b : Int), (d : Int) = B - b → 0 ≤ b → (∀ b', b ≤ b' → b' < B → ¬ (chB c r q a b' = true ∧ chI c r a b' ≤ x ∧ x < chI c r a b' + szI r)) →
    Ev (fun k => switchyardref13_Where.l1 k x a b c r q) res
  | 0, b, hd, hb, hn => by
    obtain rfl : b = B := by omega
    exact w_l1_go x a b hB hch h0 h1 res h
  | d + 1, b, hd, hb, hn => w_l1_skip x a b hb (by omega) hc8 (hn b (Int.le_refl _) (by omega)) res (w_l1_yes B hc8 hB hch h0 h1 res h d (b + 1) (by omega) (by omega) (fun b' h1 h2 => hn b' (by omega) h2))
theorem w_l0_no (hc8 : c ≤ 8) (hc0 : 0 ≤ c) (hn : ∀ a' b', 0 ≤ a' → a' < c → 0 ≤ b' → b' < c → ¬ (chB c r q a' b' = true ∧ chI c r a' b' ≤ x ∧ x < chI c r a' b' + szI r)) : ∀ (d : Nat) (a : Int), (d : Int) = c - a → 0 ≤ a →
    Ev (fun k => switchyardref13_Where.l0 k x a c r q) (0, 0, 0, 0, 0, false)
  | 0, a, hd, ha => by
    refine Ev.step (f := fun _ => some (0, 0, 0, 0, 0, false)) (fun k => ?_) (Ev.now _)
    simp only [switchyardref13_Where.l0]
    rw [if_neg (by omega)]
  | d + 1, a, hd, ha => by
    refine Ev.step (fun k => ?_) (w_l1_no x a ha (by omega) hc8 _ (w_l0_no hc8 hc0 hn d (a + 1) (by omega) (by omega)) c.toNat 0 (by omega) (by omega) (fun b' h1 h2 => hn a b' ha (by omega) h1 h2))
    simp only [switchyardref13_Where.l0]
    rw [if_pos (by omega)]
theorem w_l0_yes (A B : Int) (hc8 : c ≤ 8) (hA0 : 0 ≤ A) (hA : A < c) (hB0 : 0 ≤ B) (hB : B < c) (hch : chB c r q A B = true) (h0 : chI c r A B ≤ x) (h1 : x < chI c r A B + szI r) (res : R6) (h : Ev (fun k => switchyardref13_Where.l2 k x A B (chI c r A B) 1 c r q) res)
    (hn : ∀ a' b', 0 ≤ a' → a' < c → 0 ≤ b' → b' < c → (chB c r q a' b' = true ∧ chI c r a' b' ≤ x ∧ x < chI c r a' b' + szI r) → a' = A ∧ b' = B) : ∀ (d : Nat) (a : Int), (d : Int) = A - a → 0 ≤ a →
    Ev (fun k => switchyardref13_Where.l0 k x a c r q) res
  | 0, a, hd, ha => by
    obtain rfl : a = A := by omega
    refine Ev.step (fun k => ?_) (w_l1_yes x a B hc8 hB hch h0 h1 res h B.toNat 0 (by omega) (by omega) (fun b' h3 h4 h5 => by have := hn a b' ha (by omega) h3 (by omega) h5; omega))
    simp only [switchyardref13_Where.l0]
    rw [if_pos (by omega)]
  | d + 1, a, hd, ha => by
    refine Ev.step (fun k => ?_) (w_l1_no x a ha (by omega) hc8 _ (w_l0_yes A B hc8 hA0 hA hB0 hB hch h0 h1 res h hn d (a + 1) (by omega) (by omega)) c.toNat 0 (by omega) (by omega) (fun b' h3 h4 h5 => by have := hn a b' ha (by omega) h3 h4 h5; omega))
    simp only [switchyardref13_Where.l0]
    rw [if_pos (by omega)]
end
/-- The reference's Where. -/
theorem where_yes {c r q x : Int} (h : 0 ≤ x ∧ x < woI c r q) : Ev (fun k => switchyardref13_Where.f k c r q x) (whA c r x, whB c r x, (whP r (x % szI r)).1, (whP r (x % szI r)).2.1, (whP r (x % szI r)).2.2, true) := by
  obtain ⟨h1, _⟩ := wo_rt h
  have hb := rtB_bd h1
  have hr := rgB_bd hb.2.2.1
  have hz := sz_eq h1
  obtain ⟨k1, k2, k3, k4⟩ := back1 h
  have hh := chB_is k1
  have hbd := chI_bd k1
  have hm0 : 0 ≤ x % szI r := Int.emod_nonneg _ (by omega)
  have hm1 : x % szI r < szI r := Int.emod_lt_of_pos _ (by omega)
  have hdm := Int.mul_ediv_add_emod x (szI r)
  rw [Int.mul_comm] at hdm
  have L : Lies r (chI c r (whA c r x) (whB c r x)) x (whP r (x % szI r)).1 (whP r (x % szI r)).2.1 (whP r (x % szI r)).2.2 := by
    refine ⟨k3, by rw [k2, k4]; exact hdm, fun f s i ho he => ?_⟩
    have h5 := back2 k1 ho
    rw [he] at h5
    have h6 := h5.2.2.2.2
    rw [h6]
    exact ⟨rfl, rfl, rfl⟩
  have hl2 := w_l2_yes (c := c) (q := q) x (whA c r x) (whB c r x) (chI c r (whA c r x) (whB c r x)) _ _ _ hbd.1 (by omega) hb.2.2.1 L ((whP r (x % szI r)).1 - 1).toNat 1 (by have := k3.1; omega) (by omega)
  have hl0 := w_l0_yes x (whA c r x) (whB c r x) hb.2.1 hh.2.1 hh.2.2.1 hh.2.2.2.1 hh.2.2.2.2.1 k1 (by omega) (by omega) _ hl2 (fun a' b' ha0 ha1 hb0 hb1 hx => by
    obtain ⟨c1, c2, c3⟩ := hx
    have hw := word1 hb.2.2.1 (show 0 ≤ x - chI c r a' b' by omega) (by omega)
    have h5 := back2 c1 hw.1
    rw [hw.2, show chI c r a' b' + (x - chI c r a' b') = x by omega] at h5
    exact ⟨h5.2.2.1.symm, h5.2.2.2.1.symm⟩) (whA c r x).toNat 0 (by have := hh.2.1; omega) (by omega)
  have hj : Ev (fun k => switchyardref13_Where.j0 k x (decide (x < 0)) c r q) (whA c r x, whB c r x, (whP r (x % szI r)).1, (whP r (x % szI r)).2.1, (whP r (x % szI r)).2.2, true) := by
    rw [decide_eq_false (by omega)]
    refine Ev.step (fun k => ?_) hl0
    simp only [switchyardref13_Where.j0]
    rw [if_neg (by decide)]
  have hR : Ev (fun k => switchyardref13_Right.f k c r q) true := ⟨7, fun k hk => by
    obtain ⟨m, rfl⟩ : ∃ m, k = m + 7 := ⟨k - 7, by omega⟩
    exact (right_r c r q m).trans (by rw [h1])⟩
  exact Ev.congr (fun k => rfl) (Ev.bind (f := fun k t119 => (if t119 = true then (switchyardref13_Where.j0 k x (decide (x < 0)) c r q) else (switchyardref13_Where.j0 k x true c r q))) hR (Ev.congr (fun k => by rw [if_pos rfl]) hj))
theorem where_no {c r q x : Int} (h : ¬ (0 ≤ x ∧ x < woI c r q)) : Ev (fun k => switchyardref13_Where.f k c r q x) (0, 0, 0, 0, 0, false) := by
  have hjt : Ev (fun k => switchyardref13_Where.j0 k x true c r q) (0, 0, 0, 0, 0, false) := by
    refine Ev.step (f := fun _ => some (0, 0, 0, 0, 0, false)) (fun k => ?_) (Ev.now _)
    simp only [switchyardref13_Where.j0]
    rw [if_pos trivial]
  have hR : Ev (fun k => switchyardref13_Right.f k c r q) (rtB c r q) := ⟨7, fun k hk => by
    obtain ⟨m, rfl⟩ : ∃ m, k = m + 7 := ⟨k - 7, by omega⟩
    exact right_r c r q m⟩
  have key : Ev (fun k => (if rtB c r q = true then (switchyardref13_Where.j0 k x (decide (x < 0)) c r q) else (switchyardref13_Where.j0 k x true c r q))) (0, 0, 0, 0, 0, false) := by
    cases h1 : rtB c r q with
    | false => exact Ev.congr (fun k => by rw [if_neg (by decide)]) hjt
    | true =>
      have hb := rtB_bd h1
      have hr := rgB_bd hb.2.2.1
      have hz := sz_eq h1
      by_cases hx : x < 0
      · rw [decide_eq_true hx]
        exact Ev.congr (fun k => by rw [if_pos rfl]) hjt
      · have hl0 := w_l0_no (r := r) (q := q) x hb.2.1 (by omega) (fun a' b' ha0 ha1 hb0 hb1 hh => by
          obtain ⟨c1, c2, c3⟩ := hh
          have hw := word1 hb.2.2.1 (show 0 ≤ x - chI c r a' b' by omega) (by omega)
          have h5 := back2 c1 hw.1
          rw [hw.2, show chI c r a' b' + (x - chI c r a' b') = x by omega] at h5
          exact h ⟨h5.1, h5.2.1⟩) c.toNat 0 (by omega) (by omega)
        rw [decide_eq_false hx]
        refine Ev.congr (f := fun k => switchyardref13_Where.j0 k x false c r q) (fun k => by rw [if_pos rfl]) ?_
        refine Ev.step (fun k => ?_) hl0
        simp only [switchyardref13_Where.j0]
        rw [if_neg (by decide)]
  exact Ev.congr (fun k => rfl) (Ev.bind (f := fun k t119 => (if t119 = true then (switchyardref13_Where.j0 k x (decide (x < 0)) c r q) else (switchyardref13_Where.j0 k x true c r q))) hR key)
end Go.Proofs.YtmfpahdbjcpmkaaDoor.Plot
