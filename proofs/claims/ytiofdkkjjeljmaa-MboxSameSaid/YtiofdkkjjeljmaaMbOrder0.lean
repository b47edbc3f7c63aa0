/- MboxOrder, walked. -/
import Derived.Test.YtiofdkkjjeljmaaMbDo
import Derived.Test.YtiofdkkjjeljmaaOpen
namespace Go.Proofs.Ytiofdkkjjeljmaa.Mb
set_option linter.unusedVariables false
set_option linter.unusedSimpArgs false
open Go.RowKit Go.Proofs.Ytiofdkkjjeljmaa.Sep Go.Proofs.Ytiofdkkjjeljmaa.Lane Go.Proofs.Ytiofdkkjjeljmaa.Open

/-- A list of items. -/
def iw (x : It) : List Value := [.int .i64 (x.f : Int), .int .i64 (x.w : Int)]
abbrev il (V : Value) (L : List It) : Rg := slc 64 2 V L.length (L.flatMap iw)
theorem iw_len : ∀ L : List It, (L.flatMap iw).length = L.length * 2
  | [] => rfl
  | x :: L => by
    rw [List.flatMap_cons, List.length_append, iw_len L, List.length_cons]
    simp [iw]
    omega
theorem iw_at : ∀ (L : List It) (j : Nat), j < L.length → (L.flatMap iw)[j * 2]? = some (.int .i64 ((L.getD j default).f : Int)) ∧ (L.flatMap iw)[j * 2 + 1]? = some (.int .i64 ((L.getD j default).w : Int))
  | x :: L, 0, _ => ⟨rfl, rfl⟩
  | x :: L, j + 1, h => by
    have := iw_at L j (by simpa using h)
    rw [show (j + 1) * 2 = j * 2 + 2 by omega]
    simpa [iw] using this
theorem iw_snoc (L : List It) (x : It) : (L ++ [x]).flatMap iw = L.flatMap iw ++ iw x := by simp
section
variable {P0 : Nat → Prop} {w0 w w' : World} {F : List Rg} {V : Value} {L : List It}
theorem il_form (h : St P0 w0 w (il V L :: F)) : ∃ A c, V = .slice A L.length c ∧ L.length ≤ c ∧ c ≤ maxLen ∧ (∀ j, j < L.length → ∃ g o, A = some ⟨g, o, none⟩ ∧ w.cell? ⟨g, o + j * 2, none⟩ = some (.int .i64 ((L.getD j default).f : Int)) ∧ w.cell? ⟨g, o + j * 2 + 1, none⟩ = some (.int .i64 ((L.getD j default).w : Int))) := by
  obtain ⟨P, ⟨Q, Q2, _, _, _, h2, _⟩, _⟩ := St.step (L := [il V L]) h
  obtain ⟨A, c, rfl, h3, h4⟩ := slc_form h2
  refine ⟨A, c, rfl, h3, h4, fun j hj => ?_⟩
  obtain ⟨g, o, rfl, _, _, _, hc, _⟩ := slc_cells h2 (by omega)
  have h5 := iw_at L j hj
  exact ⟨g, o, rfl, hc _ _ h5.1, by rw [Nat.add_assoc]; exact hc _ _ h5.2⟩
end
theorem info_item : (Try.prog.info? 64).map (fun i => (i.zero, i.size, i.bytes)) = some (some (.agg #[.int .i64 0, .int .i64 0]), 2, 16) := by kernel_rfl
theorem row4_cells {w : World} {A : Option Addr} {rows : List (List Int)} (hr : Recs 4 w A rows) (i : Nat) (hi : i < rows.length) : ∃ ad k a n z, A = some ad ∧ w.cell? (ad.add (i * 4)) = some (.int .i64 k) ∧ w.cell? ⟨(ad.add (i * 4)).block, (ad.add (i * 4)).off + 1, none⟩ = some (.int .i64 a) ∧ w.cell? ⟨(ad.add (i * 4)).block, (ad.add (i * 4)).off + 2, none⟩ = some (.int .i64 n) ∧ w.cell? ⟨(ad.add (i * 4)).block, (ad.add (i * 4)).off + 3, none⟩ = some (.int .i64 z) := by
  obtain ⟨ad, rfl, hc⟩ := hr i hi
  have h0 := hc 0 (by omega)
  have h1 := hc 1 (by omega)
  have h2 := hc 2 (by omega)
  have h3 := hc 3 (by omega)
  rw [← Go.Deep.add_add] at h1 h2 h3
  exact ⟨ad, _, _, _, _, rfl, h0, h1, h2, h3⟩
theorem getD_set_ne (S : List MC) (i j : Nat) (C : MC) (h : i ≠ j) : (S.set i C).getD j default = S.getD j default := by
  simp [List.getD_eq_getElem?_getD, List.getElem?_set, h]
theorem getD_set_eq (S : List MC) (i : Nat) (C : MC) (h : i < S.length) : (S.set i C).getD i default = C := by
  simp [List.getD_eq_getElem?_getD, List.getElem?_set, h]
/-- What a call does to a core's mailbox, as the law's own list sees it. -/
theorem order_cases (S : List MC) (c : Nat) (hc : c < S.length) (h8 : S.length ≤ 8) (k a t z : Int) (hk : k ≠ 4) :
    ∃ S' p q e, doM S k a t z = (S', (p, q), e) ∧ S'.length = S.length ∧
      ((∃ (f v : Nat) (hf : f < 8) (hv : v ≤ 65535), k = 0 ∧ t = c ∧ a = f ∧ z = v ∧ f < S.length ∧ e = 0 ∧ (S'.getD c default).m = orN (S.getD c default).m f ∧ (S'.getD c default).q = (S.getD c default).q ++ [⟨f, v, hf, hv⟩])
      ∨ (∃ f : Nat, f < 8 ∧ k = 0 ∧ t = c ∧ a = f ∧ f < S.length ∧ e = 5 ∧ (S'.getD c default).m = orN (S.getD c default).m f ∧ (S'.getD c default).q = (S.getD c default).q)
      ∨ (k = 2 ∧ a = c ∧ (S'.getD c default).m = ackN (S.getD c default).m z ∧ (S'.getD c default).q = (S.getD c default).q)
      ∨ (∃ x, k = 3 ∧ a = c ∧ e = 0 ∧ p = (x.f : Int) ∧ q = (x.w : Int) ∧ (S'.getD c default).m = (S.getD c default).m ∧ (S.getD c default).q = x :: (S'.getD c default).q)
      ∨ (S'.getD c default = S.getD c default ∧ ((k = 0 ∧ t ≠ c) ∨ (k = 0 ∧ t = c ∧ e ≠ 0 ∧ e ≠ 5) ∨ (k = 2 ∧ a ≠ c) ∨ (k = 3 ∧ a ≠ c) ∨ (k = 3 ∧ a = c ∧ e ≠ 0) ∨ (k ≠ 0 ∧ k ≠ 2 ∧ k ≠ 3)))) := by
  by_cases k0 : k = 0
  · subst k0
    refine ⟨_, 0, 0, _, if_pos rfl, ?_⟩
    unfold ringM
    by_cases ha : 0 ≤ a ∧ a < S.length
    · rw [if_pos ha]
      by_cases ht : 0 ≤ t ∧ t < S.length
      · rw [if_pos ht]
        by_cases hz : 0 ≤ z ∧ z ≤ 65535
        · rw [if_pos hz]
          refine ⟨by simp, ?_⟩
          by_cases htc : t = c
          · subst htc
            rw [Int.toNat_natCast, getD_set_eq S c _ hc]
            unfold ringC
            rw [dif_pos (by omega)]
            by_cases h16 : (S.getD c default).q.length = 16
            · rw [if_pos h16]
              simp only [if_pos h16]
              exact .inr (.inl ⟨a.toNat, by omega, (by first | rfl | trivial), (by first | rfl | trivial), by omega, by omega, (by first | rfl | trivial), (by first | rfl | trivial), (by first | rfl | trivial)⟩)
            · rw [if_neg h16]
              simp only [if_neg h16]
              refine .inl ⟨a.toNat, z.toNat, by omega, by omega, (by first | rfl | trivial), (by first | rfl | trivial), by omega, by omega, by omega, (by first | rfl | trivial), (by first | rfl | trivial), ?_⟩
              unfold mkIt
              rw [dif_pos (by omega)]
          · rw [getD_set_ne S _ _ _ (by omega)]
            exact .inr (.inr (.inr (.inr ⟨rfl, .inl ⟨rfl, htc⟩⟩)))
        · rw [if_neg hz]
          refine ⟨rfl, .inr (.inr (.inr (.inr ⟨rfl, ?_⟩)))⟩
          by_cases htc : t = c
          · exact .inr (.inl ⟨rfl, htc, by simp, by simp⟩)
          · exact .inl ⟨rfl, htc⟩
      · rw [if_neg ht]
        refine ⟨rfl, .inr (.inr (.inr (.inr ⟨rfl, .inl ⟨rfl, by omega⟩⟩)))⟩
    · rw [if_neg ha]
      refine ⟨rfl, .inr (.inr (.inr (.inr ⟨rfl, ?_⟩)))⟩
      by_cases htc : t = c
      · exact .inr (.inl ⟨rfl, htc, by simp, by simp⟩)
      · exact .inl ⟨rfl, htc⟩
  · by_cases k2 : k = 2
    · subst k2
      refine ⟨_, 0, 0, _, rfl, ?_⟩
      unfold ackM
      by_cases ha : 0 ≤ a ∧ a < S.length
      · rw [if_pos ha]
        refine ⟨by simp, ?_⟩
        by_cases hac : a = c
        · subst hac
          have hs := getD_set_eq S c ⟨ackN (S.getD c default).m z, (S.getD c default).q, ackN_lt _ z (S.getD c default).hm⟩ hc
          exact .inr (.inr (.inl ⟨rfl, rfl, (by have h := congrArg MC.m hs; exact h), (by have h := congrArg MC.q hs; exact h)⟩))
        · rw [getD_set_ne S _ _ _ (by omega)]
          exact .inr (.inr (.inr (.inr ⟨rfl, .inr (.inr (.inl ⟨rfl, hac⟩))⟩)))
      · rw [if_neg ha]
        exact ⟨rfl, .inr (.inr (.inr (.inr ⟨rfl, .inr (.inr (.inl ⟨rfl, by omega⟩))⟩)))⟩
    · by_cases k3 : k = 3
      · subst k3
        refine ⟨_, _, _, _, rfl, ?_⟩
        unfold takeM
        by_cases ha : 0 ≤ a ∧ a < S.length
        · rw [if_pos ha]
          refine ⟨by simp, ?_⟩
          by_cases hac : a = c
          · subst hac
            have hs : ((S.set c ⟨(S.getD c default).m, (S.getD c default).q.tail, (S.getD c default).hm⟩).getD c default) = ⟨(S.getD c default).m, (S.getD c default).q.tail, (S.getD c default).hm⟩ := getD_set_eq S c _ hc
            show _ ∨ _ ∨ _ ∨ (∃ x : It, (3 : Int) = 3 ∧ (c : Int) = c ∧ (if (S.getD c default).q.isEmpty = true then (6 : Int) else 0) = 0 ∧ (((S.getD c default).q.headD default).f : Int) = x.f ∧ (((S.getD c default).q.headD default).w : Int) = x.w ∧ ((S.set c ⟨(S.getD c default).m, (S.getD c default).q.tail, (S.getD c default).hm⟩).getD c default).m = (S.getD c default).m ∧ (S.getD c default).q = x :: ((S.set c ⟨(S.getD c default).m, (S.getD c default).q.tail, (S.getD c default).hm⟩).getD c default).q) ∨ ((S.set c ⟨(S.getD c default).m, (S.getD c default).q.tail, (S.getD c default).hm⟩).getD c default = S.getD c default ∧ (_ ∨ _ ∨ _ ∨ _ ∨ ((3 : Int) = 3 ∧ (c : Int) = c ∧ (if (S.getD c default).q.isEmpty = true then (6 : Int) else 0) ≠ 0) ∨ _))
            rw [hs]
            cases hq : (S.getD c default).q with
            | nil =>
              refine .inr (.inr (.inr (.inr ⟨?_, .inr (.inr (.inr (.inr (.inl ⟨rfl, rfl, by simp⟩))))⟩)))
              generalize S.getD c default = C at *
              obtain ⟨m, q, hm⟩ := C
              simp at hq
              subst hq
              rfl
            | cons x r => exact .inr (.inr (.inr (.inl ⟨x, rfl, rfl, by simp, rfl, rfl, rfl, rfl⟩)))
          · rw [getD_set_ne S _ _ _ (by omega)]
            exact .inr (.inr (.inr (.inr ⟨rfl, .inr (.inr (.inr (.inl ⟨rfl, hac⟩)))⟩)))
        · rw [if_neg ha]
          exact ⟨rfl, .inr (.inr (.inr (.inr ⟨rfl, .inr (.inr (.inr (.inl ⟨rfl, by omega⟩)))⟩)))⟩
      · refine ⟨S, 0, (pendM S a).1, (pendM S a).2, ?_, rfl, .inr (.inr (.inr (.inr ⟨rfl, .inr (.inr (.inr (.inr (.inr ⟨k0, k2, k3⟩))))⟩)))⟩
        unfold doM
        rw [if_neg k0, if_neg k2, if_neg k3, if_neg hk]
end Go.Proofs.Ytiofdkkjjeljmaa.Mb
