/- The reference's Do; what the cores are. -/
import Derived.Test.YtdhgmnnkbjhpaaaNr3
namespace Go.Proofs.Ytdhgmnnkbjhpaaa.Ntab
set_option linter.unusedVariables false
set_option linter.unusedSimpArgs false
open Go.RowKit Go.Proofs.Ytdhgmnnkbjhpaaa.Sep Go.Proofs.Ytdhgmnnkbjhpaaa.Mp Go.Proofs.Ytdhgmnnkbjhpaaa.PNamesPlay Go.Proofs.Ytdhgmnnkbjhpaaa.NoteOk Go.Proofs.YtdhgmnnkbjhpaaaW.PrintWords
open Go.Maps (Keyed)

theorem tell_core {L : List S66} (h : ∀ x ∈ L, 0 ≤ x.f1) (core : Int) (g : Bool) (s : ByteArray) (a : Int) : ∀ x ∈ (tellN L core g s a).1, 0 ≤ x.f1 := by
  unfold tellN
  split
  · exact h
  next hc =>
  split
  · exact h
  unfold tellY
  split
  · split
    · exact h
    split
    · exact h
    · intro x hx
      rcases (insN_mem _ x _).1 hx with rfl | hx
      · show 0 ≤ core
        omega
      · exact h x (delN_mem.1 hx).1
  · split <;> split <;> first | exact h | exact fun x hx => h x (delN_mem.1 hx).1
theorem do_core {L : List S66} (h : ∀ x ∈ L, 0 ≤ x.f1) (k core : Int) (g : Bool) (s : ByteArray) (a : Int) : ∀ x ∈ (doN L k core g s a).1, 0 ≤ x.f1 := by
  unfold doN
  split
  · exact fun x hx => h x (List.mem_filter.1 hx).1
  · exact tell_core h core g s a
theorem of_below {L : List S66} (h : ∀ x ∈ L, 0 ≤ x.f1) {core : Int} (hc : core < 0) : ofN L core = [] := by
  unfold ofN
  rw [List.filter_eq_nil_iff]
  intro x hx e
  have := h x hx
  have e2 : x.f1 = core := by simpa using e
  omega
set_option maxHeartbeats 4000000 in
set_option maxRecDepth 100000 in
theorem rdo_u {A : Option Addr} {c : Nat} {L : List S66} {w : World} (h : Tb w A c L) (hm : Okt L) (k core : Int) (g : Bool) (s : ByteArray) (a : Int) (hs : s.size ≤ 1000) :
    Calls Try.prog 26 #[.slice A L.length c, .agg #[.int .i64 k, .int .i64 core, .bool g, .string s, .int .i64 a]] w fun e w' =>
      ∃ A' c', e = .returned (.tuple #[.slice A' (doN L k core g s a).1.length c', .int .i64 (doN L k core g s a).2.1, .int .i64 (doN L k core g s a).2.2]) ∧ Tb w' A' c' (doN L k core g s a).1 ∧ NewT w w' A A' c c' L (doN L k core g s a).1 ∧ Up w w' := by
  have HU : Hid (Up w (w.alloc (.cells #[.int .i64 k, .int .i64 core, .bool g, .string s, .int .i64 a] 58))) := Lib.hid ((Up.refl w).alloc _)
  have hb : L.length ≤ 1000 := by have := hm.len; omega
  by_cases hk : k = 1
  · have e0 : doN L k core g s a = (dropN L core, ((ofN L core).length : Int), 0) := by unfold doN; rw [if_pos hk]
    rw [e0]
    subst hk
    clear e0
    have HD := Lib.hid (rdrop_u (h.up HU.out) hb core)
    clear h
    dsimp only
    generalize (ofN L core).length = nl at *
    generalize dropN L core = L' at *
    go_enter Try.func26, Try.ntmps26
    go_wp2_with (go_at_call 47; refine HD.out.mono ?_; rintro e w2 ⟨A', c', rfl, ht, hnt, hu⟩; have HNT := Lib.hid (hnt.before HU.out); have HT2 := Lib.hid ht; have HU2 := Lib.hid (HU.out.trans hu); clear ht hu hnt)
    go_ret3
    exact ⟨_, _, rfl, HT2.out, HNT.out, HU2.out⟩
  · have e0 : doN L k core g s a = ((tellN L core g s a).1, 0, (tellN L core g s a).2) := by unfold doN; rw [if_neg hk]
    rw [e0]
    have hk1 : (k == 1) = false := beq_eq_false_iff_ne.2 hk
    clear e0
    have HD := Lib.hid (rtell_u (h.up HU.out) hm core g s a hs)
    clear h
    dsimp only
    generalize (tellN L core g s a) = r at *
    obtain ⟨L', e'⟩ := r
    dsimp only at *
    go_enter Try.func26, Try.ntmps26
    go_wp2_with (go_at_call 48; refine HD.out.mono ?_; rintro e w2 ⟨A', c', rfl, ht, hnt, hu⟩; have HNT := Lib.hid (hnt.before HU.out); have HT2 := Lib.hid ht; have HU2 := Lib.hid (HU.out.trans hu); clear ht hu hnt)
    go_ret3
    exact ⟨_, _, rfl, HT2.out, HNT.out, HU2.out⟩
end Go.Proofs.Ytdhgmnnkbjhpaaa.Ntab
