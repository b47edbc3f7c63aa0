/- The memory (sram), lists of ints and the reference's list as separate parts. -/
import Derived.Test.YtiofdkkjjeljmaaSramAlive
import Derived.Test.YtiofdkkjjeljmaaSramPure
import Derived.Test.YtiofdkkjjeljmaaSepApp
import Derived.Test.YtiofdkkjjeljmaaWMore
namespace Go.Proofs.Ytiofdkkjjeljmaa.Sram
set_option linter.unusedVariables false
set_option linter.unusedSimpArgs false
open Go.RowKit Go.Proofs.Ytiofdkkjjeljmaa.Lat Go.Proofs.Ytiofdkkjjeljmaa.Sep Go.Proofs.Ytiofdkkjjeljmaa.Same3 Go.Proofs.YtiofdkkjjeljmaaW.PrintWords Go.Proofs.Ytiofdkkjjeljmaa.PSramPlays

/-- A memory. -/
def ram (b : Nat) (ws : List Int) : Rg where
  X w P := ∃ R, P b ∧ P R ∧ RamAt w b R ws
  move h hm := by
    obtain ⟨R, h1, h2, h3⟩ := h
    exact ⟨R, h1, h2, by obtain ⟨c, h4, h5⟩ := h3.hb; exact ⟨c, h4, (hm b h1 h3.lt.1).trans h5⟩, by obtain ⟨c, h4, h5⟩ := h3.hR; exact ⟨c, h4, (hm R h2 h3.lt.2).trans h5⟩, h3.pos, h3.le, h3.ne, h3.ok⟩
  bound h := by
    obtain ⟨R, h1, h2, h3⟩ := h
    exact ⟨R, ⟨h1, h3.lt.1⟩, ⟨h2, h3.lt.2⟩, h3⟩
  mono h hP := by
    obtain ⟨R, h1, h2, h3⟩ := h
    exact ⟨R, hP _ h1, hP _ h2, h3⟩
/-- A slice of ints. -/
def lat (v : Value) (q : List Int) : Rg where
  X w P := LAt w P v q
  move h hm := LAt.move h hm
  bound h := LAt.bound h
  mono h hP := LAt.mono h hP
/-- A list of the reference's. -/
def lst (base : Nat) (v : Value) (xs : List Int) : Rg where
  X w P := Kd.R (Kd.int .i64) 3 w base P v xs
  move h hm := Kd.R_step h hm
  bound h := Kd.R_mono (Kd.R_bound h) (fun k hk => ⟨hk.1, hk.2.2.1⟩)
  mono h hP := Kd.R_mono h hP
theorem lat_of_R {w : World} {base : Nat} {P : Nat → Prop} {v : Value} {xs : List Int} (h : Kd.R (Kd.int .i64) 3 w base P v xs) : LAt w P v xs := by
  have ho := Kd.own_of_R h
  have hl := LAt.of_own (q := xs) ho
  rcases hl with hl | ⟨ad, c, rfl, hc, hh⟩
  · exact .inl hl
  · exact .inr ⟨ad, c, rfl, hc, fun j hj => ⟨h.1 _ rfl, (hh j hj).2⟩⟩
section
variable {P0 : Nat → Prop} {w0 w w' : World} {L : List Rg}
/-- A contract on a memory, as a step. -/
theorem ram_step {b : Nat} {ws : List Int} (h : St P0 w0 w (ram b ws :: L)) : ∃ R, RamAt w b R ws ∧ ∀ {w' ws'}, RamAt w' b R ws' → Off1 R w w' → St P0 w0 w' (ram b ws' :: L) := by
  obtain ⟨P, ⟨Q, Q2, hq, _, _, ⟨R, h1, h2, h3⟩, _⟩, hs⟩ := St.step (L := [ram b ws]) h
  refine ⟨R, h3, fun {w' ws'} h4 ho => hs (M := [ram b ws']) ⟨⟨ho.os, ho.tape, ho.output, ho.size, fun k hk hn => ho.block k hk (fun e => hn (by rw [e]; exact hq R h2))⟩, fun k => k = b ∨ k = R, No, ?_, fun _ e => e.elim, fun _ _ e => e.elim, ⟨R, .inl rfl, .inr rfl, h4⟩, trivial⟩⟩
  rintro k (rfl | rfl)
  · exact ⟨.inl (hq _ h1), h4.lt.1⟩
  · exact ⟨.inl (hq _ h2), h4.lt.2⟩
theorem ram_new {b R : Nat} {ws : List Int} (h : St P0 w0 w L) (hr : RamAt w' b R ws) (hu : Up w w') (hb : w.heap.size ≤ b) (hR : w.heap.size ≤ R) : St P0 w0 w' (ram b ws :: L) :=
  h.fresh (M := [ram b ws]) hu ⟨fun k => w.heap.size ≤ k, No, fun k hk => hk, fun _ e => e.elim, fun _ _ e => e.elim, ⟨R, hb, hR, hr⟩, trivial⟩
theorem lat_new {v : Value} {q : List Int} (h : St P0 w0 w L) (hr : LAt w' (fun k => w.heap.size ≤ k) v q) (hu : Up w w') : St P0 w0 w' (lat v q :: L) :=
  h.fresh (M := [lat v q]) hu ⟨fun k => w.heap.size ≤ k, No, fun k hk => hk, fun _ e => e.elim, fun _ _ e => e.elim, hr, trivial⟩
theorem New_st (h : St P0 w0 w L) (n : Nat) (h1 : 1 ≤ n) (h2 : n ≤ 65536) : Calls Try.prog 15 #[.int .i64 n] w fun e w' => ∃ b, e = .returned (.tuple #[.pointer (some ⟨b, 0, none⟩), .int .i64 0]) ∧ St P0 w0 w' (ram b (List.replicate n 0) :: L) := by
  refine (new_ok n h1 h2 w).mono ?_
  rintro e w' ⟨b, R, rfl, hr, hu, hb, hR⟩
  exact ⟨b, rfl, ram_new h hr hu hb hR⟩
theorem Size_st {b : Nat} {ws : List Int} (h : St P0 w0 w (ram b ws :: L)) : Calls Try.prog 20 #[.pointer (some ⟨b, 0, none⟩)] w fun e w' => e = .returned (.int .i64 ws.length) ∧ St P0 w0 w' (ram b ws :: L) := by
  obtain ⟨R, hr, hs⟩ := ram_step h
  refine (size_walk b R ws w hr).mono ?_
  rintro e w' ⟨rfl, hu⟩
  exact ⟨rfl, h.more hu⟩
theorem ram_le {b : Nat} {ws : List Int} (h : St P0 w0 w (ram b ws :: L)) : 1 ≤ ws.length ∧ ws.length ≤ 65536 := by
  obtain ⟨R, hr, hs⟩ := ram_step h
  exact ⟨hr.pos, hr.le⟩
theorem Load_st {b : Nat} {ws : List Int} (h : St P0 w0 w (ram b ws :: L)) (a : Int) : Calls Try.prog 17 #[.pointer (some ⟨b, 0, none⟩), .int .i64 a] w fun e w' => e = .returned (.tuple #[.int .i64 (loadI ws a).1, .int .i64 (loadI ws a).2]) ∧ St P0 w0 w' (ram b ws :: L) := by
  obtain ⟨R, hr, hs⟩ := ram_step h
  refine (load_walk b R ws a w hr).mono ?_
  rintro e w' ⟨rfl, hu⟩
  exact ⟨rfl, h.more hu⟩
theorem Store_st {b : Nat} {ws : List Int} (h : St P0 w0 w (ram b ws :: L)) (a z : Int) : Calls Try.prog 18 #[.pointer (some ⟨b, 0, none⟩), .int .i64 a, .int .i64 z] w fun e w' => e = .returned (.int .i64 (fillI ws a 1 z).2) ∧ St P0 w0 w' (ram b (fillI ws a 1 z).1 :: L) := by
  obtain ⟨R, hr, hs⟩ := ram_step h
  refine (Store_walk b R ws a z w hr).mono ?_
  rintro e w' ⟨rfl, h2, ho⟩
  exact ⟨rfl, hs h2 ho⟩
theorem Span_st {b : Nat} {ws : List Int} (h : St P0 w0 w (ram b ws :: L)) (a n : Int) : Calls Try.prog 53 #[.pointer (some ⟨b, 0, none⟩), .int .i64 a, .int .i64 n] w fun e w' => ∃ v, e = .returned (.tuple #[v, .int .i64 (spanI ws a n).2]) ∧ St P0 w0 w' (lat v (spanI ws a n).1 :: ram b ws :: L) := by
  obtain ⟨R, hr, hs⟩ := ram_step h
  refine (Span_walk b R ws a n w hr).mono ?_
  rintro e w' ⟨v, rfl, hl, hu⟩
  exact ⟨v, rfl, lat_new h hl hu⟩
theorem do_st {b : Nat} {ws : List Int} (h : St P0 w0 w (ram b ws :: L)) (k a n z : Int) :
    Calls Try.prog 16 #[.pointer (some ⟨b, 0, none⟩), .agg #[.int .i64 k, .int .i64 a, .int .i64 n, .int .i64 z]] w fun e w' => ∃ v, e = .returned (.tuple #[v, .int .i64 (doM ws k a n z).2.2]) ∧ St P0 w0 w' (lat v (doM ws k a n z).2.1 :: ram b (doM ws k a n z).1 :: L) := by
  obtain ⟨P, ⟨Q, Q2, hq, _, _, ⟨R, h1, h2, h3⟩, _⟩, hs⟩ := St.step (L := [ram b ws]) h
  refine (do_q b R ws k a n z w h3).mono ?_
  rintro e w' ⟨v, rfl, hl, hr, ho⟩
  refine ⟨v, rfl, hs (M := [lat v (doM ws k a n z).2.1, ram b (doM ws k a n z).1]) ⟨⟨ho.os, ho.tape, ho.output, ho.size, fun k hk hn => ho.block k hk (fun e => hn (by rw [e]; exact hq R h2))⟩,
    fun k => w.heap.size ≤ k ∧ k < w'.heap.size, fun k => k = b ∨ k = R, fun k hk => ⟨.inr hk.1, hk.2⟩, ?_, ?_, hl.bound, fun k => k = b ∨ k = R, No, fun _ e => e, fun _ e => e.elim, fun _ _ e => e.elim, ⟨R, .inl rfl, .inr rfl, hr⟩, trivial⟩⟩
  · rintro k (rfl | rfl)
    · exact ⟨.inl (hq _ h1), hr.lt.1⟩
    · exact ⟨.inl (hq _ h2), hr.lt.2⟩
  · rintro k hk (rfl | rfl)
    · have := h3.lt.1; omega
    · have := h3.lt.2; omega
theorem Same_st {u v : Value} {l m : List Int} (h : St P0 w0 w (lat u l :: lat v m :: L)) (hl : l.length ≤ 1000) (hm : m.length ≤ 1000000) :
    Calls Try.prog 22 #[u, v] w fun e w' => e = .returned (.bool (decide (l = m))) ∧ St P0 w0 w' (lat u l :: lat v m :: L) := by
  obtain ⟨P, ⟨Q, Q2, hq, _, _, h1, R, R2, _, _, _, h2, _⟩, hs⟩ := St.step (L := [lat u l, lat v m]) h
  obtain ⟨A0, c0, rfl⟩ := LAt.len h1
  obtain ⟨A1, c1, rfl⟩ := LAt.len h2
  refine (Same_l l m _ _ _ _ _ _ _ _ w h1 h2 hl hm).mono ?_
  rintro e w' ⟨rfl, hu⟩
  exact ⟨rfl, h.more hu⟩
theorem spanI_all {ws : List Int} (h : ws.length ≤ 65536) : spanI ws 0 ws.length = (ws, 0) := by
  have hw : wrongI ws.length 0 ws.length = 0 := by unfold wrongI; rw [if_neg (by omega), if_neg (by omega)]
  unfold spanI
  rw [if_neg (fun e => e hw)]
  simp
theorem Words_st {b : Nat} {ws : List Int} (h : St P0 w0 w (ram b ws :: L)) : Calls Try.prog 23 #[.pointer (some ⟨b, 0, none⟩)] w fun e w' => ∃ v, e = .returned v ∧ St P0 w0 w' (lat v ws :: ram b ws :: L) := by
  have HI := Lib.hid h
  have HL := Lib.hid (spanI_all (ram_le h).2)
  clear h
  go_enter Try.func23, Try.ntmps23
  go_wp2_with fail
  refine (Size_st HI.out).mono ?_
  rintro e w1 ⟨rfl, h1⟩
  have HI1 := Lib.hid h1
  clear h1 HI
  go_wp2_with fail
  refine (Span_st HI1.out 0 ws.length).mono ?_
  rw [HL.out]
  rintro e w2 ⟨v, rfl, h2⟩
  have HI2 := Lib.hid h2
  clear h2 HI1
  go_wp2
  go_ret
  exact ⟨_, rfl, HI2.out⟩
theorem rDo_st {v : Value} {ws : List Int} (h : St No w0 w (lst w0.heap.size v ws :: L)) (k a n z : Int) (hw : ws.length ≤ 65536) :
    Calls Try.prog 21 #[v, .agg #[.int .i64 k, .int .i64 a, .int .i64 n, .int .i64 z]] w fun e w' => ∃ v1 v2, e = .returned (.tuple #[v1, v2, .int .i64 (doM ws k a n z).2.2]) ∧ St No w0 w' (lst w0.heap.size v1 (doM ws k a n z).1 :: lat v2 (doM ws k a n z).2.1 :: L) := by
  obtain ⟨P, ⟨Q, Q2, hq, _, _, h1, _⟩, hs⟩ := St.step (L := [lst w0.heap.size v ws]) h
  refine (switchyardref03_Do.calls 70000 Q v ws k a n z (doM ws k a n z).1 (doM ws k a n z).2.1 (doM ws k a n z).2.2 w0 w h.up h1 (do_eq ws k a n z 70000 hw (by omega))).mono ?_
  rintro e w' ⟨v1, v2, rfl, r1, r2, hb, hk⟩
  refine ⟨v1, v2, rfl, hs (M := [lst w0.heap.size v1 (doM ws k a n z).1, lat v2 (doM ws k a n z).2.1]) ⟨⟨hb.os.trans h.up.os.symm, hb.tape.trans h.up.tape.symm, hb.output.trans h.up.output.symm, hk.1, fun k hlt hn => hk.2 k hlt (fun e => hn (hq k e))⟩,
    fun k => some k = v1.ownBlock ∧ (Q k ∨ w.heap.size ≤ k) ∧ k < w'.heap.size, fun k => (some k = v2.ownBlock ∧ (Q k ∨ w.heap.size ≤ k) ∧ some k ≠ v1.ownBlock) ∧ k < w'.heap.size, ?_, ?_, ?_, ?_, ?_⟩⟩
  · rintro k ⟨_, e | e, h3⟩
    · exact ⟨.inl (hq k e), h3⟩
    · exact ⟨.inr e, h3⟩
  · rintro k ⟨⟨_, e | e, _⟩, h3⟩
    · exact ⟨.inl (hq k e), h3⟩
    · exact ⟨.inr e, h3⟩
  · exact fun k h1 h2 => h2.1.2.2 h1.1
  · exact (lst w0.heap.size v1 _).mono ((lst w0.heap.size v1 _).bound (Kd.R_tight2 rfl r1)) (fun k hk => ⟨hk.1.1, hk.1.2.1, hk.2⟩)
  · exact ⟨_, No, fun k hk => hk, fun _ e => e.elim, fun _ _ e => e.elim, (lat v2 _).mono ((lat v2 _).bound (lat_of_R (Kd.R_tight2 rfl r2))) (fun k hk => ⟨⟨hk.1.1, hk.1.2.1, hk.1.2.2⟩, hk.2⟩), trivial⟩
end
end Go.Proofs.Ytiofdkkjjeljmaa.Sram
