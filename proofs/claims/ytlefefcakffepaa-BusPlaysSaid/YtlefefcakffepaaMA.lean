/- MA: the texts Sep, SepApp, SepMore, Row, Lat, Copy, Equal, Clone, CellOf, Floats, CellP in one (merge.py). -/
import Derived.Test.YtlefefcakffepaaBase
import Derived.Laws.AppendOwn
import Derived.Deep.MidRow
import Derived.ArgAppend
import Derived.OwnWalk
import Derived.Deep.RegionLaw
import Derived.Laws.MakeOwn
import Derived.Test.YtlefefcakffepaaWWords
import Derived.Test.YtlefefcakffepaaProg
import Derived.Laws.CopyOwn
import Derived.Deep.DrawnRows
import Derived.Deep.QuietTactic
import Derived.BigQuiet
import Derived.Deep.Cut
import Derived.Deep.RegionHeld3
import Derived.Laws.Cover2
import Derived.Laws.Cover3
import Derived.Laws.FloatArith
import Derived.Laws.ComplexArith
import Derived.Laws.ResultCell
/- Separate parts of memory: a list of predicates, each over blocks of its own. No program, no condition. -/
namespace Go.Proofs.Ytlefefcakffepaa.Sep
set_option linter.unusedVariables false
set_option linter.unusedSimpArgs false
open Go.RowKit

/-! ### 1. Frames -/
/-- Off the blocks in S nothing old has turned. -/
structure Fr (S : Nat → Prop) (w w' : World) : Prop where
  os : w'.os = w.os
  tape : w'.tape = w.tape
  output : w'.output = w.output
  size : w.heap.size ≤ w'.heap.size
  block : ∀ k, k < w.heap.size → ¬ S k → w'.heap[k]? = w.heap[k]?
theorem Fr.refl (S : Nat → Prop) (w : World) : Fr S w w := ⟨rfl, rfl, rfl, Nat.le_refl _, fun _ _ _ => rfl⟩
theorem Fr.trans {S S' : Nat → Prop} {a w w' : World} (h : Fr S a w) (k : Fr S' w w') (hs : ∀ q, S' q → q < a.heap.size → S q) : Fr S a w' :=
  ⟨k.os.trans h.os, k.tape.trans h.tape, k.output.trans h.output, Nat.le_trans h.size k.size,
   fun q hq hb => (k.block q (Nat.lt_of_lt_of_le hq h.size) (fun e => hb (hs q e hq))).trans (h.block q hq hb)⟩
theorem Fr.of_up {S : Nat → Prop} {w w' : World} (h : Up w w') : Fr S w w' := ⟨h.os, h.tape, h.output, h.size, fun k hk _ => h.block k hk⟩
theorem Fr.up {S : Nat → Prop} {w w' : World} (h : Fr S w w') (hs : ∀ k, S k → w.heap.size ≤ k) : Up w w' :=
  ⟨h.os, h.tape, h.output, h.size, fun k hk => h.block k hk (fun e => by have := hs k e; omega)⟩
theorem Fr.mono {S S' : Nat → Prop} {w w' : World} (h : Fr S w w') (hs : ∀ k, S k → k < w.heap.size → S' k) : Fr S' w w' :=
  ⟨h.os, h.tape, h.output, h.size, fun k hk hn => h.block k hk (fun e => hn (hs k e hk))⟩
theorem heap_set_far {w : World} {b i k : Nat} (v : Value) (h : k ≠ b) : (w.setCell ⟨b, i, none⟩ v).heap[k]? = w.heap[k]? := by
  simp only [World.setCell]
  rw [Array.getElem?_modify]
  simp [Ne.symm h]
theorem heap_lt {w : World} {b : Nat} {o : Obj} (h : w.heap[b]? = some o) : b < w.heap.size := (Array.getElem?_eq_some_iff.1 h).1

/-! ### 2. Predicates over blocks -/
structure Rg where
  X : World → (Nat → Prop) → Prop
  move : ∀ {w w' : World} {P : Nat → Prop}, X w P → (∀ k, P k → k < w.heap.size → w'.heap[k]? = w.heap[k]?) → X w' P
  bound : ∀ {w : World} {P : Nat → Prop}, X w P → X w (fun k => P k ∧ k < w.heap.size)
  mono : ∀ {w : World} {P P' : Nat → Prop}, X w P → (∀ k, P k → P' k) → X w P'

def Sep (w : World) : List Rg → (Nat → Prop) → Prop
  | [], _ => True
  | A :: L, P => ∃ Q R : Nat → Prop, (∀ k, Q k → P k) ∧ (∀ k, R k → P k) ∧ (∀ k, Q k → R k → False) ∧ A.X w Q ∧ Sep w L R
theorem Sep.move {w w' : World} : ∀ {L : List Rg} {P : Nat → Prop}, Sep w L P → (∀ k, P k → k < w.heap.size → w'.heap[k]? = w.heap[k]?) → Sep w' L P
  | [], _, _, _ => trivial
  | A :: L, P, ⟨Q, R, hq, hr, hd, hA, hL⟩, hm => ⟨Q, R, hq, hr, hd, A.move hA (fun k hk => hm k (hq k hk)), Sep.move hL (fun k hk => hm k (hr k hk))⟩
theorem Sep.mono {w : World} : ∀ {L : List Rg} {P P' : Nat → Prop}, Sep w L P → (∀ k, P k → P' k) → Sep w L P'
  | [], _, _, _, _ => trivial
  | A :: L, P, P', ⟨Q, R, hq, hr, hd, hA, hL⟩, hm => ⟨Q, R, fun k hk => hm k (hq k hk), fun k hk => hm k (hr k hk), hd, hA, hL⟩
theorem Sep.bound {w : World} : ∀ {L : List Rg} {P : Nat → Prop}, Sep w L P → Sep w L (fun k => P k ∧ k < w.heap.size)
  | [], _, _ => trivial
  | A :: L, P, ⟨Q, R, hq, hr, hd, hA, hL⟩ => ⟨_, _, fun k hk => ⟨hq k hk.1, hk.2⟩, fun k hk => ⟨hr k hk.1, hk.2⟩, fun k a b => hd k a.1 b.1, A.bound hA, Sep.bound hL⟩
theorem Sep.append {w : World} : ∀ {L M : List Rg} {P : Nat → Prop}, Sep w (L ++ M) P ↔ ∃ Q R : Nat → Prop, (∀ k, Q k → P k) ∧ (∀ k, R k → P k) ∧ (∀ k, Q k → R k → False) ∧ Sep w L Q ∧ Sep w M R
  | [], M, P => ⟨fun h => ⟨fun _ => False, P, fun _ h => h.elim, fun _ h => h, fun _ h => h.elim, trivial, h⟩, fun ⟨Q, R, _, hr, _, _, h⟩ => Sep.mono h hr⟩
  | A :: L, M, P => by
    constructor
    · rintro ⟨Q, R, hq, hr, hd, hA, hL⟩
      obtain ⟨Q2, R2, hq2, hr2, hd2, h1, h2⟩ := Sep.append.1 hL
      refine ⟨fun k => Q k ∨ Q2 k, R2, ?_, fun k hk => hr k (hr2 k hk), ?_, ⟨Q, Q2, fun k hk => .inl hk, fun k hk => .inr hk, fun k a b => hd k a (hq2 k b), hA, h1⟩, h2⟩
      · rintro k (h | h)
        · exact hq k h
        · exact hr k (hq2 k h)
      · rintro k (h | h) h'
        · exact hd k h (hr2 k h')
        · exact hd2 k h h'
    · rintro ⟨Q, R, hq, hr, hd, ⟨Q2, R2, hq2, hr2, hd2, hA, h1⟩, h2⟩
      refine ⟨Q2, fun k => R2 k ∨ R k, fun k hk => hq k (hq2 k hk), ?_, ?_, hA, Sep.append.2 ⟨R2, R, fun k hk => .inl hk, fun k hk => .inr hk, fun k a b => hd k (hr2 k a) b, h1, h2⟩⟩
      · rintro k (h | h)
        · exact hq k (hr2 k h)
        · exact hr k h
      · rintro k a (b | b)
        · exact hd2 k a b
        · exact hd k (hq2 k a) b
theorem Sep.perm {w : World} {L M : List Rg} (h : L.Perm M) : ∀ {P : Nat → Prop}, Sep w L P → Sep w M P := by
  induction h with
  | nil => exact fun h => h
  | cons A _ ih => exact fun ⟨Q, R, hq, hr, hd, hA, hL⟩ => ⟨Q, R, hq, hr, hd, hA, ih hL⟩
  | swap A B L =>
    rintro P ⟨Q, R, hq, hr, hd, hA, Q2, R2, hq2, hr2, hd2, hB, hL⟩
    refine ⟨Q2, fun k => Q k ∨ R2 k, fun k hk => hr k (hq2 k hk), ?_, ?_, hB, Q, R2, fun k hk => .inl hk, fun k hk => .inr hk, fun k a b => hd k a (hr2 k b), hA, hL⟩
    · rintro k (h | h)
      · exact hq k h
      · exact hr k (hr2 k h)
    · rintro k a (b | b)
      · exact hd k b (hq2 k a)
      · exact hd2 k a b
  | trans _ _ i1 i2 => exact fun h => i2 (i1 h)

/-! ### 3. The state of a walk -/
/-- Since w0: off P0 nothing old has turned; and L lies, part by part, in P0's blocks and in new ones. -/
def St (P0 : Nat → Prop) (w0 w : World) (L : List Rg) : Prop := Fr P0 w0 w ∧ Sep w L (fun k => (P0 k ∨ w0.heap.size ≤ k) ∧ k < w.heap.size)
def No : Nat → Prop := fun _ => False
section
variable {P0 : Nat → Prop} {w0 w w' : World} {L M F : List Rg} {A B : Rg}
theorem St.start {P : Nat → Prop} (h : Sep w L P) : St P w w L := ⟨Fr.refl _ _, h.bound.mono fun k hk => ⟨.inl hk.1, hk.2⟩⟩
theorem St.nil (w : World) : St No w w [] := ⟨Fr.refl _ _, trivial⟩
theorem St.up (h : St No w0 w L) : Up w0 w := h.1.up fun _ e => e.elim
theorem St.size (h : St P0 w0 w L) : w0.heap.size ≤ w.heap.size := h.1.size
theorem St.perm (h : St P0 w0 w L) (hp : L.Perm M) : St P0 w0 w M := ⟨h.1, h.2.perm hp⟩
theorem St.drop (h : St P0 w0 w (A :: L)) : St P0 w0 w L := by
  obtain ⟨hf, Q, R, hq, hr, hd, hA, hL⟩ := h
  exact ⟨hf, hL.mono hr⟩
theorem St.take (h : St P0 w0 w (L ++ F)) : St P0 w0 w L := by
  obtain ⟨hf, hs⟩ := h
  obtain ⟨Q, R, hq, hr, hd, h1, h2⟩ := Sep.append.1 hs
  exact ⟨hf, h1.mono hq⟩
/-- Nothing old has turned. -/
theorem St.more (h : St P0 w0 w L) (hu : Up w w') : St P0 w0 w' L :=
  ⟨h.1.trans (Fr.of_up (S := No) hu) (fun _ e _ => e.elim), (h.2.move (fun k hk hlt => hu.block k hlt)).mono fun k hk => ⟨hk.1, Nat.lt_of_lt_of_le hk.2 hu.size⟩⟩
theorem St.drawn (h : St P0 w0 w L) (hd : Drawn w w') : St P0 w0 w' L := h.more hd.up
theorem St.drewN (h : St P0 w0 w L) (n : Nat) : St P0 w0 (w.drewN n) L := h.more ((Up.refl w).drewN n)
theorem St.drew (h : St P0 w0 w L) : St P0 w0 w.drew L := h.more ((Up.refl w).drew)
/-- Something new, beside all. -/
theorem St.fresh (h : St P0 w0 w L) (hu : Up w w') (hn : Sep w' M (fun k => w.heap.size ≤ k)) : St P0 w0 w' (M ++ L) := by
  have h' := h.more hu
  refine ⟨h'.1, Sep.append.2 ⟨fun k => w.heap.size ≤ k ∧ k < w'.heap.size, fun k => (P0 k ∨ w0.heap.size ≤ k) ∧ k < w.heap.size, ?_, ?_, ?_, hn.bound, h.2.move (fun k hk hlt => hu.block k hlt)⟩⟩
  · exact fun k hk => ⟨.inr (Nat.le_trans h.1.size hk.1), hk.2⟩
  · exact fun k hk => ⟨hk.1, Nat.lt_of_lt_of_le hk.2 hu.size⟩
  · exact fun k a b => absurd b.2 (Nat.not_lt.2 a.1)
/-- The frame: what a step does to a part of the list. -/
theorem St.then_ {P : Nat → Prop} (hq : ∀ k, P k → (P0 k ∨ w0.heap.size ≤ k) ∧ k < w.heap.size) {R : Nat → Prop} (hr : ∀ k, R k → (P0 k ∨ w0.heap.size ≤ k) ∧ k < w.heap.size) (hd : ∀ k, P k → R k → False)
    (h0 : Fr P0 w0 w) (hF : Sep w F R) (h : St P w w' M) : St P0 w0 w' (M ++ F) := by
  refine ⟨h0.trans h.1 (fun k hk hlt => by rcases (hq k hk).1 with e | e; exact e; omega), Sep.append.2 ⟨_, fun k => R k, ?_, ?_, ?_, h.2, hF.move (fun k hk hlt => h.1.block k hlt (fun e => hd k e hk))⟩⟩
  · rintro k ⟨e | e, h2⟩
    · exact ⟨(hq k e).1, h2⟩
    · exact ⟨.inr (Nat.le_trans h0.size e), h2⟩
  · exact fun k hk => ⟨(hr k hk).1, Nat.lt_of_lt_of_le (hr k hk).2 h.1.size⟩
  · rintro k ⟨e | e, h2⟩ hk
    · exact hd k e hk
    · have := (hr k hk).2
      omega
theorem St.step (h : St P0 w0 w (L ++ F)) : ∃ P : Nat → Prop, Sep w L P ∧ ∀ {w' : World} {M : List Rg}, St P w w' M → St P0 w0 w' (M ++ F) := by
  obtain ⟨hf, hs⟩ := h
  obtain ⟨Q, R, hq, hr, hd, h1, h2⟩ := Sep.append.1 hs
  exact ⟨Q, h1, fun h => St.then_ hq hr hd hf h2 h⟩
/-- What a function does: to what it takes, whatever lies beside. -/
def Trip (p : Program) (f : FuncId) (args : Array Value) (L : List Rg) {ρ : Type} (E : ρ → Ending → Prop) (M : ρ → List Rg) : Prop :=
  ∀ w P, Sep w L P → Calls p f args w fun e w' => ∃ r, E r e ∧ St P w w' (M r)
theorem Trip.on {p : Program} {f : FuncId} {args : Array Value} {ρ : Type} {E : ρ → Ending → Prop} {M : ρ → List Rg} (t : Trip p f args L E M) (h : St P0 w0 w (L ++ F)) :
    Calls p f args w fun e w' => ∃ r, E r e ∧ St P0 w0 w' (M r ++ F) := by
  obtain ⟨P, hP, hs⟩ := h.step
  refine (t w P hP).mono ?_
  rintro e w' ⟨r, he, h2⟩
  exact ⟨r, he, hs h2⟩
/-- The same, where what is taken stands first. -/
theorem Trip.first {p : Program} {f : FuncId} {args : Array Value} {ρ : Type} {E : ρ → Ending → Prop} {M : ρ → List Rg} (t : Trip p f args [A] E M) (h : St P0 w0 w (A :: L)) :
    Calls p f args w fun e w' => ∃ r, E r e ∧ St P0 w0 w' (M r ++ L) := Trip.on (F := L) t h
end

/-! ### 4. Kinds of parts -/
/-- A block that is known whole. -/
def bk (g : Nat) (t : TypeId) (cs : Array Value) : Rg where
  X w P := P g ∧ w.heap[g]? = some (.cells cs t (0, 0))
  move h hm := ⟨h.1, (hm g h.1 (heap_lt h.2)).trans h.2⟩
  bound h := ⟨⟨h.1, heap_lt h.2⟩, h.2⟩
  mono h hP := ⟨hP _ h.1, h.2⟩
def ex {α : Type} (f : α → Rg) : Rg where
  X w P := ∃ x, (f x).X w P
  move h hm := by obtain ⟨x, h⟩ := h; exact ⟨x, (f x).move h hm⟩
  bound h := by obtain ⟨x, h⟩ := h; exact ⟨x, (f x).bound h⟩
  mono h hP := by obtain ⟨x, h⟩ := h; exact ⟨x, (f x).mono h hP⟩
def big (L : List Rg) : Rg where
  X w P := Sep w L P
  move h hm := Sep.move h hm
  bound h := Sep.bound h
  mono h hP := Sep.mono h hP
def pu (p : Prop) : Rg where
  X _ _ := p
  move h _ := h
  bound h := h
  mono h _ := h

/-- A slice of n elements of sz cells each, which reads as xs; it may begin anywhere in its block. -/
def slc (e : TypeId) (sz : Nat) (v : Value) (n : Nat) (xs : List Value) : Rg where
  X w P := (v = .slice none 0 0 ∧ n = 0 ∧ xs = []) ∨ ∃ g o c cur, v = .slice (some ⟨g, o, none⟩) n c ∧ n ≤ c ∧ c ≤ maxLen ∧ xs.length = n * sz ∧ P g ∧ w.heap[g]? = some (.cells cur e (0, 0)) ∧ o + c * sz ≤ cur.size ∧ ∀ j, j < xs.length → cur[o + j]? = xs[j]?
  move h hm := by
    rcases h with h | ⟨g, o, c, cur, h1, h2, h3, h4, h5, h6, h7⟩
    · exact .inl h
    · exact .inr ⟨g, o, c, cur, h1, h2, h3, h4, h5, (hm g h5 (heap_lt h6)).trans h6, h7⟩
  bound h := by
    rcases h with h | ⟨g, o, c, cur, h1, h2, h3, h4, h5, h6, h7⟩
    · exact .inl h
    · exact .inr ⟨g, o, c, cur, h1, h2, h3, h4, ⟨h5, heap_lt h6⟩, h6, h7⟩
  mono h hP := by
    rcases h with h | ⟨g, o, c, cur, h1, h2, h3, h4, h5, h6, h7⟩
    · exact .inl h
    · exact .inr ⟨g, o, c, cur, h1, h2, h3, h4, hP _ h5, h6, h7⟩
section
variable {P0 : Nat → Prop} {w0 w w' : World} {L M F : List Rg} {A B : Rg}
theorem St.imp (h : St P0 w0 w (A :: L)) (hi : ∀ P, A.X w P → B.X w P) : St P0 w0 w (B :: L) := by
  obtain ⟨hf, Q, R, hq, hr, hd, hA, hL⟩ := h
  exact ⟨hf, Q, R, hq, hr, hd, hi Q hA, hL⟩
theorem perm_get : ∀ (L : List Rg) (i : Nat) (d : Rg), i < L.length → L.Perm (L.getD i d :: L.eraseIdx i)
  | [], _, _, h => absurd h (by simp)
  | A :: L, 0, d, _ => by simp
  | A :: L, i + 1, d, h => by
    have h1 := perm_get L i d (by simpa using h)
    simp only [List.getD_cons_succ, List.eraseIdx_cons_succ]
    exact (List.Perm.cons A h1).trans (List.Perm.swap _ _ _)
theorem St.get (h : St P0 w0 w L) (i : Nat) (hi : i < L.length := by simp) : St P0 w0 w (L.getD i (pu True) :: L.eraseIdx i) := h.perm (perm_get L i _ hi)
theorem perm_put : ∀ (L : List Rg) (i : Nat) (A : Rg), i ≤ L.length → (A :: L).Perm (L.insertIdx i A)
  | L, 0, A, _ => by simp
  | [], i + 1, A, h => absurd h (by simp)
  | B :: L, i + 1, A, h => by
    have h1 := perm_put L i A (by simpa using h)
    simp only [List.insertIdx_succ_cons]
    exact (List.Perm.swap _ _ _).trans (List.Perm.cons B h1)
theorem St.put (h : St P0 w0 w (A :: L)) (i : Nat) (hi : i ≤ L.length := by simp) : St P0 w0 w (L.insertIdx i A) := h.perm (perm_put L i A hi)
theorem St.ex_open {α : Type} {f : α → Rg} (h : St P0 w0 w (ex f :: L)) : ∃ x, St P0 w0 w (f x :: L) := by
  obtain ⟨hf, Q, R, hq, hr, hd, ⟨x, hA⟩, hL⟩ := h
  exact ⟨x, hf, Q, R, hq, hr, hd, hA, hL⟩
theorem St.ex_shut {α : Type} {f : α → Rg} (x : α) (h : St P0 w0 w (f x :: L)) : St P0 w0 w (ex f :: L) := h.imp fun P hP => ⟨x, hP⟩
theorem St.big_open (h : St P0 w0 w (big M :: L)) : St P0 w0 w (M ++ L) := by
  obtain ⟨hf, hs⟩ := h
  exact ⟨hf, Sep.append.2 hs⟩
theorem St.big_shut (h : St P0 w0 w (M ++ L)) : St P0 w0 w (big M :: L) := by
  obtain ⟨hf, hs⟩ := h
  exact ⟨hf, Sep.append.1 hs⟩
theorem St.pu_open {p : Prop} (h : St P0 w0 w (pu p :: L)) : p ∧ St P0 w0 w L := by
  obtain ⟨hf, Q, R, hq, hr, hd, hA, hL⟩ := h
  exact ⟨hA, hf, hL.mono hr⟩
theorem St.pu_shut {p : Prop} (hp : p) (h : St P0 w0 w L) : St P0 w0 w (pu p :: L) := by
  obtain ⟨hf, hs⟩ := h
  exact ⟨hf, No, _, fun _ e => e.elim, fun _ h => h, fun _ e => e.elim, hp, hs⟩
theorem St.alloc (h : St P0 w0 w L) (cs : Array Value) (t : TypeId) : St P0 w0 (w.alloc (.cells cs t)) (bk w.heap.size t cs :: L) :=
  h.fresh (M := [bk w.heap.size t cs]) ((Up.refl w).alloc _) ⟨fun k => k = w.heap.size, No, fun k e => by omega, fun _ e => e.elim, fun _ _ e => e.elim, ⟨rfl, block_new w _⟩, trivial⟩
theorem St.allocU (h : St P0 w0 w L) (o : Obj) : St P0 w0 (w.alloc o) L := h.more ((Up.refl w).alloc o)
theorem St.bk_at {g : Nat} {t : TypeId} {cs : Array Value} (h : St P0 w0 w (bk g t cs :: L)) : w.heap[g]? = some (.cells cs t (0, 0)) := by
  obtain ⟨hf, Q, R, hq, hr, hd, hA, hL⟩ := h
  exact hA.2
theorem St.bk_in {g : Nat} {t : TypeId} {cs : Array Value} (h : St P0 w0 w (bk g t cs :: L)) : (P0 g ∨ w0.heap.size ≤ g) ∧ g < w.heap.size := by
  obtain ⟨hf, Q, R, hq, hr, hd, hA, hL⟩ := h
  exact hq g hA.1
theorem St.set {g : Nat} {t : TypeId} {cs : Array Value} (h : St P0 w0 w (bk g t cs :: L)) (i : Nat) (v : Value) : St P0 w0 (w.setCell ⟨g, i, none⟩ v) (bk g t (cs.setIfInBounds i v) :: L) := by
  obtain ⟨P, ⟨Q, R, hq, hr, hd, hA, _⟩, hs⟩ := St.step (L := [bk g t cs]) h
  refine hs (M := [bk g t (cs.setIfInBounds i v)]) ⟨⟨rfl, rfl, rfl, by simp [World.setCell], fun k hk hn => heap_set_far v (fun e => hn (by rw [e]; exact hq g hA.1))⟩, fun k => k = g, No, ?_, fun _ e => e.elim, fun _ _ e => e.elim, ⟨rfl, heap_setCell_same hA.2 v⟩, trivial⟩
  rintro k rfl
  exact ⟨.inl (hq k hA.1), by simpa [World.setCell] using heap_lt hA.2⟩
end
/-- Two predicates over the same blocks (for what is only read). -/
def both (A B : Rg) : Rg where
  X w P := A.X w P ∧ B.X w P
  move h hm := ⟨A.move h.1 hm, B.move h.2 hm⟩
  bound h := ⟨A.bound h.1, B.bound h.2⟩
  mono h hP := ⟨A.mono h.1 hP, B.mono h.2 hP⟩
section
variable {P0 : Nat → Prop} {w0 w w' : World} {L M F : List Rg} {A B C : Rg}
/-- Part i is dropped. -/
theorem St.cut (h : St P0 w0 w L) (i : Nat) (hi : i < L.length := by simp) : St P0 w0 w (L.eraseIdx i) := (h.get i hi).drop
theorem St.join (h : St P0 w0 w (A :: B :: L)) : St P0 w0 w (both A B :: L) := by
  obtain ⟨hf, Q, R, hq, hr, hd, hA, Q2, R2, hq2, hr2, hd2, hB, hL⟩ := h
  refine ⟨hf, fun k => Q k ∨ Q2 k, R2, ?_, fun k hk => hr k (hr2 k hk), ?_, ⟨A.mono hA fun k hk => .inl hk, B.mono hB fun k hk => .inr hk⟩, hL⟩
  · rintro k (e | e)
    · exact hq k e
    · exact hr k (hq2 k e)
  · rintro k (e | e) h2
    · exact hd k e (hr2 k h2)
    · exact hd2 k e h2
theorem St.twice (h : St P0 w0 w (A :: L)) : St P0 w0 w (both A A :: L) := h.imp fun _ hP => ⟨hP, hP⟩
theorem St.left (h : St P0 w0 w (both A B :: L)) : St P0 w0 w (A :: L) := h.imp fun _ hP => hP.1
theorem St.right (h : St P0 w0 w (both A B :: L)) : St P0 w0 w (B :: L) := h.imp fun _ hP => hP.2
end
theorem slc_nil (e : TypeId) (sz : Nat) (w : World) (P : Nat → Prop) : (slc e sz (.slice none 0 0) 0 []).X w P := .inl ⟨rfl, rfl, rfl⟩
/-- A row of the call's own is such a slice. -/
theorem slc_of_own {w : World} {base e sz n : Nat} {v : Value} {xs : List Value} {P : Nat → Prop} (h : w.ownsRow base e sz v n xs) (hP : ∀ k, v.ownBlock = some k → P k) : (slc e sz v n xs).X w P := by
  obtain ⟨h1, h2⟩ := h
  rcases h2 with ⟨rfl, rfl⟩ | ⟨g, cap, cur, rfl, hg, hh, hn, hc, hs, ht⟩
  · exact .inl ⟨rfl, rfl, List.eq_nil_of_length_eq_zero (by simpa using h1)⟩
  · refine .inr ⟨g, 0, cap, cur, rfl, hn, hc, h1, hP g rfl, hh, by omega, fun j hj => ?_⟩
    rw [← ht, List.getElem?_take, if_pos (by rw [h1] at hj; exact hj)]
    simp
end Go.Proofs.Ytlefefcakffepaa.Sep

/- append onto a slice that lies in a part of its own. No program, no condition. -/
namespace Go.Proofs.Ytlefefcakffepaa.Sep
set_option linter.unusedVariables false
set_option linter.unusedSimpArgs false
open Go.RowKit

/-- Cells that can be read: m elements. -/
def Rd (w : World) (sz : Nat) (A : Option Addr) (m : Nat) (news : List Value) : Prop :=
  news.length = m * sz ∧ (∀ u ∈ news, u.oneCell' = true) ∧ (0 < m → ∃ ad, A = some ad ∧ ∀ j u, news[j]? = some u → w.cell? (ad.add j) = some u)
theorem Rd.of_block {w : World} {g sz m : Nat} {cs : Array Value} {t : TypeId} {fr : Nat × Nat} (h : w.heap[g]? = some (.cells cs t fr)) (hl : cs.size = m * sz) (h1 : ∀ u ∈ cs.toList, u.oneCell' = true) : Rd w sz (some ⟨g, 0, none⟩) m cs.toList :=
  ⟨by simpa using hl, h1, fun _ => ⟨_, rfl, fun j u hu => by
    rw [Addr.add_mid, cell_of_block h]
    simpa using hu⟩⟩
theorem slc_one {e sz n : Nat} {v : Value} {xs : List Value} {w : World} {P : Nat → Prop} (h : (slc e sz v n xs).X w P) : xs.length = n * sz ∧ n ≤ maxLen := by
  rcases h with ⟨_, rfl, rfl⟩ | ⟨g, o, c, cur, h1, h2, h3, h4, _⟩
  · exact ⟨by simp, Nat.zero_le _⟩
  · exact ⟨h4, by omega⟩
theorem slc_form {e sz n : Nat} {v : Value} {xs : List Value} {w : World} {P : Nat → Prop} (h : (slc e sz v n xs).X w P) : ∃ A c, v = .slice A n c ∧ n ≤ c ∧ c ≤ maxLen := by
  rcases h with ⟨rfl, rfl, rfl⟩ | ⟨g, o, c, cur, h1, h2, h3, h4, _⟩
  · exact ⟨none, 0, rfl, Nat.le_refl _, Nat.zero_le _⟩
  · exact ⟨_, c, h1, h2, h3⟩
theorem slc_cells {e sz n : Nat} {A : Option Addr} {c : Nat} {xs : List Value} {w : World} {P : Nat → Prop} (h : (slc e sz (.slice A n c) n xs).X w P) (hn : 0 < n) :
    ∃ g o, A = some ⟨g, o, none⟩ ∧ P g ∧ n ≤ c ∧ c ≤ maxLen ∧ (∀ j u, xs[j]? = some u → w.cell? ⟨g, o + j, none⟩ = some u) ∧ (∀ j, w.frozen? ⟨g, j, none⟩ = false) := by
  rcases h with ⟨_, rfl, _⟩ | ⟨g, o, c', cur, h1, h2, h3, h4, h5, h6, h7, h8⟩
  · omega
  · cases h1
    refine ⟨g, o, rfl, h5, h2, h3, fun j u hu => ?_, fun j => free_of_block h6 j⟩
    have hj := (List.getElem?_eq_some_iff.1 hu).1
    rw [cell_of_block h6, h8 j hj, hu]
theorem slc_rd {e sz n : Nat} {A : Option Addr} {c : Nat} {xs : List Value} {w : World} {P : Nat → Prop} (h : (slc e sz (.slice A n c) n xs).X w P) (h1 : ∀ u ∈ xs, u.oneCell' = true) : Rd w sz A n xs :=
  ⟨(slc_one h).1, h1, fun hn => by
    obtain ⟨g, o, rfl, _, _, _, hc, _⟩ := slc_cells h hn
    exact ⟨_, rfl, fun j u hu => by rw [Addr.add_mid]; exact hc j u hu⟩⟩
section
variable {P : Program} (w : World)
theorem run_append_zero (t ty e : TypeId) (i : TypeInfo) (ht : P.underlying t = some (.slice e)) (hi : P.info? e = some i) (A : Option Addr) (n c : Nat) (hn : n ≤ c) (B : Option Addr) (d : Nat) :
    (Builtin.append_ #[t, t] ty #[.slice A n c, .slice B 0 d]).run P w = .ok (.slice A n c) w := by
  cases A <;> cases B <;> simp [Builtin.append_, run_underlying ht, sizeOf, typeInfo, hi, Builtin.lenOf, Builtin.firstCells, hn, storeCells, loadCells, loadCellsFrom]
theorem run_append_slc (t ty e : TypeId) (i : TypeInfo) (z : Value) (size bytes : Nat) (ht : P.underlying t = some (.slice e)) (hi : P.info? e = some i) (hz : i.zero = some z)
    (hsize : i.size = size) (hby : i.bytes = bytes) (hzs : z.cells.size = size) (hsz : 0 < size)
    (v : Value) (n : Nat) (xs : List Value) {S : Nat → Prop} (h : (slc e size v n xs).X w S)
    (B : Option Addr) (m d : Nat) (news : List Value) (hr : Rd w size B m news)
    (h63 : n + m ≤ maxLen) (hbytes : (n + m) * bytes ≤ 140737488355328) :
    ∃ A c w', (Builtin.append_ #[t, t] ty #[v, .slice B m d]).run P w = .ok (.slice A (n + m) c) w' ∧ Fr S w w' ∧ (slc e size (.slice A (n + m) c) (n + m) (xs ++ news)).X w' (fun k => S k ∨ w.heap.size ≤ k) := by
  subst hsize
  subst hby
  obtain ⟨hl, h1, hc⟩ := hr
  have hxl := (slc_one h).1
  rcases Nat.eq_zero_or_pos m with rfl | hm
  · obtain ⟨A, c, rfl, hnc, _⟩ := slc_form h
    obtain rfl : news = [] := List.eq_nil_of_length_eq_zero (by simpa using hl)
    refine ⟨A, c, w, run_append_zero w t ty e i ht hi A n c hnc B d, Fr.refl _ _, ?_⟩
    rw [List.append_nil, Nat.add_zero]
    exact (slc e i.size _ n xs).mono h fun k hk => .inl hk
  · obtain ⟨ad, rfl, hcell⟩ := hc hm
    have hnew : ∀ (old : Nat), old < n + m → Fr S w (w.drew.alloc (.cells (xs.toArray ++ news.toArray ++ Builtin.zeroCells z.cells (grownCap w (n + m) old e - (n + m))) e)) ∧
        (slc e i.size (.slice (some ⟨w.heap.size, 0, none⟩) (n + m) (grownCap w (n + m) old e)) (n + m) (xs ++ news)).X (w.drew.alloc (.cells (xs.toArray ++ news.toArray ++ Builtin.zeroCells z.cells (grownCap w (n + m) old e - (n + m))) e)) (fun k => S k ∨ w.heap.size ≤ k) := by
      intro old ho
      have hge := grownCap_ge w (n + m) old e
      have hcm : grownCap w (n + m) old e ≤ maxLen := grownCap_le_maxLen w (n + m) old e h63
      refine ⟨Fr.of_up (((Up.refl w).drew).alloc _), .inr ⟨w.heap.size, 0, _, _, rfl, hge, hcm, by rw [List.length_append, hxl, hl, Nat.add_mul], .inr (Nat.le_refl _), block_new w.drew _, ?_, ?_⟩⟩
      · simp only [Array.size_append, List.size_toArray, size_zeroCells, hzs, hxl, hl, ← Nat.add_mul, Nat.zero_add]
        exact Nat.le_of_eq (by congr 1; omega)
      · intro j hj
        rw [Nat.zero_add, Array.getElem?_append_left (by simpa using hj)]
        simp
    rcases h with ⟨rfl, rfl, rfl⟩ | ⟨g, o, c, cur, rfl, h2, h3, h4, h5, h6, h7, h8⟩
    · have hr := run_append_nil (P := P) w t ty e i z ht hi hz ad m d news hl hcell hm (by simp only [maxLen] at h63; omega) (by have hb := hbytes; simp only [Nat.zero_add] at hb; omega)
      have hg := hnew 0 (by omega)
      simp only [Nat.zero_add, List.nil_append, Array.empty_append] at hg ⊢
      exact ⟨_, _, _, hr, hg⟩
    · by_cases hroom : n + m ≤ c
      · have hfc := run_firstCells_some (P := P) w i.size m ad m d news hl hcell
        have hfit : o + n * i.size + news.length ≤ cur.size := by
          rw [hl]
          have := Nat.mul_le_mul_right i.size hroom
          rw [Nat.add_mul] at this
          omega
        have hst := run_storeCells_at P g (o + n * i.size) e news 0 cur w h6 (by simpa using hfit) h1
        simp only [Nat.add_zero] at hst
        refine ⟨some ⟨g, o, none⟩, c, w.setRow g (cur.toList.take (o + n * i.size) ++ news ++ cur.toList.drop (o + n * i.size + news.length)).toArray, ?_, ⟨rfl, rfl, rfl, by simp, fun k hk hn => setRow_other w g k _ (fun e => hn (by rw [e]; exact h5))⟩, ?_⟩
        · simp [Builtin.append_, run_underlying ht, sizeOf, typeInfo, hi, Builtin.lenOf, hroom, hfc, Addr.add_lit, hst]
        · refine .inr ⟨g, o, c, _, rfl, hroom, h3, by rw [List.length_append, hxl, hl, Nat.add_mul], .inl h5, setRow_heap w g cur _ e _ h6, ?_, ?_⟩
          · simp only [List.size_toArray, List.length_append, List.length_take, List.length_drop, Array.length_toList]
            omega
          · intro j hj
            rw [List.length_append, hxl, hl] at hj
            rw [hl] at hfit
            simp only [List.getElem?_toArray, List.append_assoc]
            by_cases hjx : j < n * i.size
            · rw [List.getElem?_append_left (by simp; omega), List.getElem?_take, if_pos (by omega), List.getElem?_append_left (by omega), ← h8 j (by omega)]
              simp
            · have hlt : (cur.toList.take (o + n * i.size)).length = o + n * i.size := by simp; omega
              rw [List.getElem?_append_right (by omega), List.getElem?_append_left (by omega), List.getElem?_append_right (by omega), hlt, hxl]
              congr 1
              omega
      · have holds : ∀ j u, xs[j]? = some u → w.cell? ((⟨g, o, none⟩ : Addr).add j) = some u := fun j u hu => by
          have hj := (List.getElem?_eq_some_iff.1 hu).1
          rw [Addr.add_mid, cell_of_block h6, h8 j hj, hu]
        have hr := run_append_grow (P := P) w t ty e i z ht hi hz ⟨g, o, none⟩ n c xs h4 holds ad m d news hl hcell (by omega) (by simp only [maxLen] at h63; omega) (growslice_fits (by omega) hbytes)
        exact ⟨_, _, _, hr, hnew c (by omega)⟩
end
section
variable {p : Program} {P0 : Nat → Prop} {w0 w w' : World} {L : List Rg}
/-- append in a walk: on a state whose first part is the slice. -/
theorem St.run_append (t ty e : TypeId) (i : TypeInfo) (z : Value) (size bytes : Nat) {v : Value} {n : Nat} {xs : List Value} (h : St P0 w0 w (slc e size v n xs :: L))
    (ht : p.underlying t = some (.slice e)) (hi : p.info? e = some i) (hz : i.zero = some z)
    (hsize : i.size = size) (hby : i.bytes = bytes) (hzs : z.cells.size = size) (hsz : 0 < size)
    (B : Option Addr) (m d : Nat) (news : List Value) (hr : Rd w size B m news)
    (h63 : n + m ≤ maxLen) (hbytes : (n + m) * bytes ≤ 140737488355328) :
    ∃ A c w', (Builtin.append_ #[t, t] ty #[v, .slice B m d]).run p w = .ok (.slice A (n + m) c) w' ∧ St P0 w0 w' (slc e size (.slice A (n + m) c) (n + m) (xs ++ news) :: L) ∧ w.heap.size ≤ w'.heap.size := by
  obtain ⟨P, ⟨Q, R, hq, hr', hd, hA, _⟩, hs⟩ := St.step (L := [slc e size v n xs]) h
  obtain ⟨A, c, w', h1, h2, h3⟩ := run_append_slc (P := p) w t ty e i z size bytes ht hi hz hsize hby hzs hsz v n xs hA B m d news hr h63 hbytes
  refine ⟨A, c, w', h1, hs (M := [slc e size (.slice A (n + m) c) (n + m) (xs ++ news)]) ⟨h2.mono fun k hk _ => hq k hk, _, No, ?_, fun _ e => e.elim, fun _ _ e => e.elim, (slc e size _ (n + m) _).bound h3, trivial⟩, h2.size⟩
  rintro k ⟨hk | hk, hlt⟩
  · exact ⟨.inl (hq k hk), hlt⟩
  · exact ⟨.inr hk, hlt⟩
theorem St.append {ops : Array Oper} {rest : List Oper} {o : Oper} {a : Act} {Q : Exit → Act → World → Prop} (e : TypeId) (i : TypeInfo) (z : Value) (size bytes : Nat) {v : Value} {n : Nat} {xs : List Value} (h : St P0 w0 w (slc e size v n xs :: L))
    (hgd : o.guard = none) (s x : Operand) (t : TypeId)
    (ho : o.op = .call { callee := .builtin .append, args := #[s, x], argTypes := #[t, t] })
    (ht : p.underlying t = some (.slice e)) (hi : p.info? e = some i) (hz : i.zero = some z)
    (hsize : i.size = size) (hby : i.bytes = bytes) (hzs : z.cells.size = size) (hsz : 0 < size)
    (hs : a.eval s = v) (B : Option Addr) (m d : Nat) (news : List Value) (hx : a.eval x = .slice B m d) (hr : Rd w size B m news)
    (h63 : n + m ≤ maxLen) (hbytes : (n + m) * bytes ≤ 140737488355328)
    (hK : ∀ A c w', St P0 w0 w' (slc e size (.slice A (n + m) c) (n + m) (xs ++ news) :: L) → w.heap.size ≤ w'.heap.size → wpList p ops Q rest (a.put o.dst (.slice A (n + m) c)) w') : wpList p ops Q (o :: rest) a w := by
  obtain ⟨A, c, w', h1, h2, h3⟩ := St.run_append (p := p) t o.type e i z size bytes h ht hi hz hsize hby hzs hsz B m d news hr h63 hbytes
  refine wpList_plain hgd fun K hK' => ?_
  unfold Oper.wp execOp
  simp only [ho, resolve, invoke, builtin, Sem.run_bind, Sem.run_pure, Result.andThen_ok, List.map_toArray, List.map_cons, List.map_nil, hs, hx, h1]
  exact hK' _ _ (hK A c w' h2 h3)
/-- append at a step of a region that draws its order. -/
theorem St.step_append {ops : Array Oper} {o : Oper} {a : Act} {K : Act → World → Prop} {Q : Exit → Act → World → Prop} {E : Prop} (e : TypeId) (i : TypeInfo) (z : Value) (size bytes : Nat) {v : Value} {n : Nat} {xs : List Value} (h : St P0 w0 w (slc e size v n xs :: L))
    (hgd : o.guard = none) (s x : Operand) (t : TypeId)
    (ho : o.op = .call { callee := .builtin .append, args := #[s, x], argTypes := #[t, t] })
    (ht : p.underlying t = some (.slice e)) (hi : p.info? e = some i) (hz : i.zero = some z)
    (hsize : i.size = size) (hby : i.bytes = bytes) (hzs : z.cells.size = size) (hsz : 0 < size)
    (hs : a.eval s = v) (B : Option Addr) (m d : Nat) (news : List Value) (hx : a.eval x = .slice B m d) (hr : Rd w size B m news)
    (h63 : n + m ≤ maxLen) (hbytes : (n + m) * bytes ≤ 140737488355328)
    (hK : ∀ A c w', St P0 w0 w' (slc e size (.slice A (n + m) c) (n + m) (xs ++ news) :: L) → w.heap.size ≤ w'.heap.size → K (a.put o.dst (.slice A (n + m) c)) w') :
    if Region.wanted o (yielded ops a.tmps) = true then Oper.wp p o a w K Q else E := by
  have hw : Region.wanted o (yielded ops a.tmps) = true := by simp [Region.wanted, hgd]
  rw [if_pos hw]
  obtain ⟨A, c, w', h1, h2, h3⟩ := St.run_append (p := p) t o.type e i z size bytes h ht hi hz hsize hby hzs hsz B m d news hr h63 hbytes
  unfold Oper.wp execOp
  simp only [ho, resolve, invoke, builtin, Sem.run_bind, Sem.run_pure, Result.andThen_ok, List.map_toArray, List.map_cons, List.map_nil, hs, hx, h1]
  exact hK A c w' h2 h3
end
end Go.Proofs.Ytlefefcakffepaa.Sep

/- More of separate parts: what is new beside what is old, a slice cut at its head, cells that stay. No program, no condition. -/
namespace Go.Proofs.Ytlefefcakffepaa.Sep
set_option linter.unusedVariables false
set_option linter.unusedSimpArgs false
open Go.RowKit

theorem cell_up {w w' : World} {p : Addr} {v : Value} (h : Up w w') (hc : w.cell? p = some v) : w'.cell? p = some v := (Below.cell h (World.block_lt_of_cell? w _ hc)).trans hc
theorem frz_up {w w' : World} {p : Addr} {v : Value} (h : Up w w') (hc : w.cell? p = some v) (hf : w.frozen? p = false) : w'.frozen? p = false := (Below.frozen h (World.block_lt_of_cell? w _ hc)).trans hf
theorem cell_set_far {w : World} {b c : Nat} (h : c ≠ b) {i k : Nat} {u : Value} {x : Option Value} (hc : w.cell? ⟨c, k, none⟩ = x) : (w.setCell ⟨b, i, none⟩ u).cell? ⟨c, k, none⟩ = x := by
  rw [← hc]
  unfold World.cell?
  rw [heap_set_far u h]
theorem cell_set2 {w : World} {b c : Nat} (h : c ≠ b) {i j k : Nat} {u v : Value} {x : Option Value} (hc : w.cell? ⟨c, k, none⟩ = x) : ((w.setCell ⟨b, i, none⟩ u).setCell ⟨b, j, none⟩ v).cell? ⟨c, k, none⟩ = x := cell_set_far h (cell_set_far h hc)
theorem rd_up {w w' : World} {sz m : Nat} {A : Option Addr} {xs : List Value} (h : Rd w sz A m xs) (hu : Up w w') : Rd w' sz A m xs :=
  ⟨h.1, h.2.1, fun hm => by
    obtain ⟨ad, e, hc⟩ := h.2.2 hm
    exact ⟨ad, e, fun j u hj => cell_up hu (hc j u hj)⟩⟩
section
variable {P0 : Nat → Prop} {w0 w w' : World} {L M F : List Rg} {A B : Rg}
/-- What was made beside all that lay there. -/
theorem St.of_new (h : St P0 w0 w F) (hn : St No w w' M) : St P0 w0 w' (M ++ F) ∧ Up w w' := by
  refine ⟨h.fresh hn.up (hn.2.mono ?_), hn.up⟩
  rintro k ⟨e | e, _⟩
  · exact e.elim
  · exact e
end
theorem flat_rep_at (l : List Value) (hl : 0 < l.length) : ∀ (n j : Nat), j < n * l.length → (List.replicate n l).flatten[j]? = l[j % l.length]?
  | 0, j, h => by omega
  | n + 1, j, h => by
    rw [List.replicate_succ, List.flatten_cons]
    by_cases hj : j < l.length
    · rw [List.getElem?_append_left hj, Nat.mod_eq_of_lt hj]
    · rw [List.getElem?_append_right (by omega), flat_rep_at l hl n (j - l.length) (by rw [Nat.add_mul] at h; omega)]
      congr 1
      exact (Nat.mod_eq_sub_mod (by omega)).symm
theorem made_flat (z : List Value) (hz : 0 < z.length) (n : Nat) : madeCells z.toArray (n * z.length) = ((List.replicate n z).flatten).toArray := by
  apply Array.ext'
  refine List.ext_getElem? fun j => ?_
  by_cases hj : j < n * z.length
  · rw [show ((List.replicate n z).flatten.toArray).toList = (List.replicate n z).flatten from rfl, flat_rep_at z hz n j hj]
    have h1 := Nat.mod_lt j hz
    simp [madeCells, hj, h1]
  · rw [List.getElem?_eq_none (by simp [madeCells]; omega), List.getElem?_eq_none (by simp [List.length_flatten, List.sum_replicate_nat]; omega)]
/-- A block that was made whole is a slice. -/
theorem slc_of_bk {g e sz n : Nat} {cs : Array Value} {w : World} {P : Nat → Prop} (h : (bk g e cs).X w P) (hs : cs.size = n * sz) (hn : n ≤ maxLen) : (slc e sz (.slice (some ⟨g, 0, none⟩) n n) n cs.toList).X w P :=
  .inr ⟨g, 0, n, cs, rfl, Nat.le_refl _, hn, by simpa using hs, h.1, h.2, by omega, fun j hj => by simp⟩
theorem slc_drop {P : Program} {t e : TypeId} {i : TypeInfo} (ht : P.underlying t = some (.slice e)) (hi : P.info? e = some i) {sz : Nat} (hsz : i.size = sz) {A : Option Addr} {m c : Nat} {xs : List Value} {w : World} {Q : Nat → Prop} (h : (slc e sz (.slice A m c) m xs).X w Q) (k : Nat) (hk : k ≤ m) (hm : m ≤ 1000000) :
    ∃ A', (∀ W : World, (Instr.slice t (.slice A m c) (some (.int .i64 (k : Int))) none none).run P W = .ok (.slice A' (m - k) (c - k)) W) ∧ (slc e sz (.slice A' (m - k) (c - k)) (m - k) (xs.drop (k * sz))).X w Q := by
  have hel : P.elem t = e := by simp [Program.elem, ht]
  have hu : P.underlying t = some (.slice (P.elem t)) := by rw [hel]; exact ht
  have hrun : ∀ W : World, (Instr.slice t (.slice A m c) (some (.int .i64 (k : Int))) none none).run P W = .ok (.slice (if c = k then A else A.map (·.add (k * sz))) (m - k) (c - k)) W := by
    intro W
    rw [run_slice_l W t A m c hu .i64 k (by omega) (by omega), hel]
    simp [sizeOf, typeInfo, hi, hsz, sliced, Result.andThen]
  refine ⟨_, hrun, ?_⟩
  rcases h with ⟨hv, rfl, rfl⟩ | ⟨g, o, c', cur, hv, h2, h3, h4, h5, h6, h7, h8⟩
  · cases hv
    obtain rfl : k = 0 := by omega
    exact .inl ⟨by simp, by omega, by simp⟩
  · cases hv
    refine .inr ⟨g, if c = k then o else o + k * sz, c - k, cur, ?_, by omega, by omega, by rw [List.length_drop, h4, Nat.sub_mul], h5, h6, ?_, ?_⟩
    · split
      · rfl
      · simp [Addr.add_mid]
    · split
      · next e => rw [e]; simp; omega
      · rw [Nat.sub_mul]
        have := Nat.mul_le_mul_right sz (show k ≤ c by omega)
        omega
    · intro j hj
      rw [List.length_drop] at hj
      rw [List.getElem?_drop]
      split
      · next e =>
        have : m = k := by omega
        subst this
        rw [h4] at hj
        omega
      · rw [← h8 (k * sz + j) (by omega)]
        congr 1
        omega
end Go.Proofs.Ytlefefcakffepaa.Sep

/- Rows of items: each item has cells of its own and a child. No program, no condition. -/
namespace Go.Proofs.Ytlefefcakffepaa.Sep
set_option linter.unusedVariables false
set_option linter.unusedSimpArgs false
open Go.RowKit

/-! ### 1. What is only read -/
/-- Parts that are only read need not be apart. -/
def alls (L : List Rg) : Rg where
  X w P := ∀ A ∈ L, A.X w P
  move h hm := fun A hA => A.move (h A hA) hm
  bound h := fun A hA => A.bound (h A hA)
  mono h hP := fun A hA => A.mono (h A hA) hP
section
variable {P0 : Nat → Prop} {w0 w w' : World} {L M F : List Rg} {A B : Rg}
theorem St.ro_sub (h : St P0 w0 w (alls L :: F)) (hs : ∀ A ∈ M, A ∈ L) : St P0 w0 w (alls M :: F) := h.imp fun P hP A hA => hP A (hs A hA)
/-- A part is from now on only read. -/
theorem St.ro_join (h : St P0 w0 w (A :: alls L :: F)) : St P0 w0 w (alls (A :: L) :: F) := by
  have h1 := h.join
  refine h1.imp fun P hP B hB => ?_
  rcases List.mem_cons.1 hB with rfl | hB
  · exact hP.1
  · exact hP.2 B hB
theorem St.ro_start (h : St P0 w0 w F) : St P0 w0 w (alls [] :: F) := by
  obtain ⟨hf, hs⟩ := h
  exact ⟨hf, No, _, fun _ e => e.elim, fun _ h => h, fun _ e => e.elim, fun A hA => by simp at hA, hs⟩
theorem St.ro_one (h : St P0 w0 w (A :: F)) : St P0 w0 w (alls [A] :: F) := h.imp fun P hP B hB => by
  obtain rfl := List.mem_singleton.1 hB
  exact hP
theorem St.ro_get (h : St P0 w0 w (alls L :: F)) (hA : A ∈ L) : St P0 w0 w (A :: F) := h.imp fun P hP => hP A hA
theorem St.ro_fact (h : St P0 w0 w (alls L :: F)) (hA : A ∈ L) : ∃ P, A.X w P := by
  obtain ⟨hf, Q, R, hq, hr, hd, h1, hL⟩ := h
  exact ⟨Q, h1 A hA⟩
/-- Something follows from what is read. -/
theorem St.ro_add (h : St P0 w0 w (alls L :: F)) (hi : ∀ P, (∀ A ∈ L, A.X w P) → B.X w P) : St P0 w0 w (alls (B :: L) :: F) := h.imp fun P hP C hC => by
  rcases List.mem_cons.1 hC with rfl | hC
  · exact hi P hP
  · exact hP C hC
end

/-! ### 2. Values put from a place on -/
def putAt (xs : List Value) (k : Nat) : List Value → List Value
  | [] => xs
  | v :: vs => putAt (xs.set k v) (k + 1) vs
theorem putAt_skip : ∀ (vs p xs : List Value) (k : Nat), putAt (p ++ xs) (p.length + k) vs = p ++ putAt xs k vs
  | [], p, xs, k => rfl
  | v :: vs, p, xs, k => by
    rw [putAt, putAt, List.set_append_right _ _ (by omega), Nat.add_sub_cancel_left, Nat.add_assoc, putAt_skip vs p _ (k + 1)]
theorem putAt_head : ∀ (vs us xs : List Value), us.length = vs.length → putAt (us ++ xs) 0 vs = vs ++ xs
  | [], [], xs, _ => rfl
  | v :: vs, u :: us, xs, h => by
    rw [putAt]
    have e : (u :: us ++ xs).set 0 v = [v] ++ (us ++ xs) := rfl
    rw [e]
    have h2 := putAt_skip vs [v] (us ++ xs) 0
    have e2 : [v].length + 0 = 0 + 1 := rfl
    rw [e2] at h2
    rw [h2, putAt_head vs us xs (by simpa using h)]
    rfl

/-! ### 3. Cells and children -/
section
variable {α β : Type} (cf : α → β → List Value) (pf : α → β → Rg)
def rcs : List α → List β → List Value
  | x :: S, b :: bs => cf x b ++ rcs S bs
  | _, _ => []
def rps : List α → List β → List Rg
  | x :: S, b :: bs => pf x b :: rps S bs
  | _, _ => []
variable {cf pf}
theorem rcs_len {sz : Nat} (hsz : ∀ x b, (cf x b).length = sz) : ∀ (S : List α) (bs : List β), bs.length = S.length → (rcs cf S bs).length = S.length * sz
  | [], [], _ => by simp [rcs]
  | x :: S, b :: bs, h => by
    rw [rcs, List.length_append, hsz, rcs_len hsz S bs (by simpa using h), List.length_cons, Nat.add_mul]
    omega
theorem rps_len : ∀ (S : List α) (bs : List β), bs.length = S.length → (rps pf S bs).length = S.length
  | [], [], _ => rfl
  | x :: S, b :: bs, h => by simp [rps, rps_len S bs (by simpa using h)]
theorem rcs_at {sz : Nat} (hsz : ∀ x b, (cf x b).length = sz) (d : α) (e : β) : ∀ (S : List α) (bs : List β) (i j : Nat), bs.length = S.length → i < S.length → j < sz → (rcs cf S bs)[i * sz + j]? = (cf (S.getD i d) (bs.getD i e))[j]?
  | x :: S, b :: bs, 0, j, _, _, hj => by
    rw [rcs, Nat.zero_mul, Nat.zero_add, List.getElem?_append_left (by rw [hsz]; exact hj)]
    rfl
  | x :: S, b :: bs, i + 1, j, h, hi, hj => by
    rw [rcs, List.getElem?_append_right (by rw [hsz, Nat.add_mul]; omega), hsz, show (i + 1) * sz + j - sz = i * sz + j by rw [Nat.add_mul]; omega, rcs_at hsz d e S bs i j (by simpa using h) (by simpa using hi) hj]
    rfl
theorem rps_at (d : α) (e : β) (D : Rg) : ∀ (S : List α) (bs : List β) (i : Nat), bs.length = S.length → i < S.length → (rps pf S bs).getD i D = pf (S.getD i d) (bs.getD i e)
  | x :: S, b :: bs, 0, _, _ => rfl
  | x :: S, b :: bs, i + 1, h, hi => by
    have := rps_at d e D S bs i (by simpa using h) (by simpa using hi)
    simpa [rps] using this
theorem rps_mem (d : α) (e : β) (S : List α) (bs : List β) (i : Nat) (h : bs.length = S.length) (hi : i < S.length) : pf (S.getD i d) (bs.getD i e) ∈ rps pf S bs := by
  have h1 := rps_at (pf := pf) d e (pu True) S bs i h hi
  rw [← h1, List.getD_eq_getElem?_getD, List.getElem?_eq_getElem (by rw [rps_len S bs h]; exact hi)]
  exact List.getElem_mem _
theorem rcs_put {sz : Nat} (hsz : ∀ x b, (cf x b).length = sz) : ∀ (S : List α) (bs : List β) (i : Nat) (x : α) (b : β), bs.length = S.length → i < S.length → putAt (rcs cf S bs) (i * sz) (cf x b) = rcs cf (S.set i x) (bs.set i b)
  | y :: S, c :: bs, 0, x, b, _, _ => by
    rw [rcs, Nat.zero_mul, putAt_head _ _ _ (by rw [hsz, hsz])]
    rfl
  | y :: S, c :: bs, i + 1, x, b, h, hi => by
    have e2 : (i + 1) * sz = (cf y c).length + i * sz := by rw [hsz, Nat.add_mul]; omega
    rw [rcs, e2, putAt_skip, rcs_put hsz S bs i x b (by simpa using h) (by simpa using hi)]
    rfl
theorem rcs_same : ∀ (S : List α) (bs : List β) (i : Nat) (x : α) (d : α) (e : β), bs.length = S.length → i < S.length → cf x (bs.getD i e) = cf (S.getD i d) (bs.getD i e) → rcs cf (S.set i x) bs = rcs cf S bs
  | y :: S, c :: bs, 0, x, d, e, _, _, h => by
    show cf x c ++ _ = cf y c ++ _
    rw [show cf x c = cf y c from h]
  | y :: S, c :: bs, i + 1, x, d, e, h, hi, hh => by
    show cf y c ++ _ = cf y c ++ _
    rw [rcs_same S bs i x d e (by simpa using h) (by simpa using hi) (by simpa using hh)]
theorem rps_set : ∀ (S : List α) (bs : List β) (i : Nat) (x : α) (b : β), bs.length = S.length → i < S.length → rps pf (S.set i x) (bs.set i b) = (rps pf S bs).set i (pf x b)
  | y :: S, c :: bs, 0, x, b, _, _ => rfl
  | y :: S, c :: bs, i + 1, x, b, h, hi => by simp [rps, rps_set S bs i x b (by simpa using h) (by simpa using hi)]
theorem rps_erase (S : List α) (bs : List β) (i : Nat) (x : α) (b : β) (h : bs.length = S.length) (hi : i < S.length) : (rps pf (S.set i x) (bs.set i b)).eraseIdx i = (rps pf S bs).eraseIdx i := by
  rw [rps_set S bs i x b h hi, List.eraseIdx_set_eq]
theorem rcs_snoc : ∀ (S : List α) (bs : List β) (x : α) (b : β), bs.length = S.length → rcs cf (S ++ [x]) (bs ++ [b]) = rcs cf S bs ++ cf x b
  | [], [], x, b, _ => by simp [rcs]
  | y :: S, c :: bs, x, b, h => by simp [rcs, rcs_snoc S bs x b (by simpa using h)]
theorem rps_snoc : ∀ (S : List α) (bs : List β) (x : α) (b : β), bs.length = S.length → rps pf (S ++ [x]) (bs ++ [b]) = rps pf S bs ++ [pf x b]
  | [], [], x, b, _ => by simp [rps]
  | y :: S, c :: bs, x, b, h => by simp [rps, rps_snoc S bs x b (by simpa using h)]
theorem rcs_drop {sz : Nat} (hsz : ∀ x b, (cf x b).length = sz) : ∀ (S : List α) (bs : List β) (k : Nat), bs.length = S.length → k ≤ S.length → (rcs cf S bs).drop (k * sz) = rcs cf (S.drop k) (bs.drop k)
  | S, bs, 0, _, _ => by simp
  | y :: S, c :: bs, k + 1, h, hk => by
    have e2 : (k + 1) * sz = (cf y c).length + k * sz := by rw [hsz, Nat.add_mul]; omega
    rw [rcs, e2, List.drop_append, List.drop_of_length_le (by omega), Nat.add_sub_cancel_left, rcs_drop hsz S bs k (by simpa using h) (by simpa using hk)]
    rfl
theorem rps_drop : ∀ (S : List α) (bs : List β) (k : Nat), bs.length = S.length → (rps pf S bs).drop k = rps pf (S.drop k) (bs.drop k)
  | S, bs, 0, _ => by simp
  | [], [], k + 1, _ => by simp [rps]
  | y :: S, c :: bs, k + 1, h => by
    simpa [rps] using rps_drop S bs k (by simpa using h)
theorem rcs_append {sz : Nat} (hsz : ∀ x b, (cf x b).length = sz) : ∀ (S T : List α) (bs cs : List β), bs.length = S.length → rcs cf (S ++ T) (bs ++ cs) = rcs cf S bs ++ rcs cf T cs
  | [], T, [], cs, _ => by simp [rcs]
  | y :: S, T, c :: bs, cs, h => by simp [rcs, rcs_append hsz S T bs cs (by simpa using h)]
theorem rcs_one (h1 : ∀ x b, ∀ u ∈ cf x b, u.oneCell' = true) : ∀ (S : List α) (bs : List β), ∀ u ∈ rcs cf S bs, u.oneCell' = true
  | x :: S, b :: bs, u, hu => by
    rw [rcs] at hu
    rcases List.mem_append.1 hu with hu | hu
    · exact h1 x b u hu
    · exact rcs_one h1 S bs u hu
  | [], _, u, hu => by simp [rcs] at hu
  | _ :: _, [], u, hu => by simp [rcs] at hu
end

/-! ### 4. Rows whose children are apart -/
section
variable {α : Type} {β : Type} (e : TypeId) (sz : Nat) (cf : α → β → List Value) (pf : α → β → Rg)
def row (V : Value) (S : List α) : Rg := ex fun bs : List β => big [slc e sz V S.length (rcs cf S bs), big (rps pf S bs), pu (bs.length = S.length)]
variable {e sz cf pf} {P0 : Nat → Prop} {w0 w w' : World} {F : List Rg} {V : Value} {S : List α}
theorem row_any (h : St P0 w0 w (row e sz cf pf V S :: F)) : ∃ bs : List β, bs.length = S.length ∧ St P0 w0 w (slc e sz V S.length (rcs cf S bs) :: big (rps pf S bs) :: F) := by
  obtain ⟨bs, h2⟩ := h.ex_open
  have h3 : St P0 w0 w (pu (bs.length = S.length) :: slc e sz V S.length (rcs cf S bs) :: big (rps pf S bs) :: F) := (h2.big_open).get 2
  exact ⟨bs, h3.pu_open⟩
theorem row_shut {bs : List β} (hm : bs.length = S.length) (h : St P0 w0 w (slc e sz V S.length (rcs cf S bs) :: big (rps pf S bs) :: F)) : St P0 w0 w (row e sz cf pf V S :: F) := by
  have h1 : St P0 w0 w (_ :: _ :: pu (bs.length = S.length) :: F) := (St.pu_shut hm h).put 2
  exact St.ex_shut bs (St.big_shut (M := [_, _, pu _]) h1)
theorem row_nil (h : St P0 w0 w F) : St P0 w0 w (row e sz cf pf (.slice none 0 0) ([] : List α) :: F) := by
  refine row_shut (bs := []) rfl ?_
  have h1 : St P0 w0 w (big (rps pf ([] : List α) ([] : List β)) :: F) := St.big_shut (M := []) h
  exact St.fresh (M := [slc e sz (.slice none 0 0) 0 []]) h1 (Up.refl _) ⟨No, No, fun _ e => e.elim, fun _ e => e.elim, fun _ e => e.elim, slc_nil _ _ _ _, trivial⟩
theorem row_form (h : St P0 w0 w (row e sz cf pf V S :: F)) : ∃ A c, V = .slice A S.length c ∧ S.length ≤ c ∧ c ≤ maxLen := by
  obtain ⟨bs, hm, h1⟩ := row_any h
  obtain ⟨P, ⟨Q, Q2, _, _, _, h2, _⟩, _⟩ := St.step (L := [slc e sz V S.length (rcs cf S bs)]) h1
  exact slc_form h2
theorem row_push {bs : List β} {x : α} {b : β} (hm : bs.length = S.length) (h : St P0 w0 w (slc e sz V (S.length + 1) (rcs cf S bs ++ cf x b) :: big (rps pf S bs) :: pf x b :: F)) : St P0 w0 w (row e sz cf pf V (S ++ [x]) :: F) := by
  have h1 : St P0 w0 w (big (rps pf S bs) :: pf x b :: slc e sz V (S.length + 1) (rcs cf S bs ++ cf x b) :: F) := ((h.get 2).get 2)
  have h2 : St P0 w0 w (rps pf S bs ++ (pf x b :: (slc e sz V (S.length + 1) (rcs cf S bs ++ cf x b) :: F))) := h1.big_open
  have h3 : St P0 w0 w ((rps pf S bs ++ [pf x b]) ++ (slc e sz V (S.length + 1) (rcs cf S bs ++ cf x b) :: F)) := by simpa using h2
  rw [← rps_snoc S bs x b hm] at h3
  have h4 : St P0 w0 w (slc e sz V (S.length + 1) (rcs cf S bs ++ cf x b) :: big (rps pf (S ++ [x]) (bs ++ [b])) :: F) := (St.big_shut h3).get 1
  refine row_shut (bs := bs ++ [b]) (by simpa using hm) ?_
  rw [rcs_snoc S bs x b hm, List.length_append]
  exact h4
/-- The same, child i (at b) being taken out. -/
def rowx [Inhabited β] (e : TypeId) (sz : Nat) (cf : α → β → List Value) (pf : α → β → Rg) (V : Value) (S : List α) (i : Nat) (b : β) : Rg := ex fun bs : List β => big [slc e sz V S.length (rcs cf S bs), big ((rps pf S bs).eraseIdx i), pu (bs.length = S.length ∧ bs.getD i default = b)]
variable [Inhabited α] [Inhabited β]
theorem row_open (h : St P0 w0 w (row e sz cf pf V S :: F)) (hsz : ∀ x b, (cf x b).length = sz) (i : Nat) (hi : i < S.length) :
    ∃ g o c b, V = .slice (some ⟨g, o, none⟩) S.length c ∧ (∀ j, j < sz → ∀ u, (cf (S.getD i default) b)[j]? = some u → w.cell? ⟨g, o + (i * sz + j), none⟩ = some u) ∧ (∀ j, w.frozen? ⟨g, j, none⟩ = false) ∧
      St P0 w0 w (pf (S.getD i default) b :: rowx e sz cf pf V S i b :: F) := by
  obtain ⟨bs, hm, h1⟩ := row_any h
  obtain ⟨P, ⟨Q, Q2, _, _, _, h2, _⟩, _⟩ := St.step (L := [slc e sz V S.length (rcs cf S bs)]) h1
  obtain ⟨A, c, rfl, hc⟩ := slc_form h2
  obtain ⟨g, o, rfl, _, _, _, hcell, hfr⟩ := slc_cells h2 (by omega)
  refine ⟨g, o, c, bs.getD i default, rfl, fun j hj u hu => hcell _ _ (by rw [rcs_at hsz default default S bs i j hm hi hj]; exact hu), hfr, ?_⟩
  have hl := rps_len (pf := pf) S bs hm
  have h3 : St P0 w0 w (big (rps pf S bs) :: slc e sz _ S.length (rcs cf S bs) :: F) := h1.get 1
  have h4 := (h3.big_open).get i (by simp; omega)
  have e1 : (rps pf S bs ++ slc e sz (.slice (some ⟨g, o, none⟩) S.length c) S.length (rcs cf S bs) :: F).getD i (pu True) = (rps pf S bs).getD i (pu True) := by
    simp [List.getD_eq_getElem?_getD, List.getElem?_append_left (show i < (rps pf S bs).length by omega)]
  rw [e1, rps_at default default _ S bs i hm hi, List.eraseIdx_append_of_lt_length (by omega)] at h4
  have h5 := St.big_shut (M := (rps pf S bs).eraseIdx i) (h4.perm (List.perm_middle.symm))
  have h6 : St P0 w0 w (slc e sz _ S.length (rcs cf S bs) :: big ((rps pf S bs).eraseIdx i) :: pf (S.getD i default) (bs.getD i default) :: F) := h5.get 2
  have h7 : St P0 w0 w (_ :: _ :: pu (bs.length = S.length ∧ bs.getD i default = bs.getD i default) :: pf (S.getD i default) (bs.getD i default) :: F) := (St.pu_shut ⟨hm, rfl⟩ h6).put 2
  have h8 : St P0 w0 w (rowx e sz cf pf _ S i (bs.getD i default) :: _ :: F) := St.ex_shut bs (St.big_shut (M := [_, _, pu _]) h7)
  exact h8.get 1
omit [Inhabited α] in
theorem rowx_any {i : Nat} {b : β} (h : St P0 w0 w (rowx e sz cf pf V S i b :: F)) : ∃ bs : List β, (bs.length = S.length ∧ bs.getD i default = b) ∧ St P0 w0 w (slc e sz V S.length (rcs cf S bs) :: big ((rps pf S bs).eraseIdx i) :: F) := by
  obtain ⟨bs, h2⟩ := h.ex_open
  have h3 : St P0 w0 w (pu (bs.length = S.length ∧ bs.getD i default = b) :: slc e sz V S.length (rcs cf S bs) :: big ((rps pf S bs).eraseIdx i) :: F) := (h2.big_open).get 2
  exact ⟨bs, h3.pu_open⟩
/-- The child is put back, its cells being as they were. -/
theorem row_close {i : Nat} {b : β} {x : α} (hi : i < S.length) (hx : cf x b = cf (S.getD i default) b) (h : St P0 w0 w (pf x b :: rowx e sz cf pf V S i b :: F)) : St P0 w0 w (row e sz cf pf V (S.set i x) :: F) := by
  have h1 : St P0 w0 w (rowx e sz cf pf V S i b :: pf x b :: F) := h.get 1
  obtain ⟨bs, ⟨hm, rfl⟩, h2⟩ := rowx_any h1
  have hb : bs.set i (bs.getD i default) = bs := by
    rw [List.getD_eq_getElem?_getD, List.getElem?_eq_getElem (by omega)]
    simp
  have h3 : St P0 w0 w (big ((rps pf S bs).eraseIdx i) :: slc e sz V S.length (rcs cf S bs) :: pf x (bs.getD i default) :: F) := h2.get 1
  have h4 := h3.big_open
  have hl := rps_len (pf := pf) S bs hm
  have hs := rps_set (pf := pf) S bs i x (bs.getD i default) hm hi
  rw [hb] at hs
  have e1 : (rps pf (S.set i x) bs).Perm (pf x (bs.getD i default) :: (rps pf S bs).eraseIdx i) := by
    have := perm_get (rps pf (S.set i x) bs) i (pu True) (by rw [rps_len _ _ (by simpa using hm)]; simpa using hi)
    have e2 : (rps pf (S.set i x) bs).getD i (pu True) = pf x (bs.getD i default) := by
      rw [hs, List.getD_eq_getElem?_getD, List.getElem?_set_self (by omega)]
      rfl
    rw [e2] at this
    rw [hs] at this ⊢
    rw [List.eraseIdx_set_eq] at this
    exact this
  have h5 : St P0 w0 w (rps pf (S.set i x) bs ++ (slc e sz V S.length (rcs cf S bs) :: F)) := by
    refine h4.perm ?_
    refine List.Perm.trans ?_ (List.Perm.append_right _ e1.symm)
    have a1 : ((rps pf S bs).eraseIdx i ++ slc e sz V S.length (rcs cf S bs) :: pf x (bs.getD i default) :: F).Perm ((rps pf S bs).eraseIdx i ++ pf x (bs.getD i default) :: slc e sz V S.length (rcs cf S bs) :: F) := List.Perm.append_left _ (List.Perm.swap _ _ _)
    exact a1.trans List.perm_middle
  have h6 : St P0 w0 w (slc e sz V S.length (rcs cf S bs) :: big (rps pf (S.set i x) bs) :: F) := (St.big_shut h5).get 1
  refine row_shut (bs := bs) (by simpa using hm) ?_
  rw [List.length_set, rcs_same S bs i x default default hm hi hx]
  exact h6
end

/-! ### 5. Rows that are only read -/
section
variable {α : Type} {β : Type} (e : TypeId) (sz : Nat) (cf : α → β → List Value) (pf : α → β → Rg)
def rrow (V : Value) (S : List α) : Rg := ex fun bs : List β => alls [slc e sz V S.length (rcs cf S bs), alls (rps pf S bs), pu (bs.length = S.length)]
variable {e sz cf pf} {P0 : Nat → Prop} {w0 w w' : World} {F L : List Rg} {V : Value} {S : List α}
theorem rrow_mk {bs : List β} {w : World} {P : Nat → Prop} (hm : bs.length = S.length) (h1 : (slc e sz V S.length (rcs cf S bs)).X w P) (h2 : (alls (rps pf S bs)).X w P) : (rrow e sz cf pf V S).X w P := by
  refine ⟨bs, fun B hB => ?_⟩
  rcases List.mem_cons.1 hB with rfl | hB
  · exact h1
  · rcases List.mem_cons.1 hB with rfl | hB
    · exact h2
    · obtain rfl := List.mem_singleton.1 hB
      exact hm
theorem rrow_any {w : World} {P : Nat → Prop} (h : (rrow e sz cf pf V S).X w P) : ∃ bs : List β, bs.length = S.length ∧ (slc e sz V S.length (rcs cf S bs)).X w P ∧ (alls (rps pf S bs)).X w P := by
  obtain ⟨bs, h2⟩ := h
  exact ⟨bs, h2 _ (.tail _ (.tail _ (.head _))), h2 _ (.head _), h2 _ (.tail _ (.head _))⟩
theorem rrow_nil (w : World) (P : Nat → Prop) : (rrow e sz cf pf (.slice none 0 0) ([] : List α)).X w P :=
  rrow_mk (bs := []) rfl (slc_nil _ _ _ _) (fun A hA => by simp [rps] at hA)
theorem rrow_form (h : St P0 w0 w (alls L :: F)) (hV : rrow e sz cf pf V S ∈ L) : ∃ A c, V = .slice A S.length c ∧ S.length ≤ c ∧ c ≤ maxLen := by
  obtain ⟨P, h1⟩ := h.ro_fact hV
  obtain ⟨bs, hm, h2, h3⟩ := rrow_any h1
  exact slc_form h2
/-- It can be read whole. -/
theorem rrow_rd (h : St P0 w0 w (alls L :: F)) (hV : rrow e sz cf pf V S ∈ L) (h1 : ∀ x b, ∀ u ∈ cf x b, u.oneCell' = true) : ∃ A c, ∃ bs : List β, V = .slice A S.length c ∧ bs.length = S.length ∧ Rd w sz A S.length (rcs cf S bs) ∧ S.length ≤ c ∧ c ≤ maxLen ∧ St P0 w0 w (alls (alls (rps pf S bs) :: slc e sz V S.length (rcs cf S bs) :: L) :: F) := by
  obtain ⟨hf, Q, R, hq, hr, hd, h3, hL⟩ := h
  obtain ⟨bs, hm, h4, h5⟩ := rrow_any (h3 _ hV)
  obtain ⟨A, c, rfl, hc⟩ := slc_form h4
  refine ⟨A, c, bs, rfl, hm, slc_rd h4 (rcs_one h1 S bs), hc.1, hc.2, hf, Q, R, hq, hr, hd, ?_, hL⟩
  intro B hB
  rcases List.mem_cons.1 hB with rfl | hB
  · exact h5
  · rcases List.mem_cons.1 hB with rfl | hB
    · exact h4
    · exact h3 B hB
theorem rps_all_set : ∀ (S : List α) (bs : List β) (i : Nat) (x : α) (b : β) (B : Rg), bs.length = S.length → i < S.length → B ∈ rps pf (S.set i x) (bs.set i b) → B = pf x b ∨ B ∈ rps pf S bs
  | y :: S, c :: bs, 0, x, b, B, _, _, h => by
    rcases List.mem_cons.1 h with h | h
    · exact .inl h
    · exact .inr (.tail _ h)
  | y :: S, c :: bs, i + 1, x, b, B, hl, hi, h => by
    rcases List.mem_cons.1 h with h | h
    · exact .inr (by rw [h]; exact .head _)
    · rcases rps_all_set S bs i x b B (by simpa using hl) (by simpa using hi) h with h | h
      · exact .inl h
      · exact .inr (.tail _ h)
/-- The copy, one item of which was put anew: it is read from now on. -/
theorem rrow_put {bs : List β} {V' : Value} {i : Nat} {x : α} {b : β} (hm : bs.length = S.length) (hi : i < S.length) (hsz : ∀ x b, (cf x b).length = sz) (hb : alls (rps pf S bs) ∈ L) (hx : pf x b ∈ L)
    (h : St P0 w0 w (slc e sz V' S.length (putAt (rcs cf S bs) (i * sz) (cf x b)) :: alls L :: F)) : St P0 w0 w (alls (rrow e sz cf pf V' (S.set i x) :: L) :: F) := by
  have h1 := h.ro_join
  refine h1.imp fun P hP B hB => ?_
  rcases List.mem_cons.1 hB with rfl | hB
  · refine rrow_mk (bs := bs.set i b) (by simpa using hm) ?_ ?_
    · have h9 := hP _ (.head _)
      rw [rcs_put hsz S bs i x b hm hi] at h9
      rw [List.length_set]
      exact h9
    · intro B2 hB2
      rcases rps_all_set S bs i x b B2 hm hi hB2 with rfl | h9
      · exact hP _ (.tail _ hx)
      · exact hP _ (.tail _ hb) B2 h9
  · exact hP B (.tail _ hB)
theorem rrow_push {bs : List β} {V' : Value} {x : α} {b : β} (hm : bs.length = S.length) (hb : alls (rps pf S bs) ∈ L) (hx : pf x b ∈ L)
    (h : St P0 w0 w (slc e sz V' (S.length + 1) (rcs cf S bs ++ cf x b) :: alls L :: F)) : St P0 w0 w (alls (rrow e sz cf pf V' (S ++ [x]) :: L) :: F) := by
  have h1 := h.ro_join
  refine h1.imp fun P hP B hB => ?_
  rcases List.mem_cons.1 hB with rfl | hB
  · refine rrow_mk (bs := bs ++ [b]) (by simpa using hm) ?_ ?_
    · have h9 := hP _ (.head _)
      rw [← rcs_snoc S bs x b hm] at h9
      rw [List.length_append]
      exact h9
    · intro B2 hB2
      rw [rps_snoc S bs x b hm] at hB2
      rcases List.mem_append.1 hB2 with h9 | h9
      · exact hP _ (.tail _ hb) B2 h9
      · obtain rfl := List.mem_singleton.1 h9
        exact hP _ (.tail _ hx)
  · exact hP B (.tail _ hB)
variable [Inhabited α] [Inhabited β]
/-- An item's cells, and its child. -/
theorem rrow_at (h : St P0 w0 w (alls L :: F)) (hV : rrow e sz cf pf V S ∈ L) (hsz : ∀ x b, (cf x b).length = sz) (i : Nat) (hi : i < S.length) :
    ∃ g o c b, V = .slice (some ⟨g, o, none⟩) S.length c ∧ (∀ j, j < sz → ∀ u, (cf (S.getD i default) b)[j]? = some u → w.cell? ⟨g, o + (i * sz + j), none⟩ = some u) ∧ St P0 w0 w (alls (pf (S.getD i default) b :: L) :: F) := by
  have h0 := h
  obtain ⟨hf, Q, R, hq, hr, hd, h1, hL⟩ := h
  obtain ⟨bs, hm, h2, h3⟩ := rrow_any (h1 _ hV)
  obtain ⟨A, c, rfl, hc⟩ := slc_form h2
  obtain ⟨g, o, rfl, _, _, _, hcell, hfr⟩ := slc_cells h2 (by omega)
  refine ⟨g, o, c, bs.getD i default, rfl, fun j hj u hu => hcell _ _ (by rw [rcs_at hsz default default S bs i j hm hi hj]; exact hu), hf, Q, R, hq, hr, hd, ?_, hL⟩
  intro B hB
  rcases List.mem_cons.1 hB with rfl | hB
  · exact h3 _ (rps_mem default default S bs i hm hi)
  · exact h1 B hB
end
end Go.Proofs.Ytlefefcakffepaa.Sep

/- A slice of ints that reads as a list, in blocks of P. -/
namespace Go.Proofs.Ytlefefcakffepaa.Lat
set_option linter.unusedVariables false
set_option linter.unusedSimpArgs false
open Go.RowKit Go.Proofs.YtlefefcakffepaaW.PrintWords

def LAt (w : World) (P : Nat → Prop) (v : Value) (q : List Int) : Prop :=
  (v = .slice none 0 0 ∧ q = []) ∨ ∃ ad c, v = .slice (some ad) q.length c ∧ q.length ≤ c ∧ ∀ j, j < q.length → P ad.block ∧ w.cell? (ad.add j) = some (.int .i64 (q.getD j 0))
theorem add_block (ad : Addr) (j : Nat) : (ad.add j).block = ad.block := by unfold Addr.add; split <;> rfl
theorem LAt.move {w w' : World} {P : Nat → Prop} {v : Value} {q : List Int} (h : LAt w P v q) (hm : ∀ k, P k → k < w.heap.size → w'.heap[k]? = w.heap[k]?) : LAt w' P v q := by
  rcases h with h | ⟨ad, c, h1, h2, h3⟩
  · exact .inl h
  · refine .inr ⟨ad, c, h1, h2, fun j hj => ⟨(h3 j hj).1, ?_⟩⟩
    obtain ⟨hp, hc⟩ := h3 j hj
    have hlt := World.block_lt_of_cell? w _ hc
    rw [add_block] at hlt
    rw [← hc]
    exact World.cell?_of_block (by rw [add_block]; exact hm _ hp hlt)
theorem LAt.up {w w' : World} {P : Nat → Prop} {v : Value} {q : List Int} (h : LAt w P v q) (hu : Up w w') : LAt w' P v q := h.move fun k _ hk => hu.block k hk
theorem LAt.mono {w : World} {P P' : Nat → Prop} {v : Value} {q : List Int} (h : LAt w P v q) (hP : ∀ k, P k → P' k) : LAt w P' v q := by
  rcases h with h | ⟨ad, c, h1, h2, h3⟩
  · exact .inl h
  · exact .inr ⟨ad, c, h1, h2, fun j hj => ⟨hP _ (h3 j hj).1, (h3 j hj).2⟩⟩
theorem LAt.bound {w : World} {P : Nat → Prop} {v : Value} {q : List Int} (h : LAt w P v q) : LAt w (fun k => P k ∧ k < w.heap.size) v q := by
  rcases h with h | ⟨ad, c, h1, h2, h3⟩
  · exact .inl h
  · refine .inr ⟨ad, c, h1, h2, fun j hj => ⟨⟨(h3 j hj).1, ?_⟩, (h3 j hj).2⟩⟩
    have hlt := World.block_lt_of_cell? w _ (h3 j hj).2
    rw [add_block] at hlt
    exact hlt
theorem LAt.of_own {w : World} {base : Nat} {v : Value} {q : List Int} (h : w.ownsRow base 3 1 v q.length (q.map (Value.int .i64))) : LAt w (fun k => base ≤ k) v q := by
  have hh := h.2
  rcases hh with ⟨rfl, h0⟩ | ⟨g, cap, cs, rfl, hg, hc, hl, hx⟩
  · exact .inl ⟨rfl, List.eq_nil_of_length_eq_zero h0⟩
  · refine .inr ⟨_, _, rfl, by omega, fun j hj => ⟨hg, ?_⟩⟩
    refine h.cells rfl j _ ?_
    simp [List.getElem?_map, hj]
/-- A block known whole, sliced from its head. -/
theorem LAt.of_block {w : World} {P : Nat → Prop} {g : Nat} {q rest : List Int} {t : TypeId} {fr : Nat × Nat} {c : Nat} (h : w.heap[g]? = some (.cells ((q ++ rest).map (Value.int .i64)).toArray t fr)) (hc : q.length ≤ c) (hP : P g) : LAt w P (.slice (some ⟨g, 0, none⟩) q.length c) q := by
  refine .inr ⟨_, _, rfl, hc, fun j hj => ⟨hP, ?_⟩⟩
  have e : (⟨g, 0, none⟩ : Addr).add j = ⟨g, j, none⟩ := by
    by_cases hj0 : j = 0
    · subst hj0; rfl
    · simp [Addr.add, hj0]
  rw [e, cell_of_block h]
  rw [List.getD_eq_getElem?_getD, List.getElem?_eq_getElem hj]
  simp only [List.map_append, List.getElem?_toArray, Option.getD_some]
  rw [List.getElem?_append_left (by simpa using hj)]
  simp [hj]
theorem LAt.c {w : World} {P : Nat → Prop} {v : Value} {q : List Int} (h : LAt w P v q) (hq : q.length ≤ 1000000) : ∃ A c, v = .slice A q.length c ∧ q.length ≤ c ∧ Kd.C (Kd.int .i64) w A q.length q := by
  rcases h with ⟨rfl, rfl⟩ | ⟨ad, c, rfl, h2, h3⟩
  · exact ⟨none, 0, rfl, Nat.le_refl _, Kd.C_of_reads (d := (0 : Int)) (h1 := fun _ => rfl) ⟨rfl, by decide, fun h => absurd h (by decide)⟩⟩
  · exact ⟨some ad, c, rfl, h2, Kd.C_of_reads (d := (0 : Int)) (h1 := fun _ => rfl) ⟨rfl, by omega, fun _ => ⟨ad, rfl, fun j hj => (h3 j hj).2⟩⟩⟩
theorem LAt.len {w : World} {P : Nat → Prop} {v : Value} {q : List Int} (h : LAt w P v q) : ∃ A c, v = .slice A q.length c := by
  rcases h with ⟨rfl, rfl⟩ | ⟨ad, c, rfl, _⟩
  · exact ⟨none, 0, rfl⟩
  · exact ⟨_, _, rfl⟩
theorem LAt.cells {w : World} {P : Nat → Prop} {A : Option Addr} {c : Nat} {q : List Int} (h : LAt w P (.slice A q.length c) q) (hp : 0 < (q.map (Value.int .i64)).length) :
    ∃ ad, A = some ad ∧ ∀ (j : Nat) (v : Value), (q.map (Value.int .i64))[j]? = some v → w.cell? (ad.add j) = some v := by
  rcases h with ⟨_, rfl⟩ | ⟨ad, c', hv, _, h3⟩
  · simp at hp
  · injection hv with h1 h2 h4
    refine ⟨ad, h1, fun j v hj => ?_⟩
    obtain ⟨z, hz, rfl⟩ := by simpa using hj
    obtain ⟨hl, rfl⟩ := List.getElem?_eq_some_iff.1 hz
    have hc := (h3 j hl).2
    simp [List.getD_eq_getElem?_getD, hl] at hc
    exact hc
theorem oInt (q : List Int) : ∀ u ∈ q.map (Value.int .i64), u.oneCell' = true := by
  intro u hu
  obtain ⟨z, _, rfl⟩ := List.mem_map.1 hu
  rfl
end Go.Proofs.Ytlefefcakffepaa.Lat

/- copy in a drawn region: one block alone has turned. -/
namespace Go.Proofs.Ytlefefcakffepaa.Copy
set_option linter.unusedVariables false
set_option linter.unusedSimpArgs false
open Go.RowKit

/-- One block alone has turned. -/
structure Row1 (g : Nat) (w w' : World) : Prop where
  os : w'.os = w.os
  tape : w'.tape = w.tape
  output : w'.output = w.output
  size : w'.heap.size = w.heap.size
  block : ∀ k, k ≠ g → w'.heap[k]? = w.heap[k]?
theorem Up.row1 {g : Nat} {a w w' : World} (h : Up a w) (k : Row1 g w w') (hg : a.heap.size ≤ g) : Up a w' :=
  ⟨k.os.trans h.os, k.tape.trans h.tape, k.output.trans h.output, by rw [k.size]; exact h.size, fun i hi => (k.block i (by omega)).trans (h.block i hi)⟩
theorem step_copy_row1 {P : Program} {ops : Array Oper} {o : Oper} {a : Act} {w : World} {K : Act → World → Prop} {Q : Exit → Act → World → Prop} {E : Prop} (hgd : o.guard = none) (d s : Operand) (dT sT : TypeId)
    (ho : o.op = .call { callee := .builtin .copy, args := #[d, s], argTypes := #[dT, sT] }) (elem : TypeId) (hu : P.underlying dT = some (.slice elem)) (hsz : (P.info? elem).map (·.size) = some 1)
    (dp sp : Option Addr) (dLen dCap sLen sCap : Nat) (hd : a.eval d = .slice dp dLen dCap) (hs : a.eval s = .slice sp sLen sCap)
    (g off : Nat) (cur : List Value) (t : TypeId) (hg : w.heap[g]? = some (.cells cur.toArray t (0, 0))) (cs : List Value) (hn : cs.length = Nat.min sLen dLen)
    (hpos : 0 < cs.length → dp = some ⟨g, off, none⟩ ∧ ∃ ad, sp = some ad ∧ ∀ (j : Nat) (v : Value), cs[j]? = some v → w.cell? (ad.add j) = some v)
    (hfit : off + cs.length ≤ cur.length) (h1 : ∀ v ∈ cs, v.oneCell' = true)
    (h : ∀ w', Hid (w'.heap[g]? = some (.cells (splice cur off cs).toArray t (0, 0))) → Row1 g w w' → K (a.put o.dst (goInt cs.length)) w') :
    if Region.wanted o (yielded ops a.tmps) = true then Oper.wp P o a w K Q else E := by
  have hw : Region.wanted o (yielded ops a.tmps) = true := by simp [Region.wanted, hgd]
  rw [if_pos hw]
  by_cases h0 : cs.length = 0
  · obtain rfl : cs = [] := List.eq_nil_of_length_eq_zero h0
    have hrun := run_copy_none (P := P) w dT sT o.type elem dp sp dLen dCap sLen sCap hu hsz (by simpa using hn.symm)
    unfold Oper.wp
    simp [execOp, ho, resolve, invoke, builtin, hd, hs, hrun, Result.andThen]
    exact h w (show _ = _ by simpa [splice] using hg) ⟨rfl, rfl, rfl, rfl, fun _ _ => rfl⟩
  · obtain ⟨rfl, ad, rfl, hsrc⟩ := hpos (by omega)
    have hrun := run_copy_row (P := P) w dT sT o.type elem g off dLen dCap ad sLen sCap cur.toArray t cs hu hsz hg hn hsrc (by simpa using hfit) h1
    unfold Oper.wp
    simp [execOp, ho, resolve, invoke, builtin, hd, hs, hrun, Result.andThen]
    exact h _ (show _ = _ by simpa [splice] using setRow_heap w g _ _ t _ hg) ⟨rfl, rfl, rfl, by simp [World.setRow], fun k hk => setRow_other w g k _ hk⟩
theorem int_size : (Try.prog.info? 3).map (·.size) = some 1 := by kernel_rfl
end Go.Proofs.Ytlefefcakffepaa.Copy

/- slices.Equal at complex128 (two lists that are the same) and at int. -/
namespace Go.Proofs.Ytlefefcakffepaa.Equal
set_option linter.unusedVariables false
set_option linter.unusedSimpArgs false
open Go.RowKit Go.Proofs.Ytlefefcakffepaa.Lat Go.Proofs.YtlefefcakffepaaW.PrintWords

/-- A row of values, read in memory. -/
def CAt (w : World) (A : Option Addr) (cs : List Value) : Prop := ∀ (j : Nat) (u : Value), cs[j]? = some u → ∃ ad, A = some ad ∧ w.cell? (ad.add j) = some u
theorem CAt.up {w w' : World} {A : Option Addr} {cs : List Value} (h : CAt w A cs) (hu : Up w w') : CAt w' A cs := fun j u hj => by
  obtain ⟨ad, h1, h2⟩ := h j u hj
  exact ⟨ad, h1, pw_cell_below hu h2⟩
/-- A complex number that is itself. -/
def Self (u : Value) : Prop := ∃ x y : Nat, u = .complex .f64 x y ∧ (FloatKind.f64.format.order x x == some .eq) = true ∧ (FloatKind.f64.format.order y y == some .eq) = true
set_option maxHeartbeats 4000000 in
set_option maxRecDepth 100000 in
theorem Equal_c (cs : List Value) (A B : Option Addr) (c d : Nat) (w : World) (hA : CAt w A cs) (hB : CAt w B cs) (hs : ∀ u ∈ cs, Self u) (hl : cs.length ≤ 1000000) :
    Calls Try.prog 82 #[.slice A cs.length c, .slice B cs.length d] w fun e w' => e = .returned (.bool true) ∧ Up w w' := by
  have HA := Lib.hid hA
  have HB := Lib.hid hB
  have HS := Lib.hid hs
  clear hA hB hs
  go_enter Try.func82, Try.ntmps82
  go_wp2_with fail
  go_loopw [13] (fun v13 wx => ∃ i : Nat, i ≤ cs.length ∧ v13 = .int .i64 i ∧ Hid (Up w wx)) (fun v13 _ => cs.length - (intOf v13).toNat)
  case atStart => exact ⟨0, Nat.zero_le _, rfl, Lib.hid (Up.refl _)⟩
  case round =>
    obtain ⟨i, hi, rfl, HU⟩ := hrel
    by_cases hlt : i < cs.length
    · have hg := List.getElem?_eq_getElem hlt
      obtain ⟨x, y, e, hx, hy⟩ := HS.out _ (List.getElem_mem hlt)
      rw [e] at hg
      obtain ⟨ad, rfl, k0⟩ := HA.out.up HU.out i _ hg
      obtain ⟨bd, rfl, k1⟩ := HB.out.up HU.out i _ hg
      clear hg e
      go_upto_region 6 with fail
      go_quiet (fail)
      go_wp2
      go_roundw
      case rel => exact ⟨i + 1, by omega, by go_num, Lib.hid (Up.drewN HU.out _)⟩
      case measure => simp [intOf]; omega
    · obtain rfl : i = cs.length := by omega
      go_wp2
      go_ret
      exact ⟨rfl, HU.out⟩
theorem CAt.of_lat {w : World} {P : Nat → Prop} {A : Option Addr} {n c : Nat} {q : List Int} (h : LAt w P (.slice A n c) q) : CAt w A (q.map (Value.int .i64)) := by
  intro j u hj
  rcases h with ⟨_, rfl⟩ | ⟨ad, c', hv, _, h3⟩
  · simp at hj
  · injection hv with h1 h2 h4
    obtain ⟨z, hz, rfl⟩ := by simpa using hj
    obtain ⟨hl, rfl⟩ := List.getElem?_eq_some_iff.1 hz
    have hc := (h3 j hl).2
    simp [List.getD_eq_getElem?_getD, hl] at hc
    exact ⟨ad, h1, hc⟩
theorem Equal_len (p q : List Int) (A B : Option Addr) (c d : Nat) (w : World) (hne : p.length ≠ q.length) :
    Calls Try.prog 81 #[.slice A p.length c, .slice B q.length d] w fun e w' => e = .returned (.bool false) ∧ Drawn w w' := by
  have h1 : ((p.length : Int) != (q.length : Int)) = true := by
    rw [bne_iff_ne]
    omega
  have h2 : ((p.length : Int) == (q.length : Int)) = false := beq_eq_false_iff_ne.2 (by omega)
  generalize p.length = m at *
  generalize q.length = n at *
  clear hne
  go_enter Try.func81, Try.ntmps81
  go_wp2
  go_ret
  exact ⟨rfl, Drawn.refl _⟩
theorem take_step {p q : List Int} {i : Nat} (h : p.take i = q.take i) (hp : i < p.length) (hq : i < q.length) (e : p.getD i 0 = q.getD i 0) : p.take (i + 1) = q.take (i + 1) := by
  rw [List.take_add_one, List.take_add_one, h, List.getElem?_eq_getElem hp, List.getElem?_eq_getElem hq]
  simp [List.getD_eq_getElem?_getD, hp, hq] at e
  rw [e]
set_option maxHeartbeats 4000000 in
set_option maxRecDepth 100000 in
theorem Equal_i (p q : List Int) (A B : Option Addr) (c d : Nat) (w : World) (hA : CAt w A (p.map (Value.int .i64))) (hB : CAt w B (q.map (Value.int .i64))) (hl : p.length ≤ 1000000) :
    Calls Try.prog 81 #[.slice A p.length c, .slice B q.length d] w fun e w' => e = .returned (.bool (decide (p = q))) ∧ Drawn w w' := by
  by_cases hpq : p.length = q.length
  case neg =>
    rw [decide_eq_false (fun e => hpq (by rw [e]))]
    exact Equal_len p q A B c d w hpq
  rw [← hpq]
  have HA := Lib.hid hA
  have HB := Lib.hid hB
  have HQ := Lib.hid hpq
  clear hA hB hpq
  obtain ⟨r, hr⟩ : ∃ r, decide (p = q) = r := ⟨_, rfl⟩
  rw [hr]
  have HR := Lib.hid hr
  clear hr
  go_enter Try.func81, Try.ntmps81
  go_wp2_with fail
  go_loopw [13] (fun v13 wx => ∃ i : Nat, i ≤ p.length ∧ v13 = .int .i64 i ∧ Hid (p.take i = q.take i) ∧ Hid (Drawn w wx)) (fun v13 _ => p.length - (intOf v13).toNat)
  case atStart => exact ⟨0, Nat.zero_le _, rfl, Lib.hid rfl, Lib.hid (Drawn.refl _)⟩
  case round =>
    obtain ⟨i, hi, rfl, HT, HU⟩ := hrel
    by_cases hlt : i < p.length
    · have hlq : i < q.length := by rw [← HQ.out]; exact hlt
      obtain ⟨ad, rfl, k0⟩ := HA.out.up HU.out.up i (.int .i64 (p.getD i 0)) (by simp [List.getD_eq_getElem?_getD, hlt])
      obtain ⟨bd, rfl, k1⟩ := HB.out.up HU.out.up i (.int .i64 (q.getD i 0)) (by simp [List.getD_eq_getElem?_getD, hlq])
      have HS := Lib.hid (fun e => take_step HT.out hlt hlq e)
      have HNE : Hid (p.getD i 0 ≠ q.getD i 0 → r = false) := Lib.hid (fun hne => by
        rw [← HR.out]
        exact decide_eq_false (fun e => hne (by rw [e])))
      clear hlq
      by_cases e : p.getD i 0 = q.getD i 0
      · have HS2 := Lib.hid (HS.out e)
        rw [← e] at k1
        clear e HS HNE
        generalize p.getD i 0 = x at *
        go_upto_region 6 with fail
        go_quiet (fail)
        go_wp2
        go_roundw
        case rel => exact ⟨i + 1, by omega, by go_num, HS2, Lib.hid (HU.out.step _)⟩
        case measure => simp [intOf]; omega
      · have HN2 := Lib.hid (HNE.out e)
        have e1 : (p.getD i 0 == q.getD i 0) = false := beq_eq_false_iff_ne.2 e
        have e2 : (p.getD i 0 != q.getD i 0) = true := by rw [bne, e1]; rfl
        clear e HS HNE
        generalize p.getD i 0 = x at *
        generalize q.getD i 0 = y at *
        go_upto_region 6 with fail
        go_quiet (fail)
        go_wp2
        go_ret
        exact ⟨by rw [HN2.out]; rfl, HU.out.step _⟩
    · obtain rfl : i = p.length := by omega
      go_wp2
      go_ret
      refine ⟨?_, HU.out⟩
      have h := HT.out
      rw [List.take_length, HQ.out, List.take_length] at h
      rw [← HR.out, decide_eq_true h]
      rfl
end Go.Proofs.Ytlefefcakffepaa.Equal

/- slices.Clone at elements of one cell. -/
namespace Go.Proofs.Ytlefefcakffepaa.Clone
set_option linter.unusedVariables false
set_option linter.unusedSimpArgs false
open Go.RowKit Go.Proofs.Ytlefefcakffepaa.Sep

theorem info_of {P : Program} {t : TypeId} {z : Value} {n b : Nat} (h : (P.info? t).map (fun i => (i.zero, i.size, i.bytes)) = some (some z, n, b)) : ∃ i, P.info? t = some i ∧ i.zero = some z ∧ i.size = n ∧ i.bytes = b := by
  cases hi : P.info? t with
  | none => rw [hi] at h; cases h
  | some i =>
    rw [hi] at h
    simp at h
    exact ⟨i, rfl, h.1, h.2.1, h.2.2⟩
theorem info_int : (Try.prog.info? 3).map (fun i => (i.zero, i.size, i.bytes)) = some (some (.int .i64 0), 1, 8) := by kernel_rfl
set_option maxHeartbeats 1000000 in
set_option maxRecDepth 100000 in
theorem Clone_int (xs : List Value) (ad : Addr) (m c : Nat) (w : World) (hr : Rd w 1 (some ad) m xs) (hm : m ≤ 1000000) :
    Calls Try.prog 74 #[.slice (some ad) m c] w fun e w' => ∃ A' c', e = .returned (.slice A' m c') ∧ w'.ownsRow w.heap.size 3 1 (.slice A' m c') m xs ∧ Up w w' := by
  obtain ⟨i0, hi, hz, hs, hb⟩ := info_of info_int
  have HR := Lib.hid (show ∀ j u, xs[j]? = some u → (w.alloc (.cells #[] 3)).cell? (ad.add j) = some u from fun j u hu => by
    have hl := (List.getElem?_eq_some_iff.1 hu).1
    obtain ⟨ad', e, h2⟩ := hr.2.2 (by have := hr.1; omega)
    cases e
    rw [World.cell?_alloc_lt w _ _ (World.block_lt_of_cell? w _ (h2 j u hu))]
    exact h2 j u hu)
  have HL := Lib.hid hr.1
  have H1 := Lib.hid hr.2.1
  have hown : (w.alloc (.cells #[] 3)).ownsRow w.heap.size 3 1 (.slice (some ⟨w.heap.size, 0, none⟩) 0 0) 0 [] :=
    ⟨rfl, .inr ⟨w.heap.size, 0, #[], rfl, Nat.le_refl _, block_new w _, Nat.le_refl _, Nat.zero_le _, rfl, rfl⟩⟩
  have HO := Lib.hid hown
  clear hr hown
  have hn := fun wx => Lib.run_eql_slice_nil (P := Try.prog) wx 29 3 (some ad) m c 0 0 Try.underlying29
  go_enter Try.func74, Try.ntmps74
  go_wp2_with (at_builtin; refine wpList_append_own _ rfl (.tmp 5) (.tmp 6) 29 rfl w.heap.size 3 i0 (.int .i64 0) 1 8 Try.underlying29 hi hz hs hb rfl (by decide) _ 0 [] rfl HO.out ad m c xs rfl HL.out HR.out H1.out (by unfold maxLen; omega) (by omega) (by simp) ?_; intro v' w1 hown' hgrow _; have HB := Lib.hid (((Up.refl w).alloc (.cells #[] 3)).trans_grown hgrow); rw [Nat.zero_add, List.nil_append] at hown'; have HW := Lib.hid hown'; clear hown' hgrow)
  go_ret
  have ho := HW.out
  rcases ho.2 with ⟨rfl, rfl⟩ | ⟨g, cap, cur, rfl, _⟩
  · exact ⟨_, _, rfl, ho, HB.out⟩
  · exact ⟨_, _, rfl, ho, HB.out⟩
set_option maxRecDepth 100000 in
theorem Clone_int_nil (w : World) : Calls Try.prog 74 #[.slice none 0 0] w fun e w' => e = .returned (.slice none 0 0) ∧ w' = w := by
  have hn := fun wx => Lib.run_eql_slice_nil (P := Try.prog) wx 29 3 none 0 0 0 0 Try.underlying29
  go_enter Try.func74, Try.ntmps74
  go_wp2
  go_ret
  exact ⟨rfl, rfl⟩
theorem info_complex : (Try.prog.info? 104).map (fun i => (i.zero, i.size, i.bytes)) = some (some (.complex .f64 0 0), 1, 16) := by kernel_rfl
set_option maxHeartbeats 1000000 in
set_option maxRecDepth 100000 in
theorem Clone_complex (xs : List Value) (ad : Addr) (m c : Nat) (w : World) (hr : Rd w 1 (some ad) m xs) (hm : m ≤ 1000000) :
    Calls Try.prog 80 #[.slice (some ad) m c] w fun e w' => ∃ A' c', e = .returned (.slice A' m c') ∧ w'.ownsRow w.heap.size 104 1 (.slice A' m c') m xs ∧ Up w w' := by
  obtain ⟨i0, hi, hz, hs, hb⟩ := info_of info_complex
  have HR := Lib.hid (show ∀ j u, xs[j]? = some u → (w.alloc (.cells #[] 104)).cell? (ad.add j) = some u from fun j u hu => by
    have hl := (List.getElem?_eq_some_iff.1 hu).1
    obtain ⟨ad', e, h2⟩ := hr.2.2 (by have := hr.1; omega)
    cases e
    rw [World.cell?_alloc_lt w _ _ (World.block_lt_of_cell? w _ (h2 j u hu))]
    exact h2 j u hu)
  have HL := Lib.hid hr.1
  have H1 := Lib.hid hr.2.1
  have hown : (w.alloc (.cells #[] 104)).ownsRow w.heap.size 104 1 (.slice (some ⟨w.heap.size, 0, none⟩) 0 0) 0 [] :=
    ⟨rfl, .inr ⟨w.heap.size, 0, #[], rfl, Nat.le_refl _, block_new w _, Nat.le_refl _, Nat.zero_le _, rfl, rfl⟩⟩
  have HO := Lib.hid hown
  clear hr hown
  have hn := fun wx => Lib.run_eql_slice_nil (P := Try.prog) wx 56 104 (some ad) m c 0 0 Try.underlying56
  go_enter Try.func80, Try.ntmps80
  go_wp2_with (at_builtin; refine wpList_append_own _ rfl (.tmp 5) (.tmp 6) 56 rfl w.heap.size 104 i0 (.complex .f64 0 0) 1 16 Try.underlying56 hi hz hs hb rfl (by decide) _ 0 [] rfl HO.out ad m c xs rfl HL.out HR.out H1.out (by unfold maxLen; omega) (by omega) (by simp) ?_; intro v' w1 hown' hgrow _; have HB := Lib.hid (((Up.refl w).alloc (.cells #[] 104)).trans_grown hgrow); rw [Nat.zero_add, List.nil_append] at hown'; have HW := Lib.hid hown'; clear hown' hgrow)
  go_ret
  have ho := HW.out
  rcases ho.2 with ⟨rfl, rfl⟩ | ⟨g, cap, cur, rfl, _⟩
  · exact ⟨_, _, rfl, ho, HB.out⟩
  · exact ⟨_, _, rfl, ho, HB.out⟩
set_option maxRecDepth 100000 in
theorem Clone_complex_nil (w : World) : Calls Try.prog 80 #[.slice none 0 0] w fun e w' => e = .returned (.slice none 0 0) ∧ w' = w := by
  have hn := fun wx => Lib.run_eql_slice_nil (P := Try.prog) wx 56 104 none 0 0 0 0 Try.underlying56
  go_enter Try.func80, Try.ntmps80
  go_wp2
  go_ret
  exact ⟨rfl, rfl⟩
end Go.Proofs.Ytlefefcakffepaa.Clone

/- The contract of cell.Of. -/
namespace Go.Proofs.Ytlefefcakffepaa.CellOf
set_option linter.unusedVariables false
set_option linter.unusedSimpArgs false
open Go.RowKit

theorem Word_walk (a : Int) (w : World) : Calls Try.prog 93 #[.int .i64 a] w fun e w' => e = .returned (.int .i64 (wd a)) ∧ w' = w := by
  have H := Lib.hid (wd_and a)
  go_enter Try.func93, Try.ntmps93
  go_wp2
  go_ret
  exact ⟨congrArg (fun x => Ending.returned (.int .i64 x)) H.out, rfl⟩
theorem may_walk (a : Int) (w : World) : Calls Try.prog 90 #[.int .i64 a] w fun e w' => e = .returned (.bool (a == wd a)) ∧ w' = w := by
  go_enter Try.func90, Try.ntmps90
  go_wp2_with (go_at_call 93; refine (Word_walk _ _).mono ?_; rintro e w' ⟨rfl, rfl⟩)
  go_ret
  exact ⟨rfl, rfl⟩
def inW (a : Int) : Bool := a == wd a
theorem inW_iff (a : Int) : inW a = true ↔ 0 ≤ a ∧ a ≤ 65535 := by
  unfold inW wd
  rw [beq_iff_eq]
  omega
/-- A cell, or none. -/
def cellV (a b : Int) : Value := if inW a = true ∧ inW b = true then .tuple #[.complex .f64 (floatOfInt .f64 a) (floatOfInt .f64 b), .bool true] else .tuple #[.complex .f64 0 0, .bool false]
theorem Of_walk (a b : Int) (w : World) : Calls Try.prog 85 #[.int .i64 a, .int .i64 b] w fun e w' => e = .returned (cellV a b) ∧ w' = w := by
  cases ha : (a == wd a) with
  | false =>
    have E := Lib.hid (show cellV a b = .tuple #[.complex .f64 0 0, .bool false] from if_neg (fun h => by have := h.1; unfold inW at this; rw [ha] at this; cases this))
    have Ha := Lib.hid ha
    clear ha
    go_enter Try.func85, Try.ntmps85
    go_wp2_with (go_at_call 90; refine (may_walk _ _).mono ?_; rintro e w' ⟨rfl, rfl⟩; have ha := Ha.out)
    go_ret2
    exact ⟨by rw [E.out]; rfl, rfl⟩
  | true =>
    cases hb : (b == wd b) with
    | false =>
      have E := Lib.hid (show cellV a b = .tuple #[.complex .f64 0 0, .bool false] from if_neg (fun h => by have := h.2; unfold inW at this; rw [hb] at this; cases this))
      have Ha := Lib.hid ha
      have Hb := Lib.hid hb
      clear ha hb
      go_enter Try.func85, Try.ntmps85
      go_wp2_with (go_at_call 90; refine (may_walk _ _).mono ?_; rintro e w' ⟨rfl, rfl⟩; have ha := Ha.out; have hb := Hb.out)
      go_ret2
      exact ⟨by rw [E.out]; rfl, rfl⟩
    | true =>
      have E := Lib.hid (show cellV a b = .tuple #[.complex .f64 (floatOfInt .f64 a) (floatOfInt .f64 b), .bool true] from if_pos ⟨ha, hb⟩)
      have Ha := Lib.hid ha
      have Hb := Lib.hid hb
      clear ha hb
      go_enter Try.func85, Try.ntmps85
      go_wp2_with (go_at_call 90; refine (may_walk _ _).mono ?_; rintro e w' ⟨rfl, rfl⟩; have ha := Ha.out; have hb := Hb.out)
      go_ret2
      exact ⟨by rw [E.out]; rfl, rfl⟩
theorem cellV_in {a b : Int} (ha : 0 ≤ a ∧ a ≤ 65535) (hb : 0 ≤ b ∧ b ≤ 65535) : cellV a b = .tuple #[.complex .f64 (floatOfInt .f64 a) (floatOfInt .f64 b), .bool true] := if_pos ⟨(inW_iff a).2 ha, (inW_iff b).2 hb⟩
end Go.Proofs.Ytlefefcakffepaa.CellOf

/- Floats of the numbers from 0 to 2^51: how two of them compare, and that they come back as numbers. No program in sight. -/
namespace Go.Proofs.Ytlefefcakffepaa.Floats
set_option linter.unusedVariables false
set_option linter.unusedSimpArgs false
open Ieee

abbrev fb (n : Int) : Nat := floatOfInt .f64 n
theorem least : Format.leastPlace double = -1074 := by decide +kernel
theorem inf_ : Format.infRung double = 9218868437227405312 := by decide +kernel
theorem bin_ : Format.binade double = 4503599627370496 := by decide +kernel
theorem sgn_ : Format.signWeight double = 9223372036854775808 := by decide +kernel
/-- A number is a power of two times what its leading digit leaves. -/
theorem pow_bd (n e : Nat) (he : e ≤ 51) (h1 : 2 ^ e ≤ n) (h2 : n < 2 ^ (e + 1)) : 4503599627370496 ≤ n * 2 ^ (52 - e) ∧ n * 2 ^ (52 - e) < 9007199254740992 := by
  have hp : 2 ^ e * 2 ^ (52 - e) = 2 ^ 52 := by rw [← Nat.pow_add, show e + (52 - e) = 52 by omega]
  have hq : 2 ^ (e + 1) * 2 ^ (52 - e) = 2 ^ 53 := by rw [← Nat.pow_add, show e + 1 + (52 - e) = 53 by omega]
  have hpos : 0 < 2 ^ (52 - e) := Nat.two_pow_pos _
  have p1 : 2 ^ 52 = 4503599627370496 := by decide
  have p2 : 2 ^ 53 = 9007199254740992 := by decide
  rw [← p1, ← p2]
  exact ⟨by rw [← hp]; exact Nat.mul_le_mul_right _ h1, by rw [← hq]; exact Nat.mul_lt_mul_of_pos_right h2 hpos⟩
theorem cut_0 (m : Nat) : Toward.even.cut false m 0 = m := by
  unfold Toward.cut
  have e : (1 <<< min 0 (m.log2 + 2)) = 1 := by simp
  rw [e]
  dsimp only
  have e1 : m % 1 = 0 := Nat.mod_one m
  rw [e1]
  simp
theorem word_min (a m : Nat) (h : a * 4503599627370496 + m ≤ 9218868437227405312) : Format.word double false (min (a * 4503599627370496 + m) 9218868437227405312) = a * 4503599627370496 + m := by
  unfold Format.word
  rw [if_neg (by simp)]
  exact Nat.min_eq_left h
theorem nearest_pos (n e : Nat) (he : e ≤ 51) (h1 : 2 ^ e ≤ n) (h2 : n < 2 ^ (e + 1)) : double.nearest false n 0 = (e + 1022) * 4503599627370496 + n * 2 ^ (52 - e) := by
  have hn : n ≠ 0 := by have := Nat.two_pow_pos e; omega
  have hl : n.log2 = e := (Nat.log2_eq_iff hn).2 ⟨h1, h2⟩
  obtain ⟨b1, b2⟩ := pow_bd n e he h1 h2
  unfold Format.nearest
  rw [if_neg hn]
  dsimp only
  rw [hl, least, inf_, bin_]
  have hf : (double.fractionBits : Int) = 52 := rfl
  rw [hf]
  have hmax : max ((0 : Int) + (e : Int) - 52) (-1074) = (e : Int) - 52 := by omega
  rw [hmax]
  have e1 : ((0 : Int) - ((e : Int) - 52)).toNat = 52 - e := by omega
  have e2 : (((e : Int) - 52) - 0).toNat = 0 := by omega
  have e3 : (((e : Int) - 52) - (-1074)).toNat = e + 1022 := by omega
  rw [e1, e2, e3, Nat.shiftLeft_eq, cut_0]
  generalize n * 2 ^ (52 - e) = m at *
  exact word_min _ _ (by omega)
theorem read_pos (m e : Nat) (he : e ≤ 51) (b1 : 4503599627370496 ≤ m) (b2 : m < 9007199254740992) : double.read ((e + 1022) * 4503599627370496 + m) = .number false m ((e : Int) - 52) := by
  unfold Format.read
  dsimp only
  rw [least, inf_, bin_, sgn_]
  have hm : ((e + 1022) * 4503599627370496 + m) % 9223372036854775808 = (e + 1022) * 4503599627370496 + m := Nat.mod_eq_of_lt (by omega)
  have hd : ((e + 1022) * 4503599627370496 + m) / 9223372036854775808 = 0 := Nat.div_eq_of_lt (by omega)
  rw [hm, hd, if_neg (by omega), if_pos (by omega)]
  have e1 : ((e + 1022) * 4503599627370496 + m) % 4503599627370496 = m - 4503599627370496 := by omega
  have e2 : ((e + 1022) * 4503599627370496 + m) / 4503599627370496 = e + 1023 := by omega
  rw [e1, e2]
  have e3 : 4503599627370496 + (m - 4503599627370496) = m := by omega
  have e4 : (-1074 : Int) + ((e + 1023 - 1 : Nat) : Int) = (e : Int) - 52 := by omega
  rw [e3, e4]
  rfl
theorem nearest_0 : double.nearest false 0 0 = 0 := by decide +kernel
theorem read_0 : double.read 0 = .number false 0 (-1074) := by decide +kernel
theorem fb_nat (n : Nat) : fb (n : Int) = double.nearest false n 0 := by
  show FloatKind.encode .f64 (.number (decide ((n : Int) < 0)) (n : Int).natAbs 0) = _
  have : decide ((n : Int) < 0) = false := decide_eq_false (by omega)
  rw [this, Int.natAbs_natCast]
  rfl
/-- What a number's float reads as: the number, shifted. -/
theorem read_fb (n : Nat) (h : n < 2 ^ 51) : (∃ e : Nat, e ≤ 51 ∧ double.read (fb n) = .number false (n * 2 ^ (52 - e)) ((e : Int) - 52) ∧ 0 < n ∧ 4503599627370496 ≤ n * 2 ^ (52 - e) ∧ n * 2 ^ (52 - e) < 9007199254740992) ∨ (n = 0 ∧ double.read (fb n) = .number false 0 (-1074)) := by
  by_cases h0 : n = 0
  · subst h0
    exact .inr ⟨rfl, by rw [fb_nat, nearest_0, read_0]⟩
  · have h1 := Nat.log2_self_le h0
    have h2 := @Nat.lt_log2_self n
    have he : n.log2 ≤ 51 := by
      apply Nat.le_of_not_lt
      intro hlt
      have : 2 ^ 51 ≤ 2 ^ n.log2 := Nat.pow_le_pow_right (by decide) (by omega)
      omega
    obtain ⟨b1, b2⟩ := pow_bd n _ he h1 h2
    exact .inl ⟨n.log2, he, by rw [fb_nat, nearest_pos n _ he h1 h2, read_pos _ _ he b1 b2], by omega, b1, b2⟩
theorem shl_cmp (a b k : Nat) : compare (signed false (a * 2 ^ k) 0) (signed false (b * 2 ^ k) 0) = compare (a : Int) (b : Int) := by
  unfold signed
  simp only [Bool.false_eq_true, if_false, Nat.shiftLeft_zero]
  have hp : 0 < 2 ^ k := Nat.two_pow_pos k
  rcases Nat.lt_trichotomy a b with h | h | h
  · have : a * 2 ^ k < b * 2 ^ k := Nat.mul_lt_mul_of_pos_right h hp
    rw [Int.compare_eq_lt.2 (by omega), Int.compare_eq_lt.2 (by omega)]
  · subst h
    rw [Int.compare_eq_eq.2 rfl, Int.compare_eq_eq.2 rfl]
  · have : b * 2 ^ k < a * 2 ^ k := Nat.mul_lt_mul_of_pos_right h hp
    rw [Int.compare_eq_gt.2 (by omega), Int.compare_eq_gt.2 (by omega)]
theorem signed_up (m k j : Nat) : signed false (m * 2 ^ k) j = signed false (m * 2 ^ (k + j)) 0 := by
  unfold signed
  simp only [Bool.false_eq_true, if_false, Nat.shiftLeft_eq, Nat.pow_zero, Nat.mul_one]
  rw [Nat.pow_add, Nat.mul_assoc]
/-- TWO NUMBERS' FLOATS COMPARE AS THE NUMBERS DO. -/
theorem order_fb (a b : Nat) (ha : a < 2 ^ 51) (hb : b < 2 ^ 51) : FloatKind.f64.format.order (fb a) (fb b) = some (compare (a : Int) (b : Int)) := by
  show (double.read (fb a)).order (double.read (fb b)) = _
  rcases read_fb a ha with ⟨e, he, h1, ha0, _, _⟩ | ⟨rfl, h1⟩ <;> rcases read_fb b hb with ⟨f, hf, h2, hb0, _, _⟩ | ⟨rfl, h2⟩
  · rw [h1, h2]
    show some (compare (signed false (a * 2 ^ (52 - e)) (((e : Int) - 52) - min ((e : Int) - 52) ((f : Int) - 52)).toNat) (signed false (b * 2 ^ (52 - f)) (((f : Int) - 52) - min ((e : Int) - 52) ((f : Int) - 52)).toNat)) = _
    rw [signed_up a (52 - e), signed_up b (52 - f), show 52 - e + (((e : Int) - 52) - min ((e : Int) - 52) ((f : Int) - 52)).toNat = 52 - min e f by omega, show 52 - f + (((f : Int) - 52) - min ((e : Int) - 52) ((f : Int) - 52)).toNat = 52 - min e f by omega, shl_cmp]
  · rw [h1, h2]
    show some (compare (signed false (a * 2 ^ (52 - e)) (((e : Int) - 52) - min ((e : Int) - 52) (-1074)).toNat) (signed false 0 ((-1074 : Int) - min ((e : Int) - 52) (-1074)).toNat)) = _
    have e0 : signed false 0 ((-1074 : Int) - min ((e : Int) - 52) (-1074)).toNat = signed false (0 * 2 ^ (52 - e + (((e : Int) - 52) - min ((e : Int) - 52) (-1074)).toNat)) 0 := by
      simp [signed]
    rw [signed_up, e0, shl_cmp]
  · rw [h1, h2]
    show some (compare (signed false 0 ((-1074 : Int) - min (-1074) ((f : Int) - 52)).toNat) (signed false (b * 2 ^ (52 - f)) (((f : Int) - 52) - min (-1074) ((f : Int) - 52)).toNat)) = _
    have e0 : signed false 0 ((-1074 : Int) - min (-1074) ((f : Int) - 52)).toNat = signed false (0 * 2 ^ (52 - f + (((f : Int) - 52) - min (-1074) ((f : Int) - 52)).toNat)) 0 := by
      simp [signed]
    rw [signed_up, e0, shl_cmp]
  · rw [h1]
    decide +kernel
/-- A number's float, made a number again. -/
theorem back_fb (n : Nat) (h : n < 2 ^ 51) : floatToIntVal .f64 (fb n) .i64 = some (n : Int) := by
  have hI : ((FloatKind.f64.decode (fb n)).toInt .zero) = some (n : Int) := by
    show (double.read (fb n)).toInt .zero = _
    rcases read_fb n h with ⟨e, he, h1, h0, b1, b2⟩ | ⟨rfl, h1⟩
    · rw [h1]
      show some (signed false (Toward.zero.cut false ((n * 2 ^ (52 - e)) <<< ((e : Int) - 52).toNat) (-((e : Int) - 52)).toNat) 0) = _
      have e1 : ((e : Int) - 52).toNat = 0 := by omega
      have e2 : (-((e : Int) - 52)).toNat = 52 - e := by omega
      have hl : (n * 2 ^ (52 - e)).log2 = 52 := (Nat.log2_eq_iff (by omega)).2 ⟨b1, b2⟩
      have hc : Toward.zero.cut false (n * 2 ^ (52 - e)) (52 - e) = n := by
        unfold Toward.cut
        rw [hl]
        have hm : min (52 - e) (52 + 2) = 52 - e := by omega
        rw [hm, Nat.shiftLeft_eq, Nat.one_mul]
        dsimp only
        rw [Nat.mul_div_cancel _ (Nat.two_pow_pos _)]
        rfl
      rw [e1, e2, Nat.shiftLeft_zero, hc]
      unfold signed
      simp
    · rw [h1]
      decide +kernel
  unfold floatToIntVal
  rw [hI]
  have m1 : IntKind.i64.min = -9223372036854775808 := by decide
  have m2 : IntKind.i64.max = 9223372036854775807 := by decide
  have hp : 2 ^ 51 = 2251799813685248 := by decide
  simp only
  rw [if_pos ⟨by omega, by omega⟩]
end Go.Proofs.Ytlefefcakffepaa.Floats

/- Contracts of the package cell (Parts) and of the reference's Of, for numbers from 0 to 65535. -/
namespace Go.Proofs.Ytlefefcakffepaa.CellP
set_option linter.unusedVariables false
set_option linter.unusedSimpArgs false
open Go.RowKit Go.Proofs.Ytlefefcakffepaa.CellOf Go.Proofs.Ytlefefcakffepaa.Floats

theorem run_store_float (P : Program) (w : World) (a : Addr) (k : FloatKind) (b : Nat) (m : Mode) : (store a (.float k b) m).run P w = stored P w a (.float k b) m := run_store P w a _ m rfl
theorem run_store_complex (P : Program) (w : World) (a : Addr) (k : FloatKind) (b c : Nat) (m : Mode) : (store a (.complex k b c) m).run P w = stored P w a (.complex k b c) m := run_store P w a _ m rfl
attribute [local go_sem] run_store_float run_store_complex
theorem p51 : (2 : Nat) ^ 51 = 2251799813685248 := by decide
theorem f0 : floatOfInt .f64 0 = 0 := by decide +kernel
theorem f65535 : floatOfInt .f64 65535 = 4679239875398991872 := by decide +kernel
theorem ge0 (n : Nat) (h : n ≤ 65535) : (FloatKind.f64.format.order (floatOfInt .f64 n) 0 == some .gt || FloatKind.f64.format.order (floatOfInt .f64 n) 0 == some .eq) = true := by
  have h1 := order_fb n 0 (by omega) (by omega)
  rw [show fb ((0 : Nat) : Int) = 0 from f0] at h1
  rw [show floatOfInt .f64 n = fb n from rfl, h1]
  rcases Nat.eq_zero_or_pos n with rfl | hn
  · decide
  · rw [Int.compare_eq_gt.2 (by omega)]; rfl
theorem le65535 (n : Nat) (h : n ≤ 65535) : (FloatKind.f64.format.order (floatOfInt .f64 n) 4679239875398991872 == some .lt || FloatKind.f64.format.order (floatOfInt .f64 n) 4679239875398991872 == some .eq) = true := by
  have h1 := order_fb n 65535 (by omega) (by omega)
  rw [show fb ((65535 : Nat) : Int) = 4679239875398991872 from f65535] at h1
  rw [show floatOfInt .f64 n = fb n from rfl, h1]
  by_cases hn : n = 65535
  · subst hn; decide
  · rw [Int.compare_eq_lt.2 (by omega)]; rfl
theorem eqself (n : Nat) (h : n ≤ 65535) : (FloatKind.f64.format.order (floatOfInt .f64 n) (floatOfInt .f64 n) == some .eq) = true := by
  have h1 := order_fb n n (by omega) (by omega)
  rw [show floatOfInt .f64 n = fb n from rfl, h1, Int.compare_eq_eq.2 rfl]
  rfl
theorem part_walk (n : Nat) (h : n ≤ 65535) (w : World) : Calls Try.prog 92 #[.float .f64 (floatOfInt .f64 n)] w fun e w' => e = .returned (.int .i64 n) ∧ w' = w := by
  have h1 := ge0 n h
  have h2 := le65535 n h
  have h3 := eqself n h
  have hc := fun wx => run_convert_float_int (P := Try.prog) wx 101 3 .f64 .i64 (floatOfInt .f64 n) n (by kernel_rfl) Try.underlying3 (back_fb n (by omega))
  go_enter Try.func92, Try.ntmps92
  go_wp2
  go_ret
  exact ⟨rfl, rfl⟩
theorem Parts_of (x y a b : Nat) (w : World) (hx : Calls Try.prog 92 #[.float .f64 x] w fun e w' => e = .returned (.int .i64 a) ∧ w' = w) (hy : Calls Try.prog 92 #[.float .f64 y] w fun e w' => e = .returned (.int .i64 b) ∧ w' = w) :
    Calls Try.prog 89 #[.complex .f64 x y] w fun e w' => e = .returned (.tuple #[.int .i64 a, .int .i64 b, .bool true]) ∧ w' = w := by
  have HX := Lib.hid hx
  have HY := Lib.hid hy
  clear hx hy
  go_enter Try.func89, Try.ntmps89
  go_wp2_with (go_at_call 92; (first | (with_reducible refine HX.out.mono ?_) | (with_reducible refine HY.out.mono ?_)); rintro e w' ⟨rfl, rfl⟩)
  go_ret3
  exact ⟨rfl, rfl⟩
theorem Parts_walk (a b : Nat) (ha : a ≤ 65535) (hb : b ≤ 65535) (w : World) : Calls Try.prog 89 #[.complex .f64 (floatOfInt .f64 a) (floatOfInt .f64 b)] w fun e w' => e = .returned (.tuple #[.int .i64 a, .int .i64 b, .bool true]) ∧ w' = w :=
  Parts_of _ _ a b w (part_walk a ha w) (part_walk b hb w)
theorem refIs_walk (a : Int) (w : World) : Calls Try.prog 75 #[.int .i64 a] w fun e w' => e = .returned (.bool (inW a)) ∧ w' = w := by
  cases h : inW a with
  | true =>
    have := (inW_iff a).1 h
    go_enter Try.func75, Try.ntmps75
    go_wp2
    go_ret
    exact ⟨rfl, rfl⟩
  | false =>
    have h' : ¬ (0 ≤ a ∧ a ≤ 65535) := fun k => by rw [(inW_iff a).2 k] at h; cases h
    by_cases h0 : 0 ≤ a
    · have hd : decide (a ≤ 65535) = false := decide_eq_false (by omega)
      go_enter Try.func75, Try.ntmps75
      go_wp2
      go_ret
      exact ⟨rfl, rfl⟩
    · go_enter Try.func75, Try.ntmps75
      go_wp2
      go_ret
      exact ⟨rfl, rfl⟩
/-- The document's cell, or none. -/
def refV (a b : Int) : Value := if inW a = true ∧ inW b = true then .tuple #[.agg #[.float .f64 (floatOfInt .f64 a), .float .f64 (floatOfInt .f64 b)], .bool true] else .tuple #[.agg #[.float .f64 0, .float .f64 0], .bool false]
theorem refOf_walk (a b : Int) (w : World) : Calls Try.prog 53 #[.int .i64 a, .int .i64 b] w fun e w' => e = .returned (refV a b) ∧ Up w w' := by
  cases ha : inW a with
  | false =>
    have E := Lib.hid (show refV a b = .tuple #[.agg #[.float .f64 0, .float .f64 0], .bool false] from if_neg (fun h => by have := h.1; rw [ha] at this; cases this))
    have Ha := Lib.hid ha
    clear ha
    go_enter Try.func53, Try.ntmps53
    go_wp2_with (go_at_call 75; refine (refIs_walk _ _).mono ?_; rintro e w' ⟨rfl, rfl⟩; have ha := Ha.out)
    refine bodyPost_ret (v := .tuple #[.agg #[.float .f64 0, .float .f64 0], .bool false]) ?_ rfl ⟨by rw [E.out], (Up.refl _).alloc _⟩
    rw [results_cell_tmp (fn := Try.f53) rfl]
    go_simp
  | true =>
    cases hb : inW b with
    | false =>
      have E := Lib.hid (show refV a b = .tuple #[.agg #[.float .f64 0, .float .f64 0], .bool false] from if_neg (fun h => by have := h.2; rw [hb] at this; cases this))
      have Ha := Lib.hid ha
      have Hb := Lib.hid hb
      clear ha hb
      go_enter Try.func53, Try.ntmps53
      go_wp2_with (go_at_call 75; refine (refIs_walk _ _).mono ?_; rintro e w' ⟨rfl, rfl⟩; have ha := Ha.out; have hb := Hb.out)
      refine bodyPost_ret (v := .tuple #[.agg #[.float .f64 0, .float .f64 0], .bool false]) ?_ rfl ⟨by rw [E.out], (Up.refl _).alloc _⟩
      rw [results_cell_tmp (fn := Try.f53) rfl]
      go_simp
    | true =>
      have E := Lib.hid (show refV a b = .tuple #[.agg #[.float .f64 (floatOfInt .f64 a), .float .f64 (floatOfInt .f64 b)], .bool true] from if_pos ⟨ha, hb⟩)
      have Ha := Lib.hid ha
      have Hb := Lib.hid hb
      clear ha hb
      go_enter Try.func53, Try.ntmps53
      go_wp2_with (go_at_call 75; refine (refIs_walk _ _).mono ?_; rintro e w' ⟨rfl, rfl⟩; have ha := Ha.out; have hb := Hb.out)
      refine bodyPost_ret (v := .tuple #[.agg #[.float .f64 (floatOfInt .f64 a), .float .f64 (floatOfInt .f64 b)], .bool true]) ?_ rfl ⟨by rw [E.out], (Up.refl _).alloc _⟩
      rw [results_cell_tmp (fn := Try.f53) rfl]
      go_simp
end Go.Proofs.Ytlefefcakffepaa.CellP
