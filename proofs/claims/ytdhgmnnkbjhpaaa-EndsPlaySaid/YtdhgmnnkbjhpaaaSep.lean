/- Separate parts of memory: a list of predicates, each over blocks of its own. No program, no condition. -/
import Derived.Test.YtdhgmnnkbjhpaaaBase
import Derived.Laws.AppendOwn
import Derived.Deep.MidRow
namespace Go.Proofs.Ytdhgmnnkbjhpaaa.Sep
set_option linter.unusedVariables false
set_option linter.unusedSimpArgs false
open Go.RowKit

/-! ### 1. Frames -/
/-- Off the blocks in S nothing old has turned. -/
structure Fr (S : Nat → Prop) (w w' : World) : Prop where
  os : w'.os = w.os
  tape : w'.tape = w.tape
  output : w'.output = w.output
  size : w.heap.size ≤ w'.heap.size
  block : ∀ k, k < w.heap.size → ¬ S k → w'.heap[k]? = w.heap[k]?
theorem Fr.refl (S : Nat → Prop) (w : World) : Fr S w w := ⟨rfl, rfl, rfl, Nat.le_refl _, fun _ _ _ => rfl⟩
theorem Fr.trans {S S' : Nat → Prop} {a w w' : World} (h : Fr S a w) (k : Fr S' w w') (hs : ∀ q, S' q → q < a.heap.size → S q) : Fr S a w' :=
  ⟨k.os.trans h.os, k.tape.trans h.tape, k.output.trans h.output, Nat.le_trans h.size k.size,
   fun q hq hb => (k.block q (Nat.lt_of_lt_of_le hq h.size) (fun e => hb (hs q e hq))).trans (h.block q hq hb)⟩
theorem Fr.of_up {S : Nat → Prop} {w w' : World} (h : Up w w') : Fr S w w' := ⟨h.os, h.tape, h.output, h.size, fun k hk _ => h.block k hk⟩
theorem Fr.up {S : Nat → Prop} {w w' : World} (h : Fr S w w') (hs : ∀ k, S k → w.heap.size ≤ k) : Up w w' :=
  ⟨h.os, h.tape, h.output, h.size, fun k hk => h.block k hk (fun e => by have := hs k e; omega)⟩
theorem Fr.mono {S S' : Nat → Prop} {w w' : World} (h : Fr S w w') (hs : ∀ k, S k → k < w.heap.size → S' k) : Fr S' w w' :=
  ⟨h.os, h.tape, h.output, h.size, fun k hk hn => h.block k hk (fun e => hn (hs k e hk))⟩
theorem heap_set_far {w : World} {b i k : Nat} (v : Value) (h : k ≠ b) : (w.setCell ⟨b, i, none⟩ v).heap[k]? = w.heap[k]? := by
  simp only [World.setCell]
  rw [Array.getElem?_modify]
  simp [Ne.symm h]
theorem heap_lt {w : World} {b : Nat} {o : Obj} (h : w.heap[b]? = some o) : b < w.heap.size := (Array.getElem?_eq_some_iff.1 h).1

/-! ### 2. Predicates over blocks -/
structure Rg where
  X : World → (Nat → Prop) → Prop
  move : ∀ {w w' : World} {P : Nat → Prop}, X w P → (∀ k, P k → k < w.heap.size → w'.heap[k]? = w.heap[k]?) → X w' P
  bound : ∀ {w : World} {P : Nat → Prop}, X w P → X w (fun k => P k ∧ k < w.heap.size)
  mono : ∀ {w : World} {P P' : Nat → Prop}, X w P → (∀ k, P k → P' k) → X w P'

def Sep (w : World) : List Rg → (Nat → Prop) → Prop
  | [], _ => True
  | A :: L, P => ∃ Q R : Nat → Prop, (∀ k, Q k → P k) ∧ (∀ k, R k → P k) ∧ (∀ k, Q k → R k → False) ∧ A.X w Q ∧ Sep w L R
theorem Sep.move {w w' : World} : ∀ {L : List Rg} {P : Nat → Prop}, Sep w L P → (∀ k, P k → k < w.heap.size → w'.heap[k]? = w.heap[k]?) → Sep w' L P
  | [], _, _, _ => trivial
  | A :: L, P, ⟨Q, R, hq, hr, hd, hA, hL⟩, hm => ⟨Q, R, hq, hr, hd, A.move hA (fun k hk => hm k (hq k hk)), Sep.move hL (fun k hk => hm k (hr k hk))⟩
theorem Sep.mono {w : World} : ∀ {L : List Rg} {P P' : Nat → Prop}, Sep w L P → (∀ k, P k → P' k) → Sep w L P'
  | [], _, _, _, _ => trivial
  | A :: L, P, P', ⟨Q, R, hq, hr, hd, hA, hL⟩, hm => ⟨Q, R, fun k hk => hm k (hq k hk), fun k hk => hm k (hr k hk), hd, hA, hL⟩
theorem Sep.bound {w : World} : ∀ {L : List Rg} {P : Nat → Prop}, Sep w L P → Sep w L (fun k => P k ∧ k < w.heap.size)
  | [], _, _ => trivial
  | A :: L, P, ⟨Q, R, hq, hr, hd, hA, hL⟩ => ⟨_, _, fun k hk => ⟨hq k hk.1, hk.2⟩, fun k hk => ⟨hr k hk.1, hk.2⟩, fun k a b => hd k a.1 b.1, A.bound hA, Sep.bound hL⟩
theorem Sep.append {w : World} : ∀ {L M : List Rg} {P : Nat → Prop}, Sep w (L ++ M) P ↔ ∃ Q R : Nat → Prop, (∀ k, Q k → P k) ∧ (∀ k, R k → P k) ∧ (∀ k, Q k → R k → False) ∧ Sep w L Q ∧ Sep w M R
  | [], M, P => ⟨fun h => ⟨fun _ => False, P, fun _ h => h.elim, fun _ h => h, fun _ h => h.elim, trivial, h⟩, fun ⟨Q, R, _, hr, _, _, h⟩ => Sep.mono h hr⟩
  | A :: L, M, P => by
    constructor
    · rintro ⟨Q, R, hq, hr, hd, hA, hL⟩
      obtain ⟨Q2, R2, hq2, hr2, hd2, h1, h2⟩ := Sep.append.1 hL
      refine ⟨fun k => Q k ∨ Q2 k, R2, ?_, fun k hk => hr k (hr2 k hk), ?_, ⟨Q, Q2, fun k hk => .inl hk, fun k hk => .inr hk, fun k a b => hd k a (hq2 k b), hA, h1⟩, h2⟩
      · rintro k (h | h)
        · exact hq k h
        · exact hr k (hq2 k h)
      · rintro k (h | h) h'
        · exact hd k h (hr2 k h')
        · exact hd2 k h h'
    · rintro ⟨Q, R, hq, hr, hd, ⟨Q2, R2, hq2, hr2, hd2, hA, h1⟩, h2⟩
      refine ⟨Q2, fun k => R2 k ∨ R k, fun k hk => hq k (hq2 k hk), ?_, ?_, hA, Sep.append.2 ⟨R2, R, fun k hk => .inl hk, fun k hk => .inr hk, fun k a b => hd k (hr2 k a) b, h1, h2⟩⟩
      · rintro k (h | h)
        · exact hq k (hr2 k h)
        · exact hr k h
      · rintro k a (b | b)
        · exact hd2 k a b
        · exact hd k (hq2 k a) b
theorem Sep.perm {w : World} {L M : List Rg} (h : L.Perm M) : ∀ {P : Nat → Prop}, Sep w L P → Sep w M P := by
  induction h with
  | nil => exact fun h => h
  | cons A _ ih => exact fun ⟨Q, R, hq, hr, hd, hA, hL⟩ => ⟨Q, R, hq, hr, hd, hA, ih hL⟩
  | swap A B L =>
    rintro P ⟨Q, R, hq, hr, hd, hA, Q2, R2, hq2, hr2, hd2, hB, hL⟩
    refine ⟨Q2, fun k => Q k ∨ R2 k, fun k hk => hr k (hq2 k hk), ?_, ?_, hB, Q, R2, fun k hk => .inl hk, fun k hk => .inr hk, fun k a b => hd k a (hr2 k b), hA, hL⟩
    · rintro k (h | h)
      · exact hq k h
      · exact hr k (hr2 k h)
    · rintro k a (b | b)
      · exact hd k b (hq2 k a)
      · exact hd2 k a b
  | trans _ _ i1 i2 => exact fun h => i2 (i1 h)

/-! ### 3. The state of a walk -/
/-- Since w0: off P0 nothing old has turned; and L lies, part by part, in P0's blocks and in new ones. -/
def St (P0 : Nat → Prop) (w0 w : World) (L : List Rg) : Prop := Fr P0 w0 w ∧ Sep w L (fun k => (P0 k ∨ w0.heap.size ≤ k) ∧ k < w.heap.size)
def No : Nat → Prop := fun _ => False
section
variable {P0 : Nat → Prop} {w0 w w' : World} {L M F : List Rg} {A B : Rg}
theorem St.start {P : Nat → Prop} (h : Sep w L P) : St P w w L := ⟨Fr.refl _ _, h.bound.mono fun k hk => ⟨.inl hk.1, hk.2⟩⟩
theorem St.nil (w : World) : St No w w [] := ⟨Fr.refl _ _, trivial⟩
theorem St.up (h : St No w0 w L) : Up w0 w := h.1.up fun _ e => e.elim
theorem St.size (h : St P0 w0 w L) : w0.heap.size ≤ w.heap.size := h.1.size
theorem St.perm (h : St P0 w0 w L) (hp : L.Perm M) : St P0 w0 w M := ⟨h.1, h.2.perm hp⟩
theorem St.drop (h : St P0 w0 w (A :: L)) : St P0 w0 w L := by
  obtain ⟨hf, Q, R, hq, hr, hd, hA, hL⟩ := h
  exact ⟨hf, hL.mono hr⟩
theorem St.take (h : St P0 w0 w (L ++ F)) : St P0 w0 w L := by
  obtain ⟨hf, hs⟩ := h
  obtain ⟨Q, R, hq, hr, hd, h1, h2⟩ := Sep.append.1 hs
  exact ⟨hf, h1.mono hq⟩
/-- Nothing old has turned. -/
theorem St.more (h : St P0 w0 w L) (hu : Up w w') : St P0 w0 w' L :=
  ⟨h.1.trans (Fr.of_up (S := No) hu) (fun _ e _ => e.elim), (h.2.move (fun k hk hlt => hu.block k hlt)).mono fun k hk => ⟨hk.1, Nat.lt_of_lt_of_le hk.2 hu.size⟩⟩
theorem St.drawn (h : St P0 w0 w L) (hd : Drawn w w') : St P0 w0 w' L := h.more hd.up
theorem St.drewN (h : St P0 w0 w L) (n : Nat) : St P0 w0 (w.drewN n) L := h.more ((Up.refl w).drewN n)
theorem St.drew (h : St P0 w0 w L) : St P0 w0 w.drew L := h.more ((Up.refl w).drew)
/-- Something new, beside all. -/
theorem St.fresh (h : St P0 w0 w L) (hu : Up w w') (hn : Sep w' M (fun k => w.heap.size ≤ k)) : St P0 w0 w' (M ++ L) := by
  have h' := h.more hu
  refine ⟨h'.1, Sep.append.2 ⟨fun k => w.heap.size ≤ k ∧ k < w'.heap.size, fun k => (P0 k ∨ w0.heap.size ≤ k) ∧ k < w.heap.size, ?_, ?_, ?_, hn.bound, h.2.move (fun k hk hlt => hu.block k hlt)⟩⟩
  · exact fun k hk => ⟨.inr (Nat.le_trans h.1.size hk.1), hk.2⟩
  · exact fun k hk => ⟨hk.1, Nat.lt_of_lt_of_le hk.2 hu.size⟩
  · exact fun k a b => absurd b.2 (Nat.not_lt.2 a.1)
/-- The frame: what a step does to a part of the list. -/
theorem St.then_ {P : Nat → Prop} (hq : ∀ k, P k → (P0 k ∨ w0.heap.size ≤ k) ∧ k < w.heap.size) {R : Nat → Prop} (hr : ∀ k, R k → (P0 k ∨ w0.heap.size ≤ k) ∧ k < w.heap.size) (hd : ∀ k, P k → R k → False)
    (h0 : Fr P0 w0 w) (hF : Sep w F R) (h : St P w w' M) : St P0 w0 w' (M ++ F) := by
  refine ⟨h0.trans h.1 (fun k hk hlt => by rcases (hq k hk).1 with e | e; exact e; omega), Sep.append.2 ⟨_, fun k => R k, ?_, ?_, ?_, h.2, hF.move (fun k hk hlt => h.1.block k hlt (fun e => hd k e hk))⟩⟩
  · rintro k ⟨e | e, h2⟩
    · exact ⟨(hq k e).1, h2⟩
    · exact ⟨.inr (Nat.le_trans h0.size e), h2⟩
  · exact fun k hk => ⟨(hr k hk).1, Nat.lt_of_lt_of_le (hr k hk).2 h.1.size⟩
  · rintro k ⟨e | e, h2⟩ hk
    · exact hd k e hk
    · have := (hr k hk).2
      omega
theorem St.step (h : St P0 w0 w (L ++ F)) : ∃ P : Nat → Prop, Sep w L P ∧ ∀ {w' : World} {M : List Rg}, St P w w' M → St P0 w0 w' (M ++ F) := by
  obtain ⟨hf, hs⟩ := h
  obtain ⟨Q, R, hq, hr, hd, h1, h2⟩ := Sep.append.1 hs
  exact ⟨Q, h1, fun h => St.then_ hq hr hd hf h2 h⟩
/-- What a function does: to what it takes, whatever lies beside. -/
def Trip (p : Program) (f : FuncId) (args : Array Value) (L : List Rg) {ρ : Type} (E : ρ → Ending → Prop) (M : ρ → List Rg) : Prop :=
  ∀ w P, Sep w L P → Calls p f args w fun e w' => ∃ r, E r e ∧ St P w w' (M r)
theorem Trip.on {p : Program} {f : FuncId} {args : Array Value} {ρ : Type} {E : ρ → Ending → Prop} {M : ρ → List Rg} (t : Trip p f args L E M) (h : St P0 w0 w (L ++ F)) :
    Calls p f args w fun e w' => ∃ r, E r e ∧ St P0 w0 w' (M r ++ F) := by
  obtain ⟨P, hP, hs⟩ := h.step
  refine (t w P hP).mono ?_
  rintro e w' ⟨r, he, h2⟩
  exact ⟨r, he, hs h2⟩
/-- The same, where what is taken stands first. -/
theorem Trip.first {p : Program} {f : FuncId} {args : Array Value} {ρ : Type} {E : ρ → Ending → Prop} {M : ρ → List Rg} (t : Trip p f args [A] E M) (h : St P0 w0 w (A :: L)) :
    Calls p f args w fun e w' => ∃ r, E r e ∧ St P0 w0 w' (M r ++ L) := Trip.on (F := L) t h
end

/-! ### 4. Kinds of parts -/
/-- A block that is known whole. -/
def bk (g : Nat) (t : TypeId) (cs : Array Value) : Rg where
  X w P := P g ∧ w.heap[g]? = some (.cells cs t (0, 0))
  move h hm := ⟨h.1, (hm g h.1 (heap_lt h.2)).trans h.2⟩
  bound h := ⟨⟨h.1, heap_lt h.2⟩, h.2⟩
  mono h hP := ⟨hP _ h.1, h.2⟩
def ex {α : Type} (f : α → Rg) : Rg where
  X w P := ∃ x, (f x).X w P
  move h hm := by obtain ⟨x, h⟩ := h; exact ⟨x, (f x).move h hm⟩
  bound h := by obtain ⟨x, h⟩ := h; exact ⟨x, (f x).bound h⟩
  mono h hP := by obtain ⟨x, h⟩ := h; exact ⟨x, (f x).mono h hP⟩
def big (L : List Rg) : Rg where
  X w P := Sep w L P
  move h hm := Sep.move h hm
  bound h := Sep.bound h
  mono h hP := Sep.mono h hP
def pu (p : Prop) : Rg where
  X _ _ := p
  move h _ := h
  bound h := h
  mono h _ := h

/-- A slice of n elements of sz cells each, which reads as xs; it may begin anywhere in its block. -/
def slc (e : TypeId) (sz : Nat) (v : Value) (n : Nat) (xs : List Value) : Rg where
  X w P := (v = .slice none 0 0 ∧ n = 0 ∧ xs = []) ∨ ∃ g o c cur, v = .slice (some ⟨g, o, none⟩) n c ∧ n ≤ c ∧ c ≤ maxLen ∧ xs.length = n * sz ∧ P g ∧ w.heap[g]? = some (.cells cur e (0, 0)) ∧ o + c * sz ≤ cur.size ∧ ∀ j, j < xs.length → cur[o + j]? = xs[j]?
  move h hm := by
    rcases h with h | ⟨g, o, c, cur, h1, h2, h3, h4, h5, h6, h7⟩
    · exact .inl h
    · exact .inr ⟨g, o, c, cur, h1, h2, h3, h4, h5, (hm g h5 (heap_lt h6)).trans h6, h7⟩
  bound h := by
    rcases h with h | ⟨g, o, c, cur, h1, h2, h3, h4, h5, h6, h7⟩
    · exact .inl h
    · exact .inr ⟨g, o, c, cur, h1, h2, h3, h4, ⟨h5, heap_lt h6⟩, h6, h7⟩
  mono h hP := by
    rcases h with h | ⟨g, o, c, cur, h1, h2, h3, h4, h5, h6, h7⟩
    · exact .inl h
    · exact .inr ⟨g, o, c, cur, h1, h2, h3, h4, hP _ h5, h6, h7⟩
section
variable {P0 : Nat → Prop} {w0 w w' : World} {L M F : List Rg} {A B : Rg}
theorem St.imp (h : St P0 w0 w (A :: L)) (hi : ∀ P, A.X w P → B.X w P) : St P0 w0 w (B :: L) := by
  obtain ⟨hf, Q, R, hq, hr, hd, hA, hL⟩ := h
  exact ⟨hf, Q, R, hq, hr, hd, hi Q hA, hL⟩
theorem perm_get : ∀ (L : List Rg) (i : Nat) (d : Rg), i < L.length → L.Perm (L.getD i d :: L.eraseIdx i)
  | [], _, _, h => absurd h (by simp)
  | A :: L, 0, d, _ => by simp
  | A :: L, i + 1, d, h => by
    have h1 := perm_get L i d (by simpa using h)
    simp only [List.getD_cons_succ, List.eraseIdx_cons_succ]
    exact (List.Perm.cons A h1).trans (List.Perm.swap _ _ _)
theorem St.get (h : St P0 w0 w L) (i : Nat) (hi : i < L.length := by simp) : St P0 w0 w (L.getD i (pu True) :: L.eraseIdx i) := h.perm (perm_get L i _ hi)
theorem perm_put : ∀ (L : List Rg) (i : Nat) (A : Rg), i ≤ L.length → (A :: L).Perm (L.insertIdx i A)
  | L, 0, A, _ => by simp
  | [], i + 1, A, h => absurd h (by simp)
  | B :: L, i + 1, A, h => by
    have h1 := perm_put L i A (by simpa using h)
    simp only [List.insertIdx_succ_cons]
    exact (List.Perm.swap _ _ _).trans (List.Perm.cons B h1)
theorem St.put (h : St P0 w0 w (A :: L)) (i : Nat) (hi : i ≤ L.length := by simp) : St P0 w0 w (L.insertIdx i A) := h.perm (perm_put L i A hi)
theorem St.ex_open {α : Type} {f : α → Rg} (h : St P0 w0 w (ex f :: L)) : ∃ x, St P0 w0 w (f x :: L) := by
  obtain ⟨hf, Q, R, hq, hr, hd, ⟨x, hA⟩, hL⟩ := h
  exact ⟨x, hf, Q, R, hq, hr, hd, hA, hL⟩
theorem St.ex_shut {α : Type} {f : α → Rg} (x : α) (h : St P0 w0 w (f x :: L)) : St P0 w0 w (ex f :: L) := h.imp fun P hP => ⟨x, hP⟩
theorem St.big_open (h : St P0 w0 w (big M :: L)) : St P0 w0 w (M ++ L) := by
  obtain ⟨hf, hs⟩ := h
  exact ⟨hf, Sep.append.2 hs⟩
theorem St.big_shut (h : St P0 w0 w (M ++ L)) : St P0 w0 w (big M :: L) := by
  obtain ⟨hf, hs⟩ := h
  exact ⟨hf, Sep.append.1 hs⟩
theorem St.pu_open {p : Prop} (h : St P0 w0 w (pu p :: L)) : p ∧ St P0 w0 w L := by
  obtain ⟨hf, Q, R, hq, hr, hd, hA, hL⟩ := h
  exact ⟨hA, hf, hL.mono hr⟩
theorem St.pu_shut {p : Prop} (hp : p) (h : St P0 w0 w L) : St P0 w0 w (pu p :: L) := by
  obtain ⟨hf, hs⟩ := h
  exact ⟨hf, No, _, fun _ e => e.elim, fun _ h => h, fun _ e => e.elim, hp, hs⟩
theorem St.alloc (h : St P0 w0 w L) (cs : Array Value) (t : TypeId) : St P0 w0 (w.alloc (.cells cs t)) (bk w.heap.size t cs :: L) :=
  h.fresh (M := [bk w.heap.size t cs]) ((Up.refl w).alloc _) ⟨fun k => k = w.heap.size, No, fun k e => by omega, fun _ e => e.elim, fun _ _ e => e.elim, ⟨rfl, block_new w _⟩, trivial⟩
theorem St.allocU (h : St P0 w0 w L) (o : Obj) : St P0 w0 (w.alloc o) L := h.more ((Up.refl w).alloc o)
theorem St.bk_at {g : Nat} {t : TypeId} {cs : Array Value} (h : St P0 w0 w (bk g t cs :: L)) : w.heap[g]? = some (.cells cs t (0, 0)) := by
  obtain ⟨hf, Q, R, hq, hr, hd, hA, hL⟩ := h
  exact hA.2
theorem St.bk_in {g : Nat} {t : TypeId} {cs : Array Value} (h : St P0 w0 w (bk g t cs :: L)) : (P0 g ∨ w0.heap.size ≤ g) ∧ g < w.heap.size := by
  obtain ⟨hf, Q, R, hq, hr, hd, hA, hL⟩ := h
  exact hq g hA.1
theorem St.set {g : Nat} {t : TypeId} {cs : Array Value} (h : St P0 w0 w (bk g t cs :: L)) (i : Nat) (v : Value) : St P0 w0 (w.setCell ⟨g, i, none⟩ v) (bk g t (cs.setIfInBounds i v) :: L) := by
  obtain ⟨P, ⟨Q, R, hq, hr, hd, hA, _⟩, hs⟩ := St.step (L := [bk g t cs]) h
  refine hs (M := [bk g t (cs.setIfInBounds i v)]) ⟨⟨rfl, rfl, rfl, by simp [World.setCell], fun k hk hn => heap_set_far v (fun e => hn (by rw [e]; exact hq g hA.1))⟩, fun k => k = g, No, ?_, fun _ e => e.elim, fun _ _ e => e.elim, ⟨rfl, heap_setCell_same hA.2 v⟩, trivial⟩
  rintro k rfl
  exact ⟨.inl (hq k hA.1), by simpa [World.setCell] using heap_lt hA.2⟩
end
/-- Two predicates over the same blocks (for what is only read). -/
def both (A B : Rg) : Rg where
  X w P := A.X w P ∧ B.X w P
  move h hm := ⟨A.move h.1 hm, B.move h.2 hm⟩
  bound h := ⟨A.bound h.1, B.bound h.2⟩
  mono h hP := ⟨A.mono h.1 hP, B.mono h.2 hP⟩
section
variable {P0 : Nat → Prop} {w0 w w' : World} {L M F : List Rg} {A B C : Rg}
/-- Part i is dropped. -/
theorem St.cut (h : St P0 w0 w L) (i : Nat) (hi : i < L.length := by simp) : St P0 w0 w (L.eraseIdx i) := (h.get i hi).drop
theorem St.join (h : St P0 w0 w (A :: B :: L)) : St P0 w0 w (both A B :: L) := by
  obtain ⟨hf, Q, R, hq, hr, hd, hA, Q2, R2, hq2, hr2, hd2, hB, hL⟩ := h
  refine ⟨hf, fun k => Q k ∨ Q2 k, R2, ?_, fun k hk => hr k (hr2 k hk), ?_, ⟨A.mono hA fun k hk => .inl hk, B.mono hB fun k hk => .inr hk⟩, hL⟩
  · rintro k (e | e)
    · exact hq k e
    · exact hr k (hq2 k e)
  · rintro k (e | e) h2
    · exact hd k e (hr2 k h2)
    · exact hd2 k e h2
theorem St.twice (h : St P0 w0 w (A :: L)) : St P0 w0 w (both A A :: L) := h.imp fun _ hP => ⟨hP, hP⟩
theorem St.left (h : St P0 w0 w (both A B :: L)) : St P0 w0 w (A :: L) := h.imp fun _ hP => hP.1
theorem St.right (h : St P0 w0 w (both A B :: L)) : St P0 w0 w (B :: L) := h.imp fun _ hP => hP.2
end
theorem slc_nil (e : TypeId) (sz : Nat) (w : World) (P : Nat → Prop) : (slc e sz (.slice none 0 0) 0 []).X w P := .inl ⟨rfl, rfl, rfl⟩
/-- A row of the call's own is such a slice. -/
theorem slc_of_own {w : World} {base e sz n : Nat} {v : Value} {xs : List Value} {P : Nat → Prop} (h : w.ownsRow base e sz v n xs) (hP : ∀ k, v.ownBlock = some k → P k) : (slc e sz v n xs).X w P := by
  obtain ⟨h1, h2⟩ := h
  rcases h2 with ⟨rfl, rfl⟩ | ⟨g, cap, cur, rfl, hg, hh, hn, hc, hs, ht⟩
  · exact .inl ⟨rfl, rfl, List.eq_nil_of_length_eq_zero (by simpa using h1)⟩
  · refine .inr ⟨g, 0, cap, cur, rfl, hn, hc, h1, hP g rfl, hh, by omega, fun j hj => ?_⟩
    rw [← ht, List.getElem?_take, if_pos (by rw [h1] at hj; exact hj)]
    simp
end Go.Proofs.Ytdhgmnnkbjhpaaa.Sep
