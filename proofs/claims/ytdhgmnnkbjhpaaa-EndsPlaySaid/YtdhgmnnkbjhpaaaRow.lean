/- Rows of items: each item has cells of its own and a child. No program, no condition. -/
import Derived.Test.YtdhgmnnkbjhpaaaSepApp
namespace Go.Proofs.Ytdhgmnnkbjhpaaa.Sep
set_option linter.unusedVariables false
set_option linter.unusedSimpArgs false
open Go.RowKit

/-! ### 1. What is only read -/
/-- Parts that are only read need not be apart. -/
def alls (L : List Rg) : Rg where
  X w P := ∀ A ∈ L, A.X w P
  move h hm := fun A hA => A.move (h A hA) hm
  bound h := fun A hA => A.bound (h A hA)
  mono h hP := fun A hA => A.mono (h A hA) hP
section
variable {P0 : Nat → Prop} {w0 w w' : World} {L M F : List Rg} {A B : Rg}
theorem St.ro_sub (h : St P0 w0 w (alls L :: F)) (hs : ∀ A ∈ M, A ∈ L) : St P0 w0 w (alls M :: F) := h.imp fun P hP A hA => hP A (hs A hA)
/-- A part is from now on only read. -/
theorem St.ro_join (h : St P0 w0 w (A :: alls L :: F)) : St P0 w0 w (alls (A :: L) :: F) := by
  have h1 := h.join
  refine h1.imp fun P hP B hB => ?_
  rcases List.mem_cons.1 hB with rfl | hB
  · exact hP.1
  · exact hP.2 B hB
theorem St.ro_start (h : St P0 w0 w F) : St P0 w0 w (alls [] :: F) := by
  obtain ⟨hf, hs⟩ := h
  exact ⟨hf, No, _, fun _ e => e.elim, fun _ h => h, fun _ e => e.elim, fun A hA => by simp at hA, hs⟩
theorem St.ro_one (h : St P0 w0 w (A :: F)) : St P0 w0 w (alls [A] :: F) := h.imp fun P hP B hB => by
  obtain rfl := List.mem_singleton.1 hB
  exact hP
theorem St.ro_get (h : St P0 w0 w (alls L :: F)) (hA : A ∈ L) : St P0 w0 w (A :: F) := h.imp fun P hP => hP A hA
theorem St.ro_fact (h : St P0 w0 w (alls L :: F)) (hA : A ∈ L) : ∃ P, A.X w P := by
  obtain ⟨hf, Q, R, hq, hr, hd, h1, hL⟩ := h
  exact ⟨Q, h1 A hA⟩
/-- Something follows from what is read. -/
theorem St.ro_add (h : St P0 w0 w (alls L :: F)) (hi : ∀ P, (∀ A ∈ L, A.X w P) → B.X w P) : St P0 w0 w (alls (B :: L) :: F) := h.imp fun P hP C hC => by
  rcases List.mem_cons.1 hC with rfl | hC
  · exact hi P hP
  · exact hP C hC
end

/-! ### 2. Values put from a place on -/
def putAt (xs : List Value) (k : Nat) : List Value → List Value
  | [] => xs
  | v :: vs => putAt (xs.set k v) (k + 1) vs
theorem putAt_skip : ∀ (vs p xs : List Value) (k : Nat), putAt (p ++ xs) (p.length + k) vs = p ++ putAt xs k vs
  | [], p, xs, k => rfl
  | v :: vs, p, xs, k => by
    rw [putAt, putAt, List.set_append_right _ _ (by omega), Nat.add_sub_cancel_left, Nat.add_assoc, putAt_skip vs p _ (k + 1)]
theorem putAt_head : ∀ (vs us xs : List Value), us.length = vs.length → putAt (us ++ xs) 0 vs = vs ++ xs
  | [], [], xs, _ => rfl
  | v :: vs, u :: us, xs, h => by
    rw [putAt]
    have e : (u :: us ++ xs).set 0 v = [v] ++ (us ++ xs) := rfl
    rw [e]
    have h2 := putAt_skip vs [v] (us ++ xs) 0
    have e2 : [v].length + 0 = 0 + 1 := rfl
    rw [e2] at h2
    rw [h2, putAt_head vs us xs (by simpa using h)]
    rfl

/-! ### 3. Cells and children -/
section
variable {α β : Type} (cf : α → β → List Value) (pf : α → β → Rg)
def rcs : List α → List β → List Value
  | x :: S, b :: bs => cf x b ++ rcs S bs
  | _, _ => []
def rps : List α → List β → List Rg
  | x :: S, b :: bs => pf x b :: rps S bs
  | _, _ => []
variable {cf pf}
theorem rcs_len {sz : Nat} (hsz : ∀ x b, (cf x b).length = sz) : ∀ (S : List α) (bs : List β), bs.length = S.length → (rcs cf S bs).length = S.length * sz
  | [], [], _ => by simp [rcs]
  | x :: S, b :: bs, h => by
    rw [rcs, List.length_append, hsz, rcs_len hsz S bs (by simpa using h), List.length_cons, Nat.add_mul]
    omega
theorem rps_len : ∀ (S : List α) (bs : List β), bs.length = S.length → (rps pf S bs).length = S.length
  | [], [], _ => rfl
  | x :: S, b :: bs, h => by simp [rps, rps_len S bs (by simpa using h)]
theorem rcs_at {sz : Nat} (hsz : ∀ x b, (cf x b).length = sz) (d : α) (e : β) : ∀ (S : List α) (bs : List β) (i j : Nat), bs.length = S.length → i < S.length → j < sz → (rcs cf S bs)[i * sz + j]? = (cf (S.getD i d) (bs.getD i e))[j]?
  | x :: S, b :: bs, 0, j, _, _, hj => by
    rw [rcs, Nat.zero_mul, Nat.zero_add, List.getElem?_append_left (by rw [hsz]; exact hj)]
    rfl
  | x :: S, b :: bs, i + 1, j, h, hi, hj => by
    rw [rcs, List.getElem?_append_right (by rw [hsz, Nat.add_mul]; omega), hsz, show (i + 1) * sz + j - sz = i * sz + j by rw [Nat.add_mul]; omega, rcs_at hsz d e S bs i j (by simpa using h) (by simpa using hi) hj]
    rfl
theorem rps_at (d : α) (e : β) (D : Rg) : ∀ (S : List α) (bs : List β) (i : Nat), bs.length = S.length → i < S.length → (rps pf S bs).getD i D = pf (S.getD i d) (bs.getD i e)
  | x :: S, b :: bs, 0, _, _ => rfl
  | x :: S, b :: bs, i + 1, h, hi => by
    have := rps_at d e D S bs i (by simpa using h) (by simpa using hi)
    simpa [rps] using this
theorem rps_mem (d : α) (e : β) (S : List α) (bs : List β) (i : Nat) (h : bs.length = S.length) (hi : i < S.length) : pf (S.getD i d) (bs.getD i e) ∈ rps pf S bs := by
  have h1 := rps_at (pf := pf) d e (pu True) S bs i h hi
  rw [← h1, List.getD_eq_getElem?_getD, List.getElem?_eq_getElem (by rw [rps_len S bs h]; exact hi)]
  exact List.getElem_mem _
theorem rcs_put {sz : Nat} (hsz : ∀ x b, (cf x b).length = sz) : ∀ (S : List α) (bs : List β) (i : Nat) (x : α) (b : β), bs.length = S.length → i < S.length → putAt (rcs cf S bs) (i * sz) (cf x b) = rcs cf (S.set i x) (bs.set i b)
  | y :: S, c :: bs, 0, x, b, _, _ => by
    rw [rcs, Nat.zero_mul, putAt_head _ _ _ (by rw [hsz, hsz])]
    rfl
  | y :: S, c :: bs, i + 1, x, b, h, hi => by
    have e2 : (i + 1) * sz = (cf y c).length + i * sz := by rw [hsz, Nat.add_mul]; omega
    rw [rcs, e2, putAt_skip, rcs_put hsz S bs i x b (by simpa using h) (by simpa using hi)]
    rfl
theorem rcs_same : ∀ (S : List α) (bs : List β) (i : Nat) (x : α) (d : α) (e : β), bs.length = S.length → i < S.length → cf x (bs.getD i e) = cf (S.getD i d) (bs.getD i e) → rcs cf (S.set i x) bs = rcs cf S bs
  | y :: S, c :: bs, 0, x, d, e, _, _, h => by
    show cf x c ++ _ = cf y c ++ _
    rw [show cf x c = cf y c from h]
  | y :: S, c :: bs, i + 1, x, d, e, h, hi, hh => by
    show cf y c ++ _ = cf y c ++ _
    rw [rcs_same S bs i x d e (by simpa using h) (by simpa using hi) (by simpa using hh)]
theorem rps_set : ∀ (S : List α) (bs : List β) (i : Nat) (x : α) (b : β), bs.length = S.length → i < S.length → rps pf (S.set i x) (bs.set i b) = (rps pf S bs).set i (pf x b)
  | y :: S, c :: bs, 0, x, b, _, _ => rfl
  | y :: S, c :: bs, i + 1, x, b, h, hi => by simp [rps, rps_set S bs i x b (by simpa using h) (by simpa using hi)]
theorem rps_erase (S : List α) (bs : List β) (i : Nat) (x : α) (b : β) (h : bs.length = S.length) (hi : i < S.length) : (rps pf (S.set i x) (bs.set i b)).eraseIdx i = (rps pf S bs).eraseIdx i := by
  rw [rps_set S bs i x b h hi, List.eraseIdx_set_eq]
theorem rcs_snoc : ∀ (S : List α) (bs : List β) (x : α) (b : β), bs.length = S.length → rcs cf (S ++ [x]) (bs ++ [b]) = rcs cf S bs ++ cf x b
  | [], [], x, b, _ => by simp [rcs]
  | y :: S, c :: bs, x, b, h => by simp [rcs, rcs_snoc S bs x b (by simpa using h)]
theorem rps_snoc : ∀ (S : List α) (bs : List β) (x : α) (b : β), bs.length = S.length → rps pf (S ++ [x]) (bs ++ [b]) = rps pf S bs ++ [pf x b]
  | [], [], x, b, _ => by simp [rps]
  | y :: S, c :: bs, x, b, h => by simp [rps, rps_snoc S bs x b (by simpa using h)]
theorem rcs_drop {sz : Nat} (hsz : ∀ x b, (cf x b).length = sz) : ∀ (S : List α) (bs : List β) (k : Nat), bs.length = S.length → k ≤ S.length → (rcs cf S bs).drop (k * sz) = rcs cf (S.drop k) (bs.drop k)
  | S, bs, 0, _, _ => by simp
  | y :: S, c :: bs, k + 1, h, hk => by
    have e2 : (k + 1) * sz = (cf y c).length + k * sz := by rw [hsz, Nat.add_mul]; omega
    rw [rcs, e2, List.drop_append, List.drop_of_length_le (by omega), Nat.add_sub_cancel_left, rcs_drop hsz S bs k (by simpa using h) (by simpa using hk)]
    rfl
theorem rps_drop : ∀ (S : List α) (bs : List β) (k : Nat), bs.length = S.length → (rps pf S bs).drop k = rps pf (S.drop k) (bs.drop k)
  | S, bs, 0, _ => by simp
  | [], [], k + 1, _ => by simp [rps]
  | y :: S, c :: bs, k + 1, h => by
    simpa [rps] using rps_drop S bs k (by simpa using h)
theorem rcs_append {sz : Nat} (hsz : ∀ x b, (cf x b).length = sz) : ∀ (S T : List α) (bs cs : List β), bs.length = S.length → rcs cf (S ++ T) (bs ++ cs) = rcs cf S bs ++ rcs cf T cs
  | [], T, [], cs, _ => by simp [rcs]
  | y :: S, T, c :: bs, cs, h => by simp [rcs, rcs_append hsz S T bs cs (by simpa using h)]
theorem rcs_one (h1 : ∀ x b, ∀ u ∈ cf x b, u.oneCell' = true) : ∀ (S : List α) (bs : List β), ∀ u ∈ rcs cf S bs, u.oneCell' = true
  | x :: S, b :: bs, u, hu => by
    rw [rcs] at hu
    rcases List.mem_append.1 hu with hu | hu
    · exact h1 x b u hu
    · exact rcs_one h1 S bs u hu
  | [], _, u, hu => by simp [rcs] at hu
  | _ :: _, [], u, hu => by simp [rcs] at hu
end

/-! ### 4. Rows whose children are apart -/
section
variable {α : Type} {β : Type} (e : TypeId) (sz : Nat) (cf : α → β → List Value) (pf : α → β → Rg)
def row (V : Value) (S : List α) : Rg := ex fun bs : List β => big [slc e sz V S.length (rcs cf S bs), big (rps pf S bs), pu (bs.length = S.length)]
variable {e sz cf pf} {P0 : Nat → Prop} {w0 w w' : World} {F : List Rg} {V : Value} {S : List α}
theorem row_any (h : St P0 w0 w (row e sz cf pf V S :: F)) : ∃ bs : List β, bs.length = S.length ∧ St P0 w0 w (slc e sz V S.length (rcs cf S bs) :: big (rps pf S bs) :: F) := by
  obtain ⟨bs, h2⟩ := h.ex_open
  have h3 : St P0 w0 w (pu (bs.length = S.length) :: slc e sz V S.length (rcs cf S bs) :: big (rps pf S bs) :: F) := (h2.big_open).get 2
  exact ⟨bs, h3.pu_open⟩
theorem row_shut {bs : List β} (hm : bs.length = S.length) (h : St P0 w0 w (slc e sz V S.length (rcs cf S bs) :: big (rps pf S bs) :: F)) : St P0 w0 w (row e sz cf pf V S :: F) := by
  have h1 : St P0 w0 w (_ :: _ :: pu (bs.length = S.length) :: F) := (St.pu_shut hm h).put 2
  exact St.ex_shut bs (St.big_shut (M := [_, _, pu _]) h1)
theorem row_nil (h : St P0 w0 w F) : St P0 w0 w (row e sz cf pf (.slice none 0 0) ([] : List α) :: F) := by
  refine row_shut (bs := []) rfl ?_
  have h1 : St P0 w0 w (big (rps pf ([] : List α) ([] : List β)) :: F) := St.big_shut (M := []) h
  exact St.fresh (M := [slc e sz (.slice none 0 0) 0 []]) h1 (Up.refl _) ⟨No, No, fun _ e => e.elim, fun _ e => e.elim, fun _ e => e.elim, slc_nil _ _ _ _, trivial⟩
theorem row_form (h : St P0 w0 w (row e sz cf pf V S :: F)) : ∃ A c, V = .slice A S.length c ∧ S.length ≤ c ∧ c ≤ maxLen := by
  obtain ⟨bs, hm, h1⟩ := row_any h
  obtain ⟨P, ⟨Q, Q2, _, _, _, h2, _⟩, _⟩ := St.step (L := [slc e sz V S.length (rcs cf S bs)]) h1
  exact slc_form h2
theorem row_push {bs : List β} {x : α} {b : β} (hm : bs.length = S.length) (h : St P0 w0 w (slc e sz V (S.length + 1) (rcs cf S bs ++ cf x b) :: big (rps pf S bs) :: pf x b :: F)) : St P0 w0 w (row e sz cf pf V (S ++ [x]) :: F) := by
  have h1 : St P0 w0 w (big (rps pf S bs) :: pf x b :: slc e sz V (S.length + 1) (rcs cf S bs ++ cf x b) :: F) := ((h.get 2).get 2)
  have h2 : St P0 w0 w (rps pf S bs ++ (pf x b :: (slc e sz V (S.length + 1) (rcs cf S bs ++ cf x b) :: F))) := h1.big_open
  have h3 : St P0 w0 w ((rps pf S bs ++ [pf x b]) ++ (slc e sz V (S.length + 1) (rcs cf S bs ++ cf x b) :: F)) := by simpa using h2
  rw [← rps_snoc S bs x b hm] at h3
  have h4 : St P0 w0 w (slc e sz V (S.length + 1) (rcs cf S bs ++ cf x b) :: big (rps pf (S ++ [x]) (bs ++ [b])) :: F) := (St.big_shut h3).get 1
  refine row_shut (bs := bs ++ [b]) (by simpa using hm) ?_
  rw [rcs_snoc S bs x b hm, List.length_append]
  exact h4
/-- The same, child i (at b) being taken out. -/
def rowx [Inhabited β] (e : TypeId) (sz : Nat) (cf : α → β → List Value) (pf : α → β → Rg) (V : Value) (S : List α) (i : Nat) (b : β) : Rg := ex fun bs : List β => big [slc e sz V S.length (rcs cf S bs), big ((rps pf S bs).eraseIdx i), pu (bs.length = S.length ∧ bs.getD i default = b)]
variable [Inhabited α] [Inhabited β]
theorem row_open (h : St P0 w0 w (row e sz cf pf V S :: F)) (hsz : ∀ x b, (cf x b).length = sz) (i : Nat) (hi : i < S.length) :
    ∃ g o c b, V = .slice (some ⟨g, o, none⟩) S.length c ∧ (∀ j, j < sz → ∀ u, (cf (S.getD i default) b)[j]? = some u → w.cell? ⟨g, o + (i * sz + j), none⟩ = some u) ∧ (∀ j, w.frozen? ⟨g, j, none⟩ = false) ∧
      St P0 w0 w (pf (S.getD i default) b :: rowx e sz cf pf V S i b :: F) := by
  obtain ⟨bs, hm, h1⟩ := row_any h
  obtain ⟨P, ⟨Q, Q2, _, _, _, h2, _⟩, _⟩ := St.step (L := [slc e sz V S.length (rcs cf S bs)]) h1
  obtain ⟨A, c, rfl, hc⟩ := slc_form h2
  obtain ⟨g, o, rfl, _, _, _, hcell, hfr⟩ := slc_cells h2 (by omega)
  refine ⟨g, o, c, bs.getD i default, rfl, fun j hj u hu => hcell _ _ (by rw [rcs_at hsz default default S bs i j hm hi hj]; exact hu), hfr, ?_⟩
  have hl := rps_len (pf := pf) S bs hm
  have h3 : St P0 w0 w (big (rps pf S bs) :: slc e sz _ S.length (rcs cf S bs) :: F) := h1.get 1
  have h4 := (h3.big_open).get i (by simp; omega)
  have e1 : (rps pf S bs ++ slc e sz (.slice (some ⟨g, o, none⟩) S.length c) S.length (rcs cf S bs) :: F).getD i (pu True) = (rps pf S bs).getD i (pu True) := by
    simp [List.getD_eq_getElem?_getD, List.getElem?_append_left (show i < (rps pf S bs).length by omega)]
  rw [e1, rps_at default default _ S bs i hm hi, List.eraseIdx_append_of_lt_length (by omega)] at h4
  have h5 := St.big_shut (M := (rps pf S bs).eraseIdx i) (h4.perm (List.perm_middle.symm))
  have h6 : St P0 w0 w (slc e sz _ S.length (rcs cf S bs) :: big ((rps pf S bs).eraseIdx i) :: pf (S.getD i default) (bs.getD i default) :: F) := h5.get 2
  have h7 : St P0 w0 w (_ :: _ :: pu (bs.length = S.length ∧ bs.getD i default = bs.getD i default) :: pf (S.getD i default) (bs.getD i default) :: F) := (St.pu_shut ⟨hm, rfl⟩ h6).put 2
  have h8 : St P0 w0 w (rowx e sz cf pf _ S i (bs.getD i default) :: _ :: F) := St.ex_shut bs (St.big_shut (M := [_, _, pu _]) h7)
  exact h8.get 1
omit [Inhabited α] in
theorem rowx_any {i : Nat} {b : β} (h : St P0 w0 w (rowx e sz cf pf V S i b :: F)) : ∃ bs : List β, (bs.length = S.length ∧ bs.getD i default = b) ∧ St P0 w0 w (slc e sz V S.length (rcs cf S bs) :: big ((rps pf S bs).eraseIdx i) :: F) := by
  obtain ⟨bs, h2⟩ := h.ex_open
  have h3 : St P0 w0 w (pu (bs.length = S.length ∧ bs.getD i default = b) :: slc e sz V S.length (rcs cf S bs) :: big ((rps pf S bs).eraseIdx i) :: F) := (h2.big_open).get 2
  exact ⟨bs, h3.pu_open⟩
/-- The child is put back, its cells being as they were. -/
theorem row_close {i : Nat} {b : β} {x : α} (hi : i < S.length) (hx : cf x b = cf (S.getD i default) b) (h : St P0 w0 w (pf x b :: rowx e sz cf pf V S i b :: F)) : St P0 w0 w (row e sz cf pf V (S.set i x) :: F) := by
  have h1 : St P0 w0 w (rowx e sz cf pf V S i b :: pf x b :: F) := h.get 1
  obtain ⟨bs, ⟨hm, rfl⟩, h2⟩ := rowx_any h1
  have hb : bs.set i (bs.getD i default) = bs := by
    rw [List.getD_eq_getElem?_getD, List.getElem?_eq_getElem (by omega)]
    simp
  have h3 : St P0 w0 w (big ((rps pf S bs).eraseIdx i) :: slc e sz V S.length (rcs cf S bs) :: pf x (bs.getD i default) :: F) := h2.get 1
  have h4 := h3.big_open
  have hl := rps_len (pf := pf) S bs hm
  have hs := rps_set (pf := pf) S bs i x (bs.getD i default) hm hi
  rw [hb] at hs
  have e1 : (rps pf (S.set i x) bs).Perm (pf x (bs.getD i default) :: (rps pf S bs).eraseIdx i) := by
    have := perm_get (rps pf (S.set i x) bs) i (pu True) (by rw [rps_len _ _ (by simpa using hm)]; simpa using hi)
    have e2 : (rps pf (S.set i x) bs).getD i (pu True) = pf x (bs.getD i default) := by
      rw [hs, List.getD_eq_getElem?_getD, List.getElem?_set_self (by omega)]
      rfl
    rw [e2] at this
    rw [hs] at this ⊢
    rw [List.eraseIdx_set_eq] at this
    exact this
  have h5 : St P0 w0 w (rps pf (S.set i x) bs ++ (slc e sz V S.length (rcs cf S bs) :: F)) := by
    refine h4.perm ?_
    refine List.Perm.trans ?_ (List.Perm.append_right _ e1.symm)
    have a1 : ((rps pf S bs).eraseIdx i ++ slc e sz V S.length (rcs cf S bs) :: pf x (bs.getD i default) :: F).Perm ((rps pf S bs).eraseIdx i ++ pf x (bs.getD i default) :: slc e sz V S.length (rcs cf S bs) :: F) := List.Perm.append_left _ (List.Perm.swap _ _ _)
    exact a1.trans List.perm_middle
  have h6 : St P0 w0 w (slc e sz V S.length (rcs cf S bs) :: big (rps pf (S.set i x) bs) :: F) := (St.big_shut h5).get 1
  refine row_shut (bs := bs) (by simpa using hm) ?_
  rw [List.length_set, rcs_same S bs i x default default hm hi hx]
  exact h6
end

/-! ### 5. Rows that are only read -/
section
variable {α : Type} {β : Type} (e : TypeId) (sz : Nat) (cf : α → β → List Value) (pf : α → β → Rg)
def rrow (V : Value) (S : List α) : Rg := ex fun bs : List β => alls [slc e sz V S.length (rcs cf S bs), alls (rps pf S bs), pu (bs.length = S.length)]
variable {e sz cf pf} {P0 : Nat → Prop} {w0 w w' : World} {F L : List Rg} {V : Value} {S : List α}
theorem rrow_mk {bs : List β} {w : World} {P : Nat → Prop} (hm : bs.length = S.length) (h1 : (slc e sz V S.length (rcs cf S bs)).X w P) (h2 : (alls (rps pf S bs)).X w P) : (rrow e sz cf pf V S).X w P := by
  refine ⟨bs, fun B hB => ?_⟩
  rcases List.mem_cons.1 hB with rfl | hB
  · exact h1
  · rcases List.mem_cons.1 hB with rfl | hB
    · exact h2
    · obtain rfl := List.mem_singleton.1 hB
      exact hm
theorem rrow_any {w : World} {P : Nat → Prop} (h : (rrow e sz cf pf V S).X w P) : ∃ bs : List β, bs.length = S.length ∧ (slc e sz V S.length (rcs cf S bs)).X w P ∧ (alls (rps pf S bs)).X w P := by
  obtain ⟨bs, h2⟩ := h
  exact ⟨bs, h2 _ (.tail _ (.tail _ (.head _))), h2 _ (.head _), h2 _ (.tail _ (.head _))⟩
theorem rrow_nil (w : World) (P : Nat → Prop) : (rrow e sz cf pf (.slice none 0 0) ([] : List α)).X w P :=
  rrow_mk (bs := []) rfl (slc_nil _ _ _ _) (fun A hA => by simp [rps] at hA)
theorem rrow_form (h : St P0 w0 w (alls L :: F)) (hV : rrow e sz cf pf V S ∈ L) : ∃ A c, V = .slice A S.length c ∧ S.length ≤ c ∧ c ≤ maxLen := by
  obtain ⟨P, h1⟩ := h.ro_fact hV
  obtain ⟨bs, hm, h2, h3⟩ := rrow_any h1
  exact slc_form h2
/-- It can be read whole. -/
theorem rrow_rd (h : St P0 w0 w (alls L :: F)) (hV : rrow e sz cf pf V S ∈ L) (h1 : ∀ x b, ∀ u ∈ cf x b, u.oneCell' = true) : ∃ A c, ∃ bs : List β, V = .slice A S.length c ∧ bs.length = S.length ∧ Rd w sz A S.length (rcs cf S bs) ∧ S.length ≤ c ∧ c ≤ maxLen ∧ St P0 w0 w (alls (alls (rps pf S bs) :: slc e sz V S.length (rcs cf S bs) :: L) :: F) := by
  obtain ⟨hf, Q, R, hq, hr, hd, h3, hL⟩ := h
  obtain ⟨bs, hm, h4, h5⟩ := rrow_any (h3 _ hV)
  obtain ⟨A, c, rfl, hc⟩ := slc_form h4
  refine ⟨A, c, bs, rfl, hm, slc_rd h4 (rcs_one h1 S bs), hc.1, hc.2, hf, Q, R, hq, hr, hd, ?_, hL⟩
  intro B hB
  rcases List.mem_cons.1 hB with rfl | hB
  · exact h5
  · rcases List.mem_cons.1 hB with rfl | hB
    · exact h4
    · exact h3 B hB
theorem rps_all_set : ∀ (S : List α) (bs : List β) (i : Nat) (x : α) (b : β) (B : Rg), bs.length = S.length → i < S.length → B ∈ rps pf (S.set i x) (bs.set i b) → B = pf x b ∨ B ∈ rps pf S bs
  | y :: S, c :: bs, 0, x, b, B, _, _, h => by
    rcases List.mem_cons.1 h with h | h
    · exact .inl h
    · exact .inr (.tail _ h)
  | y :: S, c :: bs, i + 1, x, b, B, hl, hi, h => by
    rcases List.mem_cons.1 h with h | h
    · exact .inr (by rw [h]; exact .head _)
    · rcases rps_all_set S bs i x b B (by simpa using hl) (by simpa using hi) h with h | h
      · exact .inl h
      · exact .inr (.tail _ h)
/-- The copy, one item of which was put anew: it is read from now on. -/
theorem rrow_put {bs : List β} {V' : Value} {i : Nat} {x : α} {b : β} (hm : bs.length = S.length) (hi : i < S.length) (hsz : ∀ x b, (cf x b).length = sz) (hb : alls (rps pf S bs) ∈ L) (hx : pf x b ∈ L)
    (h : St P0 w0 w (slc e sz V' S.length (putAt (rcs cf S bs) (i * sz) (cf x b)) :: alls L :: F)) : St P0 w0 w (alls (rrow e sz cf pf V' (S.set i x) :: L) :: F) := by
  have h1 := h.ro_join
  refine h1.imp fun P hP B hB => ?_
  rcases List.mem_cons.1 hB with rfl | hB
  · refine rrow_mk (bs := bs.set i b) (by simpa using hm) ?_ ?_
    · have h9 := hP _ (.head _)
      rw [rcs_put hsz S bs i x b hm hi] at h9
      rw [List.length_set]
      exact h9
    · intro B2 hB2
      rcases rps_all_set S bs i x b B2 hm hi hB2 with rfl | h9
      · exact hP _ (.tail _ hx)
      · exact hP _ (.tail _ hb) B2 h9
  · exact hP B (.tail _ hB)
theorem rrow_push {bs : List β} {V' : Value} {x : α} {b : β} (hm : bs.length = S.length) (hb : alls (rps pf S bs) ∈ L) (hx : pf x b ∈ L)
    (h : St P0 w0 w (slc e sz V' (S.length + 1) (rcs cf S bs ++ cf x b) :: alls L :: F)) : St P0 w0 w (alls (rrow e sz cf pf V' (S ++ [x]) :: L) :: F) := by
  have h1 := h.ro_join
  refine h1.imp fun P hP B hB => ?_
  rcases List.mem_cons.1 hB with rfl | hB
  · refine rrow_mk (bs := bs ++ [b]) (by simpa using hm) ?_ ?_
    · have h9 := hP _ (.head _)
      rw [← rcs_snoc S bs x b hm] at h9
      rw [List.length_append]
      exact h9
    · intro B2 hB2
      rw [rps_snoc S bs x b hm] at hB2
      rcases List.mem_append.1 hB2 with h9 | h9
      · exact hP _ (.tail _ hb) B2 h9
      · obtain rfl := List.mem_singleton.1 h9
        exact hP _ (.tail _ hx)
  · exact hP B (.tail _ hB)
variable [Inhabited α] [Inhabited β]
/-- An item's cells, and its child. -/
theorem rrow_at (h : St P0 w0 w (alls L :: F)) (hV : rrow e sz cf pf V S ∈ L) (hsz : ∀ x b, (cf x b).length = sz) (i : Nat) (hi : i < S.length) :
    ∃ g o c b, V = .slice (some ⟨g, o, none⟩) S.length c ∧ (∀ j, j < sz → ∀ u, (cf (S.getD i default) b)[j]? = some u → w.cell? ⟨g, o + (i * sz + j), none⟩ = some u) ∧ St P0 w0 w (alls (pf (S.getD i default) b :: L) :: F) := by
  have h0 := h
  obtain ⟨hf, Q, R, hq, hr, hd, h1, hL⟩ := h
  obtain ⟨bs, hm, h2, h3⟩ := rrow_any (h1 _ hV)
  obtain ⟨A, c, rfl, hc⟩ := slc_form h2
  obtain ⟨g, o, rfl, _, _, _, hcell, hfr⟩ := slc_cells h2 (by omega)
  refine ⟨g, o, c, bs.getD i default, rfl, fun j hj u hu => hcell _ _ (by rw [rcs_at hsz default default S bs i j hm hi hj]; exact hu), hf, Q, R, hq, hr, hd, ?_, hL⟩
  intro B hB
  rcases List.mem_cons.1 hB with rfl | hB
  · exact h3 _ (rps_mem default default S bs i hm hi)
  · exact h1 B hB
end
end Go.Proofs.Ytdhgmnnkbjhpaaa.Sep
