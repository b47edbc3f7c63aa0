/- Maps as parts of memory: a map's entries, rising by key, whatever values stand at them. No condition. -/
import Derived.Test.YtdhgmnnkbjhpaaaSepMore
import Derived.Test.YtdhgmnnkbjhpaaaProg
import Derived.Maps.OwnSet
namespace Go.Proofs.Ytdhgmnnkbjhpaaa.Mp
set_option linter.unusedVariables false
set_option linter.unusedSimpArgs false
open Go.RowKit Go.Proofs.Ytdhgmnnkbjhpaaa.Sep
open Go.Maps (Keyed IsMap Tidy)

/-! ### 1. Plain lists of entries -/
abbrev Ent := Lit × Value
def heldR (v : Value) : Option (DataW Value × List MemPlace) := some (.held v, [])
def dm (M : List Ent) : DataW Value := .map (M.map fun p => (p.1, DataW.held p.2))
def lookM (M : List Ent) (k : Lit) : Option Value := (M.find? fun p => p.1.sameKey k).map (·.2)
def insM (x : Ent) : List Ent → List Ent
  | [] => [x]
  | y :: r => if x.1.before y.1 then x :: y :: r else y :: insM x r
def delM (M : List Ent) (k : Lit) : List Ent := M.filter fun p => !p.1.sameKey k
def putM (M : List Ent) (k : Lit) (v : Value) : List Ent := insM (k, v) (delM M k)

theorem dm_at (M : List Ent) (k : Lit) (z : Value) : (dm M).atKey k (.held z) = .held ((lookM M k).getD z) := by
  unfold dm DataW.atKey lookM
  dsimp only
  induction M with
  | nil => rfl
  | cons p M ih =>
    simp only [List.map_cons, List.find?_cons]
    cases h : p.1.sameKey k
    · exact ih
    · rfl
theorem dm_has (M : List Ent) (k : Lit) : Maps.has (dm M) k = (lookM M k).isSome := by
  show (M.map fun p => (p.1, DataW.held p.2)).any (fun p => p.1.sameKey k) = _
  unfold lookM
  induction M with
  | nil => rfl
  | cons p M ih =>
    simp only [List.map_cons, List.any_cons, List.find?_cons]
    cases h : p.1.sameKey k
    · simpa using ih
    · rfl
theorem dm_size (M : List Ent) : Maps.size (dm M) = M.length := by simp [dm, Maps.size]
theorem dm_del (M : List Ent) (k : Lit) : (dm M).del k = dm (delM M k) := by
  unfold dm delM DataW.del
  simp only [DataW.map.injEq, List.filter_map]
  rfl
theorem dm_ins (x : Ent) : ∀ M : List Ent, DataW.insert (x.1, DataW.held x.2) (M.map fun p => (p.1, DataW.held p.2)) = (insM x M).map fun p => (p.1, DataW.held p.2)
  | [] => rfl
  | y :: r => by
    simp only [List.map_cons, DataW.insert, insM]
    split
    · rfl
    · rw [dm_ins x r]
      rfl
theorem dm_put (M : List Ent) (k : Lit) (v : Value) : (dm M).put k (.held v) = dm (putM M k v) := by
  have h := dm_del M k
  unfold DataW.del dm at h
  simp only [DataW.map.injEq] at h
  show DataW.map (DataW.insert (k, .held v) _) = _
  rw [h]
  exact congrArg DataW.map (dm_ins (k, v) (delM M k))
theorem insM_len (x : Ent) : ∀ M : List Ent, (insM x M).length = M.length + 1
  | [] => rfl
  | y :: r => by
    unfold insM
    split
    · rfl
    · simp [insM_len x r]
theorem putM_len (M : List Ent) (k : Lit) (v : Value) : (putM M k v).length ≤ M.length + 1 := by
  unfold putM
  rw [insM_len]
  have := List.length_filter_le (fun p : Ent => !p.1.sameKey k) M
  unfold delM
  omega

/-! ### 2. The part -/
theorem owns_fit {w : World} {k : TypeId} {b n : Nat} {M : List Ent} (h : w.ownsMap Try.prog k heldR b n (dm M)) : w.ownsMap Try.prog k heldR b M.length (dm M) := by
  obtain ⟨es, clock, hb, F, hs, hD⟩ := h
  refine ⟨es, clock, hb, F, ?_, hD⟩
  have := congrArg Maps.size hD
  rw [dm_size] at this
  simp only [Maps.size, length_sorted, List.length_map, Array.length_toList] at this
  omega
def mp (k : TypeId) (b : Nat) (M : List Ent) : Rg where
  X w P := P b ∧ w.ownsMap Try.prog k heldR b M.length (dm M)
  move h hm := ⟨h.1, by
    have hlt := h.2.lt
    obtain ⟨es, clock, hb, r⟩ := h.2
    exact ⟨es, clock, (hm b h.1 hlt).trans hb, r⟩⟩
  bound h := ⟨⟨h.1, h.2.lt⟩, h.2⟩
  mono h hP := ⟨hP _ h.1, h.2⟩
section
variable {P0 : Nat → Prop} {w0 w w' : World} {F : List Rg} {k t e : TypeId} {b : Nat} {M : List Ent} {kl : Lit} {key z v : Value}
theorem mp_owns (h : St P0 w0 w (mp k b M :: F)) : w.ownsMap Try.prog k heldR b M.length (dm M) := by
  obtain ⟨hf, Q, R, hq, hr, hd, hA, hL⟩ := h
  exact hA.2
theorem mp_new (k : TypeId) (h : St P0 w0 w F) : St P0 w0 (w.alloc (.map #[] 0)) (mp k w.heap.size [] :: F) :=
  h.fresh (M := [mp k w.heap.size []]) ((Up.refl w).alloc _) ⟨fun j => j = w.heap.size, No, fun j e => by omega, fun _ e => e.elim, fun _ _ e => e.elim, ⟨rfl, World.ownsMap_made w _ k heldR⟩, trivial⟩
/-- A look-up, with 'ok' and without. -/
theorem mp_look (h : St P0 w0 w (mp k b M :: F)) (K : Keyed Try.prog k) (ht : Try.prog.underlying t = some (.map k e)) (hz : (zeroValue e).run Try.prog w = .ok z w) (hkey : keyOf Try.prog k key = some kl) :
    (Instr.lookup t (.map (some b)) key true).run Try.prog w = .ok (.tuple #[(lookM M kl).getD z, .bool (lookM M kl).isSome]) w := by
  obtain ⟨v, ps, h1, h2⟩ := (mp_owns h).look_ok K ht hz (zd := .held z) (zp := []) rfl hkey
  rw [dm_at] at h2
  rw [dm_has] at h1
  simp only [heldR, Option.some.injEq, Prod.mk.injEq, DataW.held.injEq] at h2
  rw [h1, h2.1]
theorem mp_get (h : St P0 w0 w (mp k b M :: F)) (K : Keyed Try.prog k) (ht : Try.prog.underlying t = some (.map k e)) (hz : (zeroValue e).run Try.prog w = .ok z w) (hkey : keyOf Try.prog k key = some kl) :
    (Instr.lookup t (.map (some b)) key false).run Try.prog w = .ok ((lookM M kl).getD z) w := by
  obtain ⟨v, ps, h1, h2⟩ := (mp_owns h).lookup K ht hz (zd := .held z) (zp := []) rfl hkey
  rw [dm_at] at h2
  simp only [heldR, Option.some.injEq, Prod.mk.injEq, DataW.held.injEq] at h2
  rw [h1, h2.1]
theorem mp_len (h : St P0 w0 w (mp k b M :: F)) (ht : Try.prog.underlying t = some (.map k e)) (ty : TypeId) : (Builtin.len_ #[t] ty #[.map (some b)]).run Try.prog w = .ok (.int .i64 (M.length : Int)) w := by
  have := (mp_owns h).len ht ty
  rwa [dm_size] at this
/-- What a turn of the map's block alone leaves. -/
theorem mp_turn {M' : List Ent} (h : St P0 w0 w (mp k b M :: F)) (ho : w'.ownsMap Try.prog k heldR b M'.length (dm M')) (ht : w.mapTurned w' b) : St P0 w0 w' (mp k b M' :: F) := by
  obtain ⟨P, ⟨Q, R, hq, hr, hd, hA, _⟩, hs⟩ := St.step (L := [mp k b M]) h
  have hg := ht.grown
  have hlt := hA.2.lt
  refine hs (M := [mp k b M']) ⟨⟨hg.os, hg.tape, hg.output, hg.size, fun j hj hn => hg.block j hj (fun e => hn (by cases e; exact hq b hA.1))⟩, fun j => j = b, No, ?_, fun _ e => e.elim, fun _ _ e => e.elim, ⟨rfl, ho⟩, trivial⟩
  rintro j rfl
  exact ⟨.inl (hq j hA.1), Nat.lt_of_lt_of_le hlt hg.size⟩
theorem mp_store (h : St P0 w0 w (mp k b M :: F)) (K : Keyed Try.prog k) (ht : Try.prog.underlying t = some (.map k e)) (hn : M.length < maxLen) (hkey : keyOf Try.prog k key = some kl) :
    ∃ w', (Instr.mapUpdate t (.map (some b)) key v).run Try.prog w = .ok () w' ∧ St P0 w0 w' (mp k b (putM M kl v) :: F) ∧ w.heap.size ≤ w'.heap.size := by
  obtain ⟨w', h1, h2, h3⟩ := (mp_owns h).store K ht hn hkey (val := v) (d := .held v) (ps := []) rfl
  rw [dm_put] at h2
  exact ⟨w', h1, mp_turn h (owns_fit h2) h3, h3.grown.size⟩
theorem mp_drop (h : St P0 w0 w (mp k b M :: F)) (K : Keyed Try.prog k) (ht : Try.prog.underlying t = some (.map k e)) (hkey : keyOf Try.prog k key = some kl) (ty : TypeId) :
    ∃ w', (Builtin.delete_ #[t, k] ty #[.map (some b), key]).run Try.prog w = .ok (.tuple #[]) w' ∧ St P0 w0 w' (mp k b (delM M kl) :: F) ∧ w.heap.size ≤ w'.heap.size := by
  obtain ⟨w', h1, h2, h3⟩ := (mp_owns h).drop K ht hkey ty
  rw [dm_del] at h2
  exact ⟨w', h1, mp_turn h (owns_fit h2) h3, h3.grown.size⟩
/-! ### 3. At the operation -/
theorem St.mapUpdate {ops : Array Oper} {rest : List Oper} {o : Oper} {a : Act} {Q : Exit → Act → World → Prop} (h : St P0 w0 w (mp k b M :: F)) (hg : o.guard = none) (m x y : Operand) (t : TypeId) (hop : o.op = Op.mapUpdate t m x y)
    (e : TypeId) (K : Keyed Try.prog k) (ht : Try.prog.underlying t = some (.map k e)) (hm : a.eval m = .map (some b)) (hn : M.length < maxLen) (key val : Value) (kl : Lit) (hx : a.eval x = key) (hv : a.eval y = val) (hkey : keyOf Try.prog k key = some kl)
    (hK : ∀ w', St P0 w0 w' (mp k b (putM M kl val) :: F) → w.heap.size ≤ w'.heap.size → wpList Try.prog ops Q rest (a.put o.dst undef) w') : wpList Try.prog ops Q (o :: rest) a w := by
  refine wpList_plain hg fun K' hK' => ?_
  obtain ⟨w', hrun, r1, r2⟩ := mp_store (v := val) h K ht hn hkey
  unfold Oper.wp
  simp [execOp, hop, hm, hx, hv, hrun, Result.andThen]
  exact hK' _ _ (hK w' r1 r2)
theorem St.step_mapUpdate {ops : Array Oper} {o : Oper} {a : Act} {K' : Act → World → Prop} {Q : Exit → Act → World → Prop} {E : Prop} (h : St P0 w0 w (mp k b M :: F)) (hg : o.guard = none) (m x y : Operand) (t : TypeId) (hop : o.op = Op.mapUpdate t m x y)
    (e : TypeId) (K : Keyed Try.prog k) (ht : Try.prog.underlying t = some (.map k e)) (hm : a.eval m = .map (some b)) (hn : M.length < maxLen) (key val : Value) (kl : Lit) (hx : a.eval x = key) (hv : a.eval y = val) (hkey : keyOf Try.prog k key = some kl)
    (hK : ∀ w', St P0 w0 w' (mp k b (putM M kl val) :: F) → w.heap.size ≤ w'.heap.size → K' (a.put o.dst undef) w') : if Region.wanted o (yielded ops a.tmps) = true then Oper.wp Try.prog o a w K' Q else E := by
  have hw : Region.wanted o (yielded ops a.tmps) = true := by simp [Region.wanted, hg]
  rw [if_pos hw]
  obtain ⟨w', hrun, r1, r2⟩ := mp_store (v := val) h K ht hn hkey
  unfold Oper.wp
  simp [execOp, hop, hm, hx, hv, hrun, Result.andThen]
  exact hK w' r1 r2
theorem St.delete {ops : Array Oper} {rest : List Oper} {o : Oper} {a : Act} {Q : Exit → Act → World → Prop} (h : St P0 w0 w (mp k b M :: F)) (hg : o.guard = none) (m x : Operand) (t : TypeId) (hop : o.op = Op.call { callee := Callee.builtin Builtin.delete, args := #[m, x], argTypes := #[t, k] })
    (e : TypeId) (K : Keyed Try.prog k) (ht : Try.prog.underlying t = some (.map k e)) (hm : a.eval m = .map (some b)) (key : Value) (kl : Lit) (hx : a.eval x = key) (hkey : keyOf Try.prog k key = some kl)
    (hK : ∀ w', St P0 w0 w' (mp k b (delM M kl) :: F) → w.heap.size ≤ w'.heap.size → wpList Try.prog ops Q rest (a.put o.dst (.tuple #[])) w') : wpList Try.prog ops Q (o :: rest) a w := by
  refine wpList_plain hg fun K' hK' => ?_
  obtain ⟨w', hrun, r1, r2⟩ := mp_drop h K ht hkey o.type
  unfold Oper.wp
  simp [execOp, hop, resolve, invoke, builtin, hm, hx, hrun, Result.andThen]
  exact hK' _ _ (hK w' r1 r2)
theorem St.step_delete {ops : Array Oper} {o : Oper} {a : Act} {K' : Act → World → Prop} {Q : Exit → Act → World → Prop} {E : Prop} (h : St P0 w0 w (mp k b M :: F)) (hg : o.guard = none) (m x : Operand) (t : TypeId) (hop : o.op = Op.call { callee := Callee.builtin Builtin.delete, args := #[m, x], argTypes := #[t, k] })
    (e : TypeId) (K : Keyed Try.prog k) (ht : Try.prog.underlying t = some (.map k e)) (hm : a.eval m = .map (some b)) (key : Value) (kl : Lit) (hx : a.eval x = key) (hkey : keyOf Try.prog k key = some kl)
    (hK : ∀ w', St P0 w0 w' (mp k b (delM M kl) :: F) → w.heap.size ≤ w'.heap.size → K' (a.put o.dst (.tuple #[])) w') : if Region.wanted o (yielded ops a.tmps) = true then Oper.wp Try.prog o a w K' Q else E := by
  have hw : Region.wanted o (yielded ops a.tmps) = true := by simp [Region.wanted, hg]
  rw [if_pos hw]
  obtain ⟨w', hrun, r1, r2⟩ := mp_drop h K ht hkey o.type
  unfold Oper.wp
  simp [execOp, hop, resolve, invoke, builtin, hm, hx, hrun, Result.andThen]
  exact hK w' r1 r2
end
end Go.Proofs.Ytdhgmnnkbjhpaaa.Mp
