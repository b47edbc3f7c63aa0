/- '==' on arrays of elements of one cell. No program, no condition. -/
import Derived.Test.YtiofdkkjjeljmaaBase
import Derived.Laws.StructEq
namespace Go.Proofs.Ytiofdkkjjeljmaa.ArrEq
set_option linter.unusedVariables false
set_option linter.unusedSimpArgs false
open Go

theorem all_range_eq {α : Type} [BEq α] (z : α) : ∀ (xs ys : List α), xs.length = ys.length → ((List.range xs.length).all fun i => xs.getD i z == ys.getD i z) = (xs == ys)
  | [], [], _ => rfl
  | x :: xs, y :: ys, h => by
    have ih := all_range_eq z xs ys (by simpa using h)
    rw [List.length_cons, List.range_succ_eq_map, List.all_cons, List.all_map]
    simp only [List.getD_cons_zero, Function.comp_def, List.getD_cons_succ, ih]
    simp [List.cons_beq_cons]
  | [], _ :: _, h => by simp at h
  | _ :: _, [], h => by simp at h
theorem run_equalIn_arr {P : Program} (w : World) {α : Type} [BEq α] (z : α) (cell : α → Value) (d : Nat) (t e : TypeId) (n : Nat) (ht : P.underlying t = some (.array n e)) (hsz : ∀ w, (sizeOf e).run P w = .ok 1 w)
    (hpart : ∀ (xs : List α) (i : Nat) (w : World), i < xs.length → (part e (xs.map cell).toArray (i * 1)).run P w = .ok (cell (xs.getD i z)) w)
    (heq : ∀ (a b : α) (w : World), (Op.equalIn (d + 1) e (cell a) (cell b)).run P w = .ok (a == b) w)
    (xs ys : List α) (hx : xs.length = n) (hy : ys.length = n) :
    (Op.equalIn (d + 2) t (.agg (xs.map cell).toArray) (.agg (ys.map cell).toArray)).run P w = .ok (xs == ys) w := by
  rw [← all_range_eq z xs ys (hx.trans hy.symm), hx, List.range_eq_range', Op.equalIn]
  simp only [Sem.run_bind, run_underlying ht, Result.andThen_ok, hsz, Std.Legacy.Range.forIn_eq_forIn_range', Std.Legacy.Range.size, Nat.sub_zero, Nat.add_sub_cancel, Nat.div_one]
  have hl : ∀ i ∈ List.range' 0 n 1, i < n := fun i hi => by simpa using (List.mem_range'_1.1 hi).2
  generalize List.range' 0 n 1 = l at hl ⊢
  induction l with
  | nil => simp
  | cons i l ih =>
    have hi : i < n := hl i (by simp)
    have px := hpart xs i w (by omega)
    have py := hpart ys i w (by omega)
    have pe := heq (xs.getD i z) (ys.getD i z) w
    simp only [List.forIn_cons, Sem.run_bind, px, py, pe, Result.andThen_ok, List.all_cons]
    cases hb : (xs.getD i z == ys.getD i z)
    · simp
    · simp only [Bool.not_true, Bool.false_eq_true, if_false, Sem.run_pure, Result.andThen_ok, Bool.true_and]
      exact ih fun j hj => hl j (by simp [hj])
theorem bools {P : Program} (w : World) (t e : TypeId) (n : Nat) (ht : P.underlying t = some (.array n e)) (he : P.underlying e = some .bool) (hsz : ∀ w, (sizeOf e).run P w = .ok 1 w)
    (xs ys : List Bool) (hx : xs.length = n) (hy : ys.length = n) : (Op.equalIn 10000 t (.agg (xs.map Value.bool).toArray) (.agg (ys.map Value.bool).toArray)).run P w = .ok (xs == ys) w :=
  run_equalIn_arr w false Value.bool 9998 t e n ht hsz (fun xs i w hi => by simp [part, isAgg, run_underlying he, List.getD, List.getElem?_eq_getElem hi]) (fun a b w => run_equalIn_bool' w 9998 e a b he) xs ys hx hy
theorem ints {P : Program} (w : World) (t e : TypeId) (n : Nat) (k : IntKind) (ht : P.underlying t = some (.array n e)) (he : P.underlying e = some (.int k)) (hsz : ∀ w, (sizeOf e).run P w = .ok 1 w)
    (xs ys : List Int) (hx : xs.length = n) (hy : ys.length = n) : (Op.equalIn 10000 t (.agg (xs.map (Value.int k)).toArray) (.agg (ys.map (Value.int k)).toArray)).run P w = .ok (xs == ys) w :=
  run_equalIn_arr w 0 (Value.int k) 9998 t e n ht hsz (fun xs i w hi => by simp [part, isAgg, run_underlying he, List.getD, List.getElem?_eq_getElem hi]) (fun a b w => run_equalIn_int w 9998 e k k a b he) xs ys hx hy
end Go.Proofs.Ytiofdkkjjeljmaa.ArrEq
