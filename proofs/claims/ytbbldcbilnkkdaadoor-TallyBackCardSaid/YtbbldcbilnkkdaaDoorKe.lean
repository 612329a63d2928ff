/-
  Small laws of this seat's own: arrays of whole numbers held against each other by '=='. No condition.
-/
import Derived.Test.YtbbldcbilnkkdaaDoorProg
import Derived.WalkKit
import Derived.Laws.StructEq
import Derived.StillTailTactics
import Derived.Test.YtbbldcbilnkkdaaDoorK
set_option linter.unusedVariables false
set_option linter.unusedSimpArgs false
namespace Go.Proofs.YtbbldcbilnkkdaaDoor.K
open Go.RowKit
section
variable {P : Program}
theorem run_quo_pos (w : World) (t : TypeId) (k : IntKind) (x y : Int) (hx : 0 ≤ x) (hy : 1 ≤ y) (hw : k.wrap (x / y) = x / y) : (binOp .quo t (.int k x) (.int k y)).run P w = .ok (.int k (x / y)) w := by
  have : ¬ y = 0 := by omega
  have e : x.tdiv y = x / y := Int.tdiv_eq_ediv_of_nonneg hx
  simp [binOp, Op.intDiv, this, e, hw]
theorem run_rem_pos (w : World) (t : TypeId) (k : IntKind) (x y : Int) (hx : 0 ≤ x) (hy : 1 ≤ y) (hw : k.wrap (x % y) = x % y) : (binOp .rem t (.int k x) (.int k y)).run P w = .ok (.int k (x % y)) w := by
  have : ¬ y = 0 := by omega
  have e : x.tmod y = x % y := Int.tmod_eq_emod_of_nonneg hx
  simp [binOp, Op.intDiv, this, e, hw]
end
/-! ### a region that draws its order, reads, and writes at its end -/
section
variable {P : Program} {o : Oper} {a : Act} {w : World} {next : Act → Prop} {a' : Act} {v : Value}
theorem still_if {ops : Array Oper} {K : Act → Prop} (hw : Region.wanted o (yielded ops a.tmps) = true) (h : o.still P a w K) :
    if Region.wanted o (yielded ops a.tmps) then o.still P a w K else K (a.put o.dst undef) := by rw [if_pos hw]; exact h
theorem still_else {ops : Array Oper} {K : Act → Prop} (hw : Region.wanted o (yielded ops a.tmps) = false) (he : Puts (a.put o.dst undef) a') (h : K a') :
    if Region.wanted o (yielded ops a.tmps) then o.still P a w K else K (a.put o.dst undef) := by rw [if_neg (by simp [hw]), he.out]; exact h
theorem still_val (h : Gives ((execOp a.eval o).run P w) w v) (he : Puts (a.put o.dst v) a') (hn : next a') : o.still P a w next := by
  unfold Oper.still; rw [h.out, Oper.stillUpon_value, he.out]; exact hn
theorem region_tail {id : Nat} {Q : Exit → Act → World → Prop} {l : List Oper} (n : Nat) (hm : P.follows .mixedOrders = true) (hB : Region.lexTailB .any l.toArray n = true)
    (h : wpStill P l.toArray w.drew (fun a' => wpList P l.toArray Q (l.drop n) a' w.drew) (l.take n) a) : (Code.region id l.toArray true).wp P Q a w := wp_region_still_tail n hm hB h
end
section
variable {P : Program}
def eqFrom (d : Nat) (e : TypeId) (xs ys : Array Value) : List Nat → Sem Bool
  | [] => pure true
  | i :: l => do
    let a ← part e xs i
    let b ← part e ys i
    let r ← Op.equalIn d e a b
    if (!r) = true then pure false else eqFrom d e xs ys l
theorem run_part (w : World) {e : TypeId} {k : IntKind} (he : P.underlying e = some (.int k)) {xs : List Int} {i : Nat} (hi : i < xs.length) :
    (part e (xs.map (Value.int k)).toArray i).run P w = .ok (.int k xs[i]) w := by
  unfold part isAgg
  simp [Sem.run_bind, run_underlying he, hi]
theorem run_eqFrom (w : World) (d : Nat) {e : TypeId} {k : IntKind} (he : P.underlying e = some (.int k)) (hin : ∀ a b, (Op.equalIn d e (.int k a) (.int k b)).run P w = .ok (a == b) w) (xs ys : List Int) (n : Nat) (hx : xs.length = n) (hy : ys.length = n) :
    ∀ (m i : Nat), i + m = n → (eqFrom d e (xs.map (Value.int k)).toArray (ys.map (Value.int k)).toArray (List.range' i m)).run P w = .ok (xs.drop i == ys.drop i) w
  | 0, i, h => by
    have e1 : xs.drop i = [] := List.drop_eq_nil_of_le (by omega)
    have e2 : ys.drop i = [] := List.drop_eq_nil_of_le (by omega)
    simp [eqFrom, e1, e2]
  | m + 1, i, h => by
    have h1 : i < xs.length := by omega
    have h2 : i < ys.length := by omega
    have ih := run_eqFrom w d he hin xs ys n hx hy m (i + 1) (by omega)
    rw [List.range'_succ]
    simp only [eqFrom, Sem.run_bind, run_part w he h1, run_part w he h2, Result.andThen_ok, hin]
    rw [List.drop_eq_getElem_cons h1, List.drop_eq_getElem_cons h2]
    cases hc : (xs[i] == ys[i]) with
    | false => simp only [Bool.not_false, if_true, Sem.run_pure, List.cons_beq_cons, hc, Bool.false_and]
    | true =>
      simp only [Bool.not_true, Bool.false_eq_true, if_false]
      rw [ih, List.cons_beq_cons, hc, Bool.true_and]
theorem run_equalIn_ints (w : World) (d : Nat) {t e : TypeId} {n : Nat} {k : IntKind} (ht : P.underlying t = some (.array n e)) (he : P.underlying e = some (.int k)) (hs : (P.info? e).map (·.size) = some 1)
    (hin : ∀ a b, (Op.equalIn d e (.int k a) (.int k b)).run P w = .ok (a == b) w) (xs ys : List Int) (hx : xs.length = n) (hy : ys.length = n) :
    (Op.equalIn (d + 1) t (.agg (xs.map (Value.int k)).toArray) (.agg (ys.map (Value.int k)).toArray)).run P w = .ok (xs == ys) w := by
  have key := run_eqFrom (P := P) w d he hin xs ys n hx hy n 0 (by omega)
  rw [List.drop_zero, List.drop_zero] at key
  rw [← key]
  have hsz : (sizeOf e).run P w = .ok 1 w := by
    unfold sizeOf typeInfo
    cases hq : P.info? e with
    | none => simp [hq] at hs
    | some i =>
      have : i.size = 1 := by simpa [hq] using hs
      simp [Sem.run_bind, run_program, hq, this]
  simp only [Op.equalIn, Sem.run_bind, run_underlying ht, Result.andThen_ok, hsz]
  rw [Std.Legacy.Range.forIn_eq_forIn_range']
  simp only [Std.Legacy.Range.size, Nat.sub_zero, Nat.add_sub_cancel, Nat.div_one, Nat.mul_one]
  generalize (xs.map (Value.int k)).toArray = X
  generalize (ys.map (Value.int k)).toArray = Y
  clear key hx hy ht hin hsz
  generalize 0 = i0
  induction n generalizing i0 w with
  | zero => simp [eqFrom]
  | succ n ih =>
    rw [List.range'_succ]
    simp only [List.forIn_cons, eqFrom, Sem.run_bind]
    generalize (part e X i0).run P w = r1
    cases r1 with
    | halt x w1 => simp [Result.andThen]
    | ok a w1 =>
      simp only [Result.andThen_ok]
      generalize (part e Y i0).run P w1 = r2
      cases r2 with
      | halt x w2 => simp [Result.andThen]
      | ok b w2 =>
        simp only [Result.andThen_ok]
        generalize (Op.equalIn d e a b).run P w2 = r3
        cases r3 with
        | halt x w3 => simp [Result.andThen]
        | ok r w3 =>
          cases r
          · simp only [Result.andThen_ok, Bool.not_false, if_true, Sem.run_pure]
          · simp only [Result.andThen_ok, Bool.not_true, Bool.false_eq_true, if_false, Sem.run_pure]
            exact ih w3 (i0 + 1)
/-- '==' and '!=' of two arrays of whole numbers. -/
theorem eql_ints (w : World) {t e : TypeId} {n : Nat} {k : IntKind} (ht : P.underlying t = some (.array n e)) (he : P.underlying e = some (.int k)) (hs : (P.info? e).map (·.size) = some 1)
    (xs ys : List Int) (hx : xs.length = n) (hy : ys.length = n) :
    (binOp .eql t (.agg (xs.map (Value.int k)).toArray) (.agg (ys.map (Value.int k)).toArray)).run P w = .ok (.bool (xs == ys)) w := by
  rw [run_eql_struct, show (10000 : Nat) = 9999 + 1 from rfl, run_equalIn_ints w 9999 ht he hs (fun a b => by rw [show (9999 : Nat) = 9998 + 1 from rfl]; exact run_equalIn_int w 9998 e k k a b he) xs ys hx hy]
  rfl
theorem neq_ints (w : World) {t e : TypeId} {n : Nat} {k : IntKind} (ht : P.underlying t = some (.array n e)) (he : P.underlying e = some (.int k)) (hs : (P.info? e).map (·.size) = some 1)
    (xs ys : List Int) (hx : xs.length = n) (hy : ys.length = n) :
    (binOp .neq t (.agg (xs.map (Value.int k)).toArray) (.agg (ys.map (Value.int k)).toArray)).run P w = .ok (.bool (!(xs == ys))) w := by
  rw [run_neq_struct, show (10000 : Nat) = 9999 + 1 from rfl, run_equalIn_ints w 9999 ht he hs (fun a b => by rw [show (9999 : Nat) = 9998 + 1 from rfl]; exact run_equalIn_int w 9998 e k k a b he) xs ys hx hy]
  rfl
end
end Go.Proofs.YtbbldcbilnkkdaaDoor.K
