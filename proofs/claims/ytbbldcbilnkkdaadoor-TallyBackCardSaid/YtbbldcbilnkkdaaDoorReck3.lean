/-
  Sums of layer 2: Compare of the document. No condition.
-/
import Derived.Test.YtbbldcbilnkkdaaDoorReck2
set_option linter.unusedVariables false
set_option linter.unusedSimpArgs false
namespace Go.Proofs.YtbbldcbilnkkdaaDoor.Reck
open Go.RowKit Num Tly Ref K

theorem div_bit (z : Int) (k : Nat) : z / 2 ^ k = 2 * (z / 2 ^ (k + 1)) + dig 2 z k := by
  have h := Int.mul_ediv_add_emod (z / 2 ^ k) 2
  rw [div_succ two_pos]
  exact h.symm
/-- The number that is left of a sign. -/
theorem top_bit {z : Int} (h0 : -half ≤ z) (h1 : z < half) : z / 2 ^ 256 / 2 ^ 127 = if z < 0 then -1 else 0 := by
  have e : (2 : Int) ^ 256 * 2 ^ 127 = half := by decide
  have hp : (0 : Int) < half := by decide
  rw [Int.ediv_ediv_of_nonneg (by decide), e]
  split
  · rename_i h
    have e2 : z = (z + half) + half * (-1) := by omega
    rw [e2, Int.add_mul_ediv_left _ _ (by omega), Int.ediv_eq_zero_of_lt (by omega) (by omega)]
    rfl
  · exact Int.ediv_eq_zero_of_lt (by omega) h1
def RelC (B g h : Nat) (w : World) (a b : Int) (i : Value) (wr : World) : Prop :=
  ∃ k : Nat, k ≤ 383 ∧ i = .int .i64 ((k : Int) - 1) ∧ Row wr g 3 (bv a) ∧ Row wr h 3 (bv b) ∧ a / 2 ^ k = b / 2 ^ k ∧ Below B w wr
end Go.Proofs.YtbbldcbilnkkdaaDoor.Reck
