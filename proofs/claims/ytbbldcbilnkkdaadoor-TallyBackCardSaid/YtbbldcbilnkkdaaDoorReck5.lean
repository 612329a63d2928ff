/-
  Sums of layer 2: Times of the document. No condition.
-/
import Derived.Test.YtbbldcbilnkkdaaDoorReck4
set_option linter.unusedVariables false
set_option linter.unusedSimpArgs false
namespace Go.Proofs.YtbbldcbilnkkdaaDoor.Reck
open Go.RowKit Num Tly Ref K

def RelRT (B : Nat) (w : World) (z u : Int) (i : Value) (wr : World) : Prop :=
  ∃ k : Nat, k ≤ 64 ∧ i = .int .i64 ((k : Int) - 1) ∧ Row wr B 48 (wv z) ∧ Row wr (B + 1) 48 (cv [0, 0, 0, 0, 0, 0]) ∧ Row wr (B + 2) 48 (wv (z * (u / 2 ^ k))) ∧ Below B w wr
theorem twice (z u : Int) (m : Nat) : (dig 2 u m = 0 → z * (u / 2 ^ (m + 1)) + z * (u / 2 ^ (m + 1)) = z * (u / 2 ^ m)) ∧ (dig 2 u m = 1 → z * (u / 2 ^ (m + 1)) + z * (u / 2 ^ (m + 1)) + z = z * (u / 2 ^ m)) := by
  have h := div_bit u m
  generalize u / 2 ^ m = x at *
  generalize u / 2 ^ (m + 1) = y at *
  refine ⟨fun hd => ?_, fun hd => ?_⟩
  · rw [h, hd, Int.add_zero, Int.mul_left_comm]; omega
  · rw [h, hd, Int.mul_add, Int.mul_left_comm]; omega
end Go.Proofs.YtbbldcbilnkkdaaDoor.Reck
