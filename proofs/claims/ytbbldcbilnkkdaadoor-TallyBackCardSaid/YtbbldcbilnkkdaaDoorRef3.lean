/-
  Sums of layer 2, more of the document's functions: Finite, float, Put, Merge, Neg. No condition.
-/
import Derived.Test.YtbbldcbilnkkdaaDoorRef2
set_option linter.unusedVariables false
set_option linter.unusedSimpArgs false
namespace Go.Proofs.YtbbldcbilnkkdaaDoor.Ref
open Go.RowKit Num Tly

theorem set_top (N : Int) (n p : Nat) (b : Int) (h0 : 0 ≤ N) (h1 : N < 2 ^ p) (hb : b = 0 ∨ b = 1) : (digs 2 N n).set p b = digs 2 (N + 2 ^ p * b) n := by
  have hp : (0 : Int) < 2 ^ p := Int.pow_pos (by decide)
  apply List.ext_getElem?
  intro i
  rw [List.getElem?_set]
  by_cases hn : i < n
  · by_cases hi : p = i
    · subst hi
      rw [if_pos rfl, if_pos (by simpa [digs] using hn), digs_get _ _ hn]
      congr 1
      unfold dig
      rw [Int.add_mul_ediv_left _ _ (by omega), Int.ediv_eq_zero_of_lt h0 h1]
      omega
    · rw [if_neg hi, digs_get _ _ hn, digs_get _ _ hn]
      congr 1
      rcases Nat.lt_or_ge i p with hl | hl
      · exact (dig_mod two_pos N hl b).symm
      · have h2 : (2 : Int) ^ (p + 1) ≤ 2 ^ i := pow_mono two_pos (by omega)
        rw [Int.pow_succ] at h2
        have h3 : 2 ^ p * b ≤ 2 ^ p ∧ 0 ≤ 2 ^ p * b := by rcases hb with rfl | rfl <;> omega
        rw [dig_eq_zero (n := i) (by decide) h0 (by omega) (Nat.le_refl _), dig_eq_zero (n := i) (by decide) (by omega) (by omega) (Nat.le_refl _)]
  · have e1 : (digs 2 N n)[i]? = none := List.getElem?_eq_none (by simp [digs]; omega)
    have e2 : (digs 2 (N + 2 ^ p * b) n)[i]? = none := List.getElem?_eq_none (by simp [digs]; omega)
    rw [e1, e2]
    by_cases hi : p = i
    · rw [if_pos hi, if_neg (by simp [digs]; omega)]
    · rw [if_neg hi]
theorem float_step (M : Int) (s k : Nat) (hk : s + k < 384) (h0 : 0 ≤ M) :
    (bv (M % 2 ^ k * 2 ^ s)).setIfInBounds (s + k) (.int .i64 (dig 2 M k)) = bv (M % 2 ^ (k + 1) * 2 ^ s) := by
  unfold bv
  obtain ⟨b1, b2⟩ := mod_two_pow M k
  have hs : (0 : Int) < 2 ^ s := Int.pow_pos (by decide)
  rw [iv_set, set_top _ _ _ _ (Int.mul_nonneg b1 (Int.le_of_lt hs)) ?_ (bit_le M k)]
  · congr 2
    rw [mod_succ two_pos, Int.add_mul, Int.pow_add]
    congr 1
    rw [Int.mul_comm (2 ^ s), Int.mul_assoc, Int.mul_assoc, Int.mul_comm (2 ^ s)]
  · rw [Nat.add_comm, Int.pow_add]
    exact Int.mul_lt_mul_of_pos_right b2 hs
def RelFloat (B : Nat) (w : World) (M : Int) (s : Nat) (i : Value) (wr : World) : Prop :=
  ∃ k : Nat, k ≤ 24 ∧ i = .int .i64 k ∧ Row wr B 3 (bv (M % 2 ^ k * 2 ^ s)) ∧ Below B w wr
end Go.Proofs.YtbbldcbilnkkdaaDoor.Ref
