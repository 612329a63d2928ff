/-
  Division of two words by one, in two steps of half a word each. Plain Lean; no condition.
-/
import Derived.Test.YtbbldcbilnkkdaaDoorLen
set_option linter.unusedVariables false
set_option linter.unusedSimpArgs false
namespace Go.Proofs.YtbbldcbilnkkdaaDoor.Num

/-- An estimate that is too great, and one that is not. -/
theorem est_more {a d y1 y0 v q r : Int} (hv : v = y1 * 4294967296 + y0) (hv0 : 0 < v) (hq : q * y1 + r = a) (h : 4294967296 * r + d < q * y0) : (a * 4294967296 + d) / v < q := by
  refine Int.ediv_lt_of_lt_mul hv0 ?_
  have e : q * v = q * y1 * 4294967296 + q * y0 := by rw [hv, Int.mul_add, Int.mul_assoc]
  rw [e]
  generalize q * y1 = A at *
  generalize q * y0 = B at *
  omega
theorem est_fits {a d y1 y0 v q r : Int} (hv : v = y1 * 4294967296 + y0) (hv0 : 0 < v) (hq : q * y1 + r = a) (h : q * y0 ≤ 4294967296 * r + d) : q ≤ (a * 4294967296 + d) / v := by
  refine Int.le_ediv_of_mul_le hv0 ?_
  have e : q * v = q * y1 * 4294967296 + q * y0 := by rw [hv, Int.mul_add, Int.mul_assoc]
  rw [e]
  generalize q * y1 = A at *
  generalize q * y0 = B at *
  omega
/-- Of a loop's round: where it stands. -/
structure Est (a d y1 v q r : Int) : Prop where
  sum : q * y1 + r = a
  least : (a * 4294967296 + d) / v ≤ q
  top : q ≤ 4294967297
  nonneg : 0 ≤ q
  rlo : 0 ≤ r
  rhi : r < 4294967296
theorem est_start {a d y1 y0 v : Int} (hv : v = y1 * 4294967296 + y0) (h1 : 2147483648 ≤ y1) (h1' : y1 < 4294967296) (h0 : 0 ≤ y0) (h0' : y0 < 4294967296) (ha0 : 0 ≤ a) (ha : a < v) (hd0 : 0 ≤ d) (hd : d < 4294967296) :
    Est a d y1 v (a / y1) (a % y1) := by
  have hm := Int.mul_ediv_add_emod a y1
  have r0 := Int.emod_nonneg a (b := y1) (by omega)
  have r1 := Int.emod_lt_of_pos a (show 0 < y1 by omega)
  have q0 : 0 ≤ a / y1 := Int.ediv_nonneg ha0 (by omega)
  refine ⟨by rw [Int.mul_comm]; exact hm, ?_, ?_, q0, r0, by omega⟩
  · have : (a * 4294967296 + d) / v < a / y1 + 1 := by
      refine Int.ediv_lt_of_lt_mul (by omega) ?_
      have e : (a / y1 + 1) * v = (a / y1 + 1) * y1 * 4294967296 + (a / y1 + 1) * y0 := by rw [hv, Int.mul_add, Int.mul_assoc]
      have e2 : (a / y1 + 1) * y1 = y1 * (a / y1) + y1 := by rw [Int.add_mul, Int.one_mul, Int.mul_comm]
      have p0 := Int.mul_nonneg (show 0 ≤ a / y1 + 1 by omega) h0
      rw [e, e2]
      generalize (a / y1 + 1) * y0 = B at *
      generalize y1 * (a / y1) = A at *
      omega
    omega
  · have : a / y1 < 4294967298 := by
      refine Int.ediv_lt_of_lt_mul (by omega) ?_
      omega
    omega
theorem est_next {a d y1 y0 v q r : Int} (hv : v = y1 * 4294967296 + y0) (h1 : 2147483648 ≤ y1) (h0 : 0 ≤ y0) (h0' : y0 < 4294967296) (ha0 : 0 ≤ a) (ha : a < v) (hd0 : 0 ≤ d) (hd : d < 4294967296) (E : Est a d y1 v q r)
    (hc : 4294967296 ≤ q ∨ 4294967296 * r + d < q * y0) : (q - 1) * y1 + (r + y1) = a ∧ (a * 4294967296 + d) / v ≤ q - 1 ∧ q - 1 ≤ 4294967296 ∧ 0 ≤ q - 1 := by
  have hqq : (a * 4294967296 + d) / v < 4294967296 := by
    refine Int.ediv_lt_of_lt_mul (by omega) ?_
    omega
  have hnn : 0 ≤ (a * 4294967296 + d) / v := Int.ediv_nonneg (by omega) (by omega)
  have key : (a * 4294967296 + d) / v < q := by
    rcases hc with hc | hc
    · omega
    · exact est_more hv (by omega) E.sum hc
  refine ⟨?_, by omega, by have := E.top; omega, by omega⟩
  have := E.sum
  rw [Int.sub_mul, Int.one_mul]
  omega
/-- The loop ends with what is left too great for another round: the estimate is right. -/
theorem est_far {a d y1 y0 v q r : Int} (hv : v = y1 * 4294967296 + y0) (hv0 : 0 < v) (h0 : 0 ≤ y0) (h0' : y0 < 4294967296) (hd0 : 0 ≤ d) (hs : q * y1 + r = a) (hl : (a * 4294967296 + d) / v ≤ q) (ht : q ≤ 4294967296) (hq0 : 0 ≤ q)
    (hr : 4294967296 ≤ r) : q = (a * 4294967296 + d) / v := by
  have h2 : q * y0 ≤ 4294967296 * y0 := Int.mul_le_mul_of_nonneg_right ht h0
  have := est_fits (d := d) hv hv0 hs (by omega)
  omega
theorem est_right {a d y1 y0 v q r : Int} (hv : v = y1 * 4294967296 + y0) (hv0 : 0 < v) (E : Est a d y1 v q r) (h : q * y0 ≤ 4294967296 * r + d) : q = (a * 4294967296 + d) / v := by
  have := est_fits (d := d) hv hv0 E.sum h
  have := E.least
  omega
theorem wrap_rest (N v M : Int) (hM : 0 < M) (hv : 0 < v) (hvM : v ≤ M) : (N % M - (N / v * v) % M) % M = N % v := by
  have h1 := Int.mul_ediv_add_emod N v
  have h2 := Int.emod_nonneg N (b := v) (by omega)
  have h3 := Int.emod_lt_of_pos N hv
  rw [← Int.sub_emod, Int.mul_comm]
  have e : N - v * (N / v) = N % v := by omega
  rw [e]
  exact Int.emod_eq_of_lt h2 (by omega)
/-- Two steps of half a word. -/
theorem two_steps (U1 d1 d0 v : Int) (hv : 0 < v) :
    (U1 * 4294967296 + d1) / v * 4294967296 + ((U1 * 4294967296 + d1) % v * 4294967296 + d0) / v = (U1 * 18446744073709551616 + (d1 * 4294967296 + d0)) / v ∧
    ((U1 * 4294967296 + d1) % v * 4294967296 + d0) % v = (U1 * 18446744073709551616 + (d1 * 4294967296 + d0)) % v := by
  have h1 := Int.mul_ediv_add_emod (U1 * 4294967296 + d1) v
  generalize (U1 * 4294967296 + d1) % v = r at *
  generalize (U1 * 4294967296 + d1) / v = q at *
  have e : U1 * 18446744073709551616 + (d1 * 4294967296 + d0) = (r * 4294967296 + d0) + v * (q * 4294967296) := by
    rw [← Int.mul_assoc]
    generalize v * q = X at *
    omega
  rw [e, Int.add_mul_ediv_left _ _ (by omega), Int.add_mul_emod_self_left]
  exact ⟨by omega, rfl⟩
theorem shifted (u y : Int) (s : Nat) (hy : 0 < y) : u * 2 ^ s / (y * 2 ^ s) = u / y ∧ u * 2 ^ s % (y * 2 ^ s) / 2 ^ s = u % y := by
  have hs : (0 : Int) < 2 ^ s := pow_pos' two_pos s
  refine ⟨Int.mul_ediv_mul_of_pos_left _ _ hs, ?_⟩
  rw [Int.mul_comm u, Int.mul_comm y, Int.mul_emod_mul_of_pos _ _ hs, Int.mul_ediv_cancel_left _ (by omega)]
end Go.Proofs.YtbbldcbilnkkdaaDoor.Num
