/-
  Bits and words of numbers in two's complement. Plain Lean; no condition.
-/
import Derived.Test.YtbbldcbilnkkdaaDoorNum
set_option linter.unusedVariables false
set_option linter.unusedSimpArgs false
namespace Go.Proofs.YtbbldcbilnkkdaaDoor.Num

theorem pow_mono {q : Int} {m n : Nat} (hq : 0 < q) (h : m ≤ n) : q ^ m ≤ q ^ n := by
  obtain ⟨d, rfl⟩ : ∃ d, n = m + d := ⟨n - m, by omega⟩
  rw [Int.pow_add]
  have h1 := pow_pos' hq m
  have h2 := pow_pos' hq d
  have := Int.mul_le_mul_of_nonneg_left (show 1 ≤ q ^ d by omega) (Int.le_of_lt h1)
  omega
theorem two_pos : (0 : Int) < 2 := by decide
theorem pow64 (a : Nat) : (18446744073709551616 : Int) ^ a = 2 ^ (64 * a) := by rw [Int.pow_mul]; rfl
theorem mod_pow_div (y : Int) (b m : Nat) (h : b ≤ m) : y % 2 ^ m / 2 ^ b = y / 2 ^ b % 2 ^ (m - b) := by
  have e : (2 : Int) ^ m = 2 ^ b * 2 ^ (m - b) := by rw [← Int.pow_add]; congr 1; omega
  have hb : (0 : Int) < 2 ^ b := Int.pow_pos (by decide)
  rw [e, mod_mul hb (Int.pow_pos (by decide)), Int.add_mul_ediv_left _ _ (by omega), Int.ediv_eq_zero_of_lt (Int.emod_nonneg _ (by omega)) (Int.emod_lt_of_pos _ hb), Int.zero_add]
/-- Bit k of a number is bit k % 64 of its word k / 64. -/
theorem word_bit (z : Int) (k : Nat) : dig 18446744073709551616 z (k / 64) / 2 ^ (k % 64) % 2 = dig 2 z k := by
  unfold dig
  have h64 : (18446744073709551616 : Int) = 2 ^ 64 := rfl
  rw [pow64, h64, mod_pow_div _ _ _ (by omega), Int.ediv_ediv_of_nonneg (Int.le_of_lt (Int.pow_pos (by decide))), ← Int.pow_add]
  rw [show 64 * (k / 64) + k % 64 = k by omega]
  refine Int.emod_emod_of_dvd _ ⟨2 ^ (64 - k % 64 - 1), ?_⟩
  rw [← Int.pow_succ']
  congr 1
  omega
theorem digs_zero {q : Int} (hq : 0 < q) (n : Nat) : digs q 0 n = List.replicate n 0 := by
  induction n with
  | zero => rfl
  | succ n ih => rw [digs_cons hq, List.replicate_succ]; simpa using ih
theorem digs_one (n : Nat) : digs 2 1 (n + 1) = 1 :: List.replicate n 0 := by
  rw [digs_cons two_pos]
  show 1 :: digs 2 0 n = _
  rw [digs_zero two_pos]
/-- The bits of the complement. -/
theorem not_digit (a : Int) (k : Nat) : 1 - dig 2 a k = dig 2 (-a - 1) k := by
  unfold dig
  have hP : (0 : Int) < 2 ^ k := Int.pow_pos (by decide)
  have h1 := Int.mul_ediv_add_emod a (2 ^ k)
  have b1 := Int.emod_nonneg a (b := 2 ^ k) (by omega)
  have b2 := Int.emod_lt_of_pos a hP
  have e : -a - 1 = (2 ^ k - 1 - a % 2 ^ k) + 2 ^ k * (-(a / 2 ^ k) - 1) := by rw [Int.mul_sub, Int.mul_neg]; omega
  have e0 : (2 ^ k - 1 - a % 2 ^ k) / 2 ^ k = 0 := Int.ediv_eq_zero_of_lt (by omega) (by omega)
  rw [e, Int.add_mul_ediv_left _ _ (by omega), e0]
  omega
theorem digs_set_same (q z : Int) (n k : Nat) (v : Int) (h : v = dig q z k) : (digs q z n).set k v = digs q z n := by
  apply List.ext_getElem?
  intro i
  rw [List.getElem?_set]
  by_cases hi : k = i
  · subst hi
    by_cases hk : k < n
    · simp [digs, hk, h]
    · rw [if_pos rfl, if_neg (by simp [digs]; omega), List.getElem?_eq_none (by simp [digs]; omega)]
  · rw [if_neg hi]
theorem dig_eq_zero {q z : Int} (hq : 1 < q) {n k : Nat} (h0 : 0 ≤ z) (h1 : z < q ^ n) (hk : n ≤ k) : dig q z k = 0 := by
  unfold dig
  have : z < q ^ k := Int.lt_of_lt_of_le h1 (pow_mono (by omega) hk)
  rw [Int.ediv_eq_zero_of_lt h0 this]
  rfl
theorem mod_two_pow (z : Int) (k : Nat) : 0 ≤ z % 2 ^ k ∧ z % 2 ^ k < 2 ^ k := by
  have hP : (0 : Int) < 2 ^ k := Int.pow_pos (by decide)
  exact ⟨Int.emod_nonneg _ (by omega), Int.emod_lt_of_pos _ hP⟩
/-- One more bit of a number: its words. -/
theorem words_step (z : Int) (k : Nat) (hk : k < 384) :
    (dig 2 z k = 0 → digs 18446744073709551616 (z % 2 ^ (k + 1)) 6 = digs 18446744073709551616 (z % 2 ^ k) 6) ∧
    (dig 2 z k = 1 → digs 18446744073709551616 (z % 2 ^ (k + 1)) 6 = (digs 18446744073709551616 (z % 2 ^ k) 6).set (k / 64) (dig 18446744073709551616 (z % 2 ^ k) (k / 64) + 2 ^ (k % 64))) ∧
    0 ≤ dig 18446744073709551616 (z % 2 ^ k) (k / 64) ∧ dig 18446744073709551616 (z % 2 ^ k) (k / 64) < 2 ^ (k % 64) := by
  have hs := mod_succ two_pos z k
  obtain ⟨b1, b2⟩ := mod_two_pow z k
  have hkp : (2 : Int) ^ k = 18446744073709551616 ^ (k / 64) * 2 ^ (k % 64) := by rw [pow64, ← Int.pow_add]; congr 1; omega
  have hq : (0 : Int) < 18446744073709551616 ^ (k / 64) := pow_pos' (by decide) _
  have hlt : z % 2 ^ k / 18446744073709551616 ^ (k / 64) < 2 ^ (k % 64) := Int.ediv_lt_of_lt_mul hq (by rw [Int.mul_comm, ← hkp]; exact b2)
  have hnn : 0 ≤ z % 2 ^ k / 18446744073709551616 ^ (k / 64) := Int.ediv_nonneg b1 (by omega)
  have h64 : (2 : Int) ^ (k % 64) * 2 ≤ 18446744073709551616 := by
    rw [← Int.pow_succ]
    exact pow_mono (m := k % 64 + 1) (n := 64) (by decide) (by omega)
  have hd : dig 18446744073709551616 (z % 2 ^ k) (k / 64) = z % 2 ^ k / 18446744073709551616 ^ (k / 64) := Int.emod_eq_of_lt hnn (by omega)
  refine ⟨fun h => by rw [hs, h, Int.mul_zero, Int.add_zero], fun h => ?_, by rw [hd]; exact hnn, by rw [hd]; exact hlt⟩
  rw [hs, h, Int.mul_one]
  apply List.ext_getElem?
  intro i
  rw [List.getElem?_set]
  by_cases hi6 : i < 6
  · by_cases hi : k / 64 = i
    · subst hi
      rw [if_pos rfl, if_pos (by simp [digs]; omega)]
      rw [digs_get _ _ hi6]
      congr 1
      rw [hd]
      unfold dig
      rw [hkp, Int.add_mul_ediv_left _ _ (by omega), ← hkp]
      exact Int.emod_eq_of_lt (by omega) (by omega)
    · rw [if_neg hi, digs_get _ _ hi6, digs_get _ _ hi6]
      congr 1
      rcases Nat.lt_or_ge i (k / 64) with hl | hl
      · have e : (2 : Int) ^ k = 18446744073709551616 ^ (i + 1) * (2 ^ (k - 64 * (i + 1))) := by rw [pow64, ← Int.pow_add]; congr 1; omega
        have e2 := dig_mod (q := 18446744073709551616) (by decide) (z % 2 ^ k) (n := i + 1) (k := i) (by omega) (2 ^ (k - 64 * (i + 1)))
        rw [← e] at e2
        exact e2
      · have hk2 : (2 : Int) ^ (k + 1) ≤ 18446744073709551616 ^ i := by rw [pow64]; exact pow_mono (by decide) (by omega)
        rw [Int.pow_succ] at hk2
        rw [dig_eq_zero (n := i) (by decide) (by omega) (by omega) (Nat.le_refl _), dig_eq_zero (n := i) (by decide) b1 (by omega) (Nat.le_refl _)]
  · rw [if_neg (by omega), List.getElem?_eq_none (by simp [digs]; omega), List.getElem?_eq_none (by simp [digs]; omega)]
end Go.Proofs.YtbbldcbilnkkdaaDoor.Num
