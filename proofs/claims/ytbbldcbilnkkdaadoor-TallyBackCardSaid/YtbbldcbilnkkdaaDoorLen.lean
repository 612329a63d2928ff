/-
  The length of numbers in bits, their lowest bits, numbers moved up and down by bits. Plain Lean; no condition.
-/
import Derived.Test.YtbbldcbilnkkdaaDoorNum2
import Derived.Lib.BitFns
import Derived.Test.YtbbldcbilnkkdaaDoorSum3
set_option linter.unusedVariables false
set_option linter.unusedSimpArgs false
namespace Go.Proofs.YtbbldcbilnkkdaaDoor.Num

/-- The bits of a number without the zeros above. -/
def bl (m : Int) : Nat := if m ≤ 0 then 0 else m.toNat.log2 + 1
theorem bl_zero : bl 0 = 0 := rfl
theorem bl_lt {m : Int} (h : 0 ≤ m) : m < 2 ^ bl m := by
  unfold bl
  split
  · have : m = 0 := by omega
    subst this; decide
  · obtain ⟨n, rfl⟩ := Int.eq_ofNat_of_zero_le h
    have := Nat.lt_log2_self (n := n)
    have e : ((2 ^ (n.log2 + 1) : Nat) : Int) = 2 ^ (n.log2 + 1) := Int.natCast_pow 2 _
    rw [Int.toNat_natCast, ← e]
    omega
theorem bl_le {m : Int} (h : 0 < m) : 2 ^ (bl m - 1) ≤ m := by
  unfold bl
  rw [if_neg (by omega)]
  obtain ⟨n, rfl⟩ := Int.eq_ofNat_of_zero_le (Int.le_of_lt h)
  have := Nat.log2_self_le (n := n) (by omega)
  have e : ((2 ^ n.log2 : Nat) : Int) = 2 ^ n.log2 := Int.natCast_pow 2 _
  rw [Int.toNat_natCast, Nat.add_sub_cancel, ← e]
  omega
theorem bl_pos {m : Int} (h : 0 < m) : 0 < bl m := by unfold bl; rw [if_neg (by omega)]; omega
theorem bl_null {m : Int} (h : 0 ≤ m) (hb : bl m = 0) : m = 0 := by
  have := bl_lt h
  rw [hb] at this
  simp at this
  omega
theorem bl_is {m : Int} {n : Nat} (h : 2 ^ n ≤ m) (h2 : m < 2 ^ (n + 1)) : bl m = n + 1 := by
  have hp : (0 : Int) < 2 ^ n := pow_pos' two_pos n
  have h1 := bl_lt (m := m) (by omega)
  have h3 := bl_le (m := m) (by omega)
  rcases Nat.lt_trichotomy (bl m) (n + 1) with g | g | g
  · have := pow_mono (q := 2) (m := bl m) (n := n) two_pos (by omega); omega
  · exact g
  · have := pow_mono (q := 2) (m := n + 1) (n := bl m - 1) two_pos (by omega); omega
theorem bl_fits {m : Int} {n : Nat} (h : 0 ≤ m) (h2 : m < 2 ^ n) : bl m ≤ n := by
  rcases Int.lt_or_eq_of_le h with g | g
  · have h3 := bl_le g
    rcases Nat.lt_or_ge n (bl m) with c | c
    · have := pow_mono (q := 2) (m := n) (n := bl m - 1) two_pos (by omega); omega
    · exact c
  · rw [← g]; exact Nat.zero_le _
theorem bl_more {m : Int} {n : Nat} (h : 0 ≤ m) (h2 : bl m ≤ n) : m < 2 ^ n := by
  have := bl_lt h
  have := pow_mono (q := 2) (m := bl m) (n := n) two_pos h2
  omega
theorem aux_null : ∀ f : Nat, Lib.bitLenAux f 0 = 0
  | 0 => rfl
  | f + 1 => by unfold Lib.bitLenAux; rw [if_pos rfl]
theorem aux_spec : ∀ (f x : Nat), x < 2 ^ f → x < 2 ^ Lib.bitLenAux f x ∧ (x ≠ 0 → 0 < Lib.bitLenAux f x ∧ 2 ^ (Lib.bitLenAux f x - 1) ≤ x)
  | 0, x, h => by
    have : x = 0 := by simpa using h
    subst this
    exact ⟨by decide, fun h => absurd rfl h⟩
  | f + 1, x, h => by
    unfold Lib.bitLenAux
    split
    · subst_vars; exact ⟨by decide, fun h => absurd rfl h⟩
    · rename_i hx
      obtain ⟨a1, a2⟩ := aux_spec f (x / 2) (by rw [Nat.pow_succ] at h; omega)
      generalize hn : Lib.bitLenAux f (x / 2) = n at *
      refine ⟨by rw [Nat.add_comm, Nat.pow_succ]; omega, fun _ => ⟨by omega, ?_⟩⟩
      rw [Nat.add_comm, Nat.add_sub_cancel]
      by_cases h2 : x / 2 = 0
      · have : x = 1 := by omega
        subst this
        have : n = 0 := by rw [← hn, h2]; exact aux_null f
        subst this; decide
      · obtain ⟨a3, a4⟩ := a2 h2
        obtain ⟨k, rfl⟩ : ∃ k, n = k + 1 := ⟨n - 1, by omega⟩
        rw [Nat.add_sub_cancel] at a4
        rw [Nat.pow_succ]
        omega
theorem bitLen_bl (x : Nat) (h : x < 18446744073709551616) : Lib.bitLen x = bl (x : Int) := by
  obtain ⟨a1, a2⟩ := aux_spec 64 x h
  unfold Lib.bitLen
  by_cases hx : x = 0
  · subst hx
    rw [aux_null]; rfl
  · generalize Lib.bitLenAux 64 x = n at *
    obtain ⟨a3, a4⟩ := a2 hx
    obtain ⟨k, rfl⟩ : ∃ k, n = k + 1 := ⟨n - 1, by omega⟩
    rw [Nat.add_sub_cancel] at a4
    refine (bl_is ?_ ?_).symm
    · have e : ((2 ^ k : Nat) : Int) = 2 ^ k := Int.natCast_pow 2 _
      rw [← e]; omega
    · have e : ((2 ^ (k + 1) : Nat) : Int) = 2 ^ (k + 1) := Int.natCast_pow 2 _
      rw [← e]; omega
/-- The greatest word that is not 0 tells the length. -/
theorem bl_word {m : Int} {i : Nat} (h0 : 0 ≤ m) (hlt : m < 18446744073709551616 ^ (i + 1)) (hd : dig 18446744073709551616 m i ≠ 0) :
    (bl m : Int) = 64 * i + (Lib.bitLen (dig 18446744073709551616 m i).toNat : Nat) := by
  have hP : (0 : Int) < 18446744073709551616 ^ i := pow_pos' (by decide) i
  have hq : m / 18446744073709551616 ^ i < 18446744073709551616 := Int.ediv_lt_of_lt_mul hP (by rw [Int.mul_comm, ← Int.pow_succ]; exact hlt)
  have hq0 : 0 ≤ m / 18446744073709551616 ^ i := Int.ediv_nonneg h0 (by omega)
  have e : dig 18446744073709551616 m i = m / 18446744073709551616 ^ i := by unfold dig; omega
  have hm := Int.mul_ediv_add_emod m (18446744073709551616 ^ i)
  have hr0 := Int.emod_nonneg m (b := 18446744073709551616 ^ i) (by omega)
  have hr1 := Int.emod_lt_of_pos m hP
  rw [e] at hd ⊢
  rw [bitLen_bl _ (by omega), Int.toNat_of_nonneg hq0]
  rw [pow64] at *
  generalize m / 2 ^ (64 * i) = d at *
  have b1 := bl_lt hq0
  have b2 := bl_le (m := d) (by omega)
  have b3 := bl_pos (m := d) (by omega)
  obtain ⟨k, hk⟩ : ∃ k, bl d = k + 1 := ⟨bl d - 1, by omega⟩
  rw [hk] at b1 b2 ⊢
  rw [Nat.add_sub_cancel] at b2
  have g1 : 2 ^ (64 * i) * 2 ^ k ≤ 2 ^ (64 * i) * d := Int.mul_le_mul_of_nonneg_left b2 (by omega)
  have g2 : 2 ^ (64 * i) * (d + 1) ≤ 2 ^ (64 * i) * 2 ^ (k + 1) := Int.mul_le_mul_of_nonneg_left (by omega) (by omega)
  rw [← Int.pow_add] at g1 g2
  rw [Int.mul_add] at g2
  have := bl_is (m := m) (n := 64 * i + k) (by omega) (by rw [Nat.add_assoc]; omega)
  rw [this]
  omega

/-! ### the lowest bits -/
theorem mod_zero_of {m : Int} {a b : Nat} (h : a ≤ b) (h2 : m % 2 ^ b = 0) : m % 2 ^ a = 0 := by
  have : ((2 : Int) ^ a) ∣ m := Int.dvd_trans ⟨2 ^ (b - a), by rw [← Int.pow_add]; congr 1; omega⟩ (Int.dvd_of_emod_eq_zero h2)
  exact Int.emod_eq_zero_of_dvd this
theorem below_step {m : Int} {j t : Nat} (ht : t ≤ 64) (h : m % 2 ^ (64 * j) = 0) :
    (dig 18446744073709551616 m j * 2 ^ (64 - t) % 18446744073709551616 = 0) ↔ m % 2 ^ (64 * j + t) = 0 := by
  have hP : (0 : Int) < 2 ^ (64 * j) := pow_pos' (by decide) _
  have hT : (0 : Int) < 2 ^ t := pow_pos' (by decide) _
  have hU : (0 : Int) < 2 ^ (64 - t) := pow_pos' (by decide) _
  have e : (18446744073709551616 : Int) = 2 ^ t * 2 ^ (64 - t) := by rw [← Int.pow_add, show t + (64 - t) = 64 by omega]; rfl
  have h1 : m % 2 ^ (64 * j + t) = 2 ^ (64 * j) * (m / 2 ^ (64 * j) % 2 ^ t) := by rw [Int.pow_add, mod_mul hP hT, h, Int.zero_add]
  have h2 : dig 18446744073709551616 m j % 2 ^ t = m / 2 ^ (64 * j) % 2 ^ t := by
    unfold dig
    rw [pow64, e]
    exact Int.emod_emod_of_dvd _ ⟨_, rfl⟩
  have h3 : dig 18446744073709551616 m j * 2 ^ (64 - t) % 18446744073709551616 = 2 ^ (64 - t) * (dig 18446744073709551616 m j % 2 ^ t) := by
    generalize dig 18446744073709551616 m j = d
    rw [e, Int.mul_comm (2 ^ t), Int.mul_comm d, Int.mul_emod_mul_of_pos _ _ hU]
  rw [h1, h3, h2]
  constructor
  · intro h4
    rcases Int.mul_eq_zero.1 h4 with h4 | h4
    · omega
    · rw [h4, Int.mul_zero]
  · intro h4
    rcases Int.mul_eq_zero.1 h4 with h4 | h4
    · omega
    · rw [h4, Int.mul_zero]

/-! ### moved by bits -/
theorem q_split {b : Nat} (hb : b ≤ 64) : (18446744073709551616 : Int) = 2 ^ b * 2 ^ (64 - b) := by rw [← Int.pow_add, show b + (64 - b) = 64 by omega]; rfl
theorem mul_mod_pow (d : Int) {b : Nat} (hb : b ≤ 64) : d * 2 ^ b % 18446744073709551616 = 2 ^ b * (d % 2 ^ (64 - b)) := by
  have hB : (0 : Int) < 2 ^ b := pow_pos' two_pos b
  rw [q_split hb, Int.mul_comm d, Int.mul_emod_mul_of_pos _ _ hB]
theorem dig_shift_lt (x : Int) {i a : Nat} (h : i < a) : dig 18446744073709551616 (x * 18446744073709551616 ^ a) i = 0 := by
  obtain ⟨d, rfl⟩ : ∃ d, a = i + 1 + d := ⟨a - i - 1, by omega⟩
  have hP : (0 : Int) < 18446744073709551616 ^ i := pow_pos' (by decide) i
  unfold dig
  have e : x * 18446744073709551616 ^ (i + 1 + d) = 18446744073709551616 ^ i * (18446744073709551616 * (x * 18446744073709551616 ^ d)) := by
    rw [Int.pow_add, Int.pow_succ]; simp only [Int.mul_assoc, Int.mul_comm, Int.mul_left_comm]
  rw [e, Int.mul_ediv_cancel_left _ (by omega), Int.mul_emod_right]
theorem dig_shift_ge (x : Int) (j a : Nat) : dig 18446744073709551616 (x * 18446744073709551616 ^ a) (j + a) = dig 18446744073709551616 x j := by
  have hP : (0 : Int) < 18446744073709551616 ^ a := pow_pos' (by decide) a
  unfold dig
  rw [Int.pow_add, Int.mul_comm (18446744073709551616 ^ j), div_mul hP, Int.mul_ediv_cancel _ (by omega)]
theorem tcarry_pow (m : Int) {b : Nat} (hb : b ≤ 64) (j : Nat) : tcarry 18446744073709551616 m (2 ^ b) (j + 1) = dig 18446744073709551616 m j / 2 ^ (64 - b) := by
  have hB : (0 : Int) < 2 ^ b := pow_pos' two_pos b
  have hU : (0 : Int) < 2 ^ (64 - b) := pow_pos' two_pos _
  have hP : (0 : Int) < 18446744073709551616 ^ j := pow_pos' (by decide) j
  rw [← mul_carry (by decide)]
  have t0 := (tcarry_bound (q := 18446744073709551616) (by decide) m (2 ^ b) (Int.le_of_lt hB) j).1
  have t1 : tcarry 18446744073709551616 m (2 ^ b) j < 2 ^ b := by
    unfold tcarry
    refine Int.ediv_lt_of_lt_mul hP ?_
    rw [Int.mul_comm (2 ^ b)]
    exact Int.mul_lt_mul_of_pos_right (Int.emod_lt_of_pos _ hP) hB
  generalize tcarry 18446744073709551616 m (2 ^ b) j = c at *
  generalize dig 18446744073709551616 m j = d
  rw [q_split hb, ← Int.ediv_ediv_of_nonneg (Int.le_of_lt hB), Int.add_comm, Int.add_mul_ediv_right _ _ (by omega), Int.ediv_eq_zero_of_lt t0 t1, Int.zero_add]
theorem up_first (m : Int) {b : Nat} (hb : b ≤ 64) : dig 18446744073709551616 (m * 2 ^ b) 0 = dig 18446744073709551616 m 0 * 2 ^ b % 18446744073709551616 := by
  rw [← mul_digit (by decide), tcarry_zero, Int.add_zero]
theorem up_next (m : Int) {b : Nat} (hb : b ≤ 64) (j : Nat) : dig 18446744073709551616 (m * 2 ^ b) (j + 1) = dig 18446744073709551616 m (j + 1) * 2 ^ b % 18446744073709551616 + dig 18446744073709551616 m j / 2 ^ (64 - b) := by
  have hB : (0 : Int) < 2 ^ b := pow_pos' two_pos b
  have hU : (0 : Int) < 2 ^ (64 - b) := pow_pos' two_pos _
  rw [← mul_digit (by decide), tcarry_pow m hb]
  have d0 := dig_nonneg (q := 18446744073709551616) (by decide) m j
  have d1 := dig_lt (q := 18446744073709551616) (by decide) m j
  generalize dig 18446744073709551616 m j = d at *
  generalize dig 18446744073709551616 m (j + 1) = x
  have c0 : 0 ≤ d / 2 ^ (64 - b) := Int.ediv_nonneg d0 (by omega)
  have c1 : d / 2 ^ (64 - b) < 2 ^ b := Int.ediv_lt_of_lt_mul hU (by rw [← q_split hb]; exact d1)
  rw [← Int.emod_add_emod, mul_mod_pow x hb]
  have r0 := Int.emod_nonneg x (b := 2 ^ (64 - b)) (by omega)
  have r1 := Int.emod_lt_of_pos x hU
  have g : 2 ^ b * (x % 2 ^ (64 - b) + 1) ≤ 2 ^ b * 2 ^ (64 - b) := Int.mul_le_mul_of_nonneg_left (by omega) (by omega)
  have g0 := Int.mul_nonneg (Int.le_of_lt hB) r0
  rw [← q_split hb, Int.mul_add] at g
  exact Int.emod_eq_of_lt (by omega) (by omega)
theorem down_digit (m : Int) {b : Nat} (hb : b ≤ 64) (a i : Nat) : dig 18446744073709551616 (m / 2 ^ (64 * a + b)) i = dig 18446744073709551616 m (i + a) / 2 ^ b + dig 18446744073709551616 m (i + a + 1) * 2 ^ (64 - b) % 18446744073709551616 := by
  have hB : (0 : Int) < 2 ^ b := pow_pos' two_pos b
  have hU : (0 : Int) < 2 ^ (64 - b) := pow_pos' two_pos _
  have e : m / 2 ^ (64 * a + b) / 18446744073709551616 ^ i = m / 18446744073709551616 ^ (i + a) / 2 ^ b := by
    rw [pow64, pow64, Int.ediv_ediv_of_nonneg (Int.le_of_lt (pow_pos' two_pos _)), Int.ediv_ediv_of_nonneg (Int.le_of_lt (pow_pos' two_pos _)), ← Int.pow_add, ← Int.pow_add]
    congr 2; omega
  unfold dig
  rw [e, div_succ (by decide)]
  generalize m / 18446744073709551616 ^ (i + a) = y
  rw [mul_mod_pow _ (by omega : 64 - b ≤ 64), show 64 - (64 - b) = b by omega]
  have hy := Int.mul_ediv_add_emod y 18446744073709551616
  have e2 : y / 18446744073709551616 % 18446744073709551616 % 2 ^ b = y / 18446744073709551616 % 2 ^ b := Int.emod_emod_of_dvd _ ⟨2 ^ (64 - b), q_split hb⟩
  rw [e2]
  have d0 := Int.emod_nonneg y (b := 18446744073709551616) (by decide)
  have d1 := Int.emod_lt_of_pos y (b := 18446744073709551616) (by decide)
  generalize y % 18446744073709551616 = d at *
  generalize y / 18446744073709551616 = y' at *
  have e3 : y / 2 ^ b = d / 2 ^ b + 2 ^ (64 - b) * y' := by
    rw [← hy, q_split hb, Int.mul_assoc, Int.add_comm, Int.add_mul_ediv_left _ _ (by omega)]
  have c0 : 0 ≤ d / 2 ^ b := Int.ediv_nonneg d0 (by omega)
  have c1 : d / 2 ^ b < 2 ^ (64 - b) := Int.ediv_lt_of_lt_mul hB (by rw [Int.mul_comm, ← q_split hb]; exact d1)
  have r0 := Int.emod_nonneg y' (b := 2 ^ b) (by omega)
  have r1 := Int.emod_lt_of_pos y' hB
  have g : 2 ^ (64 - b) * (y' % 2 ^ b + 1) ≤ 2 ^ (64 - b) * 2 ^ b := Int.mul_le_mul_of_nonneg_left (by omega) (by omega)
  have g0 := Int.mul_nonneg (Int.le_of_lt hU) r0
  rw [Int.mul_comm (2 ^ (64 - b)) (2 ^ b), ← q_split hb, Int.mul_add] at g
  rw [e3, ← Int.add_emod_emod, q_split hb, Int.mul_comm (2 ^ b) (2 ^ (64 - b)), Int.mul_emod_mul_of_pos _ _ hU, Int.mul_comm (2 ^ (64 - b)) (2 ^ b), ← q_split hb]
  exact Int.emod_eq_of_lt (by omega) (by omega)
theorem dig_top {m : Int} (h0 : 0 ≤ m) (h1 : m < 18446744073709551616 ^ 6) {i : Nat} (hi : 6 ≤ i) : dig 18446744073709551616 m i = 0 := by
  have := pow_mono (q := 18446744073709551616) (m := 6) (n := i) (by decide) hi
  unfold dig
  rw [Int.ediv_eq_zero_of_lt h0 (by omega)]
  rfl
/-- Bits joined that do not meet are added. -/
theorem or_join (x y : Int) (k : Nat) (h0 : 0 ≤ x) (h1 : x < 18446744073709551616) (hx : x % 2 ^ k = 0) (g0 : 0 ≤ y) (g1 : y < 2 ^ k) (g2 : y < 18446744073709551616) : bits .or .u64 x y = x + y := by
  obtain ⟨n, rfl⟩ := Int.eq_ofNat_of_zero_le h0
  obtain ⟨l, rfl⟩ := Int.eq_ofNat_of_zero_le g0
  have e := u64_or_nat n l (by omega) (by omega)
  have hn : n % 2 ^ k = 0 := by exact_mod_cast hx
  have hl : l < 2 ^ k := by exact_mod_cast g1
  rw [nat_join k n l hn hl] at e
  rw [e]
  push_cast
  rfl
theorem or_join' (x y : Int) (k : Nat) (h0 : 0 ≤ x) (h1 : x < 18446744073709551616) (hx : x % 2 ^ k = 0) (g0 : 0 ≤ y) (g1 : y < 2 ^ k) (g2 : y < 18446744073709551616) : bits .or .u64 y x = y + x := by
  obtain ⟨n, rfl⟩ := Int.eq_ofNat_of_zero_le h0
  obtain ⟨l, rfl⟩ := Int.eq_ofNat_of_zero_le g0
  have e := u64_or_nat l n (by omega) (by omega)
  have hn : n % 2 ^ k = 0 := by exact_mod_cast hx
  have hl : l < 2 ^ k := by exact_mod_cast g1
  rw [Nat.or_comm, nat_join k n l hn hl] at e
  rw [e]
  push_cast
  omega
end Go.Proofs.YtbbldcbilnkkdaaDoor.Num
