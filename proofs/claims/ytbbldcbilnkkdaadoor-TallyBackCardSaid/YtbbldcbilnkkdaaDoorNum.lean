/-
  Numbers by their digits, in two's complement: sums, negatives, products, digit by digit. Plain Lean; no condition.
-/
import Derived.IntWalk
import Derived.Laws.BitsAllLaws
set_option linter.unusedVariables false
set_option linter.unusedSimpArgs false
namespace Go.Proofs.YtbbldcbilnkkdaaDoor.Num

/-- Digit k of z to the base q. -/
def dig (q z : Int) (k : Nat) : Int := z / q ^ k % q
theorem pow_pos' {q : Int} (hq : 0 < q) (k : Nat) : 0 < q ^ k := Int.pow_pos hq
theorem dig_nonneg {q : Int} (hq : 0 < q) (z : Int) (k : Nat) : 0 ≤ dig q z k := Int.emod_nonneg _ (by omega)
theorem dig_lt {q : Int} (hq : 0 < q) (z : Int) (k : Nat) : dig q z k < q := Int.emod_lt_of_pos _ hq
theorem mod_mul {P q : Int} (hP : 0 < P) (hq : 0 < q) (z : Int) : z % (P * q) = z % P + P * (z / P % q) := by
  have h1 := Int.mul_ediv_add_emod z P
  have h2 := Int.mul_ediv_add_emod (z / P) q
  have b1 := Int.emod_nonneg z (b := P) (by omega)
  have b2 := Int.emod_lt_of_pos z hP
  have b3 := Int.emod_nonneg (z / P) (b := q) (by omega)
  have b4 := Int.emod_lt_of_pos (z / P) hq
  generalize z % P = r1 at *
  generalize z / P % q = r2 at *
  generalize z / P / q = x at *
  have e : z = r1 + P * r2 + (P * q) * x := by rw [← h1, ← h2, Int.mul_add]; simp only [Int.mul_assoc]; omega
  have hlo : 0 ≤ r1 + P * r2 := by have := Int.mul_nonneg (Int.le_of_lt hP) b3; omega
  have hhi : r1 + P * r2 < P * q := by
    have : P * r2 ≤ P * (q - 1) := Int.mul_le_mul_of_nonneg_left (by omega) (Int.le_of_lt hP)
    rw [Int.mul_sub] at this; omega
  rw [e, Int.add_mul_emod_self_left, Int.emod_eq_of_lt hlo hhi]
theorem div_mul {P q : Int} (hP : 0 < P) (z : Int) : z / (P * q) = z / P / q := by
  rw [← Int.ediv_ediv_of_nonneg (Int.le_of_lt hP)]
theorem mod_succ {q : Int} (hq : 0 < q) (z : Int) (k : Nat) : z % q ^ (k + 1) = z % q ^ k + q ^ k * dig q z k := by
  rw [Int.pow_succ, mod_mul (pow_pos' hq k) hq]; rfl
theorem div_succ {q : Int} (hq : 0 < q) (z : Int) (k : Nat) : z / q ^ (k + 1) = z / q ^ k / q := by
  rw [Int.pow_succ, div_mul (pow_pos' hq k)]

/-! ### sums -/
def carry (q a b : Int) (k : Nat) : Int := (a % q ^ k + b % q ^ k) / q ^ k
theorem carry_zero (q a b : Int) : carry q a b 0 = 0 := by simp [carry, Int.emod_one]
theorem carry_bound {q : Int} (hq : 0 < q) (a b : Int) (k : Nat) : 0 ≤ carry q a b k ∧ carry q a b k ≤ 1 := by
  have hP := pow_pos' hq k
  have b1 := Int.emod_nonneg a (b := q ^ k) (by omega)
  have b2 := Int.emod_lt_of_pos a hP
  have b3 := Int.emod_nonneg b (b := q ^ k) (by omega)
  have b4 := Int.emod_lt_of_pos b hP
  unfold carry
  generalize q ^ k = P at *
  refine ⟨Int.ediv_nonneg (by omega) (by omega), ?_⟩
  have : (a % P + b % P) / P < 2 := Int.ediv_lt_of_lt_mul hP (by omega)
  omega
theorem div_add {P : Int} (hP : 0 < P) (a b : Int) : (a + b) / P = a / P + b / P + (a % P + b % P) / P := by
  have h1 := Int.mul_ediv_add_emod a P
  have h2 := Int.mul_ediv_add_emod b P
  have e : a + b = (a % P + b % P) + P * (a / P + b / P) := by rw [Int.mul_add]; omega
  rw [e, Int.add_mul_ediv_left _ _ (by omega)]
  generalize (a % P + b % P) / P = c at *
  omega
theorem add_digit {q : Int} (hq : 0 < q) (a b : Int) (k : Nat) : (dig q a k + dig q b k + carry q a b k) % q = dig q (a + b) k := by
  unfold dig
  rw [div_add (pow_pos' hq k)]
  show _ = (a / q ^ k + b / q ^ k + carry q a b k) % q
  generalize a / q ^ k = x
  generalize b / q ^ k = y
  have h1 := Int.mul_ediv_add_emod x q
  have h2 := Int.mul_ediv_add_emod y q
  have e : x % q + y % q + carry q a b k = x + y + carry q a b k + q * (-(x / q) - y / q) := by rw [Int.mul_sub, Int.mul_neg]; omega
  rw [e, Int.add_mul_emod_self_left]
theorem add_carry {q : Int} (hq : 0 < q) (a b : Int) (k : Nat) : (dig q a k + dig q b k + carry q a b k) / q = carry q a b (k + 1) := by
  have hP := pow_pos' hq k
  unfold carry
  rw [mod_succ hq, mod_succ hq, Int.pow_succ, div_mul hP]
  congr 1
  have e : a % q ^ k + q ^ k * dig q a k + (b % q ^ k + q ^ k * dig q b k) = a % q ^ k + b % q ^ k + q ^ k * (dig q a k + dig q b k) := by rw [Int.mul_add]; omega
  rw [e, Int.add_mul_ediv_left _ _ (by omega)]
  omega

/-! ### negatives -/
def borrow (q a : Int) (k : Nat) : Int := if a % q ^ k = 0 then 0 else 1
theorem borrow_zero (q a : Int) : borrow q a 0 = 0 := by simp [borrow, Int.emod_one]
theorem borrow_bound (q a : Int) (k : Nat) : 0 ≤ borrow q a k ∧ borrow q a k ≤ 1 := by unfold borrow; split <;> omega
theorem neg_div {P : Int} (hP : 0 < P) (a : Int) : (-a) / P = -(a / P) - (if a % P = 0 then 0 else 1) := by
  have h1 := Int.mul_ediv_add_emod a P
  have b1 := Int.emod_nonneg a (b := P) (by omega)
  have b2 := Int.emod_lt_of_pos a hP
  split
  · rename_i h
    have e : -a = P * (-(a / P)) := by rw [Int.mul_neg]; omega
    rw [e, Int.mul_ediv_cancel_left _ (by omega)]
    omega
  · rename_i h
    have e : -a = (P - a % P) + P * (-(a / P) - 1) := by rw [Int.mul_sub, Int.mul_neg]; omega
    rw [e, Int.add_mul_ediv_left _ _ (by omega), Int.ediv_eq_zero_of_lt (by omega) (by omega)]
    omega
theorem neg_digit {q : Int} (hq : 0 < q) (a : Int) (k : Nat) : (q - dig q a k - borrow q a k) % q = dig q (-a) k := by
  unfold dig
  rw [neg_div (pow_pos' hq k)]
  show _ = (-(a / q ^ k) - borrow q a k) % q
  generalize a / q ^ k = x
  generalize borrow q a k = y
  have h := Int.mul_ediv_add_emod x q
  have e : q - x % q - y = -x - y + q * (x / q + 1) := by rw [Int.mul_add]; omega
  rw [e, Int.add_mul_emod_self_left]
theorem neg_borrow {q : Int} (hq : 0 < q) (a : Int) (k : Nat) : (if 0 < dig q a k + borrow q a k then (1 : Int) else 0) = borrow q a (k + 1) := by
  have hP := pow_pos' hq k
  have b1 := Int.emod_nonneg a (b := q ^ k) (by omega)
  have b0 := dig_nonneg hq a k
  unfold borrow
  rw [mod_succ hq]
  have hm := Int.mul_nonneg (Int.le_of_lt hP) b0
  rcases Int.lt_or_eq_of_le b0 with h | h
  · have : 0 < q ^ k * dig q a k := Int.mul_pos hP h
    rw [if_pos (by split <;> omega), if_neg (by omega)]
  · rw [← h]
    simp only [Int.mul_zero, Int.add_zero, Int.zero_add]
    by_cases h0 : a % q ^ k = 0
    · rw [if_pos h0, if_neg (by omega)]
    · rw [if_neg h0, if_pos (by omega)]

/-! ### products -/
def tcarry (q a u : Int) (k : Nat) : Int := a % q ^ k * u / q ^ k
theorem tcarry_zero (q a u : Int) : tcarry q a u 0 = 0 := by simp [tcarry, Int.emod_one]
theorem tcarry_bound {q : Int} (hq : 0 < q) (a u : Int) (hu : 0 ≤ u) (k : Nat) : 0 ≤ tcarry q a u k ∧ tcarry q a u k ≤ u := by
  have hP := pow_pos' hq k
  have b1 := Int.emod_nonneg a (b := q ^ k) (by omega)
  have b2 := Int.emod_lt_of_pos a hP
  unfold tcarry
  refine ⟨Int.ediv_nonneg (Int.mul_nonneg b1 hu) (by omega), ?_⟩
  refine Int.ediv_le_of_le_mul hP ?_
  rw [Int.mul_comm u]
  exact Int.mul_le_mul_of_nonneg_right (by omega) hu
theorem mul_div {P : Int} (hP : 0 < P) (a u : Int) : a * u / P = a / P * u + a % P * u / P := by
  have h1 := Int.mul_ediv_add_emod a P
  have e : a * u = a % P * u + P * (a / P * u) := by
    have : a * u = (P * (a / P) + a % P) * u := by rw [h1]
    rw [this, Int.add_mul, Int.mul_assoc]; omega
  rw [e, Int.add_mul_ediv_left _ _ (by omega)]
  generalize a / P * u = c
  omega
theorem mul_digit {q : Int} (hq : 0 < q) (a u : Int) (k : Nat) : (dig q a k * u + tcarry q a u k) % q = dig q (a * u) k := by
  unfold dig
  rw [mul_div (pow_pos' hq k)]
  show _ = (a / q ^ k * u + tcarry q a u k) % q
  rw [Int.add_emod, Int.mul_emod, Int.emod_emod, ← Int.mul_emod, ← Int.add_emod]
theorem mul_carry {q : Int} (hq : 0 < q) (a u : Int) (k : Nat) : (dig q a k * u + tcarry q a u k) / q = tcarry q a u (k + 1) := by
  have hP := pow_pos' hq k
  unfold tcarry
  rw [mod_succ hq, Int.pow_succ, div_mul hP]
  congr 1
  have e : (a % q ^ k + q ^ k * dig q a k) * u = a % q ^ k * u + q ^ k * (dig q a k * u) := by rw [Int.add_mul, Int.mul_assoc]
  rw [e, Int.add_mul_ediv_left _ _ (by omega)]
  generalize dig q a k * u = c
  omega
theorem mul_fits {q : Int} (hq : 0 < q) (a u : Int) (hu : 0 ≤ u) (huq : u < q) (k : Nat) : tcarry q a u (k + 1) ≤ u ∧ dig q a k * u + tcarry q a u k < q * q := by
  have h1 := dig_lt hq a k
  have h2 := (tcarry_bound hq a u hu k).2
  refine ⟨(tcarry_bound hq a u hu _).2, ?_⟩
  have h3 : dig q a k * u ≤ (q - 1) * u := Int.mul_le_mul_of_nonneg_right (by omega) hu
  have h4 : q * u < q * q := Int.mul_lt_mul_of_pos_left huq hq
  rw [Int.sub_mul] at h3
  omega

/-! ### lists of digits -/
def digs (q z : Int) (n : Nat) : List Int := (List.range n).map (dig q z)
theorem digs_length (q z : Int) (n : Nat) : (digs q z n).length = n := by simp [digs]
theorem digs_get (q z : Int) {n i : Nat} (h : i < n) : (digs q z n)[i]? = some (dig q z i) := by simp [digs, h]
/-- The first k digits are y's, those behind them x's. -/
def mix (q y x : Int) (n k : Nat) : List Int := (List.range n).map fun i => if i < k then dig q y i else dig q x i
theorem mix_length (q y x : Int) (n k : Nat) : (mix q y x n k).length = n := by simp [mix]
theorem mix_zero (q y x : Int) (n : Nat) : mix q y x n 0 = digs q x n := by simp [mix, digs]
theorem mix_full (q y x : Int) (n : Nat) : mix q y x n n = digs q y n := by
  unfold mix digs
  apply List.map_congr_left
  intro i hi
  rw [if_pos (by simpa using hi)]
theorem mix_get (q y x : Int) {n k : Nat} (h : k < n) : (mix q y x n k)[k]? = some (dig q x k) := by simp [mix, h]
theorem mix_set (q y x : Int) {n k : Nat} (h : k < n) : (mix q y x n k).set k (dig q y k) = mix q y x n (k + 1) := by
  apply List.ext_getElem?
  intro i
  rw [List.getElem?_set]
  unfold mix
  by_cases hi : k = i
  · subst hi; simp [h]
  · rw [if_neg hi]
    by_cases hn : i < n
    · simp only [List.getElem?_map, List.getElem?_range hn, Option.map_some]
      congr 1
      by_cases h1 : i < k
      · rw [if_pos h1, if_pos (by omega)]
      · rw [if_neg h1, if_neg (by omega)]
    · rw [List.getElem?_eq_none (by simp; omega), List.getElem?_eq_none (by simp; omega)]

/-! ### the number of digits -/
def val (q : Int) : List Int → Int
  | [] => 0
  | x :: l => x + q * val q l
theorem dig_zero (q z : Int) : dig q z 0 = z % q := by simp [dig]
theorem dig_succ {q : Int} (hq : 0 < q) (z : Int) (k : Nat) : dig q z (k + 1) = dig q (z / q) k := by
  unfold dig
  rw [Int.pow_succ, Int.mul_comm, div_mul hq]
theorem digs_cons {q : Int} (hq : 0 < q) (z : Int) (n : Nat) : digs q z (n + 1) = z % q :: digs q (z / q) n := by
  unfold digs
  rw [List.range_succ_eq_map, List.map_cons, dig_zero, List.map_map]
  congr 1
  apply List.map_congr_left
  intro i _
  exact dig_succ hq z i
theorem digs_val {q : Int} (hq : 0 < q) : ∀ (l : List Int), (∀ x ∈ l, 0 ≤ x ∧ x < q) → digs q (val q l) l.length = l
  | [], _ => rfl
  | x :: l, h => by
    have hx := h x (by simp)
    rw [List.length_cons, digs_cons hq]
    show (x + q * val q l) % q :: digs q ((x + q * val q l) / q) l.length = _
    rw [Int.add_mul_emod_self_left, Int.emod_eq_of_lt hx.1 hx.2, Int.add_mul_ediv_left _ _ (by omega), Int.ediv_eq_zero_of_lt hx.1 hx.2, Int.zero_add, digs_val hq l (fun y hy => h y (by simp [hy]))]
theorem val_range {q : Int} (hq : 0 < q) : ∀ (l : List Int), (∀ x ∈ l, 0 ≤ x ∧ x < q) → 0 ≤ val q l ∧ val q l < q ^ l.length
  | [], _ => by simp [val]
  | x :: l, h => by
    have hx := h x (by simp)
    have ih := val_range hq l (fun y hy => h y (by simp [hy]))
    show 0 ≤ x + q * val q l ∧ x + q * val q l < q ^ (l.length + 1)
    rw [Int.pow_succ, Int.mul_comm _ q]
    have h1 := Int.mul_nonneg (Int.le_of_lt hq) ih.1
    have h2 : q * (val q l + 1) ≤ q * q ^ l.length := Int.mul_le_mul_of_nonneg_left (by omega) (Int.le_of_lt hq)
    rw [Int.mul_add] at h2
    omega
/-- Digits below n hang on the number modulo q^n. -/
theorem dig_mod {q : Int} (hq : 0 < q) (z : Int) {n k : Nat} (h : k < n) (x : Int) : dig q (z + q ^ n * x) k = dig q z k := by
  obtain ⟨m, rfl⟩ : ∃ m, n = k + 1 + m := ⟨n - k - 1, by omega⟩
  unfold dig
  have hP := pow_pos' hq k
  have e : z + q ^ (k + 1 + m) * x = z + q ^ k * (q * (q ^ m * x)) := by
    rw [Int.pow_add, Int.pow_succ]; simp only [Int.mul_assoc]
  rw [e, Int.add_mul_ediv_left _ _ (by omega), Int.add_mul_emod_self_left]
theorem digs_mod {q : Int} (hq : 0 < q) (z : Int) (n : Nat) (x : Int) : digs q (z + q ^ n * x) n = digs q z n := by
  unfold digs
  apply List.map_congr_left
  intro i hi
  exact dig_mod hq z (by simpa using hi) x
theorem digs_inj {q : Int} (hq : 0 < q) (a b : Int) (n : Nat) (h : digs q a n = digs q b n) : a % q ^ n = b % q ^ n := by
  induction n with
  | zero => simp [Int.emod_one]
  | succ n ih =>
    rw [mod_succ hq, mod_succ hq]
    have h1 : dig q a n = dig q b n := by
      have := congrArg (fun l => l[n]?) h
      simpa [digs] using this
    have h2 : digs q a n = digs q b n := by
      have := congrArg (fun l => l.take n) h
      simpa [digs, ← List.map_take, List.take_range] using this
    rw [ih h2, h1]
/-- 2^383. -/
def half : Int := 9223372036854775808 * 18446744073709551616 ^ 5
/-- Six words are those of a number, with its sign. -/
theorem words_are (zs : List Int) (h : zs.length = 6) (hb : ∀ x ∈ zs, 0 ≤ x ∧ x ≤ 18446744073709551615) :
    ∃ y : Int, zs = digs 18446744073709551616 y 6 ∧ -half ≤ y ∧ y < half := by
  have hb' : ∀ x ∈ zs, 0 ≤ x ∧ x < 18446744073709551616 := fun x hx => by have := hb x hx; omega
  have h1 := digs_val (q := 18446744073709551616) (by decide) zs hb'
  have h2 := val_range (q := 18446744073709551616) (by decide) zs hb'
  rw [h] at h1 h2
  have e : (18446744073709551616 : Int) ^ 6 = half + half := by decide
  have hp : (0 : Int) < half := by decide
  generalize val 18446744073709551616 zs = v at *
  generalize half = h3 at *
  by_cases hv : v < h3
  · exact ⟨v, h1.symm, by omega, hv⟩
  · refine ⟨v - 18446744073709551616 ^ 6, ?_, by omega, by omega⟩
    have := digs_mod (q := 18446744073709551616) (by decide) v 6 (-1)
    rw [Int.mul_neg, Int.mul_one] at this
    rw [Int.sub_eq_add_neg, this, h1]
end Go.Proofs.YtbbldcbilnkkdaaDoor.Num
