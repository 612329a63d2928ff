/-
  Float32s by their bits: how two compare; and what the four ways of rounding make of one sum's n-th part. No condition.
-/
import Derived.Test.YtbbldcbilnkkdaaDoorMono
import Derived.Test.YtbbldcbilnkkdaaDoorOverP
set_option linter.unusedVariables false
set_option linter.unusedSimpArgs false
namespace Go.Proofs.YtbbldcbilnkkdaaDoor.Mono
open Num Tly Reck Ieee

def sv (neg : Bool) (b : Int) : Int := if neg then -(mv b) else mv b
theorem signed_scale (a : Bool) (m e k : Nat) (h : k ≤ e) : signed a m e = signed a m (e - k) * 2 ^ k := by
  have : (m <<< e : Nat) = (m <<< (e - k)) * 2 ^ k := by
    rw [Nat.shiftLeft_eq, Nat.shiftLeft_eq, Nat.mul_assoc, ← Nat.pow_add, Nat.sub_add_cancel h]
  unfold signed
  rw [this]
  cases a
  · simp
  · simp [Int.neg_mul]
theorem compare_scale (x y : Int) (k : Nat) : Ord.compare (x * 2 ^ k) (y * 2 ^ k) = Ord.compare x y := by
  have hP : (0 : Int) < 2 ^ k := pow_pos' two_pos k
  rcases Int.lt_trichotomy x y with h | h | h
  · rw [Int.compare_eq_lt.mpr h, Int.compare_eq_lt.mpr (Int.mul_lt_mul_of_pos_right h hP)]
  · subst h
    rw [Int.compare_eq_eq.mpr rfl, Int.compare_eq_eq.mpr rfl]
  · rw [Int.compare_eq_gt.mpr h, Int.compare_eq_gt.mpr (Int.mul_lt_mul_of_pos_right h hP)]
theorem read_bits (a : Bool) {b : Int} (h0 : 0 ≤ b) (h1 : b < 2139095040) : ∃ m e : Nat, single.read (b + sgb a).toNat = .number a m (-149 + (e : Int)) ∧ sv a b = signed a m e := by
  have hs : single.signWeight = 2147483648 := by decide
  have hb : single.binade = 8388608 := by decide
  have hi : single.infRung = 2139095040 := by decide
  have hl : single.leastPlace = -149 := by decide
  obtain ⟨n, rfl⟩ := Int.eq_ofNat_of_zero_le h0
  have e1 : ((n : Int) + sgb a).toNat % 2147483648 = n := by unfold sgb; cases a <;> simp <;> omega
  have e2 : (((n : Int) + sgb a).toNat / 2147483648 % 2 == 1) = a := by
    cases a
    · rw [show ((n : Int) + sgb false).toNat / 2147483648 % 2 = 0 by simp [sgb]; omega]; rfl
    · rw [show ((n : Int) + sgb true).toNat / 2147483648 % 2 = 1 by simp [sgb]; omega]; rfl
  unfold Format.read
  rw [hs, hb, hi, hl]
  simp only [e1, e2]
  by_cases h2 : n < 8388608
  · refine ⟨n, 0, ?_, ?_⟩
    · rw [if_pos h2]; rfl
    · unfold sv mv signed
      rw [if_pos (show (n : Int) < 8388608 by omega)]
      cases a <;> simp
  · refine ⟨8388608 + n % 8388608, n / 8388608 - 1, ?_, ?_⟩
    · rw [if_neg h2, if_pos (by omega)]
    · have : mv (n : Int) = (((8388608 + n % 8388608) <<< (n / 8388608 - 1) : Nat) : Int) := by
        unfold mv
        rw [if_neg (by omega), show ((n : Int) / 8388608).toNat = n / 8388608 by omega, Nat.shiftLeft_eq]
        rw [Int.natCast_mul, Int.natCast_add, Int.natCast_pow, Int.natCast_emod, Int.add_comm]
        rfl
      unfold sv signed
      rw [this]
theorem order_bits (a b : Bool) {x y : Int} (x0 : 0 ≤ x) (x1 : x < 2139095040) (y0 : 0 ≤ y) (y1 : y < 2139095040) :
    FloatKind.f32.format.order (x + sgb a).toNat (y + sgb b).toNat = some (Ord.compare (sv a x) (sv b y)) := by
  show (single.read _).order (single.read _) = _
  obtain ⟨m, e, r1, s1⟩ := read_bits a x0 x1
  obtain ⟨n, f, r2, s2⟩ := read_bits b y0 y1
  rw [r1, r2]
  show some (Ord.compare (signed a m ((-149 + (e : Int)) - min (-149 + (e : Int)) (-149 + (f : Int))).toNat) (signed b n ((-149 + (f : Int)) - min (-149 + (e : Int)) (-149 + (f : Int))).toNat)) = _
  congr 1
  rw [show ((-149 + (e : Int)) - min (-149 + (e : Int)) (-149 + (f : Int))).toNat = e - min e f by omega, show ((-149 + (f : Int)) - min (-149 + (e : Int)) (-149 + (f : Int))).toNat = f - min e f by omega]
  rw [s1, s2, signed_scale a m e (min e f) (Nat.min_le_left _ _), signed_scale b n f (min e f) (Nat.min_le_right _ _), compare_scale]
theorem order_same (a : Bool) {x : Int} (x0 : 0 ≤ x) (x1 : x < 2139095040) : FloatKind.f32.format.order (x + sgb a).toNat (x + sgb a).toNat = some .eq := by
  rw [order_bits a a x0 x1 x0 x1, Int.compare_eq_eq.mpr rfl]
theorem order_next (a b c : Bool) {x : Int} (hb : (b == c) = false) (x0 : 0 ≤ x) (x1 : x + 1 < 2139095040) : (FloatKind.f32.format.order (x + bi b + sgb a).toNat (x + bi c + sgb a).toNat == some .eq) = false := by
  have hs := mv_strict (b := x) (c := x + 1) x0 (by omega)
  have h01 := bi_01 b
  have h02 := bi_01 c
  rw [order_bits a a (by omega) (by omega) (by omega) (by omega)]
  have : sv a (x + bi b) ≠ sv a (x + bi c) := by
    intro e
    have : mv (x + bi b) = mv (x + bi c) := by unfold sv at e; cases a <;> simp at e <;> omega
    have := mv_inj (by omega) (by omega) this
    cases b <;> cases c <;> simp [bi] at hb this <;> omega
  rcases Int.lt_or_gt_of_ne this with h | h
  · rw [Int.compare_eq_lt.mpr h]; rfl
  · rw [Int.compare_eq_gt.mpr h]; rfl
theorem overR_bits (z n mode : Int) (hn : 0 < n) (m0 : 0 ≤ mode) (m1 : mode < 4) :
    overR z n mode = bits1 (decide (z < 0)) (bb (decide (z < 0)) (mag z / n) (decide (n ≤ 2 * (mag z % n))) (decide (mag z % n ≠ 0 ∧ 2 * (mag z % n) ≠ n)) mode) := by
  unfold overR
  rw [if_neg (by omega)]
  by_cases hz : z = 0
  · subst hz
    rw [if_pos rfl, show mag 0 = 0 from rfl, Int.zero_ediv, Int.zero_emod, show decide (n ≤ 2 * 0) = false by simp; omega, show decide ((0 : Int) ≠ 0 ∧ 2 * 0 ≠ n) = false by simp]
    unfold bb
    have hk : kk 0 = 0 := by decide
    rw [up_ex _ 0 false false mode (by decide), hk]
    rfl
  · rw [if_neg hz]
    exact packR_bits _ _ _ _ (Int.ediv_nonneg (by unfold mag; split <;> omega) (by omega))
theorem mul_low {m Q n : Int} (hn : 0 < n) (h : m ≤ Q) : m * n ≤ Q * n := Int.mul_le_mul_of_nonneg_right h (by omega)
/-- The four ways of rounding the n-th part. -/
theorem facts (z n : Int) (hn : 0 < n) : ∃ (neg : Bool) (k : Int) (e u : Bool), 0 ≤ k ∧ (e = true → u = false) ∧
    overR z n 0 = bits1 neg (k + bi u) ∧ overR z n 1 = bits1 neg k ∧ overR z n 2 = bits1 neg (k + bi (neg && !e)) ∧ overR z n 3 = bits1 neg (k + bi (!neg && !e)) ∧
    (e = true → sv neg k * n = z) ∧ (e = false → sv neg (k + bi neg) * n < z ∧ z < sv neg (k + bi (!neg)) * n) := by
  have hm : 0 ≤ mag z := by unfold mag; split <;> omega
  have hQ : 0 ≤ mag z / n := Int.ediv_nonneg hm (by omega)
  have hk := kk_le hQ
  have hx := ex_iff (decide (n ≤ 2 * (mag z % n))) (decide (mag z % n ≠ 0 ∧ 2 * (mag z % n) ≠ n)) hQ
  have r0 := Int.emod_nonneg (mag z) (show n ≠ 0 by omega)
  have r1 := Int.emod_lt_of_pos (mag z) hn
  have hd := Int.mul_ediv_add_emod (mag z) n
  refine ⟨decide (z < 0), kk (mag z / n), ex (mag z / n) (decide (n ≤ 2 * (mag z % n))) (decide (mag z % n ≠ 0 ∧ 2 * (mag z % n) ≠ n)), upR (decide (z < 0)) (mag z / n) (decide (n ≤ 2 * (mag z % n))) (decide (mag z % n ≠ 0 ∧ 2 * (mag z % n) ≠ n)) 0, kk_nonneg hQ, fun he => up_ex _ _ _ _ _ he, ?_, ?_, ?_, ?_, ?_, ?_⟩
  · rw [overR_bits z n 0 hn (by decide) (by decide)]; rfl
  · rw [overR_bits z n 1 hn (by decide) (by decide)]; unfold bb; rw [up_zero]; simp [bi]
  · rw [overR_bits z n 2 hn (by decide) (by decide)]; unfold bb; rw [up_down]
  · rw [overR_bits z n 3 hn (by decide) (by decide)]; unfold bb; rw [up_up]
  · intro he
    obtain ⟨a1, a2, a3⟩ := hx.mp he
    simp at a2 a3
    have hr : mag z % n = 0 := by omega
    rw [hr, Int.add_zero, Int.mul_comm] at hd
    unfold sv
    rw [a1]
    unfold mag at hd
    by_cases hz : z < 0
    · simp only [hz, decide_true, if_true] at hd ⊢
      unfold mag
      rw [if_pos hz, Int.neg_mul, hd]; omega
    · simp only [hz, decide_false, if_false, Bool.false_eq_true] at hd ⊢
      unfold mag
      rw [if_neg hz, hd]
  · intro he
    have hlt : mv (kk (mag z / n)) * n < mag z := by
      have h1 := mul_low hn hk.1
      rw [Int.mul_comm n] at hd
      rcases Int.lt_or_eq_of_le h1 with h2 | h2
      · omega
      · have h3 : mv (kk (mag z / n)) = mag z / n := Int.eq_of_mul_eq_mul_right (by omega) h2
        have h4 : mag z % n ≠ 0 := by
          intro h5
          have := hx.mpr ⟨h3, by rw [h5]; simp; omega, by rw [h5]; simp⟩
          rw [this] at he; exact absurd he (by decide)
        omega
    have hgt : mag z < mv (kk (mag z / n) + 1) * n := by
      have h1 := mul_low hn (show mag z / n + 1 ≤ mv (kk (mag z / n) + 1) by have := hk.2; omega)
      rw [Int.add_mul, Int.one_mul] at h1
      rw [Int.mul_comm n] at hd
      omega
    generalize kk (mag z / n) = k at *
    unfold sv
    by_cases hz : z < 0
    · have : mag z = -z := if_pos hz
      simp only [hz, decide_true, if_true, bi, Bool.not_true, Bool.false_eq_true, if_false, Int.add_zero, Int.neg_mul]
      omega
    · have : mag z = z := if_neg hz
      simp only [hz, decide_false, if_true, bi, Bool.not_false, Bool.false_eq_true, if_false, Int.add_zero]
      omega
/-- Of two sums the lesser is rounded to no greater number. -/
theorem not_gt (a b mode : Int) (m0 : 0 ≤ mode) (m1 : mode < 4) (h : a ≤ b) (ha : (overR a 1 mode).2 = 0) (hb : (overR b 1 mode).2 = 0) :
    (FloatKind.f32.format.order (overR a 1 mode).1.toNat (overR b 1 mode).1.toNat == some .gt) = false := by
  have key : ∀ z, overR z 1 mode = bits1 (decide (z < 0)) (bb (decide (z < 0)) (mag z) false false mode) := by
    intro z
    rw [overR_bits z 1 mode (by decide) m0 m1, Int.ediv_one, Int.emod_one]
    rfl
  have hm : ∀ z, 0 ≤ mag z := by intro z; unfold mag; split <;> omega
  have hb0 : ∀ z n, 0 ≤ bb n (mag z) false false mode := by
    intro z n
    have := kk_nonneg (hm z)
    have := bi_01 (upR n (mag z) false false mode)
    unfold bb
    omega
  have hlt : ∀ z, (overR z 1 mode).2 = 0 → bb (decide (z < 0)) (mag z) false false mode < 2139095040 ∧ (overR z 1 mode).1 = bb (decide (z < 0)) (mag z) false false mode + sgb (decide (z < 0)) := by
    intro z hz
    rw [key z] at hz ⊢
    unfold bits1 at hz ⊢
    split at hz
    · exact absurd hz (by decide)
    · next h2 => rw [if_neg h2]; exact ⟨by omega, rfl⟩
  obtain ⟨a1, a2⟩ := hlt a ha
  obtain ⟨b1, b2⟩ := hlt b hb
  rw [a2, b2, order_bits _ _ (hb0 _ _) a1 (hb0 _ _) b1]
  have hle : sv (decide (a < 0)) (bb (decide (a < 0)) (mag a) false false mode) ≤ sv (decide (b < 0)) (bb (decide (b < 0)) (mag b) false false mode) := by
    have p1 := mv_nonneg (hb0 a (decide (a < 0)))
    have p2 := mv_nonneg (hb0 b (decide (b < 0)))
    by_cases h1 : a < 0
    · by_cases h2 : b < 0
      · have hab : mag b ≤ mag a := by unfold mag; rw [if_pos h1, if_pos h2]; omega
        have := mv_mono (hb0 b true) (bb_mono true mode m0 m1 (hm b) hab)
        simp only [h1, h2, decide_true, sv, if_true]
        omega
      · simp only [h1, h2, decide_true, decide_false, sv, if_true, Bool.false_eq_true, if_false] at p1 p2 ⊢
        omega
    · have h2 : ¬ b < 0 := by omega
      have hab : mag a ≤ mag b := by unfold mag; rw [if_neg h1, if_neg h2]; omega
      have := mv_mono (hb0 a false) (bb_mono false mode m0 m1 (hm a) hab)
      simp only [h1, h2, decide_false, sv, Bool.false_eq_true, if_false]
      exact this
  rcases Int.lt_or_eq_of_le hle with h3 | h3
  · rw [Int.compare_eq_lt.mpr h3]; rfl
  · rw [Int.compare_eq_eq.mpr h3]; rfl
end Go.Proofs.YtbbldcbilnkkdaaDoor.Mono
