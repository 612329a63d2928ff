/-
  The float32 below and above a sum's n-th part, and what the two other ways of rounding make: told at once, for the laws on rounding. No condition.
-/
import Derived.Test.YtbbldcbilnkkdaaDoorGrain
set_option linter.unusedVariables false
set_option linter.unusedSimpArgs false
namespace Go.Proofs.YtbbldcbilnkkdaaDoor.Mono
open Num Tly Reck

theorem mv_less {b : Int} (h0 : 0 ≤ b) (h1 : b < 2139095040) : mv b ≤ 242833605470105013216 * 2 ^ 210 := by
  have h := mv_mono h0 (show b ≤ 2139095039 by omega)
  have e : mv 2139095039 ≤ 242833605470105013216 * 2 ^ 210 := by decide +kernel
  exact Int.le_trans h e
theorem half_is : half = 2 ^ 382 * 2 := by decide +kernel
theorem sv_is (neg : Bool) {b : Int} (h0 : 0 ≤ b) (h1 : b < 2139095040) : flt (b + sgb neg) = sv neg b := (flt_bits neg h0 h1).1
theorem far {neg : Bool} {b n : Int} (h0 : 0 ≤ b) (h1 : b < 2139095040) (n0 : 0 ≤ n) (n1 : n ≤ 1099511627776) : -half ≤ sv neg b * n ∧ sv neg b * n < half := by
  have h2 := mv_less h0 h1
  have h3 := mv_nonneg h0
  have h4 : mv b * n ≤ 242833605470105013216 * 2 ^ 210 * 1099511627776 := Int.mul_le_mul h2 n1 n0 (by decide +kernel)
  have h5 : 0 ≤ mv b * n := Int.mul_nonneg h3 n0
  have h6 : 242833605470105013216 * 2 ^ 210 * 1099511627776 < half := by decide +kernel
  unfold sv
  cases neg
  · simp only [Bool.false_eq_true, if_false]; omega
  · simp only [if_true, Int.neg_mul]; omega
/-- What is known of a pair of float32s (their bits), of which the one is the n-th part rounded down and the other rounded up. -/
structure Ends (z n L H E Z : Int) : Prop where
  l : 0 ≤ L ∧ L < 4294967296 ∧ L / 8388608 % 256 ≠ 255
  h : 0 ≤ H ∧ H < 4294967296 ∧ H / 8388608 % 256 ≠ 255
  lf : -half ≤ flt L * n ∧ flt L * n < half
  hf : -half ≤ flt H * n ∧ flt H * n < half
  r : -2147483648 ≤ rk L + 1 ∧ rk L + 1 ≤ 2147483647
  ll : (FloatKind.f32.format.order L.toNat L.toNat == some .eq) = true
  hh : (FloatKind.f32.format.order H.toNat H.toNat == some .eq) = true
  lz : (FloatKind.f32.format.order L.toNat 0 == some .eq) = decide (flt L = 0)
  cases : (flt L * n = z ∧ H = L ∧ E = L ∧ Z = L) ∨
    (flt L * n < z ∧ z < flt H * n ∧ (FloatKind.f32.format.order L.toNat H.toNat == some .eq) = false ∧ (FloatKind.f32.format.order H.toNat L.toNat == some .eq) = false ∧
      L ≠ 2147483648 ∧ ofr (rk L + 1) = H ∧ (flt L = 0 → H = 1) ∧ (E = L ∨ E = H) ∧ (Z = L ∨ Z = H))
theorem bits1_ok {neg : Bool} {b : Int} (h : (bits1 neg b).2 = 0) : b < 2139095040 ∧ bits1 neg b = (b + sgb neg, 0) := by
  unfold bits1 at h ⊢
  split at h
  · exact absurd h (by decide)
  · next h2 => rw [if_neg h2]; exact ⟨by omega, rfl⟩
theorem bits1_is {neg : Bool} {b : Int} (h : b < 2139095040) : bits1 neg b = (b + sgb neg, 0) := if_neg (by omega)
theorem bits1_err (neg : Bool) (b : Int) : (bits1 neg b).2 = 0 ∨ (bits1 neg b).2 = 20 := by unfold bits1; split <;> simp
theorem err_is (z n mode : Int) (hn : 0 < n) (m0 : 0 ≤ mode) (m1 : mode < 4) : (overR z n mode).2 = 0 ∨ (overR z n mode).2 = 20 := by
  rw [overR_bits z n mode hn m0 m1]; exact bits1_err _ _
theorem ends (z n : Int) (hn : 0 < n) (n1 : n ≤ 1099511627776) (elo : (overR z n 2).2 = 0) (ehi : (overR z n 3).2 = 0) :
    ∃ L H E Z, overR z n 2 = (L, 0) ∧ overR z n 3 = (H, 0) ∧ overR z n 0 = (E, 0) ∧ overR z n 1 = (Z, 0) ∧ Ends z n L H E Z := by
  obtain ⟨neg, k, e, u, k0, hu, f0, f1, f2, f3, fe, fn⟩ := facts z n hn
  rw [f2] at elo
  rw [f3] at ehi
  obtain ⟨l1, l2⟩ := bits1_ok elo
  obtain ⟨h1, h2⟩ := bits1_ok ehi
  have hz : (0 : Int) = 0 + sgb false := rfl
  cases e with
  | true =>
    have hu' := hu rfl
    subst hu'
    simp only [Bool.not_true, Bool.and_false, bi, Bool.false_eq_true, if_false, Int.add_zero] at *
    have ff := flt_bits neg k0 l1
    have hs := sv_is neg k0 l1
    have hfar := far (neg := neg) k0 l1 (by omega) n1
    have hoo : (FloatKind.f32.format.order (k + sgb neg).toNat (k + sgb neg).toNat == some .eq) = true := by rw [order_same neg k0 l1]; rfl
    refine ⟨k + sgb neg, k + sgb neg, k + sgb neg, k + sgb neg, by rw [f2, l2], by rw [f3, h2], by rw [f0, l2], by rw [f1, l2], ?_⟩
    refine ⟨⟨ff.2.2.1, ff.2.2.2, ff.2.1⟩, ⟨ff.2.2.1, ff.2.2.2, ff.2.1⟩, by rw [hs]; exact hfar, by rw [hs]; exact hfar, ?_, hoo, hoo, ?_, Or.inl ⟨by rw [hs]; exact fe trivial, rfl, rfl, rfl⟩⟩
    · unfold rk sgb; cases neg <;> simp <;> split <;> omega
    · have h9 := order_bits neg false k0 l1 (y := 0) (by decide) (by decide)
      rw [show ((0 : Int) + sgb false).toNat = 0 from rfl, show sv false 0 = 0 from rfl] at h9
      rw [h9, hs]
      rcases Int.lt_trichotomy (sv neg k) 0 with h | h | h
      · rw [Int.compare_eq_lt.mpr h]; simp; omega
      · rw [Int.compare_eq_eq.mpr h]; simp [h]
      · rw [Int.compare_eq_gt.mpr h]; simp; omega
  | false =>
    have fn' := fn rfl
    have hk1 : k + 1 < 2139095040 := by cases neg <;> simp [bi] at l1 h1 <;> omega
    simp only [Bool.not_false, Bool.and_true] at *
    have nn := bi_01 neg
    have nm := bi_01 (!neg)
    have ul := bi_01 u
    have fl := flt_bits neg (b := k + bi neg) (by omega) (by omega)
    have fh := flt_bits neg (b := k + bi (!neg)) (by omega) (by omega)
    have sl := sv_is neg (b := k + bi neg) (by omega) (by omega)
    have sh := sv_is neg (b := k + bi (!neg)) (by omega) (by omega)
    have hol : (FloatKind.f32.format.order (k + bi neg + sgb neg).toNat (k + bi neg + sgb neg).toNat == some .eq) = true := by rw [order_same neg (by omega) (by omega)]; rfl
    have hoh : (FloatKind.f32.format.order (k + bi (!neg) + sgb neg).toNat (k + bi (!neg) + sgb neg).toNat == some .eq) = true := by rw [order_same neg (by omega) (by omega)]; rfl
    have o1 := order_next neg neg (!neg) (by cases neg <;> rfl) k0 hk1
    have o2 := order_next neg (!neg) neg (by cases neg <;> rfl) k0 hk1
    have mp := mv_pos (b := k + 1) (by omega)
    have mp0 := mv_nonneg k0
    refine ⟨k + bi neg + sgb neg, k + bi (!neg) + sgb neg, k + bi u + sgb neg, k + sgb neg, by rw [f2, l2], by rw [f3, h2], by rw [f0, bits1_is (by omega)], by rw [f1, bits1_is (by omega)], ?_⟩
    refine ⟨⟨fl.2.2.1, fl.2.2.2, fl.2.1⟩, ⟨fh.2.2.1, fh.2.2.2, fh.2.1⟩, by rw [sl]; exact far (by omega) (by omega) (by omega) n1, by rw [sh]; exact far (by omega) (by omega) (by omega) n1, ?_, hol, hoh, ?_, Or.inr ⟨by rw [sl]; exact fn'.1, by rw [sh]; exact fn'.2, o1, o2, ?_, ?_, ?_, ?_, ?_⟩⟩
    · unfold rk sgb bi; cases neg <;> simp <;> split <;> omega
    · have h9 := order_bits neg false (x := k + bi neg) (by omega) (by omega) (y := 0) (by decide) (by decide)
      rw [show ((0 : Int) + sgb false).toNat = 0 from rfl, show sv false 0 = 0 from rfl] at h9
      rw [h9, sl]
      rcases Int.lt_trichotomy (sv neg (k + bi neg)) 0 with h | h | h
      · rw [Int.compare_eq_lt.mpr h]; simp; omega
      · rw [Int.compare_eq_eq.mpr h]; simp [h]
      · rw [Int.compare_eq_gt.mpr h]; simp; omega
    · unfold sgb bi; cases neg <;> simp <;> omega
    · unfold ofr rk sgb bi; cases neg
      · simp; rw [if_neg (by omega), if_neg (by omega)]
      · simp; rw [if_pos (by omega)]; rw [if_pos (by omega)]; omega
    · rw [sl]
      cases neg
      · intro h
        have h' : mv k = 0 := by simpa [sv, bi] using h
        have : k = 0 := by
          by_cases hk : 0 < k
          · have := mv_pos hk; omega
          · omega
        subst this
        rfl
      · intro h
        have h' : mv (k + 1) = 0 := by simpa [sv, bi] using h
        omega
    · cases neg <;> cases u <;> simp [bi]
    · cases neg <;> simp [bi]
end Go.Proofs.YtbbldcbilnkkdaaDoor.Mono
