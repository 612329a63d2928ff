/-
  A float32 alone is rounded to itself. No condition.
-/
import Derived.Test.YtbbldcbilnkkdaaDoorEnds
set_option linter.unusedVariables false
set_option linter.unusedSimpArgs false
namespace Go.Proofs.YtbbldcbilnkkdaaDoor.Mono
open Num Tly Reck

theorem kk_mv {b : Int} (h : 0 ≤ b) : kk (mv b) = b := by
  have hq := mv_nonneg h
  have h1 := kk_le hq
  have h2 := kk_nonneg hq
  rcases Int.lt_trichotomy (kk (mv b)) b with h3 | h3 | h3
  · have := mv_mono (b := kk (mv b) + 1) (c := b) (by omega) (by omega); omega
  · exact h3
  · have := mv_strict h h3; omega
theorem round_own (u mode : Int) (h0 : 0 ≤ u) (h1 : u < 4294967296) (hf : u / 8388608 % 256 ≠ 255) (m0 : 0 ≤ mode) (m1 : mode < 4) :
    overR (flt u) 1 mode = (if u = 2147483648 then 0 else u, 0) ∧ -half ≤ flt u ∧ flt u < half := by
  obtain ⟨a, b, hb0, hb1, hu⟩ : ∃ (a : Bool) (b : Int), 0 ≤ b ∧ b < 2139095040 ∧ u = b + sgb a := by
    by_cases h : u < 2147483648
    · exact ⟨false, u, h0, by omega, by simp [sgb]⟩
    · exact ⟨true, u - 2147483648, by omega, by omega, by simp [sgb]⟩
  have hz : flt u = sv a b := by rw [hu]; exact sv_is a hb0 hb1
  have hfar := far (neg := a) hb0 hb1 (n := 1) (by decide) (by decide)
  rw [Int.mul_one] at hfar
  refine ⟨?_, by rw [hz]; exact hfar.1, by rw [hz]; exact hfar.2⟩
  rw [hz, overR_bits _ 1 mode (by decide) m0 m1, Int.ediv_one, Int.emod_one]
  have hm : mag (sv a b) = mv b := by
    have := mv_nonneg hb0
    unfold mag sv
    cases a
    · simp only [Bool.false_eq_true, if_false]; rw [if_neg (by omega)]
    · simp only [if_true]; split <;> omega
  have hbb : ∀ n, bb n (mv b) false false mode = b := by
    intro n
    unfold bb
    rw [up_ex n (mv b) false false mode ((ex_iff false false (mv_nonneg hb0)).mpr ⟨by rw [kk_mv hb0], rfl, rfl⟩), kk_mv hb0]
    simp [bi]
  have e1 : decide ((1 : Int) ≤ 2 * 0) = false := by decide
  have e2 : decide ((0 : Int) ≠ 0 ∧ 2 * 0 ≠ (1 : Int)) = false := by decide
  rw [hm, e1, e2, hbb, bits1_is hb1]
  by_cases hb : b = 0
  · subst hb
    have : sv a 0 = 0 := by unfold sv; rw [mv_zero]; cases a <;> rfl
    rw [this]
    cases a
    · subst hu; rfl
    · subst hu; rfl
  · have hp := mv_pos (b := b) (by omega)
    have hd : decide (sv a b < 0) = a := by
      unfold sv
      cases a
      · simp only [Bool.false_eq_true, if_false, decide_eq_false_iff_not]; omega
      · simp only [if_true, decide_eq_true_eq]; omega
    rw [hd, ← hu, if_neg (by intro h; rw [h] at hu; unfold sgb at hu; cases a <;> simp at hu <;> omega)]
end Go.Proofs.YtbbldcbilnkkdaaDoor.Mono
