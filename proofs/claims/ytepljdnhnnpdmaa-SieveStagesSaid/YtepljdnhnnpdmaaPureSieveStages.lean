/-
  SieveStages: how many stages of a shuffle: the program's answer is the document's, for every number of parts and every fan. No condition.
-/
import Derived.Test.YtepljdnhnnpdmaaPSieveStagesx1
namespace Go.Proofs.Ytepljdnhnnpdmaa.Pure
open Go.RowKit Go.Proofs.Ytepljdnhnnpdmaa.PSieveStages Go.Proofs.YtepljdnhnnpdmaaW.PrintWords Go.Proofs.YtepljdnhnnpdmaaW.PrintLast

theorem same (a b : Int) : ∀ (k : Nat) (x y : Int), sieve_Stages.l0 k a b x y = sluiceref09_Stages.l0 k a b x y
  | 0, _, _ => rfl
  | k + 1, x, y => by
    simp only [sieve_Stages.l0, sluiceref09_Stages.l0]
    rw [same a b k]

theorem ends (a b : Int) (ha : a ≤ 512) (hb : 2 ≤ b) (hb' : b ≤ 256) : ∀ (d k : Nat) (x y : Int), 1 ≤ y → 512 < y * 2 ^ d → d < k → ∃ r, sieve_Stages.l0 k a b x y = some (r, 0)
  | d, 0, _, _, _, _, h => absurd h (Nat.not_lt_zero _)
  | d, k + 1, x, y, hy, hd, hk => by
    by_cases h : y < a
    · cases d with
      | zero => simp at hd; omega
      | succ d =>
        have h1 : y * 2 ≤ y * b := Int.mul_le_mul_of_nonneg_left hb (by omega)
        have h2 : y * b ≤ y * 256 := Int.mul_le_mul_of_nonneg_left hb' (by omega)
        have hw : wrap64 (y * b) = y * b := by unfold wrap64; omega
        obtain ⟨r, hr⟩ := ends a b ha hb hb' d k (wrap64 (x + 1)) (y * b) (by omega) (by
          have h3 : y * 2 * 2 ^ d ≤ y * b * 2 ^ d := Int.mul_le_mul_of_nonneg_right h1 (Int.pow_nonneg (by omega))
          rw [Int.pow_succ, ← Int.mul_assoc, Int.mul_right_comm] at hd
          omega) (by omega)
        exact ⟨r, by simp only [sieve_Stages.l0]; rw [if_pos h, hw]; exact hr⟩
    · exact ⟨x, by simp only [sieve_Stages.l0]; rw [if_neg h]⟩

theorem SieveStages : sluicelaw09_SieveStages.Pure := by
  intro a b _ _
  refine ⟨40, ?_⟩
  unfold sluicelaw09_SieveStages.f sieve_Stages.f sieve_fanned.f sluiceref09_Stages.f sluicelaw09_num.f
  by_cases h1 : a < 1
  · simp [h1, sieve_fanned.j0, sluiceref09_Stages.j0]
  · by_cases h2 : a > 512
    · simp [h1, h2, sieve_fanned.j0, sluiceref09_Stages.j0]
    · by_cases h3 : b < 2
      · simp [h1, h2, h3, sieve_fanned.j0, sluiceref09_Stages.j0, sluiceref09_Stages.j1]
      · by_cases h4 : b > 256
        · simp [h1, h2, h3, h4, sieve_fanned.j0, sluiceref09_Stages.j0, sluiceref09_Stages.j1]
        · obtain ⟨r, hr⟩ := ends a b (by omega) (by omega) (by omega) 20 38 0 1 (by omega) (by decide) (by omega)
          have hr' : sieve_Stages.l0 40 a b 0 1 = some (r, 0) := sieve_Stages.mono_l 39 _ _ _ _ _ (sieve_Stages.mono_l 38 _ _ _ _ _ hr)
          have h5 : sluiceref09_Stages.l0 38 a b 0 1 = some (r, 0) := (same a b 38 0 1) ▸ hr
          simp [h1, h2, h3, h4, sieve_fanned.j0, sluiceref09_Stages.j0, sluiceref09_Stages.j1, hr', h5]

end Go.Proofs.Ytepljdnhnnpdmaa.Pure
