/-
  What rounding to a float32 makes, told by the number of the float32 among all: the plain law behind the laws on rounding. No condition.
-/
import Derived.Test.YtbbldcbilnkkdaaDoorPackV
import Derived.Test.YtbbldcbilnkkdaaDoorSum3
set_option linter.unusedVariables false
set_option linter.unusedSimpArgs false
namespace Go.Proofs.YtbbldcbilnkkdaaDoor.Mono
open Num Tly

/-- The value of the bits of a number without a sign. -/
def mv (b : Int) : Int := if b < 8388608 then b else (b % 8388608 + 8388608) * 2 ^ ((b / 8388608).toNat - 1)
def ulp (b : Int) : Int := 2 ^ ((b / 8388608).toNat - 1)
def mb (s : Int) (d : Nat) : Int := if 8388608 ≤ s then ((d : Int) + 1) * 8388608 + (s - 8388608) else s
def bits1 (neg : Bool) (b : Int) : Int × Int := if 2139095040 ≤ b then (0, 20) else (b + sgb neg, 0)
def bi (b : Bool) : Int := if b then 1 else 0
theorem fin2_mb {neg : Bool} {s : Int} {d : Nat} (h0 : 0 ≤ s) (h1 : s < 16777216) : fin2 neg s d = bits1 neg (mb s d) := by
  unfold fin2 bits1 mb
  split
  · next h =>
    by_cases h2 : 254 < d + 1
    · rw [if_pos h2, if_pos (by omega)]
    · rw [if_neg h2, if_neg (by omega)]
  · rw [if_neg (by omega)]
theorem ps_low {Q : Int} (h : 0 ≤ Q) (hs : ps Q < 8388608) : pd Q = 0 := by
  rcases Nat.eq_zero_or_pos (pd Q) with h0 | h0
  · exact h0
  · exfalso
    have hb : bl Q = pd Q + 24 := by unfold pd at h0 ⊢; omega
    have hQ : 0 < Q := by
      rcases Int.lt_or_eq_of_le h with h1 | h1
      · exact h1
      · rw [← h1] at hb; rw [bl_zero] at hb; omega
    have h1 := bl_le hQ
    rw [hb, show pd Q + 24 - 1 = 23 + pd Q by omega, Int.pow_add] at h1
    have hP : (0 : Int) < 2 ^ pd Q := pow_pos' two_pos _
    have h2 : (2 : Int) ^ 23 ≤ ps Q := by
      unfold ps
      exact (Int.le_ediv_iff_mul_le hP).mpr h1
    have h3 : (2 : Int) ^ 23 = 8388608 := by decide
    omega
def kk (Q : Int) : Int := mb (ps Q) (pd Q)
def upR (neg : Bool) (Q : Int) (half rest : Bool) (mode : Int) : Bool := roundUp mode neg (decide (ps Q % 2 = 1)) (ph Q half) (pr Q half rest)
def bb (neg : Bool) (Q : Int) (half rest : Bool) (mode : Int) : Int := kk Q + bi (upR neg Q half rest mode)
theorem packR_bits (neg : Bool) {Q : Int} (half rest : Bool) (mode : Int) (h : 0 ≤ Q) : packR neg Q half rest mode = bits1 neg (bb neg Q half rest mode) := by
  unfold packR tail2 bb upR kk
  have hs := ps_bound h
  have hl := ps_low h
  generalize roundUp mode neg (decide (ps Q % 2 = 1)) (ph Q half) (pr Q half rest) = u
  generalize ps Q = s at hs hl ⊢
  generalize pd Q = d at hl ⊢
  cases u
  · simp only [Bool.false_eq_true, if_false, bi, Int.add_zero]
    exact fin2_mb hs.1 hs.2
  · simp only [if_true, bi]
    by_cases h1 : s + 1 = 16777216
    · rw [if_pos h1, fin2_mb (by omega) (by omega)]
      congr 1
      unfold mb
      rw [if_pos (by omega), if_pos (by omega)]
      omega
    · rw [if_neg h1, fin2_mb (by omega) (by omega)]
      congr 1
      unfold mb
      by_cases h2 : 8388608 ≤ s
      · rw [if_pos h2, if_pos (by omega)]; omega
      · have := hl (by omega)
        subst this
        rw [if_neg h2]
        split <;> omega
theorem ulp_pos (b : Int) : 0 < ulp b := pow_pos' two_pos _
theorem mv_succ {b : Int} (h : 0 ≤ b) : mv (b + 1) = mv b + ulp b := by
  unfold mv ulp
  by_cases h1 : b + 1 < 8388608
  · rw [if_pos h1, if_pos (by omega), show (b / 8388608).toNat - 1 = 0 by omega]; rfl
  · rw [if_neg h1]
    by_cases h2 : b < 8388608
    · have : b = 8388607 := by omega
      subst this
      rfl
    · rw [if_neg h2]
      obtain ⟨e, he⟩ : ∃ e : Nat, (b / 8388608).toNat = e + 1 := ⟨(b / 8388608).toNat - 1, by omega⟩
      by_cases h3 : b % 8388608 = 8388607
      · have e1 : ((b + 1) / 8388608).toNat = e + 2 := by omega
        rw [he, e1, show (b + 1) % 8388608 = 0 by omega, h3, show e + 2 - 1 = e + 1 by omega, show e + 1 - 1 = e by omega, Int.pow_succ]
        generalize (2 : Int) ^ e = P
        omega
      · have e1 : ((b + 1) / 8388608).toNat = e + 1 := by omega
        rw [he, e1, show (b + 1) % 8388608 = b % 8388608 + 1 by omega, show e + 1 - 1 = e by omega]
        generalize (2 : Int) ^ e = P
        rw [show b % 8388608 + 1 + 8388608 = (b % 8388608 + 8388608) + 1 by omega, Int.add_mul, Int.one_mul]
theorem mv_grow {b : Int} (h : 0 ≤ b) : ∀ n : Nat, mv b ≤ mv (b + n)
  | 0 => by simp
  | n + 1 => by
    have := mv_grow h n
    have h2 := mv_succ (b := b + n) (by omega)
    have h3 := ulp_pos (b + n)
    rw [show b + ((n + 1 : Nat) : Int) = b + n + 1 by omega]
    omega
theorem mv_mono {b c : Int} (h : 0 ≤ b) (hc : b ≤ c) : mv b ≤ mv c := by
  have := mv_grow h (c - b).toNat
  rwa [show b + ((c - b).toNat : Int) = c by omega] at this
theorem mv_strict {b c : Int} (h : 0 ≤ b) (hc : b < c) : mv b < mv c := by
  have h1 := mv_succ h
  have h2 := ulp_pos b
  have h3 := mv_mono (b := b + 1) (c := c) (by omega) (by omega)
  omega
theorem mv_zero : mv 0 = 0 := rfl
theorem mv_nonneg {b : Int} (h : 0 ≤ b) : 0 ≤ mv b := by have := mv_mono (b := 0) (c := b) (by omega) h; rw [mv_zero] at this; exact this
theorem mv_pos {b : Int} (h : 0 < b) : 0 < mv b := by have := mv_strict (b := 0) (c := b) (by omega) h; rw [mv_zero] at this; exact this
theorem mv_inj {b c : Int} (h : 0 ≤ b) (g : 0 ≤ c) (e : mv b = mv c) : b = c := by
  rcases Int.lt_trichotomy b c with h1 | h1 | h1
  · have := mv_strict h h1; omega
  · exact h1
  · have := mv_strict g h1; omega
theorem kk_nonneg {Q : Int} (h : 0 ≤ Q) : 0 ≤ kk Q := by have := ps_bound h; unfold kk mb; split <;> omega
theorem mv_kk {Q : Int} (h : 0 ≤ Q) : mv (kk Q) = ps Q * 2 ^ pd Q ∧ ulp (kk Q) = 2 ^ pd Q := by
  have hs := ps_bound h
  have hl := ps_low h
  unfold kk mb mv ulp
  generalize ps Q = s at hs hl ⊢
  generalize pd Q = d at hl ⊢
  by_cases h1 : 8388608 ≤ s
  · rw [if_pos h1, if_neg (by omega)]
    have e1 : ((((d : Int) + 1) * 8388608 + (s - 8388608)) / 8388608).toNat = d + 1 := by omega
    rw [e1, show (((d : Int) + 1) * 8388608 + (s - 8388608)) % 8388608 = s - 8388608 by omega]
    refine ⟨?_, rfl⟩
    rw [show s - 8388608 + 8388608 = s by omega]
    rfl
  · have := hl (by omega)
    subst this
    rw [if_neg h1, if_pos (by omega)]
    refine ⟨?_, ?_⟩
    · rw [Int.pow_zero, Int.mul_one]
    · rw [show (s / 8388608).toNat - 1 = 0 by omega]
theorem ps_split (Q : Int) : Q = ps Q * 2 ^ pd Q + Q % 2 ^ pd Q := by
  unfold ps
  have := Int.mul_ediv_add_emod Q (2 ^ pd Q)
  rw [Int.mul_comm] at this
  exact this.symm
theorem kk_le {Q : Int} (h : 0 ≤ Q) : mv (kk Q) ≤ Q ∧ Q < mv (kk Q + 1) := by
  have h1 := mv_kk h
  have h2 := mv_succ (kk_nonneg h)
  have h3 := ps_split Q
  have h4 := mod_two_pow Q (pd Q)
  rw [h2, h1.1, h1.2]
  omega
theorem kk_mono {Q R : Int} (h : 0 ≤ Q) (hr : Q ≤ R) : kk Q ≤ kk R := by
  by_cases h1 : kk R < kk Q
  · exfalso
    have h2 := mv_mono (b := kk R + 1) (c := kk Q) (by have := kk_nonneg (Q := R) (by omega); omega) (by omega)
    have h3 := kk_le h
    have h4 := kk_le (Q := R) (by omega)
    omega
  · omega
/-- Nothing is rounded away. -/
def ex (Q : Int) (half rest : Bool) : Bool := !(ph Q half || pr Q half rest)
theorem mod_last (Q : Int) {d : Nat} (h : 0 < d) : Q % 2 ^ d = Q % 2 ^ (d - 1) + 2 ^ (d - 1) * dig 2 Q (d - 1) := by
  obtain ⟨k, rfl⟩ : ∃ k, d = k + 1 := ⟨d - 1, by omega⟩
  exact mod_succ two_pos Q k
theorem ex_iff {Q : Int} (half rest : Bool) (h : 0 ≤ Q) : ex Q half rest = true ↔ mv (kk Q) = Q ∧ half = false ∧ rest = false := by
  have h1 := (mv_kk h).1
  have h2 := ps_split Q
  rw [h1]
  unfold ex ph pr
  by_cases hd : pd Q = 0
  · rw [if_pos hd, if_pos hd]
    have h3 : Q % 2 ^ pd Q = 0 := by rw [hd, Int.pow_zero]; exact Int.emod_one Q
    rw [h3, Int.add_zero] at h2
    rw [← h2]
    cases half <;> cases rest <;> simp
  · rw [if_neg hd, if_neg hd]
    have h3 := mod_last Q (d := pd Q) (by omega)
    have h4 := mod_two_pow Q (pd Q - 1)
    have h5 := dig_nonneg two_pos Q (pd Q - 1)
    have h6 := dig_lt two_pos Q (pd Q - 1)
    have h7 : (0 : Int) < 2 ^ (pd Q - 1) := pow_pos' two_pos _
    generalize (2 : Int) ^ (pd Q - 1) = P at *
    generalize dig 2 Q (pd Q - 1) = x at *
    have key : (ps Q * 2 ^ pd Q = Q) ↔ (x = 0 ∧ Q % P = 0) := by
      constructor
      · intro e
        rcases (show x = 0 ∨ x = 1 by omega) with hx | hx
        · subst hx; exact ⟨rfl, by omega⟩
        · subst hx; omega
      · rintro ⟨rfl, e⟩
        omega
    rw [key]
    cases half <;> cases rest <;> simp
    omega
theorem up_zero (neg : Bool) (Q : Int) (half rest : Bool) : upR neg Q half rest 1 = false := by unfold upR roundUp; simp
theorem up_down (neg : Bool) (Q : Int) (half rest : Bool) : upR neg Q half rest 2 = (neg && !ex Q half rest) := by unfold upR roundUp ex; simp
theorem up_up (neg : Bool) (Q : Int) (half rest : Bool) : upR neg Q half rest 3 = (!neg && !ex Q half rest) := by unfold upR roundUp ex; simp
/-- Where nothing is lost no mode rounds away from 0. -/
theorem up_ex (neg : Bool) (Q : Int) (half rest : Bool) (mode : Int) (h : ex Q half rest = true) : upR neg Q half rest mode = false := by
  unfold ex at h
  unfold upR roundUp
  generalize ph Q half = a at *
  generalize pr Q half rest = b at *
  cases a <;> cases b <;> simp at h ⊢
theorem bi_01 (u : Bool) : bi u = 0 ∨ bi u = 1 := by cases u <;> simp [bi]
/-- A greater number is rounded to no lesser one. -/
theorem bb_mono (neg : Bool) {Q R : Int} (mode : Int) (m0 : 0 ≤ mode) (m1 : mode < 4) (h : 0 ≤ Q) (hr : Q ≤ R) : bb neg Q false false mode ≤ bb neg R false false mode := by
  have h1 := kk_mono h hr
  unfold bb
  rcases Int.lt_or_eq_of_le h1 with h2 | h2
  · have := bi_01 (upR neg Q false false mode)
    have := bi_01 (upR neg R false false mode)
    omega
  · rw [h2]
    have hR : 0 ≤ R := by omega
    suffices hu : upR neg Q false false mode = true → upR neg R false false mode = true by
      cases hq : upR neg Q false false mode
      · have := bi_01 (upR neg R false false mode)
        simp [bi]
        omega
      · rw [hu hq]; omega
    intro hu
    have hex : ex Q false false = false := by
      cases he : ex Q false false
      · rfl
      · rw [up_ex neg Q false false mode he] at hu; exact absurd hu (by decide)
    have hne : mv (kk Q) ≠ Q := by
      intro e
      have := (ex_iff false false h).mpr ⟨e, rfl, rfl⟩
      rw [this] at hex; exact absurd hex (by decide)
    have hexR : ex R false false = false := by
      cases he : ex R false false
      · rfl
      · have := ((ex_iff false false hR).mp he).1
        have h3 := kk_le h
        rw [← h2] at this
        omega
    rcases (show mode = 0 ∨ mode = 1 ∨ mode = 2 ∨ mode = 3 by omega) with rfl | rfl | rfl | rfl
    · have hp : pd Q = pd R ∧ ps Q = ps R := by
        have a1 := mv_kk h
        have a2 := mv_kk hR
        rw [h2] at a1
        have e1 : (2 : Int) ^ pd Q = 2 ^ pd R := a1.2.symm.trans a2.2
        have e2 : pd Q = pd R := by
          rcases Nat.lt_trichotomy (pd Q) (pd R) with h3 | h3 | h3
          · exfalso
            have := pow_mono (q := 2) (m := pd Q + 1) (n := pd R) two_pos (by omega)
            rw [Int.pow_succ] at this
            have := pow_pos' two_pos (pd Q)
            omega
          · exact h3
          · exfalso
            have := pow_mono (q := 2) (m := pd R + 1) (n := pd Q) two_pos (by omega)
            rw [Int.pow_succ] at this
            have := pow_pos' two_pos (pd R)
            omega
        refine ⟨e2, ?_⟩
        have e3 := a1.1.symm.trans a2.1
        rw [e2] at e3
        exact Int.eq_of_mul_eq_mul_right (by have := pow_pos' two_pos (pd R); omega) e3
      have hs1 := ps_split Q
      have hs2 := ps_split R
      unfold upR roundUp at hu ⊢
      simp only [if_true] at hu ⊢
      unfold ph pr at hu ⊢
      rw [hp.1, hp.2] at hu hs1
      have hd : pd R ≠ 0 := by
        intro e
        rw [e] at hu
        simp at hu
      rw [if_neg hd, if_neg hd] at hu ⊢
      have l1 := mod_last Q (d := pd R) (by omega)
      have l2 := mod_last R (d := pd R) (by omega)
      have l3 := mod_two_pow Q (pd R - 1)
      have l4 := mod_two_pow R (pd R - 1)
      have l5 := dig_nonneg two_pos Q (pd R - 1)
      have l6 := dig_lt two_pos Q (pd R - 1)
      have l7 := dig_nonneg two_pos R (pd R - 1)
      have l8 := dig_lt two_pos R (pd R - 1)
      generalize (2 : Int) ^ (pd R - 1) = P at *
      generalize dig 2 Q (pd R - 1) = x at *
      generalize dig 2 R (pd R - 1) = y at *
      simp at hu ⊢
      obtain ⟨rfl, hu⟩ := hu
      have hy : y = 1 := by
        rcases (show y = 0 ∨ y = 1 by omega) with hy | hy
        · subst hy; omega
        · exact hy
      subst hy
      refine ⟨rfl, ?_⟩
      rcases hu with hu | hu
      · left; omega
      · right; exact hu
    · rw [up_zero] at hu; exact hu
    · rw [up_down, hexR]; rw [up_down, hex] at hu; exact hu
    · rw [up_up, hexR]; rw [up_up, hex] at hu; exact hu
/-- The bits that are made are the bits of this value. -/
theorem flt_bits (neg : Bool) {b : Int} (h0 : 0 ≤ b) (h1 : b < 2139095040) : flt (b + sgb neg) = (if neg then -(mv b) else mv b) ∧ (b + sgb neg) / 8388608 % 256 ≠ 255 ∧ 0 ≤ b + sgb neg ∧ b + sgb neg < 4294967296 := by
  have hm : mant (b + sgb neg) * 2 ^ shift (b + sgb neg) = mv b := by
    have e : (b + sgb neg) / 8388608 % 256 = b / 8388608 ∧ (b + sgb neg) % 8388608 = b % 8388608 := by unfold sgb; cases neg <;> simp <;> omega
    unfold mant shift mv
    rw [e.1, e.2]
    by_cases h2 : b < 8388608
    · rw [if_pos h2, if_pos (by omega), show (b / 8388608).toNat - 1 = 0 by omega, Int.pow_zero]; omega
    · rw [if_neg h2, if_neg (by omega)]
  refine ⟨?_, ?_, ?_, ?_⟩
  · unfold flt
    rw [hm]
    cases neg
    · rw [if_neg (by simp [sgb]; omega), if_neg (by decide)]
    · rw [if_pos (by simp [sgb]; omega), if_pos rfl]
  · unfold sgb; cases neg <;> simp <;> omega
  · unfold sgb; cases neg <;> simp <;> omega
  · unfold sgb; cases neg <;> simp <;> omega
end Go.Proofs.YtbbldcbilnkkdaaDoor.Mono
