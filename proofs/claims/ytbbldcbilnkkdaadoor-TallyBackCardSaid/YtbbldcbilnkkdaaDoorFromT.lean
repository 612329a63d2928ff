/-
  FromText of the program: what every text is, told by plain functions. No condition.
-/
import Derived.Test.YtbbldcbilnkkdaaDoorScale
import Derived.Test.YtbbldcbilnkkdaaDoorReck7
set_option linter.unusedVariables false
set_option linter.unusedSimpArgs false
namespace Go.Proofs.YtbbldcbilnkkdaaDoor.Parse
open Go.RowKit Go.ChangeShapes Num Tly Ref K Reck Wide

/-- Does a greatness fit, by its sign? -/
def fitsT (n : Bool) (m : Int) : Bool := if n then decide (m ≤ half) else decide (m < half)
theorem two384 : (2 : Int) ^ 384 = half + half := by rw [show (384 : Nat) = 64 * 6 from rfl, ← pow64]; decide
theorem q6T : (18446744073709551616 : Int) ^ 6 = 2 ^ 384 := by rw [pow64]
theorem wv_modT (z x : Int) : wv (z + 2 ^ 384 * x) = wv z := by
  unfold wv
  rw [← q6T, digs_mod q_pos z 6 x]
theorem sig_isT (n : Bool) (m : Int) (h0 : 0 < m) (h1 : m < 2 ^ 384) : ∃ y, wv (sig n m) = wv y ∧ y ≠ 0 ∧ -half ≤ y ∧ y < half ∧ (decide (y < 0) == n) = fitsT n m ∧ (fitsT n m = true → y = sig n m) := by
  have hp : (0 : Int) < half := by decide
  rw [two384] at h1
  cases n
  · by_cases h : m < half
    · exact ⟨m, rfl, by omega, by omega, h, by rw [decide_eq_false (show ¬ m < 0 by omega)]; unfold fitsT; simp [h], fun _ => rfl⟩
    · refine ⟨m - (half + half), ?_, by omega, by omega, by omega, ?_, ?_⟩
      · have := wv_modT m (-1)
        rw [two384, Int.mul_neg, Int.mul_one] at this
        exact this.symm
      · rw [decide_eq_true (show m - (half + half) < 0 by omega)]; unfold fitsT; simp [h]
      · unfold fitsT; simp [h]
  · by_cases h : m ≤ half
    · refine ⟨-m, rfl, by omega, by omega, by omega, ?_, fun _ => rfl⟩
      rw [decide_eq_true (show -m < 0 by omega)]; unfold fitsT; simp [h]
    · refine ⟨-m + (half + half), ?_, by omega, by omega, by omega, ?_, ?_⟩
      · have := wv_modT (-m) 1
        rw [two384, Int.mul_one] at this
        exact this.symm
      · rw [decide_eq_false (show ¬ -m + (half + half) < 0 by omega)]; unfold fitsT; simp [h]
      · unfold fitsT; simp [h]
theorem fold_pos : ∀ (t : List UInt8) (n : Int), 0 < n → AllDig t → 0 < t.foldl (fun n c => 10 * n + ((c.toNat : Int) - 48)) n
  | [], n, h, _ => h
  | c :: t, n, h, hd => by
    have h1 := dig_bounds (hd 0 c rfl)
    rw [List.foldl_cons]
    exact fold_pos t _ (by omega) (fun k x hx => hd (k + 1) x (by simpa using hx))
theorem nval_pos {c : UInt8} {t : List UInt8} (hd : AllDig (c :: t)) (hc : c ≠ 48) : 0 < nval (c :: t) := by
  have h1 := dig_bounds (hd 0 c rfl)
  unfold nval
  rw [List.foldl_cons]
  refine fold_pos t _ ?_ (fun k x hx => hd (k + 1) x (by simpa using hx))
  have : (c.toNat : Int) ≠ 48 := fun h => hc (UInt8.toNat_inj.1 (by exact_mod_cast h))
  omega
theorem trim_split (g : List UInt8) : g = Lib.trimRightB g 48 ++ (g.reverse.takeWhile (· == 48)).reverse := by
  unfold Lib.trimRightB
  rw [← List.reverse_append, List.takeWhile_append_dropWhile, List.reverse_reverse]
theorem trim_head {c : UInt8} {t : List UInt8} (hc : c ≠ 48) : ∃ t', Lib.trimRightB (c :: t) 48 = c :: t' := by
  have h := trim_split (c :: t)
  cases hs : Lib.trimRightB (c :: t) 48 with
  | nil =>
    rw [hs, List.nil_append] at h
    have hm : c ∈ ((c :: t).reverse.takeWhile (· == 48)).reverse := by rw [← h]; exact List.mem_cons_self
    rw [List.mem_reverse] at hm
    have h2 := List.all_takeWhile (l := (c :: t).reverse) (p := (· == (48 : UInt8)))
    rw [List.all_eq_true] at h2
    have := h2 c hm
    simp at this
    exact absurd this hc
  | cons a t' =>
    rw [hs, List.cons_append] at h
    injection h with h1 _
    exact ⟨t', by rw [h1]⟩
theorem drop_head_ne {l : List UInt8} {c : UInt8} {t : List UInt8} (h : l.dropWhile (· == 48) = c :: t) : c ≠ 48 := by
  intro hc
  subst hc
  have : ∀ l : List UInt8, l.dropWhile (· == 48) ≠ (48 : UInt8) :: t := by
    intro l
    induction l with
    | nil => simp
    | cons a l ih =>
      rw [List.dropWhile_cons]
      split
      · exact ih
      · next h9 =>
        intro h8
        injection h8 with h7 _
        subst h7
        exact h9 rfl
  exact this l h
theorem alldig_of_mem {l : List UInt8} (h : ∀ c ∈ l, isDig c = true) : AllDig l := fun k c hk => h c (List.mem_of_getElem? hk)
theorem mem_of_alldig {l : List UInt8} (h : AllDig l) : ∀ c ∈ l, isDig c = true := fun c hc => by
  obtain ⟨k, hk⟩ := List.getElem?_of_mem hc
  exact h k c hk
theorem fin_digits (ng : Bool) (h tl t : List UInt8) (h1 : AllDig h) (h2 : AllDig tl) : AllDig (finR ng h tl t).2.1 := by
  have key : AllDig (h ++ tl) := alldig_of_mem (fun c hc => by
    rcases List.mem_append.1 hc with h9 | h9
    · exact mem_of_alldig h1 c h9
    · exact mem_of_alldig h2 c h9)
  unfold finR
  split
  · exact key
  · split
    · exact key
    · split <;> exact key
theorem fin_power (ng : Bool) (h tl t : List UInt8) (hl : tl.length ≤ 1000) : -11000 ≤ (finR ng h tl t).2.2.1 ∧ (finR ng h tl t).2.2.1 ≤ 10000 := by
  unfold finR
  split
  · simp; omega
  · split
    · simp; omega
    · next c t' =>
      have := exp_bound t'
      split
      · simp; omega
      · simp; omega
theorem fin_len (ng : Bool) (h tl t : List UInt8) : (finR ng h tl t).2.1.length = h.length + tl.length := by
  unfold finR
  split
  · simp
  · split
    · simp
    · split <;> simp
theorem nil_dig : AllDig [] := fun k c h => by simp at h
theorem dec_facts (l : List UInt8) (hl : l.length ≤ 1000) : AllDig (decR l).2.1 ∧ -11000 ≤ (decR l).2.2.1 ∧ (decR l).2.2.1 ≤ 10000 ∧ (decR l).2.1.length ≤ 1000 := by
  have h1 := signP_len l
  have h2 := len_split isDig (signP l).2
  unfold decR
  split
  · next he =>
    rw [he] at h2
    have := fin_power (signP l).1 ((signP l).2.takeWhile isDig) [] [] (by simp)
    have h3 := fin_len (signP l).1 ((signP l).2.takeWhile isDig) [] []
    exact ⟨fin_digits _ _ _ _ (takeWhile_dig _) nil_dig, this.1, this.2, by rw [h3]; simp at h2 ⊢; omega⟩
  · next c t he =>
    rw [he] at h2
    have h4 := len_split isDig t
    simp at h2
    split
    · split
      · exact ⟨nil_dig, by simp, by simp, by simp⟩
      · have := fin_power (signP l).1 ((signP l).2.takeWhile isDig) (t.takeWhile isDig) (t.dropWhile isDig) (by omega)
        have h3 := fin_len (signP l).1 ((signP l).2.takeWhile isDig) (t.takeWhile isDig) (t.dropWhile isDig)
        exact ⟨fin_digits _ _ _ _ (takeWhile_dig _) (takeWhile_dig _), this.1, this.2, by rw [h3]; omega⟩
    · have := fin_power (signP l).1 ((signP l).2.takeWhile isDig) [] (c :: t) (by simp)
      have h3 := fin_len (signP l).1 ((signP l).2.takeWhile isDig) [] (c :: t)
      exact ⟨fin_digits _ _ _ _ (takeWhile_dig _) nil_dig, this.1, this.2, by rw [h3]; simp; omega⟩
theorem scV_pos (s : List UInt8) (p : Int) (hp : 0 < nval s) (h : (scV s p).2 = true) : 0 < (scV s p).1 ∧ (scV s p).1 < 2 ^ 384 := by
  unfold scV at h ⊢
  split at h
  · simp at h
  · split at h
    · simp at h
    · next h1 h2 =>
      split at h
      · next h3 =>
        rw [if_neg h1, if_neg h2, if_pos h3]
        refine ⟨?_, by rw [← q6T]; exact h3⟩
        have h5 : nval s % 5 ^ (-p).toNat = 0 := by simpa using h2
        have h6 : (0 : Int) < 5 ^ (-p).toNat := pow_pos' (by decide) _
        have h7 : 0 < nval s / 5 ^ (-p).toNat := by
          have h8 := Int.mul_ediv_add_emod (nval s) (5 ^ (-p).toNat)
          rw [h5, Int.add_zero] at h8
          have h9 : 0 ≤ nval s / 5 ^ (-p).toNat := Int.ediv_nonneg (by omega) (by omega)
          rcases Int.lt_or_eq_of_le h9 with h10 | h10
          · exact h10
          · rw [← h10, Int.mul_zero] at h8; omega
        exact Int.mul_pos (Int.mul_pos h7 (pow_pos' (by decide) _)) (pow_pos' (by decide) _)
      · simp at h
/-- What a text is: the sum, the error. -/
def fromD (ng : Bool) (ds : List UInt8) (p : Int) : Int × Int :=
  if ds.dropWhile (· == 48) = [] then (0, 0)
  else if (scV (Lib.trimRightB (ds.dropWhile (· == 48)) 48) (p + (((ds.dropWhile (· == 48)).length : Int) - ((Lib.trimRightB (ds.dropWhile (· == 48)) 48).length : Int)))).2 = false then (0, 21)
  else if fitsT ng (scV (Lib.trimRightB (ds.dropWhile (· == 48)) 48) (p + (((ds.dropWhile (· == 48)).length : Int) - ((Lib.trimRightB (ds.dropWhile (· == 48)) 48).length : Int)))).1 then
    (sig ng (scV (Lib.trimRightB (ds.dropWhile (· == 48)) 48) (p + (((ds.dropWhile (· == 48)).length : Int) - ((Lib.trimRightB (ds.dropWhile (· == 48)) 48).length : Int)))).1, 0)
  else (0, 21)
def fromT (l : List UInt8) : Int × Int :=
  if 600 < l.length then (0, 4)
  else if (decR l).2.2.2 = false then (0, 15)
  else fromD (decR l).1 (decR l).2.1 (decR l).2.2.1
end Go.Proofs.YtbbldcbilnkkdaaDoor.Parse
