/-
  Peeling a graph: vertices are taken away whose edges to those that are left are at most k. Plain lists; no program in sight. No condition.
-/
import Derived.Test.YtepljdnhnnpdmaaWcc
set_option linter.unusedVariables false
set_option linter.unusedSimpArgs false
namespace Go.Proofs.Ytepljdnhnnpdmaa.Peel
open Go.RowKit Go.Shelf K Feed Desk Forest

/-- C: 0 while a vertex is there, else the k at which it went and one more. -/
def degStep (C : List Nat) (D : List Nat) (x : E3) : List Nat :=
  if x.s ≠ x.d ∧ C.getD x.s.toNat 0 = 0 ∧ C.getD x.d.toNat 0 = 0 then (D.set x.s.toNat (D.getD x.s.toNat 0 + 1)).set x.d.toNat (D.getD x.d.toNat 0 + 1) else D
def degs (C : List Nat) (n : Nat) (es : List E3) : List Nat := es.foldl (degStep C) (List.replicate n 0)
theorem degStep_length (C D : List Nat) (x : E3) : (degStep C D x).length = D.length := by unfold degStep; split <;> simp
theorem degs_snoc (C : List Nat) (n : Nat) (es : List E3) (x : E3) : degs C n (es ++ [x]) = degStep C (degs C n es) x := by simp [degs]
theorem snoc_ind {α : Type} {P : List α → Prop} (h0 : P []) (h1 : ∀ l x, P l → P (l ++ [x])) (l : List α) : P l := by
  rw [← List.reverse_reverse l]
  induction l.reverse with
  | nil => exact h0
  | cons a t ih => rw [List.reverse_cons]; exact h1 _ _ ih
theorem degs_length (C : List Nat) (n : Nat) (es : List E3) : (degs C n es).length = n :=
  snoc_ind (P := fun es => (degs C n es).length = n) (by simp [degs]) (fun es x ih => by rw [degs_snoc, degStep_length, ih]) es
theorem getD_set_le {D : List Nat} {v z : Nat} {B : Nat} (h : ∀ u, D.getD u 0 ≤ B) (hz : z ≤ B) (u : Nat) : (D.set v z).getD u 0 ≤ B := by
  rw [List.getD_eq_getElem?_getD]
  by_cases e : v = u
  · subst e
    by_cases hl : v < D.length
    · rw [List.getElem?_set_self hl]; exact hz
    · rw [List.getElem?_eq_none (by simp; omega)]; exact Nat.zero_le _
  · rw [List.getElem?_set_ne e, ← List.getD_eq_getElem?_getD]; exact h u
theorem degs_le (C : List Nat) (n : Nat) (es : List E3) : ∀ u, (degs C n es).getD u 0 ≤ es.length := by
  refine snoc_ind (P := fun es => ∀ u, (degs C n es).getD u 0 ≤ es.length) ?_ ?_ es
  · intro u
    simp only [degs, List.foldl_nil, List.getD_eq_getElem?_getD, List.getElem?_replicate]
    split <;> simp
  · intro es x ih u
    rw [degs_snoc, List.length_append, List.length_singleton]
    unfold degStep
    have ih' : ∀ u, (degs C n es).getD u 0 ≤ es.length + 1 := fun u => Nat.le_succ_of_le (ih u)
    split
    · refine getD_set_le (fun u => getD_set_le ih' (by have := ih x.s.toNat; omega) u) (by have := ih x.d.toNat; omega) u
    · exact ih' u
/-- One round over the vertices: what becomes of C, whether one was taken, the least degree seen. -/
def sw (D C : List Nat) (k : Nat) : Nat → List Nat
  | 0 => C
  | j + 1 => if C.getD j 0 = 0 ∧ D.getD j 0 ≤ k then (sw D C k j).set j (k + 1) else sw D C k j
def tk (D C : List Nat) (k : Nat) : Nat → Bool
  | 0 => false
  | j + 1 => tk D C k j || decide (C.getD j 0 = 0 ∧ D.getD j 0 ≤ k)
def ls (D C : List Nat) : Nat → Nat
  | 0 => 18446744073709551615
  | j + 1 => if C.getD j 0 = 0 then min (ls D C j) (D.getD j 0) else ls D C j
def ls' (D C : List Nat) (k : Nat) : Nat → Nat
  | 0 => 18446744073709551615
  | j + 1 => if C.getD j 0 = 0 ∧ ¬ D.getD j 0 ≤ k then min (ls' D C k j) (D.getD j 0) else ls' D C k j
section
variable {D C : List Nat} {k n : Nat}
theorem sw_length (j : Nat) : (sw D C k j).length = C.length := by
  induction j with
  | zero => rfl
  | succ j ih => rw [sw]; split <;> simp [ih]
theorem sw_later {j v : Nat} (h : j ≤ v) : (sw D C k j).getD v 0 = C.getD v 0 := by
  induction j with
  | zero => rfl
  | succ j ih =>
    rw [sw]
    split
    · rw [List.getD_eq_getElem?_getD, List.getElem?_set_ne (by omega), ← List.getD_eq_getElem?_getD]; exact ih (by omega)
    · exact ih (by omega)
theorem count_set {l : List Nat} {j z : Nat} (hj : j < l.length) (h0 : l.getD j 0 = 0) (hz : z ≠ 0) : (l.set j z).count 0 + 1 = l.count 0 := by
  induction l generalizing j with
  | nil => simp at hj
  | cons a t ih =>
    cases j with
    | zero =>
      simp only [List.getD_cons_zero] at h0
      subst h0
      simp [List.set_cons_zero, List.count_cons, hz]
    | succ j =>
      have := ih (j := j) (by simpa using hj) (by simpa using h0)
      simp only [List.set_cons_succ, List.count_cons]
      omega
theorem sw_count (hl : C.length = n) {j : Nat} (hj : j < n) (h : C.getD j 0 = 0 ∧ D.getD j 0 ≤ k) : (sw D C k (j + 1)).count 0 + 1 = (sw D C k j).count 0 := by
  rw [sw, if_pos h]
  exact count_set (by rw [sw_length]; omega) (by rw [sw_later (Nat.le_refl _)]; exact h.1) (by omega)
theorem sw_count_le (hl : C.length = n) : ∀ {j : Nat}, j ≤ n → (sw D C k j).count 0 ≤ C.count 0 ∧ (tk D C k j = true → (sw D C k j).count 0 < C.count 0) := by
  intro j
  induction j with
  | zero => exact fun _ => ⟨Nat.le_refl _, fun h => by cases h⟩
  | succ j ih =>
    intro hj
    obtain ⟨h1, h2⟩ := ih (by omega)
    by_cases h : C.getD j 0 = 0 ∧ D.getD j 0 ≤ k
    · have := sw_count hl (by omega) h
      exact ⟨by omega, fun _ => by omega⟩
    · rw [sw, if_neg h, tk, decide_eq_false h, Bool.or_false]
      exact ⟨h1, h2⟩
theorem ls_same {j : Nat} (h : tk D C k j = false) : ls' D C k j = ls D C j ∧ sw D C k j = C := by
  induction j with
  | zero => exact ⟨rfl, rfl⟩
  | succ j ih =>
    rw [tk, Bool.or_eq_false_iff] at h
    obtain ⟨h1, h2⟩ := ih h.1
    have h3 := of_decide_eq_false h.2
    rw [ls', ls, sw, if_neg h3, h1, h2]
    refine ⟨?_, rfl⟩
    by_cases h4 : C.getD j 0 = 0
    · rw [if_pos h4, if_pos ⟨h4, fun h5 => h3 ⟨h4, h5⟩⟩]
    · rw [if_neg h4, if_neg (fun h5 => h4 h5.1)]
/-- Where none was taken, the least degree lies beyond k; where one is there, it is a degree. -/
theorem ls_gt {j : Nat} (h : tk D C k j = false) (hk : k < 18446744073709551615) : k < ls D C j := by
  induction j with
  | zero => exact hk
  | succ j ih =>
    rw [tk, Bool.or_eq_false_iff] at h
    have h3 := of_decide_eq_false h.2
    have := ih h.1
    rw [ls]
    split
    · rename_i h4
      have : ¬ D.getD j 0 ≤ k := fun h5 => h3 ⟨h4, h5⟩
      omega
    · exact this
theorem ls_le {M : Nat} (hD : ∀ u, D.getD u 0 ≤ M) {j v : Nat} (hv : v < j) (h0 : C.getD v 0 = 0) : ls D C j ≤ M := by
  induction j with
  | zero => omega
  | succ j ih =>
    rw [ls]
    by_cases e : v = j
    · subst e
      rw [if_pos h0]
      have := hD v
      omega
    · have := ih (by omega)
      split <;> omega
end
/-- One round whole. -/
def step (es : List E3) (n : Nat) (s : Nat × List Nat) : Nat × List Nat :=
  (if tk (degs s.2 n es) s.2 s.1 n = true then s.1 else ls (degs s.2 n es) s.2 n, sw (degs s.2 n es) s.2 s.1 n)
/-- What is reached while some are left. -/
def at' (es : List E3) (n : Nat) : Nat → Nat × List Nat
  | 0 => (0, List.replicate n 0)
  | t + 1 => step es n (at' es n t)
def Reached (es : List E3) (n : Nat) (s : Nat × List Nat) : Prop := ∃ t, s = at' es n t ∧ ∀ u, u < t → 0 < (at' es n u).2.count 0
theorem reached_start (es : List E3) (n : Nat) : Reached es n (0, List.replicate n 0) := ⟨0, rfl, fun u h => absurd h (Nat.not_lt_zero _)⟩
theorem Reached.step {es : List E3} {n : Nat} {s : Nat × List Nat} (h : Reached es n s) (h0 : 0 < s.2.count 0) : Reached es n (step es n s) := by
  obtain ⟨t, rfl, hu⟩ := h
  refine ⟨t + 1, rfl, fun u hlt => ?_⟩
  rcases Nat.lt_or_ge u t with g | g
  · exact hu u g
  · obtain rfl : u = t := by omega
    exact h0
/-- With none left there is one answer. -/
theorem reached_end {es : List E3} {n : Nat} {s s' : Nat × List Nat} (h : Reached es n s) (h' : Reached es n s') (h0 : s.2.count 0 = 0) (h0' : s'.2.count 0 = 0) : s = s' := by
  obtain ⟨t, rfl, hu⟩ := h
  obtain ⟨t', rfl, hu'⟩ := h'
  rcases Nat.lt_trichotomy t t' with g | g | g
  · have := hu' t g; omega
  · rw [g]
  · have := hu t' g; omega
theorem step_length {es : List E3} {n : Nat} {s : Nat × List Nat} (h : s.2.length = n) : (step es n s).2.length = n := by simp only [step, sw_length, h]
/-- k stays within the degrees, and what is left, then k, tells how far it is still. -/
theorem step_less {es : List E3} {n : Nat} {s : Nat × List Nat} (h : s.2.length = n) (hk : s.1 ≤ es.length) (he : es.length < 18446744073709551615) (h0 : 0 < s.2.count 0) :
    (step es n s).1 ≤ es.length ∧ (step es n s).2.count 0 * (es.length + 1) + (es.length - (step es n s).1) < s.2.count 0 * (es.length + 1) + (es.length - s.1) := by
  obtain ⟨k, C⟩ := s
  simp only [step] at *
  obtain ⟨v, hv, hv0⟩ : ∃ v, v < n ∧ C.getD v 0 = 0 := by
    obtain ⟨v, hv⟩ := List.getElem?_of_mem (List.count_pos_iff.1 h0)
    exact ⟨v, by rw [← h]; exact (List.getElem?_eq_some_iff.1 hv).1, by rw [List.getD_eq_getElem?_getD, hv]; rfl⟩
  cases ht : tk (degs C n es) C k n with
  | true =>
    simp only [if_true]
    refine ⟨hk, ?_⟩
    have := (sw_count_le (D := degs C n es) (k := k) h (Nat.le_refl n)).2 ht
    have h2 : (sw (degs C n es) C k n).count 0 + 1 ≤ C.count 0 := this
    have h3 := Nat.mul_le_mul_right (es.length + 1) h2
    rw [Nat.add_mul, Nat.one_mul] at h3
    omega
  | false =>
    simp only [Bool.false_eq_true, if_false]
    have h1 := ls_gt ht (show k < 18446744073709551615 by omega)
    have h2 := ls_le (degs_le C n es) hv hv0
    rw [(ls_same ht).2]
    exact ⟨h2, by omega⟩
end Go.Proofs.Ytepljdnhnnpdmaa.Peel
