/-
  A shuffle loses nothing and keeps the order within a part: the plain law. No condition.
-/
import Derived.Test.YtepljdnhnnpdmaaShuf8
set_option linter.unusedVariables false
set_option linter.unusedSimpArgs false
namespace Go.Proofs.Ytepljdnhnnpdmaa.Stab
open Go.RowKit Go.Shelf Go.ChangeShapes Go.WideShapes Go.ChangeAt K Desk Cut Radix Shuf

theorem ordL_pre (ps : List Int) {p k : Nat} (h : p ≤ k) : ∃ r, ordL ps k = ordL ps p ++ r := by
  induction k with
  | zero => obtain rfl : p = 0 := by omega
            exact ⟨[], by simp⟩
  | succ k ih =>
    by_cases e : p = k + 1
    · subst e; exact ⟨[], by simp⟩
    · obtain ⟨r, hr⟩ := ih (by omega)
      exact ⟨r ++ (List.range ps.length).filter (fun i => keyI ps i == k), by rw [ordL_succ, hr, List.append_assoc]⟩
theorem ordL_at (ps : List Int) {p k i : Nat} (h : p < k) (h1 : (ordL ps p).length ≤ i) (h2 : i < (ordL ps (p + 1)).length) :
    (ordL ps k)[i]? = ((List.range ps.length).filter (fun i => keyI ps i == p))[i - (ordL ps p).length]? := by
  obtain ⟨r, hr⟩ := ordL_pre ps (show p + 1 ≤ k from h)
  rw [hr, List.getElem?_append_left h2, ordL_succ, List.getElem?_append_right h1]
theorem ordL_key (ps : List Int) {p k i o : Nat} (h : p < k) (h1 : (ordL ps p).length ≤ i) (h2 : i < (ordL ps (p + 1)).length) (ho : (ordL ps k)[i]? = some o) : o < ps.length ∧ keyI ps o = p := by
  rw [ordL_at ps h h1 h2] at ho
  have := List.mem_of_getElem? ho
  rw [List.mem_filter, List.mem_range] at this
  exact ⟨this.1, by simpa using this.2⟩
theorem filter_lt (m : Nat) (f : Nat → Bool) : ((List.range m).filter f).Pairwise (· < ·) := List.pairwise_lt_range.filter f
theorem ordL_lt (ps : List Int) {p k i o o' : Nat} (h : p < k) (h1 : (ordL ps p).length < i) (h2 : i < (ordL ps (p + 1)).length) (ho : (ordL ps k)[i]? = some o) (ho' : (ordL ps k)[i - 1]? = some o') : o' < o := by
  rw [ordL_at ps h (by omega) h2] at ho
  rw [ordL_at ps h (by omega) (by omega)] at ho'
  obtain ⟨a1, a2⟩ := List.getElem?_eq_some_iff.1 ho
  obtain ⟨b1, b2⟩ := List.getElem?_eq_some_iff.1 ho'
  have := List.pairwise_iff_getElem.1 (filter_lt ps.length (fun i => keyI ps i == p)) _ _ b1 a1 (by omega)
  omega
theorem mem_key (ps : List Int) {k o : Nat} (h : o ∈ ordL ps k) : keyI ps o < k := by
  induction k with
  | zero => simp [ordL, bucket] at h
  | succ k ih =>
    rw [ordL_succ] at h
    rcases List.mem_append.1 h with h | h
    · have := ih h; omega
    · have := (List.mem_filter.1 h).2
      simp at this; omega
theorem ordL_nodup (ps : List Int) (k : Nat) : (ordL ps k).Nodup := by
  induction k with
  | zero => simp [ordL, bucket]
  | succ k ih =>
    rw [ordL_succ]
    refine List.nodup_append.2 ⟨ih, (filter_lt _ _).imp (fun h => by omega), fun a ha b hb e => ?_⟩
    subst e
    have h1 := mem_key ps ha
    have h2 := (List.mem_filter.1 hb).2
    simp at h2; omega
theorem fresh {l : List Nat} (h : l.Nodup) {i o : Nat} (ho : l[i]? = some o) : o ∉ l.take i := by
  intro hm
  obtain ⟨j, hj⟩ := List.mem_iff_getElem?.1 hm
  have hj1 := (List.getElem?_eq_some_iff.1 hj).1
  rw [List.length_take] at hj1
  rw [List.getElem?_take, if_pos (by omega)] at hj
  obtain ⟨a1, a2⟩ := List.getElem?_eq_some_iff.1 ho
  obtain ⟨b1, b2⟩ := List.getElem?_eq_some_iff.1 hj
  have := List.pairwise_iff_getElem.1 h j i b1 a1 (by omega)
  exact this (b2.trans a2.symm)
theorem part_in {n k q r v : Int} (h : Cut n k q r) (hv : 0 ≤ v) (hn : v < n) : 0 ≤ Cut.part n q r v ∧ Cut.part n q r v < k := by
  have hq := h.q1; have hr0 := h.r0; have hr1 := h.r1; have he := h.eq
  unfold Cut.part
  rw [if_neg (by omega)]
  have hd0 : 0 ≤ v / (q + 1) := Int.ediv_nonneg hv (by omega)
  by_cases hc : v / (q + 1) < r
  · rw [if_pos hc]; omega
  · rw [if_neg hc]
    have hrv : r ≤ v := by
      rcases Int.lt_or_le v r with h3 | h3
      · have := Int.ediv_lt_of_lt_mul (a := v) (b := r) (c := q + 1) (by omega) (by have : r * 1 ≤ r * (q + 1) := Int.mul_le_mul_of_nonneg_left (by omega) (by omega); omega)
        omega
      · exact h3
    exact ⟨Int.ediv_nonneg (by omega) (by omega), Int.ediv_lt_of_lt_mul (by omega) (by omega)⟩
theorem emod_le {a v : Int} (h : 0 ≤ a) (hv : 1 ≤ v) : a % v ≤ a := by
  have h1 := Int.emod_add_mul_ediv a v
  have h2 : 0 ≤ v * (a / v) := Int.mul_nonneg (by omega) (Int.ediv_nonneg h (by omega))
  omega
/-- The law's own update: To within v, A its place. -/
def mk (v : Int) (hv : 1 ≤ v) (x : U3) (i : Nat) : U3 := ⟨x.t % v, (i : Int) % 18446744073709551616, x.b, ⟨Int.emod_nonneg _ (by omega), by
  have h1 := x.tb
  have h2 : x.t % v ≤ x.t := emod_le h1.1 hv
  omega⟩, by omega, x.bb⟩
def al (v : Int) (hv : 1 ≤ v) (us : List U3) (j : Nat) : List U3 := (List.range j).map fun i => mk v hv (us.getD i u0) i
theorem al_length (v : Int) (hv : 1 ≤ v) (us : List U3) (j : Nat) : (al v hv us j).length = j := by simp [al]
theorem al_succ (v : Int) (hv : 1 ≤ v) (us : List U3) (j : Nat) : al v hv us (j + 1) = al v hv us j ++ [mk v hv (us.getD j u0) j] := by simp [al, List.range_succ]
theorem al_get {v : Int} {hv : 1 ≤ v} {us : List U3} {m i : Nat} (h : i < m) : (al v hv us m)[i]? = some (mk v hv (us.getD i u0) i) := by
  unfold al; rw [List.getElem?_map, List.getElem?_range h]; rfl
theorem al_a {v : Int} {hv : 1 ≤ v} {us : List U3} {m i : Nat} {x : U3} (hm : m ≤ 4611686018427387904) (hx : (al v hv us m)[i]? = some x) : x.a = i ∧ 0 ≤ x.t ∧ x.t < v := by
  have hi := (List.getElem?_eq_some_iff.1 hx).1
  rw [al_length] at hi
  rw [al_get hi] at hx
  obtain rfl := Option.some.inj hx
  refine ⟨?_, Int.emod_nonneg _ (by omega), Int.emod_lt_of_pos _ (by omega)⟩
  show (i : Int) % 18446744073709551616 = i
  omega
theorem al_ok {n k q r : Int} (h : Cut n k q r) {hv : 1 ≤ n} {us : List U3} {m : Nat} : ∀ x ∈ al n hv us m, okP n q r k x := by
  intro x hx
  obtain ⟨i, -, rfl⟩ := List.mem_map.1 hx
  exact part_in h (Int.emod_nonneg _ (by omega)) (Int.emod_lt_of_pos _ (by omega))
/-- Which places were seen. -/
def seen (l : List Nat) (m : Nat) : List Value := (List.range m).map fun j => Value.bool (decide (j ∈ l))
theorem seen_length (l : List Nat) (m : Nat) : (seen l m).length = m := by simp [seen]
theorem seen_nil (m : Nat) : seen [] m = List.replicate m (.bool false) := by
  refine List.ext_getElem? fun i => ?_
  by_cases h : i < m
  · simp [seen, h]
  · rw [List.getElem?_eq_none (by rw [seen_length]; omega), List.getElem?_eq_none (by simp; omega)]
theorem seen_get {l : List Nat} {m o : Nat} (h : o < m) (hn : o ∉ l) : (seen l m)[o]? = some (.bool false) := by
  unfold seen; rw [List.getElem?_map, List.getElem?_range h]; simp [hn]
theorem seen_set {l : List Nat} {m i o : Nat} (ho : l[i]? = some o) (h : o < m) : (seen (l.take i) m).set o (.bool true) = seen (l.take (i + 1)) m := by
  obtain ⟨hi, e⟩ := List.getElem?_eq_some_iff.1 ho
  have htk : l.take (i + 1) = l.take i ++ [o] := by rw [List.take_succ_eq_append_getElem hi, e]
  refine List.ext_getElem? fun j => ?_
  by_cases g : o = j
  · subst g
    rw [List.getElem?_set_self (by rw [seen_length]; exact h)]
    unfold seen
    rw [List.getElem?_map, List.getElem?_range h, htk]
    simp
  · rw [List.getElem?_set_ne g]
    by_cases hj : j < m
    · unfold seen
      rw [List.getElem?_map, List.getElem?_map, List.getElem?_range hj, htk]
      have : ¬ j = o := fun e => g e.symm
      simp [this]
    · rw [List.getElem?_eq_none (by rw [seen_length]; omega), List.getElem?_eq_none (by rw [seen_length]; omega)]
end Go.Proofs.Ytepljdnhnnpdmaa.Stab
