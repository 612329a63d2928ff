/-
  Ranges of vertices: the cut, a vertex's part, the program's and the document's. No condition.
-/
import Derived.Test.YtepljdnhnnpdmaaK
import Derived.Test.YtepljdnhnnpdmaaKe
import Derived.ShutString
import Derived.Outline
import Derived.StillTailTactics
import Derived.ChangeOld
import Derived.SizedLaws
set_option linter.unusedVariables false
set_option linter.unusedSimpArgs false
namespace Go.Proofs.Ytepljdnhnnpdmaa.Cut
open Go.ChangeShapes Go.WideShapes Go.ChangeAt Go.RowKit
open Go.ChangeMaps (open_string shut_string)

/-! ### plain numbers -/
theorem quo_rem (n k : Int) (h0 : 0 ≤ n) (h : 1 ≤ k) : 0 ≤ n / k ∧ 0 ≤ n % k ∧ n % k < k ∧ k * (n / k) + n % k = n :=
  ⟨Int.ediv_nonneg h0 (by omega), Int.emod_nonneg n (by omega), Int.emod_lt_of_pos n (by omega), Int.mul_ediv_add_emod n k⟩

/-- What a cut is made of. -/
structure Cut (n k q r : Int) : Prop where
  n0 : 0 ≤ n
  n1 : n ≤ 2147483647
  k1 : 1 ≤ k
  k2 : k ≤ 512
  q1 : 1 ≤ q
  r0 : 0 ≤ r
  r1 : r < k
  eq : k * q + r = n
theorem Cut.of {n k : Int} (h0 : 1 ≤ n) (h1 : n ≤ 2147483647) (h2 : 1 ≤ k) (h3 : k ≤ n) (h4 : k ≤ 512) : Cut n k (n / k) (n % k) := by
  obtain ⟨a, b, c, d⟩ := quo_rem n k (by omega) h2
  refine ⟨by omega, h1, h2, h4, ?_, b, c, d⟩
  rcases Int.lt_or_le (n / k) 1 with h | h
  · have : n / k = 0 := by omega
    rw [this] at d
    omega
  · exact h
theorem Cut.qn {n k q r : Int} (h : Cut n k q r) : q ≤ n := by
  have h1 : 1 * q ≤ k * q := Int.mul_le_mul_of_nonneg_right h.k1 (by have := h.q1; omega)
  have := h.eq; have := h.r0
  omega
/-- The part of a vertex. -/
def part (n q r v : Int) : Int := if n ≤ v then -1 else if v / (q + 1) < r then v / (q + 1) else (v - r) / q
theorem part_other {n k q r v : Int} (h : Cut n k q r) (hv : 0 ≤ v) : (if n ≤ v then -1 else if v < r * (q + 1) then v / (q + 1) else r + (v - r * (q + 1)) / q) = part n q r v := by
  unfold part
  by_cases h1 : n ≤ v
  · simp [h1]
  · have hq := h.q1
    simp only [h1, if_false]
    by_cases h2 : v < r * (q + 1)
    · rw [if_pos h2, if_pos (Int.ediv_lt_of_lt_mul (by omega) h2)]
    · rw [if_neg h2, if_neg (by
        intro h3
        have := (Int.ediv_lt_iff_lt_mul (by omega : 0 < q + 1)).1 h3
        omega)]
      have e : v - r = (v - r * (q + 1)) + r * q := by rw [Int.mul_add]; omega
      rw [e, Int.add_mul_ediv_right _ _ (by omega)]
      omega
def first (q r p : Int) : Int := p * q + min p r
theorem first_bound {n k q r p : Int} (h : Cut n k q r) (h0 : 0 ≤ p) (h1 : p ≤ k) : 0 ≤ p * q ∧ p * q ≤ k * q ∧ 0 ≤ first q r p ∧ first q r p ≤ n := by
  have hq := h.q1; have := h.eq; have := h.r0; have := h.r1
  have a : 0 ≤ p * q := Int.mul_nonneg h0 (by omega)
  have b : p * q ≤ k * q := Int.mul_le_mul_of_nonneg_right h1 (by omega)
  refine ⟨a, b, ?_, ?_⟩ <;> unfold first <;> omega

/-! ### the walks -/
theorem alloc_cell {w : World} {O : Obj} {b : Nat} (h : b < w.heap.size) (o : Nat) : (w.alloc O).cell? ⟨b, o, none⟩ = w.cell? ⟨b, o, none⟩ := World.cell?_alloc_lt w O ⟨b, o, none⟩ h
set_option maxRecDepth 100000 in
theorem splitYes (n k : Int) (h0 : 1 ≤ n) (h1 : n ≤ 2147483647) (h2 : 1 ≤ k) (h3 : k ≤ n) (h4 : k ≤ 512) (w : World) :
    Calls Try.prog 20 #[.int .u32 n, .int .i64 k] w fun e w' => e = .returned (.tuple #[.agg #[.int .u32 n, .int .u32 k, .int .u32 (n / k), .int .u32 (n % k)], .int .i64 0]) ∧ Below w.heap.size w w' := by
  have g1 : ¬ n < 1 := by omega
  have g2 : ¬ 2147483647 < n := by omega
  have g3 : ¬ k < 1 := by omega
  have g4 : ¬ n < k := by omega
  have g5 : ¬ 512 < k := by omega
  go_enter Try.func20, Try.ntmps20
  go_wp2
  have hk : IntKind.u32.wrap k = k := IntWalk.u32_in _ (by omega)
  have hk0 : ¬ k = 0 := by omega
  refine K.region_tail 12 (by kernel_rfl) (by kernel_rfl) ?_
  simp only [List.take_succ_cons, List.take_zero, List.drop_succ_cons, List.drop_zero]
  iterate 14 (first
    | ((with_reducible refine wpStill_step (fun KK hKK => ?_))
       first
         | ((with_reducible refine K.still_else ?_ (K.Puts.mk' _) ?_)
            (first | rfl | (simp [Region.wanted, yielded]; done))
            (with_reducible refine hKK _ ?_))
         | ((with_reducible refine K.still_if ?_ ?_)
            (first | rfl | (simp [Region.wanted, yielded]; done))
            apply K.still_val
            · go_simp; (try go_ints); exact K.Gives.mk' _ _
            · go_simp; exact K.Puts.mk' _
            (with_reducible refine hKK _ ?_))
       clear hKK KK)
    | skip)
  refine wpStill_nil ?_
  go_wp2
  refine bodyPost_ret (v := .tuple #[.agg #[.int .u32 n, .int .u32 k, .int .u32 (n / k), .int .u32 (n % k)], .int .i64 0]) (by simp [results, Try.results20, go_sem]) rfl ⟨rfl, ?_⟩
  repeat (first | exact Below.refl _ _ | refine Below.drew ?_ | refine Below.alloc ?_ (by first | omega | (simp <;> omega)) _)

set_option maxHeartbeats 1000000 in
theorem splitNo (n k : Int) (hn : 0 ≤ n) (hb : n < 1 ∨ 2147483647 < n ∨ k < 1 ∨ n < k ∨ 512 < k) (hk : n ≤ 4294967295) (w : World) :
    Calls Try.prog 20 #[.int .u32 n, .int .i64 k] w fun e w' => e = .returned (.tuple #[.agg #[.int .u32 0, .int .u32 0, .int .u32 0, .int .u32 0], .int .i64 90]) ∧ Below w.heap.size w w' := by
  have hc : n < 1 ∨ (¬ n < 1 ∧ 2147483647 < n) ∨ (¬ n < 1 ∧ ¬ 2147483647 < n ∧ k < 1) ∨ (¬ n < 1 ∧ ¬ 2147483647 < n ∧ ¬ k < 1 ∧ n < k) ∨ (¬ n < 1 ∧ ¬ 2147483647 < n ∧ ¬ k < 1 ∧ ¬ n < k ∧ 512 < k) := by omega
  clear hb
  rcases hc with a1 | ⟨a1, a2⟩ | ⟨a1, a2, a3⟩ | ⟨a1, a2, a3, a4⟩ | ⟨a1, a2, a3, a4, a5⟩
  all_goals
    go_enter Try.func20, Try.ntmps20
    go_wp2
    refine bodyPost_ret (v := .tuple #[.agg #[.int .u32 0, .int .u32 0, .int .u32 0, .int .u32 0], .int .i64 90]) (by simp [results, Try.results20, go_sem]) rfl ⟨rfl, ?_⟩
    repeat (first | exact Below.refl _ _ | refine Below.drew ?_ | refine Below.alloc ?_ (by first | omega | (simp <;> omega)) _)

theorem refYes (n k : Int) (h0 : 1 ≤ n) (h1 : n ≤ 2147483647) (h2 : 1 ≤ k) (h3 : k ≤ n) (h4 : k ≤ 512) (w : World) :
    Calls Try.prog 21 #[.int .u32 n, .int .i64 k] w fun e w' => e = .returned (.tuple #[.agg #[.int .u32 n, .int .i64 k], .int .i64 0]) ∧ Below w.heap.size w w' := by
  have g1 : ¬ n < 1 := by omega
  have g2 : ¬ 2147483647 < n := by omega
  have g3 : ¬ k < 1 := by omega
  have g4 : ¬ n < k := by omega
  have g5 : ¬ 512 < k := by omega
  go_enter Try.func21, Try.ntmps21
  go_wp2
  refine bodyPost_ret (v := .tuple #[.agg #[.int .u32 n, .int .i64 k], .int .i64 0]) (by simp [results, Try.results21, go_sem]) rfl ⟨rfl, ?_⟩
  repeat (first | exact Below.refl _ _ | refine Below.drew ?_ | refine Below.alloc ?_ (by first | omega | (simp <;> omega)) _)

set_option maxHeartbeats 1000000 in
theorem refNo (n k : Int) (hn : 0 ≤ n) (hb : n < 1 ∨ 2147483647 < n ∨ k < 1 ∨ n < k ∨ 512 < k) (hk : n ≤ 4294967295) (w : World) :
    Calls Try.prog 21 #[.int .u32 n, .int .i64 k] w fun e w' => e = .returned (.tuple #[.agg #[.int .u32 0, .int .i64 0], .int .i64 90]) ∧ Below w.heap.size w w' := by
  have hc : n < 1 ∨ (¬ n < 1 ∧ 2147483647 < n) ∨ (¬ n < 1 ∧ ¬ 2147483647 < n ∧ k < 1) ∨ (¬ n < 1 ∧ ¬ 2147483647 < n ∧ ¬ k < 1 ∧ n < k) ∨ (¬ n < 1 ∧ ¬ 2147483647 < n ∧ ¬ k < 1 ∧ ¬ n < k ∧ 512 < k) := by omega
  clear hb
  rcases hc with a1 | ⟨a1, a2⟩ | ⟨a1, a2, a3⟩ | ⟨a1, a2, a3, a4⟩ | ⟨a1, a2, a3, a4, a5⟩
  all_goals
    go_enter Try.func21, Try.ntmps21
    go_wp2
    refine bodyPost_ret (v := .tuple #[.agg #[.int .u32 0, .int .i64 0], .int .i64 90]) (by simp [results, Try.results21, go_sem]) rfl ⟨rfl, ?_⟩
    repeat (first | exact Below.refl _ _ | refine Below.drew ?_ | refine Below.alloc ?_ (by first | omega | (simp <;> omega)) _)

theorem parts (n k q r : Int) (h0 : 0 ≤ k) (h1 : k ≤ 512) (w : World) :
    Calls Try.prog 22 #[.agg #[.int .u32 n, .int .u32 k, .int .u32 q, .int .u32 r]] w fun e w' => e = .returned (.int .i64 k) ∧ Below w.heap.size w w' := by
  go_enter Try.func22, Try.ntmps22
  go_wp2
  go_ret
  exact ⟨rfl, (Below.refl _ _).alloc (Nat.le_refl _) _⟩

theorem vertices (n k q r : Int) (w : World) :
    Calls Try.prog 23 #[.agg #[.int .u32 n, .int .u32 k, .int .u32 q, .int .u32 r]] w fun e w' => e = .returned (.int .u32 n) ∧ Below w.heap.size w w' := by
  go_enter Try.func23, Try.ntmps23
  go_wp2
  go_ret
  exact ⟨rfl, (Below.refl _ _).alloc (Nat.le_refl _) _⟩

theorem partOut (n k q r v : Int) (h : n ≤ v) (w : World) :
    Calls Try.prog 24 #[.agg #[.int .u32 n, .int .u32 k, .int .u32 q, .int .u32 r], .int .u32 v] w fun e w' => e = .returned (.int .i64 (-1)) ∧ Below w.heap.size w w' := by
  go_enter Try.func24, Try.ntmps24
  go_wp2
  go_ret
  exact ⟨rfl, (Below.refl _ _).alloc (Nat.le_refl _) _⟩

theorem partIn (n k q r v : Int) (h : Cut n k q r) (hv : 0 ≤ v) (hn : v < n) (w : World) :
    Calls Try.prog 24 #[.agg #[.int .u32 n, .int .u32 k, .int .u32 q, .int .u32 r], .int .u32 v] w fun e w' => e = .returned (.int .i64 (part n q r v)) ∧ Below w.heap.size w w' := by
  have hq := h.q1; have hqn := h.qn; have hn1 := h.n1; have hr0 := h.r0; have hr1 := h.r1; have hk2 := h.k2
  have e0 : ¬ n ≤ v := by omega
  have hd0 : 0 ≤ v / (q + 1) := Int.ediv_nonneg hv (by omega)
  have hd1 : v / (q + 1) ≤ v := Int.ediv_le_self _ hv
  by_cases hc : v / (q + 1) < r
  · have e : part n q r v = v / (q + 1) := by unfold part; rw [if_neg e0, if_pos hc]
    rw [e]
    clear e
    go_enter Try.func24, Try.ntmps24
    go_wp2
    go_ret
    exact ⟨rfl, (Below.refl _ _).alloc (Nat.le_refl _) _⟩
  · have e : part n q r v = (v - r) / q := by unfold part; rw [if_neg e0, if_neg hc]
    rw [e]
    clear e
    have hrv : r ≤ v := by
      rcases Int.lt_or_le v r with h3 | h3
      · have := Int.ediv_lt_of_lt_mul (a := v) (b := r) (c := q + 1) (by omega) (by have : r * 1 ≤ r * (q + 1) := Int.mul_le_mul_of_nonneg_left (by omega) (by omega); omega)
        omega
      · exact h3
    have hd2 : 0 ≤ (v - r) / q := Int.ediv_nonneg (by omega) (by omega)
    have hd3 : (v - r) / q ≤ v - r := Int.ediv_le_self _ (by omega)
    go_enter Try.func24, Try.ntmps24
    go_wp2
    go_ret
    exact ⟨rfl, (Below.refl _ _).alloc (Nat.le_refl _) _⟩

theorem refOut (n k v : Int) (h : n ≤ v) (w : World) :
    Calls Try.prog 25 #[.agg #[.int .u32 n, .int .i64 k], .int .u32 v] w fun e w' => e = .returned (.int .i64 (-1)) ∧ Below w.heap.size w w' := by
  go_enter Try.func25, Try.ntmps25
  go_wp2
  go_ret
  exact ⟨rfl, (Below.refl _ _).alloc (Nat.le_refl _) _⟩

theorem Cut.quo {n k q r : Int} (h : Cut n k q r) : n / k = q := by
  have h1 := h.r0; have h2 := h.r1; have h3 := h.eq
  rw [← h3, Int.add_comm, Int.add_mul_ediv_left _ _ (by omega), Int.ediv_eq_zero_of_lt h1 h2]; omega
theorem Cut.rem {n k q r : Int} (h : Cut n k q r) : n % k = r := by
  have h1 := h.r0; have h2 := h.r1; have h3 := h.eq
  rw [← h3, Int.add_comm, Int.add_mul_emod_self_left]; exact Int.emod_eq_of_lt h1 h2

theorem refIn (n k q r v : Int) (h : Cut n k q r) (hv : 0 ≤ v) (hn : v < n) (w : World) :
    Calls Try.prog 25 #[.agg #[.int .u32 n, .int .i64 k], .int .u32 v] w fun e w' => e = .returned (.int .i64 (part n q r v)) ∧ Below w.heap.size w w' := by
  rw [← part_other h hv]
  have e1 := Lib.hid h.quo; have e2 := Lib.hid h.rem
  have hq := h.q1; have hqn := h.qn; have hn1 := h.n1; have hr0 := h.r0; have hr1 := h.r1; have hk1 := h.k1; have hk2 := h.k2; have heq := h.eq
  have e0 : ¬ n ≤ v := by omega
  have m1 : 0 ≤ r * (q + 1) := Int.mul_nonneg hr0 (by omega)
  have m2 : r * (q + 1) ≤ n := by
    have : r * q ≤ k * q := Int.mul_le_mul_of_nonneg_right (by omega) (by omega)
    rw [Int.mul_add]
    omega
  have d0 : 0 ≤ v / (q + 1) := Int.ediv_nonneg hv (by omega)
  have d1 : v / (q + 1) ≤ v := Int.ediv_le_self _ hv
  rw [if_neg e0]
  obtain ⟨q', hq'⟩ : ∃ q', n / k = q' := ⟨_, rfl⟩
  obtain ⟨r', hr'⟩ : ∃ r', n % k = r' := ⟨_, rfl⟩
  obtain rfl : q' = q := hq'.symm.trans e1.out
  obtain rfl : r' = r := hr'.symm.trans e2.out
  clear e1 e2
  by_cases hc : v < r' * (q' + 1)
  · rw [if_pos hc]
    go_enter Try.func25, Try.ntmps25
    go_wp2
    go_ret
    exact ⟨rfl, (Below.refl _ _).alloc (Nat.le_refl _) _⟩
  · rw [if_neg hc]
    have d2 : 0 ≤ (v - r' * (q' + 1)) / q' := Int.ediv_nonneg (by omega) (by omega)
    have d3 : (v - r' * (q' + 1)) / q' ≤ v - r' * (q' + 1) := Int.ediv_le_self _ (by omega)
    go_enter Try.func25, Try.ntmps25
    go_wp2
    go_ret
    exact ⟨rfl, (Below.refl _ _).alloc (Nat.le_refl _) _⟩

theorem spanIn (b : Nat) (n k q r p : Int) (h : Cut n k q r) (h0 : 0 ≤ p) (h1 : p ≤ k) (w : World) (hc : ∀ o, w.cell? ⟨b, o, none⟩ = (#[Value.int .u32 n, .int .u32 k, .int .u32 q, .int .u32 r] : Array Value)[o]?) :
    Calls Try.prog 64 #[.int .u32 p, .pointer (some ⟨b, 0, none⟩)] w fun e w' => e = .returned (.int .u32 (first q r p)) ∧ w' = w := by
  obtain ⟨f0, f1, f2, f3⟩ := first_bound h h0 h1
  unfold first at f2 f3 ⊢
  have hq := h.q1; have hqn := h.qn; have hn1 := h.n1; have hr0 := h.r0; have hr1 := h.r1; have hk1 := h.k1; have hk2 := h.k2; have heq := h.eq
  by_cases hm : p ≤ r
  · have em : min p r = p := by omega
    rw [em] at f2 f3 ⊢
    go_enter Try.func64, Try.ntmps64
    go_wp2
    all_goals (go_ret; exact ⟨rfl, rfl⟩)
  · have em : min p r = r := by omega
    rw [em] at f2 f3 ⊢
    go_enter Try.func64, Try.ntmps64
    go_wp2
    all_goals (go_ret; exact ⟨rfl, rfl⟩)

/-- A cut, or none. -/
def Good (n k q r : Int) : Prop := Cut n k q r ∨ (n = 0 ∧ k = 0 ∧ q = 0 ∧ r = 0)
theorem Good.bounds {n k q r : Int} (h : Good n k q r) : 0 ≤ n ∧ n ≤ 2147483647 ∧ 0 ≤ k ∧ k ≤ 512 := by
  rcases h with h | ⟨rfl, rfl, rfl, rfl⟩
  · have := h.n0; have := h.n1; have := h.k1; have := h.k2; omega
  · omega
/-- The vertices of a part. -/
def lo (k q r p : Int) : Int := if p < 0 ∨ k ≤ p then 0 else first q r p
def hi (k q r p : Int) : Int := if p < 0 ∨ k ≤ p then 0 else first q r (p + 1)

theorem span (n k q r p : Int) (h : Good n k q r) (hp : -9223372036854775808 ≤ p ∧ p ≤ 9223372036854775807) (w : World) :
    Calls Try.prog 26 #[.agg #[.int .u32 n, .int .u32 k, .int .u32 q, .int .u32 r], .int .i64 p] w fun e w' => e = .returned (.tuple #[.int .u32 (lo k q r p), .int .u32 (hi k q r p)]) ∧ Below w.heap.size w w' := by
  obtain ⟨b0, b1, b2, b3⟩ := h.bounds
  unfold lo hi
  by_cases h0 : p < 0
  · rw [if_pos (Or.inl h0), if_pos (Or.inl h0)]
    go_enter Try.func26, Try.ntmps26
    go_wp2
    go_ret2
    exact ⟨rfl, (Below.refl _ _).alloc (Nat.le_refl _) _⟩
  by_cases h1 : k ≤ p
  · rw [if_pos (Or.inr h1), if_pos (Or.inr h1)]
    go_enter Try.func26, Try.ntmps26
    go_wp2
    go_ret2
    exact ⟨rfl, (Below.refl _ _).alloc (Nat.le_refl _) _⟩
  have hc : Cut n k q r := by
    rcases h with h | ⟨rfl, rfl, rfl, rfl⟩
    · exact h
    · omega
  rw [if_neg (by omega), if_neg (by omega)]
  go_enter Try.func26, Try.ntmps26
  go_wp2_with fail
  refine (spanIn _ _ _ _ _ _ hc (by omega) (by omega) _ (fun o => K.row_cell (heap_alloc_new w _) o)).mono ?_
  rintro e w1 ⟨rfl, rfl⟩
  go_wp2_with fail
  refine (spanIn _ _ _ _ _ _ hc (by omega) (by omega) _ (fun o => K.row_cell (heap_alloc_new w _) o)).mono ?_
  rintro e w1 ⟨rfl, rfl⟩
  go_wp2
  go_ret2
  exact ⟨rfl, (Below.refl _ _).alloc (Nat.le_refl _) _⟩

theorem refSpan (n k q r p : Int) (h : Good n k q r) (hp : -9223372036854775808 ≤ p ∧ p ≤ 9223372036854775807) (w : World) :
    Calls Try.prog 27 #[.agg #[.int .u32 n, .int .i64 k], .int .i64 p] w fun e w' => e = .returned (.tuple #[.int .u32 (lo k q r p), .int .u32 (hi k q r p)]) ∧ Below w.heap.size w w' := by
  obtain ⟨b0, b1, b2, b3⟩ := h.bounds
  unfold lo hi
  by_cases h0 : p < 0
  · rw [if_pos (Or.inl h0), if_pos (Or.inl h0)]
    go_enter Try.func27, Try.ntmps27
    go_wp2
    go_ret2
    exact ⟨rfl, (Below.refl _ _).alloc (Nat.le_refl _) _⟩
  by_cases h1 : k ≤ p
  · rw [if_pos (Or.inr h1), if_pos (Or.inr h1)]
    go_enter Try.func27, Try.ntmps27
    go_wp2
    go_ret2
    exact ⟨rfl, (Below.refl _ _).alloc (Nat.le_refl _) _⟩
  have hc : Cut n k q r := by
    rcases h with h | ⟨rfl, rfl, rfl, rfl⟩
    · exact h
    · omega
  rw [if_neg (by omega), if_neg (by omega)]
  clear h
  have e1 := Lib.hid hc.quo; have e2 := Lib.hid hc.rem
  obtain ⟨f0, f1, f2, f3⟩ := first_bound hc (p := p) (by omega) (by omega)
  obtain ⟨f4, f5, f6, f7⟩ := first_bound hc (p := p + 1) (by omega) (by omega)
  unfold first at f2 f3 f6 f7 ⊢
  have g : (p + 1) * q = p * q + q := by rw [Int.add_mul, Int.one_mul]
  rw [g] at f4 f5 f6 f7 ⊢
  have hq := hc.q1; have hqn := hc.qn; have hn1 := hc.n1; have hr0 := hc.r0; have hr1 := hc.r1; have hk1 := hc.k1; have hk2 := hc.k2; have heq := hc.eq
  clear hc
  obtain ⟨q', hq'⟩ : ∃ q', n / k = q' := ⟨_, rfl⟩
  obtain ⟨r', hr'⟩ : ∃ r', n % k = r' := ⟨_, rfl⟩
  obtain rfl : q' = q := hq'.symm.trans e1.out
  obtain rfl : r' = r := hr'.symm.trans e2.out
  clear e1 e2
  by_cases hm : p < r'
  · have em : min p r' = p := by omega
    have em' : min (p + 1) r' = p + 1 := by omega
    rw [em] at f2 f3 ⊢
    rw [em'] at f6 f7 ⊢
    have ea : p * q' + q' + (p + 1) = p * q' + p + q' + 1 := by omega
    rw [ea] at f6 f7 ⊢
    go_enter Try.func27, Try.ntmps27
    go_wp2
    all_goals (go_ret2; exact ⟨rfl, (Below.refl _ _).alloc (Nat.le_refl _) _⟩)
  · rcases Int.lt_or_eq_of_le (Int.not_lt.1 hm) with hm' | rfl
    · have em : min p r' = r' := by omega
      have em' : min (p + 1) r' = r' := by omega
      rw [em] at f2 f3 ⊢
      rw [em'] at f6 f7 ⊢
      have ea : p * q' + q' + r' = p * q' + r' + q' := by omega
      rw [ea] at f6 f7 ⊢
      go_enter Try.func27, Try.ntmps27
      go_wp2
      all_goals (go_ret2; exact ⟨rfl, (Below.refl _ _).alloc (Nat.le_refl _) _⟩)
    · have em : min r' r' = r' := by omega
      have em' : min (r' + 1) r' = r' := by omega
      rw [em] at f2 f3 ⊢
      rw [em'] at f6 f7 ⊢
      have ea : r' * q' + q' + r' = r' * q' + r' + q' := by omega
      rw [ea] at f6 f7 ⊢
      go_enter Try.func27, Try.ntmps27
      go_wp2
      all_goals (go_ret2; exact ⟨rfl, (Below.refl _ _).alloc (Nat.le_refl _) _⟩)

/-- The part of a vertex, whether there is a cut or none. -/
theorem partAny (n k q r v : Int) (h : Good n k q r) (hv : 0 ≤ v) (w : World) :
    Calls Try.prog 24 #[.agg #[.int .u32 n, .int .u32 k, .int .u32 q, .int .u32 r], .int .u32 v] w fun e w' => e = .returned (.int .i64 (part n q r v)) ∧ Below w.heap.size w w' := by
  by_cases hn : n ≤ v
  · have e : part n q r v = -1 := by unfold part; rw [if_pos hn]
    rw [e]; exact partOut _ _ _ _ _ hn w
  · rcases h with h | ⟨rfl, rfl, rfl, rfl⟩
    · exact partIn _ _ _ _ _ h hv (by omega) w
    · omega
theorem refAny (n k q r v : Int) (h : Good n k q r) (hv : 0 ≤ v) (w : World) :
    Calls Try.prog 25 #[.agg #[.int .u32 n, .int .i64 k], .int .u32 v] w fun e w' => e = .returned (.int .i64 (part n q r v)) ∧ Below w.heap.size w w' := by
  by_cases hn : n ≤ v
  · have e : part n q r v = -1 := by unfold part; rw [if_pos hn]
    rw [e]; exact refOut _ _ _ hn w
  · rcases h with h | ⟨rfl, rfl, rfl, rfl⟩
    · exact refIn _ _ _ _ _ h hv (by omega) w
    · omega

theorem bySrc (n k q r v d x : Int) (h : Good n k q r) (hv : 0 ≤ v) (w : World) :
    Calls Try.prog 28 #[.agg #[.int .u32 n, .int .u32 k, .int .u32 q, .int .u32 r], .agg #[.int .u32 v, .int .u32 d, .int .u32 x]] w fun e w' => e = .returned (.int .i64 (part n q r v)) ∧ Below w.heap.size w w' := by
  go_enter Try.func28, Try.ntmps28
  go_wp2_with fail
  refine (partAny _ _ _ _ _ h hv _).mono ?_
  rintro e w1 ⟨rfl, hw1⟩
  go_wp2
  go_ret
  exact ⟨rfl, (((Below.refl _ _).alloc (Nat.le_refl _) _).alloc (by simp) _).trans (hw1.mono (by simp; omega))⟩
theorem byDst (n k q r v d x : Int) (h : Good n k q r) (hv : 0 ≤ v) (w : World) :
    Calls Try.prog 29 #[.agg #[.int .u32 n, .int .u32 k, .int .u32 q, .int .u32 r], .agg #[.int .u32 d, .int .u32 v, .int .u32 x]] w fun e w' => e = .returned (.int .i64 (part n q r v)) ∧ Below w.heap.size w w' := by
  go_enter Try.func29, Try.ntmps29
  go_wp2_with fail
  refine (partAny _ _ _ _ _ h hv _).mono ?_
  rintro e w1 ⟨rfl, hw1⟩
  go_wp2
  go_ret
  exact ⟨rfl, (((Below.refl _ _).alloc (Nat.le_refl _) _).alloc (by simp) _).trans (hw1.mono (by simp; omega))⟩
theorem byTo (n k q r v x y : Int) (h : Good n k q r) (hv : 0 ≤ v) (w : World) :
    Calls Try.prog 30 #[.agg #[.int .u32 n, .int .u32 k, .int .u32 q, .int .u32 r], .agg #[.int .u32 v, .int .u64 x, .int .u64 y]] w fun e w' => e = .returned (.int .i64 (part n q r v)) ∧ Below w.heap.size w w' := by
  go_enter Try.func30, Try.ntmps30
  go_wp2_with fail
  refine (partAny _ _ _ _ _ h hv _).mono ?_
  rintro e w1 ⟨rfl, hw1⟩
  go_wp2
  go_ret
  exact ⟨rfl, (((Below.refl _ _).alloc (Nat.le_refl _) _).alloc (by simp) _).trans (hw1.mono (by simp; omega))⟩
theorem num (x : Int) (w : World) : Calls Try.prog 16 #[.int .i64 x] w fun e w' => e = .returned (.int .i64 x) ∧ Below w.heap.size w w' := by
  go_enter Try.func16, Try.ntmps16
  go_wp2
  go_ret
  exact ⟨rfl, Below.refl _ _⟩

/-- What both Splits tell. -/
theorem splits (n k : Int) (hn : 0 ≤ n) (hn' : n ≤ 4294967295) : ∃ n' k' q r e, Good n' k' q r ∧
    (∀ w, Calls Try.prog 20 #[.int .u32 n, .int .i64 k] w fun x w' => x = .returned (.tuple #[.agg #[.int .u32 n', .int .u32 k', .int .u32 q, .int .u32 r], .int .i64 e]) ∧ Below w.heap.size w w') ∧
    (∀ w, Calls Try.prog 21 #[.int .u32 n, .int .i64 k] w fun x w' => x = .returned (.tuple #[.agg #[.int .u32 n', .int .i64 k'], .int .i64 e]) ∧ Below w.heap.size w w') := by
  by_cases h : n < 1 ∨ 2147483647 < n ∨ k < 1 ∨ n < k ∨ 512 < k
  · exact ⟨0, 0, 0, 0, 90, .inr ⟨rfl, rfl, rfl, rfl⟩, splitNo n k hn h hn', refNo n k hn h hn'⟩
  · exact ⟨n, k, n / k, n % k, 0, .inl (Cut.of (by omega) (by omega) (by omega) (by omega) (by omega)),
      splitYes n k (by omega) (by omega) (by omega) (by omega) (by omega), refYes n k (by omega) (by omega) (by omega) (by omega) (by omega)⟩

end Go.Proofs.Ytepljdnhnnpdmaa.Cut
