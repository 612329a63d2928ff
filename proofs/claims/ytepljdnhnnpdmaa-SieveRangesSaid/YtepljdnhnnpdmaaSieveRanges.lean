/-
  SieveRanges: when vertices are cut; the part of every vertex, the vertices of every part: the program's answers are the document's. No condition.
-/
import Derived.Test.YtepljdnhnnpdmaaRows
import Derived.Test.YtepljdnhnnpdmaaK
import Derived.Test.YtepljdnhnnpdmaaKe
import Derived.ShutString
import Derived.Outline
import Derived.StillTailTactics
import Derived.ChangeOld
import Derived.SizedLaws
set_option linter.unusedVariables false
set_option linter.unusedSimpArgs false
namespace Go.Proofs.Ytepljdnhnnpdmaa.sieveRanges
open Go.ChangeShapes Go.WideShapes Go.ChangeAt Go.RowKit
open Go.ChangeMaps (open_string shut_string)

/-! ### plain numbers -/
theorem quo_rem (n k : Int) (h0 : 0 ≤ n) (h : 1 ≤ k) : 0 ≤ n / k ∧ 0 ≤ n % k ∧ n % k < k ∧ k * (n / k) + n % k = n :=
  ⟨Int.ediv_nonneg h0 (by omega), Int.emod_nonneg n (by omega), Int.emod_lt_of_pos n (by omega), Int.mul_ediv_add_emod n k⟩

/-- What a cut is made of. -/
structure Cut (n k q r : Int) : Prop where
  n0 : 0 ≤ n
  n1 : n ≤ 2147483647
  k1 : 1 ≤ k
  k2 : k ≤ 512
  q1 : 1 ≤ q
  r0 : 0 ≤ r
  r1 : r < k
  eq : k * q + r = n
theorem Cut.of {n k : Int} (h0 : 1 ≤ n) (h1 : n ≤ 2147483647) (h2 : 1 ≤ k) (h3 : k ≤ n) (h4 : k ≤ 512) : Cut n k (n / k) (n % k) := by
  obtain ⟨a, b, c, d⟩ := quo_rem n k (by omega) h2
  refine ⟨by omega, h1, h2, h4, ?_, b, c, d⟩
  rcases Int.lt_or_le (n / k) 1 with h | h
  · have : n / k = 0 := by omega
    rw [this] at d
    omega
  · exact h
theorem Cut.qn {n k q r : Int} (h : Cut n k q r) : q ≤ n := by
  have h1 : 1 * q ≤ k * q := Int.mul_le_mul_of_nonneg_right h.k1 (by have := h.q1; omega)
  have := h.eq; have := h.r0
  omega
/-- The part of a vertex. -/
def part (n q r v : Int) : Int := if n ≤ v then -1 else if v / (q + 1) < r then v / (q + 1) else (v - r) / q
theorem part_other {n k q r v : Int} (h : Cut n k q r) (hv : 0 ≤ v) : (if n ≤ v then -1 else if v < r * (q + 1) then v / (q + 1) else r + (v - r * (q + 1)) / q) = part n q r v := by
  unfold part
  by_cases h1 : n ≤ v
  · simp [h1]
  · have hq := h.q1
    simp only [h1, if_false]
    by_cases h2 : v < r * (q + 1)
    · rw [if_pos h2, if_pos (Int.ediv_lt_of_lt_mul (by omega) h2)]
    · rw [if_neg h2, if_neg (by
        intro h3
        have := (Int.ediv_lt_iff_lt_mul (by omega : 0 < q + 1)).1 h3
        omega)]
      have e : v - r = (v - r * (q + 1)) + r * q := by rw [Int.mul_add]; omega
      rw [e, Int.add_mul_ediv_right _ _ (by omega)]
      omega
def first (q r p : Int) : Int := p * q + min p r
theorem first_bound {n k q r p : Int} (h : Cut n k q r) (h0 : 0 ≤ p) (h1 : p ≤ k) : 0 ≤ p * q ∧ p * q ≤ k * q ∧ 0 ≤ first q r p ∧ first q r p ≤ n := by
  have hq := h.q1; have := h.eq; have := h.r0; have := h.r1
  have a : 0 ≤ p * q := Int.mul_nonneg h0 (by omega)
  have b : p * q ≤ k * q := Int.mul_le_mul_of_nonneg_right h1 (by omega)
  refine ⟨a, b, ?_, ?_⟩ <;> unfold first <;> omega

/-! ### the walks -/
theorem alloc_cell {w : World} {O : Obj} {b : Nat} (h : b < w.heap.size) (o : Nat) : (w.alloc O).cell? ⟨b, o, none⟩ = w.cell? ⟨b, o, none⟩ := World.cell?_alloc_lt w O ⟨b, o, none⟩ h
set_option maxRecDepth 100000 in
theorem splitYes (n k : Int) (h0 : 1 ≤ n) (h1 : n ≤ 2147483647) (h2 : 1 ≤ k) (h3 : k ≤ n) (h4 : k ≤ 512) (w : World) :
    Calls Try.prog 20 #[.int .u32 n, .int .i64 k] w fun e w' => e = .returned (.tuple #[.agg #[.int .u32 n, .int .u32 k, .int .u32 (n / k), .int .u32 (n % k)], .int .i64 0]) ∧ Below w.heap.size w w' := by
  have g1 : ¬ n < 1 := by omega
  have g2 : ¬ 2147483647 < n := by omega
  have g3 : ¬ k < 1 := by omega
  have g4 : ¬ n < k := by omega
  have g5 : ¬ 512 < k := by omega
  go_enter Try.func20, Try.ntmps20
  go_wp2
  have hk : IntKind.u32.wrap k = k := IntWalk.u32_in _ (by omega)
  have hk0 : ¬ k = 0 := by omega
  refine K.region_tail 12 (by kernel_rfl) (by kernel_rfl) ?_
  simp only [List.take_succ_cons, List.take_zero, List.drop_succ_cons, List.drop_zero]
  iterate 14 (first
    | (refine wpStill_step (fun KK hKK => ?_)
       first
         | (refine K.still_else ?_ (K.Puts.mk' _) ?_
            (first | rfl | (simp [Region.wanted, yielded]; done))
            refine hKK _ ?_)
         | (refine K.still_if ?_ ?_
            (first | rfl | (simp [Region.wanted, yielded]; done))
            apply K.still_val
            · go_simp; (try go_ints); exact K.Gives.mk' _ _
            · go_simp; exact K.Puts.mk' _
            refine hKK _ ?_)
       clear hKK KK)
    | skip)
  refine wpStill_nil ?_
  go_wp2
  refine bodyPost_ret (v := .tuple #[.agg #[.int .u32 n, .int .u32 k, .int .u32 (n / k), .int .u32 (n % k)], .int .i64 0]) (by simp [results, Try.results20, go_sem]) rfl ⟨rfl, ?_⟩
  repeat (first | exact Below.refl _ _ | refine Below.drew ?_ | refine Below.alloc ?_ (by first | omega | (simp <;> omega)) _)

set_option maxHeartbeats 1000000 in
theorem splitNo (n k : Int) (hn : 0 ≤ n) (hb : n < 1 ∨ 2147483647 < n ∨ k < 1 ∨ n < k ∨ 512 < k) (hk : n ≤ 4294967295) (w : World) :
    Calls Try.prog 20 #[.int .u32 n, .int .i64 k] w fun e w' => e = .returned (.tuple #[.agg #[.int .u32 0, .int .u32 0, .int .u32 0, .int .u32 0], .int .i64 90]) ∧ Below w.heap.size w w' := by
  have hc : n < 1 ∨ (¬ n < 1 ∧ 2147483647 < n) ∨ (¬ n < 1 ∧ ¬ 2147483647 < n ∧ k < 1) ∨ (¬ n < 1 ∧ ¬ 2147483647 < n ∧ ¬ k < 1 ∧ n < k) ∨ (¬ n < 1 ∧ ¬ 2147483647 < n ∧ ¬ k < 1 ∧ ¬ n < k ∧ 512 < k) := by omega
  clear hb
  rcases hc with a1 | ⟨a1, a2⟩ | ⟨a1, a2, a3⟩ | ⟨a1, a2, a3, a4⟩ | ⟨a1, a2, a3, a4, a5⟩
  all_goals
    go_enter Try.func20, Try.ntmps20
    go_wp2
    refine bodyPost_ret (v := .tuple #[.agg #[.int .u32 0, .int .u32 0, .int .u32 0, .int .u32 0], .int .i64 90]) (by simp [results, Try.results20, go_sem]) rfl ⟨rfl, ?_⟩
    repeat (first | exact Below.refl _ _ | refine Below.drew ?_ | refine Below.alloc ?_ (by first | omega | (simp <;> omega)) _)

theorem refYes (n k : Int) (h0 : 1 ≤ n) (h1 : n ≤ 2147483647) (h2 : 1 ≤ k) (h3 : k ≤ n) (h4 : k ≤ 512) (w : World) :
    Calls Try.prog 21 #[.int .u32 n, .int .i64 k] w fun e w' => e = .returned (.tuple #[.agg #[.int .u32 n, .int .i64 k], .int .i64 0]) ∧ Below w.heap.size w w' := by
  have g1 : ¬ n < 1 := by omega
  have g2 : ¬ 2147483647 < n := by omega
  have g3 : ¬ k < 1 := by omega
  have g4 : ¬ n < k := by omega
  have g5 : ¬ 512 < k := by omega
  go_enter Try.func21, Try.ntmps21
  go_wp2
  refine bodyPost_ret (v := .tuple #[.agg #[.int .u32 n, .int .i64 k], .int .i64 0]) (by simp [results, Try.results21, go_sem]) rfl ⟨rfl, ?_⟩
  repeat (first | exact Below.refl _ _ | refine Below.drew ?_ | refine Below.alloc ?_ (by first | omega | (simp <;> omega)) _)

set_option maxHeartbeats 1000000 in
theorem refNo (n k : Int) (hn : 0 ≤ n) (hb : n < 1 ∨ 2147483647 < n ∨ k < 1 ∨ n < k ∨ 512 < k) (hk : n ≤ 4294967295) (w : World) :
    Calls Try.prog 21 #[.int .u32 n, .int .i64 k] w fun e w' => e = .returned (.tuple #[.agg #[.int .u32 0, .int .i64 0], .int .i64 90]) ∧ Below w.heap.size w w' := by
  have hc : n < 1 ∨ (¬ n < 1 ∧ 2147483647 < n) ∨ (¬ n < 1 ∧ ¬ 2147483647 < n ∧ k < 1) ∨ (¬ n < 1 ∧ ¬ 2147483647 < n ∧ ¬ k < 1 ∧ n < k) ∨ (¬ n < 1 ∧ ¬ 2147483647 < n ∧ ¬ k < 1 ∧ ¬ n < k ∧ 512 < k) := by omega
  clear hb
  rcases hc with a1 | ⟨a1, a2⟩ | ⟨a1, a2, a3⟩ | ⟨a1, a2, a3, a4⟩ | ⟨a1, a2, a3, a4, a5⟩
  all_goals
    go_enter Try.func21, Try.ntmps21
    go_wp2
    refine bodyPost_ret (v := .tuple #[.agg #[.int .u32 0, .int .i64 0], .int .i64 90]) (by simp [results, Try.results21, go_sem]) rfl ⟨rfl, ?_⟩
    repeat (first | exact Below.refl _ _ | refine Below.drew ?_ | refine Below.alloc ?_ (by first | omega | (simp <;> omega)) _)

theorem parts (n k q r : Int) (h0 : 0 ≤ k) (h1 : k ≤ 512) (w : World) :
    Calls Try.prog 22 #[.agg #[.int .u32 n, .int .u32 k, .int .u32 q, .int .u32 r]] w fun e w' => e = .returned (.int .i64 k) ∧ Below w.heap.size w w' := by
  go_enter Try.func22, Try.ntmps22
  go_wp2
  go_ret
  exact ⟨rfl, (Below.refl _ _).alloc (Nat.le_refl _) _⟩

theorem vertices (n k q r : Int) (w : World) :
    Calls Try.prog 23 #[.agg #[.int .u32 n, .int .u32 k, .int .u32 q, .int .u32 r]] w fun e w' => e = .returned (.int .u32 n) ∧ Below w.heap.size w w' := by
  go_enter Try.func23, Try.ntmps23
  go_wp2
  go_ret
  exact ⟨rfl, (Below.refl _ _).alloc (Nat.le_refl _) _⟩

theorem partOut (n k q r v : Int) (h : n ≤ v) (w : World) :
    Calls Try.prog 24 #[.agg #[.int .u32 n, .int .u32 k, .int .u32 q, .int .u32 r], .int .u32 v] w fun e w' => e = .returned (.int .i64 (-1)) ∧ Below w.heap.size w w' := by
  go_enter Try.func24, Try.ntmps24
  go_wp2
  go_ret
  exact ⟨rfl, (Below.refl _ _).alloc (Nat.le_refl _) _⟩

theorem partIn (n k q r v : Int) (h : Cut n k q r) (hv : 0 ≤ v) (hn : v < n) (w : World) :
    Calls Try.prog 24 #[.agg #[.int .u32 n, .int .u32 k, .int .u32 q, .int .u32 r], .int .u32 v] w fun e w' => e = .returned (.int .i64 (part n q r v)) ∧ Below w.heap.size w w' := by
  have hq := h.q1; have hqn := h.qn; have hn1 := h.n1; have hr0 := h.r0; have hr1 := h.r1; have hk2 := h.k2
  have e0 : ¬ n ≤ v := by omega
  have hd0 : 0 ≤ v / (q + 1) := Int.ediv_nonneg hv (by omega)
  have hd1 : v / (q + 1) ≤ v := Int.ediv_le_self _ hv
  by_cases hc : v / (q + 1) < r
  · have e : part n q r v = v / (q + 1) := by unfold part; rw [if_neg e0, if_pos hc]
    rw [e]
    clear e
    go_enter Try.func24, Try.ntmps24
    go_wp2
    go_ret
    exact ⟨rfl, (Below.refl _ _).alloc (Nat.le_refl _) _⟩
  · have e : part n q r v = (v - r) / q := by unfold part; rw [if_neg e0, if_neg hc]
    rw [e]
    clear e
    have hrv : r ≤ v := by
      rcases Int.lt_or_le v r with h3 | h3
      · have := Int.ediv_lt_of_lt_mul (a := v) (b := r) (c := q + 1) (by omega) (by have : r * 1 ≤ r * (q + 1) := Int.mul_le_mul_of_nonneg_left (by omega) (by omega); omega)
        omega
      · exact h3
    have hd2 : 0 ≤ (v - r) / q := Int.ediv_nonneg (by omega) (by omega)
    have hd3 : (v - r) / q ≤ v - r := Int.ediv_le_self _ (by omega)
    go_enter Try.func24, Try.ntmps24
    go_wp2
    go_ret
    exact ⟨rfl, (Below.refl _ _).alloc (Nat.le_refl _) _⟩

theorem refOut (n k v : Int) (h : n ≤ v) (w : World) :
    Calls Try.prog 25 #[.agg #[.int .u32 n, .int .i64 k], .int .u32 v] w fun e w' => e = .returned (.int .i64 (-1)) ∧ Below w.heap.size w w' := by
  go_enter Try.func25, Try.ntmps25
  go_wp2
  go_ret
  exact ⟨rfl, (Below.refl _ _).alloc (Nat.le_refl _) _⟩

theorem Cut.quo {n k q r : Int} (h : Cut n k q r) : n / k = q := by
  have h1 := h.r0; have h2 := h.r1; have h3 := h.eq
  rw [← h3, Int.add_comm, Int.add_mul_ediv_left _ _ (by omega), Int.ediv_eq_zero_of_lt h1 h2]; omega
theorem Cut.rem {n k q r : Int} (h : Cut n k q r) : n % k = r := by
  have h1 := h.r0; have h2 := h.r1; have h3 := h.eq
  rw [← h3, Int.add_comm, Int.add_mul_emod_self_left]; exact Int.emod_eq_of_lt h1 h2

theorem refIn (n k q r v : Int) (h : Cut n k q r) (hv : 0 ≤ v) (hn : v < n) (w : World) :
    Calls Try.prog 25 #[.agg #[.int .u32 n, .int .i64 k], .int .u32 v] w fun e w' => e = .returned (.int .i64 (part n q r v)) ∧ Below w.heap.size w w' := by
  rw [← part_other h hv]
  have e1 := Lib.hid h.quo; have e2 := Lib.hid h.rem
  have hq := h.q1; have hqn := h.qn; have hn1 := h.n1; have hr0 := h.r0; have hr1 := h.r1; have hk1 := h.k1; have hk2 := h.k2; have heq := h.eq
  have e0 : ¬ n ≤ v := by omega
  have m1 : 0 ≤ r * (q + 1) := Int.mul_nonneg hr0 (by omega)
  have m2 : r * (q + 1) ≤ n := by
    have : r * q ≤ k * q := Int.mul_le_mul_of_nonneg_right (by omega) (by omega)
    rw [Int.mul_add]
    omega
  have d0 : 0 ≤ v / (q + 1) := Int.ediv_nonneg hv (by omega)
  have d1 : v / (q + 1) ≤ v := Int.ediv_le_self _ hv
  rw [if_neg e0]
  obtain ⟨q', hq'⟩ : ∃ q', n / k = q' := ⟨_, rfl⟩
  obtain ⟨r', hr'⟩ : ∃ r', n % k = r' := ⟨_, rfl⟩
  obtain rfl : q' = q := hq'.symm.trans e1.out
  obtain rfl : r' = r := hr'.symm.trans e2.out
  clear e1 e2
  by_cases hc : v < r' * (q' + 1)
  · rw [if_pos hc]
    go_enter Try.func25, Try.ntmps25
    go_wp2
    go_ret
    exact ⟨rfl, (Below.refl _ _).alloc (Nat.le_refl _) _⟩
  · rw [if_neg hc]
    have d2 : 0 ≤ (v - r' * (q' + 1)) / q' := Int.ediv_nonneg (by omega) (by omega)
    have d3 : (v - r' * (q' + 1)) / q' ≤ v - r' * (q' + 1) := Int.ediv_le_self _ (by omega)
    go_enter Try.func25, Try.ntmps25
    go_wp2
    go_ret
    exact ⟨rfl, (Below.refl _ _).alloc (Nat.le_refl _) _⟩

theorem spanIn (b : Nat) (n k q r p : Int) (h : Cut n k q r) (h0 : 0 ≤ p) (h1 : p ≤ k) (w : World) (hc : ∀ o, w.cell? ⟨b, o, none⟩ = (#[Value.int .u32 n, .int .u32 k, .int .u32 q, .int .u32 r] : Array Value)[o]?) :
    Calls Try.prog 64 #[.int .u32 p, .pointer (some ⟨b, 0, none⟩)] w fun e w' => e = .returned (.int .u32 (first q r p)) ∧ w' = w := by
  obtain ⟨f0, f1, f2, f3⟩ := first_bound h h0 h1
  unfold first at f2 f3 ⊢
  have hq := h.q1; have hqn := h.qn; have hn1 := h.n1; have hr0 := h.r0; have hr1 := h.r1; have hk1 := h.k1; have hk2 := h.k2; have heq := h.eq
  by_cases hm : p ≤ r
  · have em : min p r = p := by omega
    rw [em] at f2 f3 ⊢
    go_enter Try.func64, Try.ntmps64
    go_wp2
    all_goals (go_ret; exact ⟨rfl, rfl⟩)
  · have em : min p r = r := by omega
    rw [em] at f2 f3 ⊢
    go_enter Try.func64, Try.ntmps64
    go_wp2
    all_goals (go_ret; exact ⟨rfl, rfl⟩)

/-- A cut, or none. -/
def Good (n k q r : Int) : Prop := Cut n k q r ∨ (n = 0 ∧ k = 0 ∧ q = 0 ∧ r = 0)
theorem Good.bounds {n k q r : Int} (h : Good n k q r) : 0 ≤ n ∧ n ≤ 2147483647 ∧ 0 ≤ k ∧ k ≤ 512 := by
  rcases h with h | ⟨rfl, rfl, rfl, rfl⟩
  · have := h.n0; have := h.n1; have := h.k1; have := h.k2; omega
  · omega
/-- The vertices of a part. -/
def lo (k q r p : Int) : Int := if p < 0 ∨ k ≤ p then 0 else first q r p
def hi (k q r p : Int) : Int := if p < 0 ∨ k ≤ p then 0 else first q r (p + 1)

theorem span (n k q r p : Int) (h : Good n k q r) (hp : -9223372036854775808 ≤ p ∧ p ≤ 9223372036854775807) (w : World) :
    Calls Try.prog 26 #[.agg #[.int .u32 n, .int .u32 k, .int .u32 q, .int .u32 r], .int .i64 p] w fun e w' => e = .returned (.tuple #[.int .u32 (lo k q r p), .int .u32 (hi k q r p)]) ∧ Below w.heap.size w w' := by
  obtain ⟨b0, b1, b2, b3⟩ := h.bounds
  unfold lo hi
  by_cases h0 : p < 0
  · rw [if_pos (Or.inl h0), if_pos (Or.inl h0)]
    go_enter Try.func26, Try.ntmps26
    go_wp2
    go_ret2
    exact ⟨rfl, (Below.refl _ _).alloc (Nat.le_refl _) _⟩
  by_cases h1 : k ≤ p
  · rw [if_pos (Or.inr h1), if_pos (Or.inr h1)]
    go_enter Try.func26, Try.ntmps26
    go_wp2
    go_ret2
    exact ⟨rfl, (Below.refl _ _).alloc (Nat.le_refl _) _⟩
  have hc : Cut n k q r := by
    rcases h with h | ⟨rfl, rfl, rfl, rfl⟩
    · exact h
    · omega
  rw [if_neg (by omega), if_neg (by omega)]
  go_enter Try.func26, Try.ntmps26
  go_wp2_with fail
  refine (spanIn _ _ _ _ _ _ hc (by omega) (by omega) _ (fun o => K.row_cell (heap_alloc_new w _) o)).mono ?_
  rintro e w1 ⟨rfl, rfl⟩
  go_wp2_with fail
  refine (spanIn _ _ _ _ _ _ hc (by omega) (by omega) _ (fun o => K.row_cell (heap_alloc_new w _) o)).mono ?_
  rintro e w1 ⟨rfl, rfl⟩
  go_wp2
  go_ret2
  exact ⟨rfl, (Below.refl _ _).alloc (Nat.le_refl _) _⟩

theorem refSpan (n k q r p : Int) (h : Good n k q r) (hp : -9223372036854775808 ≤ p ∧ p ≤ 9223372036854775807) (w : World) :
    Calls Try.prog 27 #[.agg #[.int .u32 n, .int .i64 k], .int .i64 p] w fun e w' => e = .returned (.tuple #[.int .u32 (lo k q r p), .int .u32 (hi k q r p)]) ∧ Below w.heap.size w w' := by
  obtain ⟨b0, b1, b2, b3⟩ := h.bounds
  unfold lo hi
  by_cases h0 : p < 0
  · rw [if_pos (Or.inl h0), if_pos (Or.inl h0)]
    go_enter Try.func27, Try.ntmps27
    go_wp2
    go_ret2
    exact ⟨rfl, (Below.refl _ _).alloc (Nat.le_refl _) _⟩
  by_cases h1 : k ≤ p
  · rw [if_pos (Or.inr h1), if_pos (Or.inr h1)]
    go_enter Try.func27, Try.ntmps27
    go_wp2
    go_ret2
    exact ⟨rfl, (Below.refl _ _).alloc (Nat.le_refl _) _⟩
  have hc : Cut n k q r := by
    rcases h with h | ⟨rfl, rfl, rfl, rfl⟩
    · exact h
    · omega
  rw [if_neg (by omega), if_neg (by omega)]
  clear h
  have e1 := Lib.hid hc.quo; have e2 := Lib.hid hc.rem
  obtain ⟨f0, f1, f2, f3⟩ := first_bound hc (p := p) (by omega) (by omega)
  obtain ⟨f4, f5, f6, f7⟩ := first_bound hc (p := p + 1) (by omega) (by omega)
  unfold first at f2 f3 f6 f7 ⊢
  have g : (p + 1) * q = p * q + q := by rw [Int.add_mul, Int.one_mul]
  rw [g] at f4 f5 f6 f7 ⊢
  have hq := hc.q1; have hqn := hc.qn; have hn1 := hc.n1; have hr0 := hc.r0; have hr1 := hc.r1; have hk1 := hc.k1; have hk2 := hc.k2; have heq := hc.eq
  clear hc
  obtain ⟨q', hq'⟩ : ∃ q', n / k = q' := ⟨_, rfl⟩
  obtain ⟨r', hr'⟩ : ∃ r', n % k = r' := ⟨_, rfl⟩
  obtain rfl : q' = q := hq'.symm.trans e1.out
  obtain rfl : r' = r := hr'.symm.trans e2.out
  clear e1 e2
  by_cases hm : p < r'
  · have em : min p r' = p := by omega
    have em' : min (p + 1) r' = p + 1 := by omega
    rw [em] at f2 f3 ⊢
    rw [em'] at f6 f7 ⊢
    have ea : p * q' + q' + (p + 1) = p * q' + p + q' + 1 := by omega
    rw [ea] at f6 f7 ⊢
    go_enter Try.func27, Try.ntmps27
    go_wp2
    all_goals (go_ret2; exact ⟨rfl, (Below.refl _ _).alloc (Nat.le_refl _) _⟩)
  · rcases Int.lt_or_eq_of_le (Int.not_lt.1 hm) with hm' | rfl
    · have em : min p r' = r' := by omega
      have em' : min (p + 1) r' = r' := by omega
      rw [em] at f2 f3 ⊢
      rw [em'] at f6 f7 ⊢
      have ea : p * q' + q' + r' = p * q' + r' + q' := by omega
      rw [ea] at f6 f7 ⊢
      go_enter Try.func27, Try.ntmps27
      go_wp2
      all_goals (go_ret2; exact ⟨rfl, (Below.refl _ _).alloc (Nat.le_refl _) _⟩)
    · have em : min r' r' = r' := by omega
      have em' : min (r' + 1) r' = r' := by omega
      rw [em] at f2 f3 ⊢
      rw [em'] at f6 f7 ⊢
      have ea : r' * q' + q' + r' = r' * q' + r' + q' := by omega
      rw [ea] at f6 f7 ⊢
      go_enter Try.func27, Try.ntmps27
      go_wp2
      all_goals (go_ret2; exact ⟨rfl, (Below.refl _ _).alloc (Nat.le_refl _) _⟩)

/-- The part of a vertex, whether there is a cut or none. -/
theorem partAny (n k q r v : Int) (h : Good n k q r) (hv : 0 ≤ v) (w : World) :
    Calls Try.prog 24 #[.agg #[.int .u32 n, .int .u32 k, .int .u32 q, .int .u32 r], .int .u32 v] w fun e w' => e = .returned (.int .i64 (part n q r v)) ∧ Below w.heap.size w w' := by
  by_cases hn : n ≤ v
  · have e : part n q r v = -1 := by unfold part; rw [if_pos hn]
    rw [e]; exact partOut _ _ _ _ _ hn w
  · rcases h with h | ⟨rfl, rfl, rfl, rfl⟩
    · exact partIn _ _ _ _ _ h hv (by omega) w
    · omega
theorem refAny (n k q r v : Int) (h : Good n k q r) (hv : 0 ≤ v) (w : World) :
    Calls Try.prog 25 #[.agg #[.int .u32 n, .int .i64 k], .int .u32 v] w fun e w' => e = .returned (.int .i64 (part n q r v)) ∧ Below w.heap.size w w' := by
  by_cases hn : n ≤ v
  · have e : part n q r v = -1 := by unfold part; rw [if_pos hn]
    rw [e]; exact refOut _ _ _ hn w
  · rcases h with h | ⟨rfl, rfl, rfl, rfl⟩
    · exact refIn _ _ _ _ _ h hv (by omega) w
    · omega

theorem bySrc (n k q r v d x : Int) (h : Good n k q r) (hv : 0 ≤ v) (w : World) :
    Calls Try.prog 28 #[.agg #[.int .u32 n, .int .u32 k, .int .u32 q, .int .u32 r], .agg #[.int .u32 v, .int .u32 d, .int .u32 x]] w fun e w' => e = .returned (.int .i64 (part n q r v)) ∧ Below w.heap.size w w' := by
  go_enter Try.func28, Try.ntmps28
  go_wp2_with fail
  refine (partAny _ _ _ _ _ h hv _).mono ?_
  rintro e w1 ⟨rfl, hw1⟩
  go_wp2
  go_ret
  exact ⟨rfl, (((Below.refl _ _).alloc (Nat.le_refl _) _).alloc (by simp) _).trans (hw1.mono (by simp; omega))⟩
theorem byDst (n k q r v d x : Int) (h : Good n k q r) (hv : 0 ≤ v) (w : World) :
    Calls Try.prog 29 #[.agg #[.int .u32 n, .int .u32 k, .int .u32 q, .int .u32 r], .agg #[.int .u32 d, .int .u32 v, .int .u32 x]] w fun e w' => e = .returned (.int .i64 (part n q r v)) ∧ Below w.heap.size w w' := by
  go_enter Try.func29, Try.ntmps29
  go_wp2_with fail
  refine (partAny _ _ _ _ _ h hv _).mono ?_
  rintro e w1 ⟨rfl, hw1⟩
  go_wp2
  go_ret
  exact ⟨rfl, (((Below.refl _ _).alloc (Nat.le_refl _) _).alloc (by simp) _).trans (hw1.mono (by simp; omega))⟩
theorem byTo (n k q r v x y : Int) (h : Good n k q r) (hv : 0 ≤ v) (w : World) :
    Calls Try.prog 30 #[.agg #[.int .u32 n, .int .u32 k, .int .u32 q, .int .u32 r], .agg #[.int .u32 v, .int .u64 x, .int .u64 y]] w fun e w' => e = .returned (.int .i64 (part n q r v)) ∧ Below w.heap.size w w' := by
  go_enter Try.func30, Try.ntmps30
  go_wp2_with fail
  refine (partAny _ _ _ _ _ h hv _).mono ?_
  rintro e w1 ⟨rfl, hw1⟩
  go_wp2
  go_ret
  exact ⟨rfl, (((Below.refl _ _).alloc (Nat.le_refl _) _).alloc (by simp) _).trans (hw1.mono (by simp; omega))⟩
theorem num (x : Int) (w : World) : Calls Try.prog 16 #[.int .i64 x] w fun e w' => e = .returned (.int .i64 x) ∧ Below w.heap.size w w' := by
  go_enter Try.func16, Try.ntmps16
  go_wp2
  go_ret
  exact ⟨rfl, Below.refl _ _⟩

/-- What both Splits tell. -/
theorem splits (n k : Int) (hn : 0 ≤ n) (hn' : n ≤ 4294967295) : ∃ n' k' q r e, Good n' k' q r ∧
    (∀ w, Calls Try.prog 20 #[.int .u32 n, .int .i64 k] w fun x w' => x = .returned (.tuple #[.agg #[.int .u32 n', .int .u32 k', .int .u32 q, .int .u32 r], .int .i64 e]) ∧ Below w.heap.size w w') ∧
    (∀ w, Calls Try.prog 21 #[.int .u32 n, .int .i64 k] w fun x w' => x = .returned (.tuple #[.agg #[.int .u32 n', .int .i64 k'], .int .i64 e]) ∧ Below w.heap.size w w') := by
  by_cases h : n < 1 ∨ 2147483647 < n ∨ k < 1 ∨ n < k ∨ 512 < k
  · exact ⟨0, 0, 0, 0, 90, .inr ⟨rfl, rfl, rfl, rfl⟩, splitNo n k hn h hn', refNo n k hn h hn'⟩
  · exact ⟨n, k, n / k, n % k, 0, .inl (Cut.of (by omega) (by omega) (by omega) (by omega) (by omega)),
      splitYes n k (by omega) (by omega) (by omega) (by omega) (by omega), refYes n k (by omega) (by omega) (by omega) (by omega) (by omega)⟩

set_option maxRecDepth 100000 in
set_option maxHeartbeats 8000000 in
theorem walk (n k v p : Int) (hn : 0 ≤ n ∧ n ≤ 4294967295) (hk : -9223372036854775808 ≤ k ∧ k ≤ 9223372036854775807) (hv : 0 ≤ v ∧ v ≤ 4294967295) (hp : -9223372036854775808 ≤ p ∧ p ≤ 9223372036854775807) (w : World) :
    Calls Try.prog 7 #[.int .u32 n, .int .i64 k, .int .u32 v, .int .i64 p] w fun e w' => e = .returned (.bool true) ∧ Below w.heap.size w w' := by
  obtain ⟨n', k', q, r, x, hg, s1, s2⟩ := splits n k hn.1 hn.2
  obtain ⟨b0, b1, b2, b3⟩ := hg.bounds
  go_enter Try.func7, Try.ntmps7
  go_wp2_with fail
  refine (s1 _).mono ?_
  rintro e w1 ⟨rfl, hw1⟩
  go_wp2_with fail
  refine (s2 _).mono ?_
  rintro e w2 ⟨rfl, hw2⟩
  have hs1 := hw1.size
  have hs2 := hw2.size
  simp at hs2
  obtain ⟨W2, hW2⟩ : ∃ W2, W2 = w2.alloc (Obj.cells #[Value.int IntKind.u32 n', Value.int IntKind.i64 k'] 43) := ⟨_, rfl⟩
  have hl2 : Below w.heap.size w W2 := hW2 ▸ ((hw1.alloc hs1 _).trans (hw2.mono (by simp; omega))).alloc (by omega) _
  have hz2 : W2.heap.size = w2.heap.size + 1 := by rw [hW2]; simp
  have hA : ∀ o, W2.cell? ⟨w1.heap.size, o, none⟩ = (#[Value.int .u32 n', Value.int .u32 k', Value.int .u32 q, Value.int .u32 r] : Array Value)[o]? := fun o => by
    rw [hW2]; exact (alloc_cell (by omega) o).trans ((K.below_cell hw2 (by simp) o).trans (K.row_cell (heap_alloc_new w1 _) o))
  have hB : ∀ o, W2.cell? ⟨w2.heap.size, o, none⟩ = (#[Value.int .u32 n', Value.int .i64 k'] : Array Value)[o]? := fun o => by
    rw [hW2]; exact K.row_cell (heap_alloc_new w2 _) o
  have HA : Hid (∀ w', Below W2.heap.size W2 w' → ∀ o, w'.cell? ⟨w1.heap.size, o, none⟩ = (#[Value.int .u32 n', Value.int .u32 k', Value.int .u32 q, Value.int .u32 r] : Array Value)[o]?) := fun w' h o => (K.below_cell h (by omega) o).trans (hA o)
  have HB : Hid (∀ w', Below W2.heap.size W2 w' → ∀ o, w'.cell? ⟨w2.heap.size, o, none⟩ = (#[Value.int .u32 n', Value.int .i64 k'] : Array Value)[o]?) := fun w' h o => (K.below_cell h (by omega) o).trans (hB o)
  have hX : w1.heap.size < W2.heap.size := by omega
  have hY : w2.heap.size < W2.heap.size := by omega
  clear hA hB hw1 hw2 s1 s2 hs1 hs2 hz2
  go_wp2_with fail
  rw [← hW2]
  clear hW2
  refine K.region_quiet (C := fun w' => Below W2.heap.size W2 w') (by kernel_rfl) (by kernel_rfl) (K.below_draw W2) ?_
  iterate 27 (first
    | (refine wpQuiet_step (fun KK hKK => ?_)
       first
         | (refine K.quiet_else ?_ (K.Puts.mk' _) ?_
            (first | rfl | (simp [Region.wanted, yielded]; done))
            refine hKK _ ?_)
         | (refine K.quiet_if ?_ ?_
            (first | rfl | (simp [Region.wanted, yielded]; done))
            first
              | (apply K.quiet_val
                 · intro w' hw'; have hx := HA.out w' hw'; have hy := HB.out w' hw'; have hxs := Nat.lt_of_lt_of_le hX hw'.size; have hys := Nat.lt_of_lt_of_le hY hw'.size; go_simp; (try go_ints); exact K.Gives.mk' _ _
                 · go_simp; exact K.Puts.mk' _)
              | (apply K.quiet_call
                 · intro w' hw'; have hx := HA.out w' hw'; have hy := HB.out w' hw'; have hxs := Nat.lt_of_lt_of_le hX hw'.size; have hys := Nat.lt_of_lt_of_le hY hw'.size; go_simp; (try go_ints); exact K.Enters.mk' _ _ _
                 · intro w' hw'; have hx := HA.out w' hw'; have hy := HB.out w' hw'; have hxs := Nat.lt_of_lt_of_le hX hw'.size; have hys := Nat.lt_of_lt_of_le hY hw'.size; first
                   | exact K.calls_below hw' hw'.size (num _ _)
                   | exact K.calls_below hw' hw'.size (parts _ _ _ _ b2 b3 _)
                   | exact K.calls_below hw' hw'.size (vertices _ _ _ _ _)
                   | exact K.calls_below hw' hw'.size (partAny _ _ _ _ _ hg hv.1 _)
                   | exact K.calls_below hw' hw'.size (refAny _ _ _ _ _ hg hv.1 _)
                 · go_simp; exact K.Puts.mk' _)
            refine hKK _ ?_)
       clear hKK KK)
    | skip)
  refine wpQuiet_nil ?_
  intro w3 hb3
  have hx3 := HA.out w3 hb3
  have hy3 := HB.out w3 hb3
  have hX3 := Nat.lt_of_lt_of_le hX hb3.size
  have hY3 := Nat.lt_of_lt_of_le hY hb3.size
  go_wp2_with fail
  refine (span _ _ _ _ _ hg hp _).mono ?_
  rintro e w4 ⟨rfl, hw4⟩
  have hb4 : Below W2.heap.size W2 w4 := hb3.trans (hw4.mono hb3.size)
  clear hx3 hy3
  have hy4 := HB.out w4 hb4
  have hY4 := Nat.lt_of_lt_of_le hY hb4.size
  go_wp2_with fail
  refine (refSpan _ _ _ _ _ hg hp _).mono ?_
  rintro e w5 ⟨rfl, hw5⟩
  have hb5 : Below W2.heap.size W2 w5 := hb4.trans (hw5.mono hb4.size)
  clear hy4 hY4 hX3 hY3 hb3 hb4 hw4 hw5
  have HA5 : Hid (∀ w', Below w5.heap.size w5 w' → ∀ o, w'.cell? ⟨w1.heap.size, o, none⟩ = (#[Value.int .u32 n', Value.int .u32 k', Value.int .u32 q, Value.int .u32 r] : Array Value)[o]?) := fun w' h => HA.out w' (hb5.trans (h.mono hb5.size))
  have HB5 : Hid (∀ w', Below w5.heap.size w5 w' → ∀ o, w'.cell? ⟨w2.heap.size, o, none⟩ = (#[Value.int .u32 n', Value.int .i64 k'] : Array Value)[o]?) := fun w' h => HB.out w' (hb5.trans (h.mono hb5.size))
  have hX5 := Nat.lt_of_lt_of_le hX hb5.size
  have hY5 := Nat.lt_of_lt_of_le hY hb5.size
  obtain ⟨lo5, hlo⟩ : ∃ x, x = lo k' q r p := ⟨_, rfl⟩
  obtain ⟨hi5, hhi⟩ : ∃ x, x = hi k' q r p := ⟨_, rfl⟩
  rw [← hlo, ← hhi]
  clear hlo hhi
  go_wp2_with fail
  refine K.region_quiet (C := fun w' => Below w5.heap.size w5 w') (by kernel_rfl) (by kernel_rfl) (K.below_draw w5) ?_
  iterate 38 (first
    | (refine wpQuiet_step (fun KK hKK => ?_)
       first
         | (refine K.quiet_else ?_ (K.Puts.mk' _) ?_
            (first | rfl | (simp [Region.wanted, yielded]; done))
            refine hKK _ ?_)
         | (refine K.quiet_if ?_ ?_
            (first | rfl | (simp [Region.wanted, yielded]; done))
            first
              | (apply K.quiet_val
                 · intro w' hw'; have hx := HA5.out w' hw'; have hy := HB5.out w' hw'; have hxs := Nat.lt_of_lt_of_le hX5 hw'.size; have hys := Nat.lt_of_lt_of_le hY5 hw'.size; go_simp; (try go_ints); exact K.Gives.mk' _ _
                 · go_simp; exact K.Puts.mk' _)
              | (apply K.quiet_call
                 · intro w' hw'; have hx := HA5.out w' hw'; have hy := HB5.out w' hw'; have hxs := Nat.lt_of_lt_of_le hX5 hw'.size; have hys := Nat.lt_of_lt_of_le hY5 hw'.size; go_simp; (try go_ints); exact K.Enters.mk' _ _ _
                 · intro w' hw'; have hx := HA5.out w' hw'; have hy := HB5.out w' hw'; have hxs := Nat.lt_of_lt_of_le hX5 hw'.size; have hys := Nat.lt_of_lt_of_le hY5 hw'.size; first
                   | exact K.calls_below hw' hw'.size (bySrc _ _ _ _ _ _ _ hg hv.1 _)
                   | exact K.calls_below hw' hw'.size (byDst _ _ _ _ _ _ _ hg hv.1 _)
                   | exact K.calls_below hw' hw'.size (byTo _ _ _ _ _ _ _ hg hv.1 _)
                   | exact K.calls_below hw' hw'.size (refAny _ _ _ _ _ hg hv.1 _)
                 · go_simp; exact K.Puts.mk' _)
            refine hKK _ ?_)
       clear hKK KK)
    | skip)
  refine wpQuiet_nil ?_
  intro w6 hb6
  have hl6 : Below w.heap.size w w6 := (hl2.trans (hb5.mono hl2.size)).trans (hb6.mono (Nat.le_trans hl2.size hb5.size))
  have hg0 : Good 0 0 0 0 := .inr ⟨rfl, rfl, rfl, rfl⟩
  clear hb6 hb5 hX5 hY5 HA5 HB5 HA HB hX hY
  have hs6 := hl6.size
  have q0 : lo 0 0 0 0 = 0 := rfl
  have q1 : hi 0 0 0 0 = 0 := rfl
  have q2 : part 0 0 0 v = -1 := by unfold part; rw [if_pos (by omega)]
  go_wp2_with fail
  refine (span 0 0 0 0 0 hg0 (by omega) _).mono ?_
  rintro e w7 ⟨rfl, hw7⟩
  rw [q0, q1]
  have hx7 : ∀ o, w7.cell? ⟨w6.heap.size, o, none⟩ = (#[Value.int .u32 0, Value.int .u32 0, Value.int .u32 0, Value.int .u32 0] : Array Value)[o]? := fun o => (K.below_cell hw7 (by simp) o).trans (K.row_cell (heap_alloc_new w6 _) o)
  have hl7 : Below w.heap.size w w7 := (hl6.alloc hs6 _).trans (hw7.mono (by simp; omega))
  have hz7 : w6.heap.size < w7.heap.size := by have := hw7.size; simp at this; omega
  clear hl6 hw7 q0 q1
  go_wp2_with fail
  refine (parts 0 0 0 0 (by omega) (by omega) _).mono ?_
  rintro e w8 ⟨rfl, hw8⟩
  have hx8 := fun o => (K.below_cell hw8 hz7 o).trans (hx7 o)
  have hz8 := Nat.lt_of_lt_of_le hz7 hw8.size
  clear hx7
  go_wp2_with fail
  refine (vertices 0 0 0 0 _).mono ?_
  rintro e w9 ⟨rfl, hw9⟩
  have hx9 := fun o => (K.below_cell hw9 hz8 o).trans (hx8 o)
  have hz9 := Nat.lt_of_lt_of_le hz8 hw9.size
  clear hx8
  go_wp2_with fail
  refine (partAny 0 0 0 0 _ hg0 hv.1 _).mono ?_
  rintro e w10 ⟨rfl, hw10⟩
  rw [q2]
  clear hx9
  go_wp2
  go_ret
  exact ⟨rfl, ((hl7.trans (hw8.mono hl7.size)).trans (hw9.mono (Nat.le_trans hl7.size hw8.size))).trans (hw10.mono (Nat.le_trans hl7.size (Nat.le_trans hw8.size hw9.size)))⟩

theorem own : ownKnob Try.prog.godebug = none := by kernel_rfl
set_option maxRecDepth 100000 in
theorem lifted (os : Os) (started : os.Started) (H : Type) (enc : TypeId × Value → H) :
    ReturnsInHanded {} Try.checked os 7 .any (Rows.sieveRangesSpec.pre6 enc Try.prog Try.f7 Rows.sieveRangesRow.domain false) (Rows.sieveRangesSpec.post enc Try.prog Try.f7 false true false false) := by
  refine returnsInHanded_of_change_sized (C := Try.checked) own started (by kernel_rfl) Try.func7
    (ChangeSpec.witness6 (enc := enc) (C := Try.checked) false ⟨#[], #[.int .u32 0, .int .i64 0, .int .u32 0, .int .i64 0], []⟩ 8 (by kernel_rfl) (by kernel_rfl) (by kernel_rfl) (by kernel_rfl)) ?_
  intro W base args ds gs before hval0 hW hcnd hsz0 _
  have hsz : (DataW.weightsEach Try.prog (Try.f7.params.toList ++ Rows.sieveRangesSpec.plain.varTypes Try.prog) (ds ++ gs)).all (· ≤ reachBytes) = true := hsz0
  have hval : ∀ (j : Nat) t v, Try.f7.params[j]? = some t → args[j]? = some v → Value.okWide Try.prog W .any base t v := hval0
  have hW' := hW
  obtain ⟨p, q, hA0, hV, rfl, hfz, hnd⟩ := hW
  have hA : DataW.TrodAll enc Try.prog W 0 (fun _ => true) true Try.f7.params.toList args.toList ds p := hA0
  rw [Try.params7] at hA hval hsz
  obtain ⟨v0, vs0, d0, ds0, p0, q0, hargs, rfl, rfl, h0, r0⟩ := trodAll_cons hA
  obtain ⟨v1, vs1, d1, ds1, p1, q1, rfl, rfl, rfl, h1, r1⟩ := trodAll_cons r0
  obtain ⟨v2, vs2, d2, ds2, p2, q2, rfl, rfl, rfl, h2, r2⟩ := trodAll_cons r1
  obtain ⟨v3, vs3, d3, ds3, p3, q3, rfl, rfl, rfl, h3, r3⟩ := trodAll_cons r2
  obtain ⟨rfl, rfl, rfl⟩ := trodAll_nil r3
  obtain rfl : args = #[v0, v1, v2, v3] := by cases args; simp_all
  obtain ⟨rfl, rfl⟩ := trodVars_none hV
  obtain ⟨a0, rfl, rfl, rfl, w0⟩ := open_int Try.underlying34 (hval 0 34 v0 rfl rfl) h0
  obtain ⟨a1, rfl, rfl, rfl, w1⟩ := open_int Try.underlying3 (hval 1 3 v1 rfl rfl) h1
  obtain ⟨a2, rfl, rfl, rfl, w2⟩ := open_int Try.underlying34 (hval 2 34 v2 rfl rfl) h2
  obtain ⟨a3, rfl, rfl, rfl, w3⟩ := open_int Try.underlying3 (hval 3 3 v3 rfl rfl) h3
  refine (walk _ _ _ _ (bounds_u32 w0) (bounds_i64 w1) (bounds_u32 w2) (bounds_i64 w3) W).mono fun e W' ⟨he, bel⟩ => ?_
  subst he
  exact ⟨_, rfl, _, _, _, [], _, [], hW', trodAll_mk1 (shut_bool Try.underlying4 _), (trodAll_cons_mk (shut_int Try.underlying34 w0) (trodAll_cons_mk (shut_int Try.underlying3 w1) (trodAll_cons_mk (shut_int Try.underlying34 w2) (trodAll_cons_mk (shut_int Try.underlying3 w3) trodAll_mk0)))), rfl, bel.frame _, fun h => by cases h⟩
theorem over : Rows.sieveRangesRow.holds Try.pinned (OpenSpec.ofChange Rows.sieveRangesSpec) :=
  OpenClaim.holds_of_wide 7 Try.f7 rfl rfl rfl rfl rfl rfl rfl ⟨rfl, rfl, rfl, rfl, rfl⟩ rfl rfl rfl rfl rfl (by kernel_rfl) Try.func7 (by kernel_rfl)
    (of_decide_eq_true (by kernel_rfl)) (by unfold Func.isWrapper; first | (rw [if_pos (by decide +kernel)]; kernel_rfl) | (rw [if_neg (by decide +kernel)]; exact ⟨rfl, rfl⟩))
    (fun os started H enc _ => lifted os started H enc)
theorem proved : Rows.SieveRangesSaid := over
#print axioms proved
end Go.Proofs.Ytepljdnhnnpdmaa.sieveRanges
