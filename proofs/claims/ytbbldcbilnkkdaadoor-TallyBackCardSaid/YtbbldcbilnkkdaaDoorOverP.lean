/-
  Sums of layer 2: Over and Round, of the program. No condition.
-/
import Derived.Test.YtbbldcbilnkkdaaDoorPack
import Derived.Test.YtbbldcbilnkkdaaDoorDiv2
import Derived.Test.YtbbldcbilnkkdaaDoorReck6
set_option linter.unusedVariables false
set_option linter.unusedSimpArgs false
namespace Go.Proofs.YtbbldcbilnkkdaaDoor.Reck
open Go.RowKit Num Tly Ref K

theorem long_div (m n : Int) (j : Nat) (q : Int) (hq : 0 < q) (hn : 0 < n) :
    (m / q ^ (j + 1) % n * q + dig q m j) / n = dig q (m / n) j ∧ (m / q ^ (j + 1) % n * q + dig q m j) % n = m / q ^ j % n := by
  have hP : (0 : Int) < q ^ j := pow_pos' hq j
  have e1 : m / n / q ^ j = m / q ^ j / n := by
    rw [Int.ediv_ediv_of_nonneg (Int.le_of_lt hn), Int.ediv_ediv_of_nonneg (Int.le_of_lt hP), Int.mul_comm]
  have e2 := Int.mul_ediv_add_emod (m / q ^ j) q
  rw [← div_succ hq] at e2
  have e3 := Int.mul_ediv_add_emod (m / q ^ (j + 1)) n
  have r0 := Int.emod_nonneg (m / q ^ (j + 1)) (b := n) (by omega)
  have r1 := Int.emod_lt_of_pos (m / q ^ (j + 1)) hn
  have d0 := dig_nonneg hq m j
  have d1 := dig_lt hq m j
  have e4 : m / q ^ j = (m / q ^ (j + 1) % n * q + dig q m j) + n * (q * (m / q ^ (j + 1) / n)) := by
    have : m / q ^ j % q = dig q m j := rfl
    rw [this] at e2
    rw [← e2]
    generalize m / q ^ (j + 1) = Y at *
    generalize dig q m j = d at *
    have h5 : q * Y = q * (n * (Y / n)) + q * (Y % n) := by rw [← Int.mul_add, e3]
    rw [h5, Int.mul_comm (Y % n) q, ← Int.mul_assoc, ← Int.mul_assoc, Int.mul_comm q n]
    omega
  have hg : dig q (m / n) j = m / q ^ j / n % q := by unfold dig; rw [e1]
  rw [hg]
  clear hg e1 e2 e3
  generalize m / q ^ j = X at *
  generalize m / q ^ (j + 1) % n = r at *
  generalize m / q ^ (j + 1) / n = b at *
  generalize dig q m j = d at *
  subst e4
  rw [Int.add_mul_ediv_left _ _ (by omega), Int.add_mul_emod_self_left, Int.add_mul_emod_self_left]
  refine ⟨?_, rfl⟩
  refine (Int.emod_eq_of_lt (Int.ediv_nonneg (by have := Int.mul_nonneg r0 (Int.le_of_lt hq); omega) (by omega)) ?_).symm
  refine Int.ediv_lt_of_lt_mul hn ?_
  have h6 : (r + 1) * q ≤ n * q := Int.mul_le_mul_of_nonneg_right (by omega) (by omega)
  rw [Int.add_mul, Int.one_mul, Int.mul_comm n q] at h6
  omega
theorem mix_low_get (q y x : Int) {n k i : Nat} (h : i < k) (hn : i < n) : (mix q y x n k)[i]? = some (dig q y i) := by simp [mix, hn, h]
theorem mix_back (q y x : Int) {n j : Nat} (h : j < n) : (mix q y x n (j + 1)).set j (dig q x j) = mix q y x n j := by
  apply List.ext_getElem?
  intro i
  rw [List.getElem?_set]
  unfold mix
  by_cases hi : j = i
  · subst hi; simp [h]
  · rw [if_neg hi]
    by_cases hn : i < n
    · simp only [List.getElem?_map, List.getElem?_range hn, Option.map_some]
      congr 1
      by_cases h1 : i < j
      · rw [if_pos (by omega), if_pos h1]
      · rw [if_neg (by omega), if_neg h1]
    · rw [List.getElem?_eq_none (by simp; omega), List.getElem?_eq_none (by simp; omega)]
theorem null_is {m : Int} (h0 : 0 ≤ m) (h1 : m < 18446744073709551616 ^ 6) : (digs 18446744073709551616 m 6 == [0, 0, 0, 0, 0, 0]) = decide (m = 0) := by
  by_cases h : m = 0
  · subst h
    rw [digs_null]
    rfl
  · rw [decide_eq_false h, beq_eq_false_iff_ne]
    intro e
    have e2 : digs 18446744073709551616 m 6 = digs 18446744073709551616 0 6 := by rw [e, digs_null]; rfl
    have e3 := digs_inj q_pos m 0 6 e2
    rw [Int.zero_emod, Int.emod_eq_of_lt h0 h1] at e3
    exact h e3
/-- What Over makes. -/
def overR (z n mode : Int) : Int × Int :=
  if n = 0 ∨ mode < 0 ∨ 4 ≤ mode then (0, 2)
  else if z = 0 then (0, 0)
  else packR (decide (z < 0)) (mag z / n) (decide (n ≤ 2 * (mag z % n))) (decide (mag z % n ≠ 0 ∧ 2 * (mag z % n) ≠ n)) mode
def RelOver (g : Nat) (B : Nat) (w : World) (m n : Int) (r i : Value) (wr : World) : Prop :=
  ∃ k : Nat, k ≤ 6 ∧ i = .int .i64 ((k : Int) - 1) ∧ r = .int .u64 (m / 18446744073709551616 ^ k % n) ∧ Row wr g 26 (cv (mix 18446744073709551616 m (m / n) 6 k)) ∧ Below B w wr ∧ Modes wr
set_option maxRecDepth 100000 in
set_option maxHeartbeats 4000000 in
theorem over (z n mode : Int) (h0 : -half ≤ z) (h1 : z < half) (n0 : 0 ≤ n) (n1 : n < 18446744073709551616) (w : World) (hM : Modes w) :
    Calls Tryd.prog 25 #[.agg (wv z), .int .u64 n, .int .i64 mode] w fun e w' => e = .returned (.tuple #[.float .f32 (overR z n mode).1.toNat, .int .i64 (overR z n mode).2]) ∧ Below w.heap.size w w' := by
  have HA := Lib.hid (Row.new w 26 (wv z))
  have HB := Lib.hid ((Below.refl w.heap.size w).alloc (Nat.le_refl _) (.cells (wv z) 26))
  have HM := Lib.hid (hM.below HB.out hM.1)
  have hM3 := Lib.hid hM.1
  obtain ⟨X, hX⟩ : ∃ X, X = overR z n mode := ⟨_, rfl⟩
  rw [← hX]
  have HX := Lib.hid hX
  have HN := Lib.hid (And.intro n0 n1)
  clear hM hX n0
  by_cases hz0 : n = 0
  · have HX1 := Lib.hid (show X = (0, 2) by rw [HX.out]; unfold overR; rw [if_pos (Or.inl hz0)])
    subst hz0
    go_enter Tryd.func25, Tryd.ntmps25
    go_wp2
    go_ret2
    rw [HX1.out]
    exact ⟨rfl, HB.out⟩
  have hnb : (n == 0) = false := by simpa using hz0
  by_cases hm0 : mode < 0
  · have HX1 := Lib.hid (show X = (0, 2) by rw [HX.out]; unfold overR; rw [if_pos (Or.inr (Or.inl hm0))])
    have t1 : decide (mode < 0) = true := decide_eq_true hm0
    clear hm0
    go_enter Tryd.func25, Tryd.ntmps25
    go_wp2
    go_ret2
    rw [HX1.out]
    exact ⟨rfl, HB.out⟩
  have t1 : decide (mode < 0) = false := decide_eq_false hm0
  by_cases hm1 : 4 ≤ mode
  · have HX1 := Lib.hid (show X = (0, 2) by rw [HX.out]; unfold overR; rw [if_pos (Or.inr (Or.inr hm1))])
    have t2 : decide (4 ≤ mode) = true := decide_eq_true hm1
    clear hm1
    go_enter Tryd.func25, Tryd.ntmps25
    go_wp2
    go_ret2
    rw [HX1.out]
    exact ⟨rfl, HB.out⟩
  have t2 : decide (4 ≤ mode) = false := decide_eq_false hm1
  obtain ⟨m, hm⟩ : ∃ m, m = mag z := ⟨_, rfl⟩
  obtain ⟨s, hs⟩ : ∃ s, s = decide (z < 0) := ⟨_, rfl⟩
  have hap := apart z h0 h1
  rw [← hm, ← hs] at hap
  have HAP := Lib.hid hap
  have hmn : 0 ≤ m := by rw [hm]; unfold mag; split <;> omega
  have hml : m < 18446744073709551616 ^ 6 := by
    have hp : (0 : Int) < half := by decide
    have e : (18446744073709551616 : Int) ^ 6 = half + half := by decide
    rw [e, hm]; unfold mag; split <;> omega
  have HMB := Lib.hid (And.intro hmn hml)
  have hzm : m = 0 ↔ z = 0 := by rw [hm]; unfold mag; split <;> omega
  have HZM := Lib.hid hzm
  have HX2 := Lib.hid (show z ≠ 0 → X = packR s (m / n) (decide (n ≤ 2 * (m % n))) (decide (m % n ≠ 0 ∧ 2 * (m % n) ≠ n)) mode from fun hz => by
    rw [HX.out]; unfold overR; rw [if_neg (by omega), if_neg hz, ← hm, ← hs])
  have hq : ∀ W, (binOp .eql 26 (.agg (wv m)) (.agg #[Value.int .u64 0, Value.int .u64 0, Value.int .u64 0, Value.int .u64 0, Value.int .u64 0, Value.int .u64 0])).run Tryd.prog W = .ok (.bool (decide (m = 0))) W := fun W => by
    have h := K.eql_ints (P := Tryd.prog) W (t := 26) (e := 22) (n := 6) (k := .u64) Tryd.underlying26 (by kernel_rfl) (by kernel_rfl) (digs 18446744073709551616 m 6) [0, 0, 0, 0, 0, 0] (digs_length _ _ _) rfl
    rw [null_is hmn hml] at h
    exact h
  have HMO := Lib.hid (show 0 ≤ mode ∧ mode < 4 by omega)
  clear h0 h1 hm hs hap hmn hml hzm
  go_enter Tryd.func25, Tryd.ntmps25
  go_wp2_with (refine wpList_load_row rfl 26 _ rfl (w.heap.size) rfl 26 _ (0, 0) _ HA.out Tryd.underlying26 rfl (by kernel_rfl) ?_)
  refine (HAP.out _).mono ?_
  rintro e w1 ⟨rfl, k1⟩
  have B1 := Lib.hid (HB.out.trans (k1.mono HB.out.size))
  have M1 := Lib.hid (HM.out.below k1 HM.out.1)
  have N1 := Lib.hid (Row.new w1 26 (cv [0, 0, 0, 0, 0, 0]))
  have R1 := Lib.hid (N1.out.put (wv m))
  have B2 := Lib.hid (Row.put_below (B1.out.alloc B1.out.size (.cells (cv [0, 0, 0, 0, 0, 0]) 26)) N1.out B1.out.size (wv m))
  have M2 := Lib.hid (M1.out.below (Row.put_below ((Below.refl w1.heap.size w1).alloc (Nat.le_refl _) (.cells (cv [0, 0, 0, 0, 0, 0]) 26)) N1.out (Nat.le_refl _) (wv m)) M1.out.1)
  have hg1 := Lib.hid B1.out.size
  have hg3 := Lib.hid M1.out.1
  clear k1 HA HB HM HAP M1
  by_cases hz : z = 0
  · have t3 : decide (m = 0) = true := decide_eq_true (HZM.out.2 hz)
    have HX1 := Lib.hid (show X = (0, 0) by rw [HX.out]; unfold overR; rw [if_neg (by omega), if_pos hz])
    clear hz
    go_wp2_with (first | (refine wpList_store_row rfl 26 _ _ rfl (w1.heap.size) _ rfl rfl 26 _ N1.out ?_ ?_ ?_ ?_; kernel_rfl; (first | (rw [wv_size, wv_size]) | kernel_rfl); (first | exact cv_one _ | kernel_rfl)) | (refine wpList_load_row rfl 26 _ rfl (w1.heap.size) rfl 26 _ (0, 0) _ R1.out Tryd.underlying26 rfl (by kernel_rfl) ?_))
    go_ret2
    rw [HX1.out]
    exact ⟨rfl, B2.out⟩
  have t3 : decide (m = 0) = false := decide_eq_false (fun h => hz (HZM.out.1 h))
  have HX3 := Lib.hid (HX2.out hz)
  clear hz HX2
  go_wp2_with (first | (refine wpList_store_row rfl 26 _ _ rfl (w1.heap.size) _ rfl rfl 26 _ N1.out ?_ ?_ ?_ ?_; kernel_rfl; (first | (rw [wv_size, wv_size]) | kernel_rfl); (first | exact cv_one _ | kernel_rfl)) | (refine wpList_load_row rfl 26 _ rfl (w1.heap.size) rfl 26 _ (0, 0) _ R1.out Tryd.underlying26 rfl (by kernel_rfl) ?_))
  clear hq t3
  obtain ⟨g, hg⟩ : ∃ g, g = w1.heap.size := ⟨_, rfl⟩
  have HS := Lib.hid (show RelOver g w.heap.size w m n (.int .u64 0) (.int .i64 5) _ from ⟨6, Nat.le_refl _, rfl, by rw [Int.ediv_eq_zero_of_lt HMB.out.1 HMB.out.2]; rfl, by rw [mix_full, hg]; exact R1.out, B2.out, M2.out⟩)
  have hgB := Lib.hid (show w.heap.size ≤ g by rw [hg]; exact hg1.out)
  have hg4 := Lib.hid (show 3 < g by rw [hg]; exact hg3.out)
  rw [← hg] at HS ⊢
  clear hg N1 R1 B2 M2 hg1 hg3
  go_loopw [10, 11] (fun r i wr => RelOver g w.heap.size w m n r i wr) (fun _ i _ => (intOf i + 1).toNat)
  case atStart => exact HS.out
  case round =>
    clear HS
    obtain ⟨k, hk, hi, rfl, ha, hl, hmo⟩ := hrel
    have hnp : 0 < n := by have := HN.out; omega
    cases k with
    | zero =>
      rw [show (((0 : Nat) : Int) - 1) = -1 from rfl] at hi
      subst hi
      rw [mix_zero] at ha
      rw [Int.pow_zero, Int.ediv_one]
      have hr0 := Int.emod_nonneg m (b := n) (by omega)
      have hr1 := Int.emod_lt_of_pos m hnp
      have HX4 := Lib.hid HX3.out
      have hQ0 : 0 ≤ m / n := Int.ediv_nonneg HMB.out.1 (by omega)
      have hQ1 : m / n < 18446744073709551616 ^ 6 := Int.lt_of_le_of_lt (Int.ediv_le_self _ HMB.out.1) HMB.out.2
      obtain ⟨r, hr⟩ : ∃ r, r = m % n := ⟨_, rfl⟩
      obtain ⟨H, hH⟩ : ∃ H, H = decide (n ≤ 2 * r) := ⟨_, rfl⟩
      obtain ⟨E, hE⟩ : ∃ E, E = decide (r ≠ 0 ∧ 2 * r ≠ n) := ⟨_, rfl⟩
      rw [← hr] at hr0 hr1 HX4 ⊢
      rw [← hH, ← hE] at HX4
      have hpk := packed s (m / n) H E mode hQ0 hQ1 HMO.out.1 HMO.out.2 wr hmo
      obtain ⟨P, hP⟩ : ∃ P, P = packR s (m / n) H E mode := ⟨_, rfl⟩
      rw [← hP] at hpk HX4
      have HPK := Lib.hid hpk
      have k1 : IntKind.u64.wrap (n - r) = n - r := by rw [IntKind.wrap_u64]; have := HN.out; omega
      have k2 : decide (n - r ≤ r) = H := by rw [hH]; congr 1; apply propext; omega
      have HA := Lib.hid (show Row wr g 26 (wv (m / n)) from ha)
      clear ha hpk hP hH hr hQ0 hQ1 hmo
      by_cases hr2 : r = 0
      · have k3 : (r != 0) = false := by simp [hr2]
        have HE := Lib.hid (show E = false by rw [hE]; simp [hr2])
        rw [HE.out] at HPK
        clear hr2 hE hr0 hr1
        go_wp2_with (refine wpList_load_row rfl 26 _ rfl (g) rfl 26 _ (0, 0) _ HA.out Tryd.underlying26 rfl (by kernel_rfl) ?_)
        refine HPK.out.mono ?_
        rintro e w2 ⟨rfl, k2⟩
        go_wp2
        go_ret2
        rw [HX4.out]
        exact ⟨rfl, hl.trans (k2.mono hl.size)⟩
      · have k3 : (r != 0) = true := by simp [hr2]
        have k4 : (r != n - r) = E := by
          rw [hE, Bool.eq_iff_iff]
          simp [hr2]
          omega
        clear hr2 hE hr0 hr1
        go_wp2_with (refine wpList_load_row rfl 26 _ rfl (g) rfl 26 _ (0, 0) _ HA.out Tryd.underlying26 rfl (by kernel_rfl) ?_)
        refine HPK.out.mono ?_
        rintro e w2 ⟨rfl, k2⟩
        go_wp2
        go_ret2
        rw [HX4.out]
        exact ⟨rfl, hl.trans (k2.mono hl.size)⟩
    | succ j =>
      rw [show (((j + 1 : Nat) : Int) - 1) = j by omega] at hi
      subst hi
      have h6 : j < 6 := by omega
      have hx := ha.get (cv_get (mix_low_get 18446744073709551616 m (m / n) (show j < j + 1 by omega) h6))
      have hf := ha.free j
      obtain ⟨e1, e2⟩ := long_div m n j 18446744073709551616 q_pos hnp
      have hdiv := fun W => div64 (m / 18446744073709551616 ^ (j + 1) % n) (dig 18446744073709551616 m j) n (Int.emod_nonneg _ (by omega)) (Int.emod_lt_of_pos _ hnp) (dig_nonneg q_pos m j) (dig_lt q_pos m j) HN.out.2 W
      rw [e1, e2] at hdiv
      have f0 : (0 : Int) ≤ (j : Int) := by omega
      have f1 : (j : Int) < 6 := by omega
      have hlt := ha.lt
      have HA := Lib.hid ha
      have HDV := Lib.hid hdiv
      have hset := mix_back 18446744073709551616 m (m / n) h6
      have HST := Lib.hid hset
      clear ha hdiv e1 e2 hset
      generalize m / 18446744073709551616 ^ (j + 1) % n = r at *
      generalize dig 18446744073709551616 m j = x at *
      generalize dig 18446744073709551616 (m / n) j = y at *
      go_wp2_with fail
      refine (HDV.out _).mono ?_
      rintro e w2 ⟨rfl, k2⟩
      have A2 := Lib.hid (HA.out.below k2 hlt)
      have hf2 := A2.out.free j
      have hc2 := A2.out.get (cv_get (mix_low_get 18446744073709551616 m (m / n) (show j < j + 1 by omega) h6))
      have B2 := Lib.hid (hl.trans (k2.mono hl.size))
      have M2 := Lib.hid (hmo.below k2 hmo.1)
      have hlt2 := A2.out.lt
      clear k2 HA hl hmo hx hf
      go_wp2
      go_roundw
      case rel =>
        refine ⟨j, by omega, rfl, rfl, ?_, B2.out.setCell hgB.out _, M2.out.below ((Below.refl 4 _).setCell (by show 4 ≤ g; have := hg4.out; omega) _) (by omega)⟩
        rw [← HST.out, ← cv_set]; exact A2.out.set j _
      case measure => simp [intOf]

set_option maxRecDepth 100000 in
theorem round (z mode : Int) (h0 : -half ≤ z) (h1 : z < half) (w : World) (hM : Modes w) :
    Calls Tryd.prog 22 #[.agg (wv z), .int .i64 mode] w fun e w' => e = .returned (.tuple #[.float .f32 (overR z 1 mode).1.toNat, .int .i64 (overR z 1 mode).2]) ∧ Below w.heap.size w w' := by
  have HA := Lib.hid (Row.new w 26 (wv z))
  have hb := (Below.refl w.heap.size w).alloc (Nat.le_refl _) (.cells (wv z) 26)
  have HB := Lib.hid hb
  have HO := Lib.hid (over z 1 mode h0 h1 (by omega) (by omega) _ (hM.below hb hM.1))
  obtain ⟨X, hX⟩ : ∃ X, X = overR z 1 mode := ⟨_, rfl⟩
  rw [← hX] at HO ⊢
  clear hb hM h0 h1 hX
  go_enter Tryd.func22, Tryd.ntmps22
  go_wp2_with (refine wpList_load_row rfl 26 _ rfl (w.heap.size) rfl 26 _ (0, 0) _ HA.out Tryd.underlying26 rfl (by kernel_rfl) ?_)
  refine HO.out.mono ?_
  rintro e w2 ⟨rfl, k2⟩
  go_wp2
  go_ret2
  exact ⟨rfl, HB.out.trans (k2.mono HB.out.size)⟩
end Go.Proofs.YtbbldcbilnkkdaaDoor.Reck
