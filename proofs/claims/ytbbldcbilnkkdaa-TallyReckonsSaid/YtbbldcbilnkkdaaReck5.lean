/-
  Sums of layer 2: Times of the document. No condition.
-/
import Derived.Test.YtbbldcbilnkkdaaReck4
set_option linter.unusedVariables false
set_option linter.unusedSimpArgs false
namespace Go.Proofs.Ytbbldcbilnkkdaa.Reck
open Go.RowKit Num Tly Ref K

def RelRT (B : Nat) (w : World) (z u : Int) (i : Value) (wr : World) : Prop :=
  ∃ k : Nat, k ≤ 64 ∧ i = .int .i64 ((k : Int) - 1) ∧ Row wr B 30 (wv z) ∧ Row wr (B + 1) 30 (cv [0, 0, 0, 0, 0, 0]) ∧ Row wr (B + 2) 30 (wv (z * (u / 2 ^ k))) ∧ Below B w wr
theorem twice (z u : Int) (m : Nat) : (dig 2 u m = 0 → z * (u / 2 ^ (m + 1)) + z * (u / 2 ^ (m + 1)) = z * (u / 2 ^ m)) ∧ (dig 2 u m = 1 → z * (u / 2 ^ (m + 1)) + z * (u / 2 ^ (m + 1)) + z = z * (u / 2 ^ m)) := by
  have h := div_bit u m
  generalize u / 2 ^ m = x at *
  generalize u / 2 ^ (m + 1) = y at *
  refine ⟨fun hd => ?_, fun hd => ?_⟩
  · rw [h, hd, Int.add_zero, Int.mul_left_comm]; omega
  · rw [h, hd, Int.mul_add, Int.mul_left_comm]; omega
set_option maxRecDepth 100000 in
set_option maxHeartbeats 2000000 in
theorem refTimes (z n : Int) (hn1 : -9223372036854775808 ≤ n) (hn2 : n ≤ 9223372036854775807) (w : World) :
    Calls Try.prog 29 #[.agg (wv z), .int .i64 n] w fun e w' => e = .returned (.agg (wv (z * n))) ∧ Below w.heap.size w w' := by
  have HA := Lib.hid (((Row.new w 30 (wv z)).alloc (.cells (cv [0, 0, 0, 0, 0, 0]) 30)).alloc (.cells (cv [0, 0, 0, 0, 0, 0]) 30))
  have HZ := Lib.hid ((Row.at (Row.new (w.alloc (.cells (wv z) 30)) 30 (cv [0, 0, 0, 0, 0, 0])) (b' := w.heap.size + 1) (by simp)).alloc (.cells (cv [0, 0, 0, 0, 0, 0]) 30))
  have HT := Lib.hid (Row.at (Row.new ((w.alloc (.cells (wv z) 30)).alloc (.cells (cv [0, 0, 0, 0, 0, 0]) 30)) 30 (cv [0, 0, 0, 0, 0, 0])) (b' := w.heap.size + 2) (by simp))
  have HB := Lib.hid ((((Below.refl w.heap.size w).alloc (Nat.le_refl _) (.cells (wv z) 30)).alloc (by simp) (.cells (cv [0, 0, 0, 0, 0, 0]) 30)).alloc (by simp; omega) (.cells (cv [0, 0, 0, 0, 0, 0]) 30))
  obtain ⟨u, hu⟩ : ∃ u : Int, (n < 0 → n = -u) ∧ (0 ≤ n → n = u) ∧ 0 ≤ u ∧ u < 18446744073709551616 := by
    by_cases h : n < 0
    · exact ⟨-n, fun _ => by omega, fun h => by omega, by omega, by omega⟩
    · exact ⟨n, fun h => by omega, fun _ => rfl, by omega, by omega⟩
  obtain ⟨hneg, hpos, hu0, hu1⟩ := hu
  have h64 : u / 2 ^ 64 = 0 := Int.ediv_eq_zero_of_lt hu0 (by have : (2 : Int) ^ 64 = 18446744073709551616 := by decide
                                                              omega)
  have hst : Row (((w.alloc (.cells (wv z) 30)).alloc (.cells (cv [0, 0, 0, 0, 0, 0]) 30)).alloc (.cells (cv [0, 0, 0, 0, 0, 0]) 30)) (w.heap.size + 2) 30 (wv (z * (u / 2 ^ 64))) := by
    rw [h64, Int.mul_zero, show wv 0 = cv [0, 0, 0, 0, 0, 0] by unfold wv; rw [digs_null]; rfl]; exact HT.out
  have HS := Lib.hid hst
  clear hst h64 HT
  obtain ⟨N, hN⟩ : ∃ N, N = z * n := ⟨_, rfl⟩
  rw [← hN]
  have HN := Lib.hid hN
  clear hN
  by_cases hs : n < 0
  case pos =>
    obtain rfl := hneg hs
    have e1 : IntKind.u64.wrap (-u) = 18446744073709551616 - u := by rw [IntKind.wrap_u64]; omega
    have e2 : IntKind.u64.wrap (-(18446744073709551616 - u)) = u := by rw [IntKind.wrap_u64]; omega
    have e0 : decide (-u < 0) = true := by simp; omega
    have e3 : decide (0 < u) = true := by simp; omega
    have HE := Lib.hid (show -(z * u) = N by rw [HN.out, Int.mul_neg])
    clear hneg hpos hs
    go_enter Try.func29, Try.ntmps29
    go_wp2
    clear e1 e2
    have hu0' := hu0
    go_loopw [7] (fun i wr => RelRT w.heap.size w z u i wr) (fun i _ => (intOf i + 1).toNat)
    case atStart => exact ⟨64, Nat.le_refl _, rfl, HA.out, HZ.out, HS.out, HB.out⟩
    case round =>
      clear HA HZ HS HB
      obtain ⟨k, hk, hi, ha, hz, ht, hl⟩ := hrel
      cases k with
      | zero =>
        rw [show (((0 : Nat) : Int) - 1) = -1 from rfl] at hi
        subst hi
        rw [Int.pow_zero, Int.ediv_one] at ht
        have HT := Lib.hid ht
        have HZ := Lib.hid hz
        clear ha hz ht
        go_wp2_with (refine wpList_load_row rfl 30 _ rfl (w.heap.size + 2) rfl 30 _ (0, 0) _ HT.out Try.underlying30 rfl (by kernel_rfl) ?_)
        refine (Ref.Neg _ _).mono ?_
        rintro e w1 ⟨rfl, k1⟩
        have Z1 := Lib.hid (HZ.out.below k1 HZ.out.lt)
        have B1 := Lib.hid (hl.trans (k1.mono hl.size))
        clear k1
        go_wp2_with (refine wpList_store_row rfl 30 _ _ rfl (w.heap.size + 1) _ rfl rfl 30 _ Z1.out ?_ ?_ ?_ ?_; kernel_rfl; (first | (rw [wv_size, wv_size]) | kernel_rfl); (first | exact cv_one _ | kernel_rfl))
        refine bodyPost_ret (v := .agg (wv (-(z * u)))) (results_cell_row Try.results29 _ _ (w.heap.size + 1) 30 _ (0, 0) _ rfl (Z1.out.put _) Try.underlying30 rfl (by kernel_rfl)) rfl ⟨by rw [HE.out], Row.put_below B1.out Z1.out (by omega) _⟩
      | succ m =>
        rw [show (((m + 1 : Nat) : Int) - 1) = m by omega] at hi
        subst hi
        obtain ⟨d0, d1⟩ := twice z u m
        have D0 := Lib.hid d0
        have D1 := Lib.hid d1
        have hbit := bit_le u m
        have hb : u / 2 ^ m % 2 = dig 2 u m := rfl
        have hq0 : 0 ≤ u / 2 ^ m := Int.ediv_nonneg hu0' (Int.le_of_lt (Int.pow_pos (by decide)))
        have f0 : (0 : Int) ≤ (m : Int) := by omega
        have f1 : (m : Int) < 64 := by omega
        have HA := Lib.hid ha
        have HZ := Lib.hid hz
        have HT := Lib.hid ht
        clear ha hz ht d0 d1
        go_wp2_with (refine wpList_load_row rfl 30 _ rfl (w.heap.size + 2) rfl 30 _ (0, 0) _ HT.out Try.underlying30 rfl (by kernel_rfl) ?_)
        refine (refMerge _ _ _).mono ?_
        rintro e w1 ⟨rfl, k1⟩
        have A1 := Lib.hid (HA.out.below k1 HA.out.lt)
        have Z1 := Lib.hid (HZ.out.below k1 HZ.out.lt)
        have T1 := Lib.hid (HT.out.below k1 HT.out.lt)
        have L1 := Lib.hid (hl.trans (k1.mono hl.size))
        clear k1
        have A2 := Lib.hid (A1.out.put_other (b' := w.heap.size + 2) (by omega) (wv (z * (u / 2 ^ (m + 1)) + z * (u / 2 ^ (m + 1)))))
        have Z2 := Lib.hid (Z1.out.put_other (b' := w.heap.size + 2) (by omega) (wv (z * (u / 2 ^ (m + 1)) + z * (u / 2 ^ (m + 1)))))
        have T2 := Lib.hid (T1.out.put (wv (z * (u / 2 ^ (m + 1)) + z * (u / 2 ^ (m + 1)))))
        have L2 := Lib.hid (Row.put_below L1.out T1.out (by omega) (wv (z * (u / 2 ^ (m + 1)) + z * (u / 2 ^ (m + 1)))))
        rcases hbit with h0 | h0
        · have D := Lib.hid (D0.out h0)
          rw [h0] at hb
          clear h0
          go_wp2_with (refine wpList_store_row rfl 30 _ _ rfl (w.heap.size + 2) _ rfl rfl 30 _ T1.out ?_ ?_ ?_ ?_; kernel_rfl; (first | (rw [wv_size, wv_size]) | kernel_rfl); (first | exact cv_one _ | kernel_rfl))
          go_roundw
          case rel => exact ⟨m, by omega, rfl, A2.out, Z2.out, by rw [← D.out]; exact T2.out, L2.out⟩
          case measure => simp [intOf]
        · have D := Lib.hid (D1.out h0)
          rw [h0] at hb
          clear h0
          go_wp2_with (first | (refine wpList_store_row rfl 30 _ _ rfl (w.heap.size + 2) _ rfl rfl 30 _ T1.out ?_ ?_ ?_ ?_; kernel_rfl; (first | (rw [wv_size, wv_size]) | kernel_rfl); (first | exact cv_one _ | kernel_rfl)) | (refine wpList_load_row rfl 30 _ rfl (w.heap.size + 2) rfl 30 _ (0, 0) _ T2.out Try.underlying30 rfl (by kernel_rfl) ?_) | (refine wpList_load_row rfl 30 _ rfl (w.heap.size) rfl 30 _ (0, 0) _ A2.out Try.underlying30 rfl (by kernel_rfl) ?_))
          refine (refMerge _ _ _).mono ?_
          rintro e w3 ⟨rfl, k3⟩
          have A3 := Lib.hid (A2.out.below k3 A2.out.lt)
          have Z3 := Lib.hid (Z2.out.below k3 Z2.out.lt)
          have T3 := Lib.hid (T2.out.below k3 T2.out.lt)
          have L3 := Lib.hid (L2.out.trans (k3.mono L2.out.size))
          clear k3
          go_wp2_with (refine wpList_store_row rfl 30 _ _ rfl (w.heap.size + 2) _ rfl rfl 30 _ T3.out ?_ ?_ ?_ ?_; kernel_rfl; (first | (rw [wv_size, wv_size]) | kernel_rfl); (first | exact cv_one _ | kernel_rfl))
          go_roundw
          case rel => exact ⟨m, by omega, rfl, A3.out.put_other (by omega) _, Z3.out.put_other (by omega) _, by rw [← D.out]; exact T3.out.put _, Row.put_below L3.out T3.out (by omega) _⟩
          case measure => simp [intOf]
  case neg =>
    obtain rfl := hpos (by omega)
    have e1 : IntKind.u64.wrap n = n := by rw [IntKind.wrap_u64]; omega
    have e2 : True := trivial
    have e0 : decide (n < 0) = false := by simp; omega
    have e3 : True := trivial
    have HE := Lib.hid (show z * n = N by rw [HN.out])
    clear hneg hpos hs
    go_enter Try.func29, Try.ntmps29
    go_wp2
    clear e1 e2
    have hu0' := hu0
    go_loopw [7] (fun i wr => RelRT w.heap.size w z n i wr) (fun i _ => (intOf i + 1).toNat)
    case atStart => exact ⟨64, Nat.le_refl _, rfl, HA.out, HZ.out, HS.out, HB.out⟩
    case round =>
      clear HA HZ HS HB
      obtain ⟨k, hk, hi, ha, hz, ht, hl⟩ := hrel
      cases k with
      | zero =>
        rw [show (((0 : Nat) : Int) - 1) = -1 from rfl] at hi
        subst hi
        rw [Int.pow_zero, Int.ediv_one] at ht
        have HT := Lib.hid ht
        have HZ := Lib.hid hz
        clear ha hz ht
        go_wp2_with (first | (refine wpList_load_row rfl 30 _ rfl (w.heap.size + 2) rfl 30 _ (0, 0) _ HT.out Try.underlying30 rfl (by kernel_rfl) ?_) | (refine wpList_store_row rfl 30 _ _ rfl (w.heap.size + 1) _ rfl rfl 30 _ HZ.out ?_ ?_ ?_ ?_; kernel_rfl; (first | (rw [wv_size, wv_size]) | kernel_rfl); (first | exact cv_one _ | kernel_rfl)))
        refine bodyPost_ret (v := .agg (wv (z * n))) (results_cell_row Try.results29 _ _ (w.heap.size + 1) 30 _ (0, 0) _ rfl (HZ.out.put _) Try.underlying30 rfl (by kernel_rfl)) rfl ⟨by rw [HE.out], Row.put_below hl HZ.out (by omega) _⟩
      | succ m =>
        rw [show (((m + 1 : Nat) : Int) - 1) = m by omega] at hi
        subst hi
        obtain ⟨d0, d1⟩ := twice z n m
        have D0 := Lib.hid d0
        have D1 := Lib.hid d1
        have hbit := bit_le n m
        have hb : n / 2 ^ m % 2 = dig 2 n m := rfl
        have hq0 : 0 ≤ n / 2 ^ m := Int.ediv_nonneg hu0' (Int.le_of_lt (Int.pow_pos (by decide)))
        have f0 : (0 : Int) ≤ (m : Int) := by omega
        have f1 : (m : Int) < 64 := by omega
        have HA := Lib.hid ha
        have HZ := Lib.hid hz
        have HT := Lib.hid ht
        clear ha hz ht d0 d1
        go_wp2_with (refine wpList_load_row rfl 30 _ rfl (w.heap.size + 2) rfl 30 _ (0, 0) _ HT.out Try.underlying30 rfl (by kernel_rfl) ?_)
        refine (refMerge _ _ _).mono ?_
        rintro e w1 ⟨rfl, k1⟩
        have A1 := Lib.hid (HA.out.below k1 HA.out.lt)
        have Z1 := Lib.hid (HZ.out.below k1 HZ.out.lt)
        have T1 := Lib.hid (HT.out.below k1 HT.out.lt)
        have L1 := Lib.hid (hl.trans (k1.mono hl.size))
        clear k1
        have A2 := Lib.hid (A1.out.put_other (b' := w.heap.size + 2) (by omega) (wv (z * (n / 2 ^ (m + 1)) + z * (n / 2 ^ (m + 1)))))
        have Z2 := Lib.hid (Z1.out.put_other (b' := w.heap.size + 2) (by omega) (wv (z * (n / 2 ^ (m + 1)) + z * (n / 2 ^ (m + 1)))))
        have T2 := Lib.hid (T1.out.put (wv (z * (n / 2 ^ (m + 1)) + z * (n / 2 ^ (m + 1)))))
        have L2 := Lib.hid (Row.put_below L1.out T1.out (by omega) (wv (z * (n / 2 ^ (m + 1)) + z * (n / 2 ^ (m + 1)))))
        rcases hbit with h0 | h0
        · have D := Lib.hid (D0.out h0)
          rw [h0] at hb
          clear h0
          go_wp2_with (refine wpList_store_row rfl 30 _ _ rfl (w.heap.size + 2) _ rfl rfl 30 _ T1.out ?_ ?_ ?_ ?_; kernel_rfl; (first | (rw [wv_size, wv_size]) | kernel_rfl); (first | exact cv_one _ | kernel_rfl))
          go_roundw
          case rel => exact ⟨m, by omega, rfl, A2.out, Z2.out, by rw [← D.out]; exact T2.out, L2.out⟩
          case measure => simp [intOf]
        · have D := Lib.hid (D1.out h0)
          rw [h0] at hb
          clear h0
          go_wp2_with (first | (refine wpList_store_row rfl 30 _ _ rfl (w.heap.size + 2) _ rfl rfl 30 _ T1.out ?_ ?_ ?_ ?_; kernel_rfl; (first | (rw [wv_size, wv_size]) | kernel_rfl); (first | exact cv_one _ | kernel_rfl)) | (refine wpList_load_row rfl 30 _ rfl (w.heap.size + 2) rfl 30 _ (0, 0) _ T2.out Try.underlying30 rfl (by kernel_rfl) ?_) | (refine wpList_load_row rfl 30 _ rfl (w.heap.size) rfl 30 _ (0, 0) _ A2.out Try.underlying30 rfl (by kernel_rfl) ?_))
          refine (refMerge _ _ _).mono ?_
          rintro e w3 ⟨rfl, k3⟩
          have A3 := Lib.hid (A2.out.below k3 A2.out.lt)
          have Z3 := Lib.hid (Z2.out.below k3 Z2.out.lt)
          have T3 := Lib.hid (T2.out.below k3 T2.out.lt)
          have L3 := Lib.hid (L2.out.trans (k3.mono L2.out.size))
          clear k3
          go_wp2_with (refine wpList_store_row rfl 30 _ _ rfl (w.heap.size + 2) _ rfl rfl 30 _ T3.out ?_ ?_ ?_ ?_; kernel_rfl; (first | (rw [wv_size, wv_size]) | kernel_rfl); (first | exact cv_one _ | kernel_rfl))
          go_roundw
          case rel => exact ⟨m, by omega, rfl, A3.out.put_other (by omega) _, Z3.out.put_other (by omega) _, by rw [← D.out]; exact T3.out.put _, Row.put_below L3.out T3.out (by omega) _⟩
          case measure => simp [intOf]
end Go.Proofs.Ytbbldcbilnkkdaa.Reck
