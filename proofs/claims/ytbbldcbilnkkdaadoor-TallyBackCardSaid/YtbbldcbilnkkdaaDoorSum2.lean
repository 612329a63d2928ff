/-
  Sums of layer 2, more of the program's functions: Times, Sign, Compare, Put. No condition.
-/
import Derived.Test.YtbbldcbilnkkdaaDoorSum
set_option linter.unusedVariables false
set_option linter.unusedSimpArgs false
namespace Go.Proofs.YtbbldcbilnkkdaaDoor.Tly
open Go.RowKit Num

def RelTimes (B : Nat) (w : World) (a u : Int) (c i : Value) (wr : World) : Prop :=
  ∃ k : Nat, k ≤ 6 ∧ i = .int .i64 k ∧ c = .int .u64 (tcarry 18446744073709551616 a u k) ∧ Row wr B 26 (cv (mix 18446744073709551616 (a * u) a 6 k)) ∧ Row wr (B + 1) 26 (cv [0, 0, 0, 0, 0, 0]) ∧ Below B w wr
theorem times_facts (a u : Int) (hu0 : 0 ≤ u) (hu : u < 18446744073709551616) (k : Nat) :
    (dig 18446744073709551616 a k * u % 18446744073709551616 + tcarry 18446744073709551616 a u k) % 18446744073709551616 = dig 18446744073709551616 (a * u) k ∧
    dig 18446744073709551616 a k * u / 18446744073709551616 + (dig 18446744073709551616 a k * u % 18446744073709551616 + tcarry 18446744073709551616 a u k) / 18446744073709551616 = tcarry 18446744073709551616 a u (k + 1) ∧
    0 ≤ dig 18446744073709551616 a k * u := by
  have h1 := mul_digit q_pos a u k
  have h2 := mul_carry q_pos a u k
  have h3 := Int.mul_nonneg (dig_nonneg q_pos a k) hu0
  refine ⟨?_, ?_, h3⟩
  · rw [← h1]; omega
  · rw [← h2]; omega
set_option maxRecDepth 100000 in
theorem times (a n : Int) (hn1 : -9223372036854775808 ≤ n) (hn2 : n ≤ 9223372036854775807) (w : World) :
    Calls Tryd.prog 12 #[.agg (wv a), .int .i64 n] w fun e w' => e = .returned (.agg (wv (a * n))) ∧ Below w.heap.size w w' := by
  have HA := Lib.hid ((Row.new w 26 (wv a)).alloc (.cells (cv [0, 0, 0, 0, 0, 0]) 26))
  have HZ := Lib.hid (Row.at (Row.new (w.alloc (.cells (wv a) 26)) 26 (cv [0, 0, 0, 0, 0, 0])) (b' := w.heap.size + 1) (by simp))
  have HB := Lib.hid (((Below.refl w.heap.size w).alloc (Nat.le_refl _) (.cells (wv a) 26)).alloc (by simp) (.cells (cv [0, 0, 0, 0, 0, 0]) 26))
  by_cases hn : n < 0
  case' pos =>
    obtain ⟨u, rfl⟩ : ∃ u, n = -u := ⟨-n, by omega⟩
    obtain ⟨b, rfl⟩ : ∃ b, a = -b := ⟨-a, by omega⟩
    have h0 : 0 ≤ u := by omega
    have h1 : u < 18446744073709551616 := by omega
    have e1 : IntKind.u64.wrap (-u) = 18446744073709551616 - u := by rw [IntKind.wrap_u64]; omega
    have e2 : IntKind.u64.wrap (-(18446744073709551616 - u)) = u := by rw [IntKind.wrap_u64]; omega
    have hneg := fun W => neg (-b) W
    rw [Int.neg_neg] at hneg
    rw [Int.neg_mul_neg]
    go_enter Tryd.func12, Tryd.ntmps12
    go_wp2_with (refine wpList_load_row rfl 26 _ rfl (w.heap.size) rfl 26 _ (0, 0) _ HA.out Tryd.underlying26 rfl (by kernel_rfl) ?_)
    refine (hneg _).mono ?_
    rintro e w1 ⟨rfl, hb1⟩
    have H1 := Lib.hid (HA.out.below hb1 HA.out.lt)
    have H2 := Lib.hid (HZ.out.below hb1 HZ.out.lt)
    have H3 := Lib.hid (HB.out.trans (hb1.mono HB.out.size))
    clear hb1 hneg
    go_wp2_with (refine wpList_store_row rfl 26 _ _ rfl (w.heap.size) _ rfl rfl 26 _ H1.out ?_ ?_ ?_ ?_; kernel_rfl; (first | (rw [wv_size, wv_size]) | kernel_rfl); (first | exact cv_one _ | kernel_rfl))
    clear e1 e2
    have HS := Lib.hid (show RelTimes w.heap.size w b u (.int .u64 0) (.int .i64 0) _ from ⟨0, Nat.zero_le _, rfl, by rw [tcarry_zero], by rw [mix_zero]; exact H1.out.put (wv b), H2.out.put_other (by omega) _, Row.put_below H3.out H1.out (Nat.le_refl _) _⟩)
    clear H1 H2 H3
  case' neg =>
    obtain ⟨u, hu⟩ : ∃ u, u = n := ⟨n, rfl⟩
    obtain ⟨b, hb⟩ : ∃ b, b = a := ⟨a, rfl⟩
    subst hu hb
    have h0 : 0 ≤ u := by omega
    have h1 : u < 18446744073709551616 := by omega
    have e1 : IntKind.u64.wrap u = u := by rw [IntKind.wrap_u64]; omega
    go_enter Tryd.func12, Tryd.ntmps12
    go_wp2
    clear e1
    have HS := Lib.hid (show RelTimes w.heap.size w b u (.int .u64 0) (.int .i64 0) _ from ⟨0, Nat.zero_le _, rfl, by rw [tcarry_zero], by rw [mix_zero]; exact HA.out, HZ.out, HB.out⟩)
  all_goals
    clear HA HZ HB
    go_loopw [6, 19] (fun c i wr => RelTimes w.heap.size w b u c i wr) (fun _ i _ => 6 - (intOf i).toNat)
    case atStart => exact HS.out
    case round =>
      clear HS
      obtain ⟨k, hk, rfl, rfl, ha, hc, hl⟩ := hrel
      rcases Nat.lt_or_ge k 6 with h6 | h6
      · have hx := ha.get (cv_get (mix_get _ _ _ h6))
        have hf := ha.free k
        obtain ⟨f1, f2, f3⟩ := times_facts b u h0 h1 k
        have hM := fun W => mul64 _ u (dig_nonneg q_pos b k) (dig_lt q_pos b k) h0 h1 W
        have hadd := fun W => run_add (dig 18446744073709551616 b k * u % 18446744073709551616) (tcarry 18446744073709551616 b u k) 0 (by omega) (tcarry_bound q_pos b u h0 k).1 (by omega) (by omega) W
        simp only [Int.add_zero] at hadd
        have b1 := tcarry_bound q_pos b u h0 (k + 1)
        rw [f1] at hadd
        generalize (dig 18446744073709551616 b k * u % 18446744073709551616 + tcarry 18446744073709551616 b u k) / 18446744073709551616 = c1 at *
        generalize dig 18446744073709551616 b k * u % 18446744073709551616 = lo at *
        generalize dig 18446744073709551616 b k * u / 18446744073709551616 = hi at *
        clear f1 f3
        have hkb : decide ((k : Int) < 6) = true := by simp; omega
        have g0 : (0 : Int) ≤ k := by omega
        have g1 : (k : Int) < 6 := by omega
        have e3 : IntKind.u64.wrap (hi + c1) = tcarry 18446744073709551616 b u (k + 1) := by rw [f2, IntKind.wrap_u64]; omega
        clear f2
        have hlt := ha.lt
        generalize dig 18446744073709551616 b k = x at *
        generalize tcarry 18446744073709551616 b u k = c at *
        have HA := Lib.hid ha
        have HC := Lib.hid hc
        clear ha hc
        go_wp2_with fail
        refine (hM _).mono ?_
        rintro e w' ⟨rfl, rfl⟩
        clear hM
        go_wp2
        go_roundw
        case rel =>
          refine ⟨k + 1, by omega, by go_num, rfl, ?_, ?_, hl.setCell (Nat.le_refl _) _⟩
          · rw [← mix_set _ _ _ h6, ← cv_set]; exact HA.out.set k _
          · exact HC.out.other (by simp) _
        case measure => simp [intOf]; omega
      · obtain rfl : k = 6 := by omega
        rw [mix_full] at ha
        have HA := Lib.hid ha
        have HC := Lib.hid hc
        clear ha hc
        go_wp2_with (first | (refine wpList_load_row rfl 26 _ rfl (w.heap.size) rfl 26 _ (0, 0) _ HA.out Tryd.underlying26 rfl (by kernel_rfl) ?_) | (refine wpList_store_row rfl 26 _ _ rfl (w.heap.size + 1) _ rfl rfl 26 _ HC.out ?_ ?_ ?_ ?_; kernel_rfl; (first | (rw [wv_size, wv_size]) | kernel_rfl); (first | exact cv_one _ | kernel_rfl)))
        refine bodyPost_ret (v := .agg (wv (b * u))) (results_cell_row Tryd.results12 _ _ (w.heap.size + 1) 26 _ (0, 0) _ rfl (Row.put HC.out _) Tryd.underlying26 rfl (by kernel_rfl)) rfl ⟨rfl, Row.put_below hl HC.out (by omega) _⟩
end Go.Proofs.YtbbldcbilnkkdaaDoor.Tly
