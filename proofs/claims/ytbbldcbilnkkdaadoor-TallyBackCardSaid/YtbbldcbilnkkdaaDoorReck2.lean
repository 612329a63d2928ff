/-
  Sums of layer 2: Compare of the program and of the document. No condition.
-/
import Derived.Test.YtbbldcbilnkkdaaDoorReck
set_option linter.unusedVariables false
set_option linter.unusedSimpArgs false
namespace Go.Proofs.YtbbldcbilnkkdaaDoor.Reck
open Go.RowKit Num Tly Ref K

theorem xor_turn (x : Int) (h0 : 0 ≤ x) (h1 : x < 18446744073709551616) : bits .xor .u64 x 9223372036854775808 = (x + 9223372036854775808) % 18446744073709551616 := by
  obtain ⟨n, rfl⟩ := Int.eq_ofNat_of_zero_le h0
  have e := u64_xor_nat n 9223372036854775808 (by omega) (by omega)
  rw [show ((9223372036854775808 : Nat) : Int) = 9223372036854775808 from rfl] at e
  rw [e]
  have e2 : n ^^^ 9223372036854775808 = (n + 9223372036854775808) % 18446744073709551616 := by
    have hN : (9223372036854775808 : Nat) = 2 ^ 63 := rfl
    have hM : (18446744073709551616 : Nat) = 2 ^ 64 := rfl
    rw [hN, hM, Nat.add_comm]
    apply Nat.eq_of_testBit_eq
    intro i
    rw [Nat.testBit_xor, Nat.testBit_two_pow, Nat.testBit_mod_two_pow]
    have hb : n.testBit i = true → i < 64 := fun h => by
      rcases Nat.lt_or_ge i 64 with g | g
      · exact g
      · have := Nat.testBit_lt_two_pow (x := n) (i := i) (Nat.lt_of_lt_of_le (by omega) (Nat.pow_le_pow_right (by omega) g))
        rw [this] at h; cases h
    rcases Nat.lt_trichotomy i 63 with h | h | h
    · rw [Nat.testBit_two_pow_add_gt h]
      simp [show ¬ 63 = i by omega, show i < 64 by omega]
    · subst h
      rw [Nat.testBit_two_pow_add_eq]
      simp
    · have h2 : ¬ i < 64 := by omega
      have h3 : n.testBit i = false := by
        cases hc : n.testBit i with
        | false => rfl
        | true => exact absurd (hb hc) h2
      simp [h2, h3, show ¬ 63 = i by omega]
  rw [e2]
  omega
/-- The greatest word turned: the words of a number without a sign. -/
theorem turned (z : Int) : (digs 18446744073709551616 z 6).set 5 ((dig 18446744073709551616 z 5 + 9223372036854775808) % 18446744073709551616) = digs 18446744073709551616 (z + half) 6 := by
  apply List.ext_getElem?
  intro i
  rw [List.getElem?_set]
  by_cases hi : 5 = i
  · subst hi
    rw [if_pos rfl, if_pos (by simp [digs]), digs_get _ _ (by omega)]
    congr 1
    unfold dig
    rw [half_eq, show p5 = 18446744073709551616 ^ 5 from rfl, Int.add_mul_ediv_right _ _ (by decide)]
    omega
  · rw [if_neg hi]
    by_cases hn : i < 6
    · rw [digs_get _ _ hn, digs_get _ _ hn]
      congr 1
      rw [half_eq, Int.mul_comm]
      exact (dig_mod q_pos z (n := 5) (k := i) (by omega) 9223372036854775808).symm
    · rw [List.getElem?_eq_none (by simp [digs]; omega), List.getElem?_eq_none (by simp [digs]; omega)]
def RelCmp (B : Nat) (w : World) (a b : Int) (i : Value) (wr : World) : Prop :=
  ∃ k : Nat, k ≤ 6 ∧ i = .int .i64 ((k : Int) - 1) ∧ Row wr B 26 (wv a) ∧ Row wr (B + 1) 26 (wv b) ∧ a / 18446744073709551616 ^ k = b / 18446744073709551616 ^ k ∧ Below B w wr
theorem div_digit (z : Int) (k : Nat) : z / 18446744073709551616 ^ k = 18446744073709551616 * (z / 18446744073709551616 ^ (k + 1)) + dig 18446744073709551616 z k := by
  have h := Int.mul_ediv_add_emod (z / 18446744073709551616 ^ k) 18446744073709551616
  rw [div_succ q_pos]
  exact h.symm
theorem lt_of_div {a b P : Int} (hP : 0 < P) (h : a / P < b / P) : a < b := by
  rcases Int.lt_or_le a b with h1 | h1
  · exact h1
  · have := Int.ediv_le_ediv hP h1; omega
set_option maxRecDepth 100000 in
set_option maxHeartbeats 1000000 in
theorem compare (z t : Int) (h0 : -half ≤ z) (h1 : z < half) (g0 : -half ≤ t) (g1 : t < half) (w : World) : Calls Tryd.prog 29 #[.agg (wv z), .agg (wv t)] w fun e w' => e = .returned (.int .i64 (sgn (z - t))) ∧ Below w.heap.size w w' := by
  obtain ⟨G, hG⟩ : ∃ G, G = sgn (z - t) := ⟨_, rfl⟩
  rw [← hG]
  have hG2 : G = sgn ((z + half) - (t + half)) := by rw [hG]; congr 1; omega
  have HG := Lib.hid hG2
  clear hG hG2
  have ha5 := ((Row.new w 26 (wv z)).alloc (.cells (wv t) 26)).get (i := 5) (cv_get (digs_get _ z (by omega)))
  have fa5 := ((Row.new w 26 (wv z)).alloc (.cells (wv t) 26)).free 5
  have x1 := xor_turn _ (dig_nonneg q_pos z 5) (dig_lt q_pos z 5)
  have x2 := xor_turn _ (dig_nonneg q_pos t 5) (dig_lt q_pos t 5)
  have hu := turned z
  have hv := turned t
  obtain ⟨X, hX⟩ : ∃ X, X = (dig 18446744073709551616 z 5 + 9223372036854775808) % 18446744073709551616 := ⟨_, rfl⟩
  obtain ⟨Y, hY⟩ : ∃ Y, Y = (dig 18446744073709551616 t 5 + 9223372036854775808) % 18446744073709551616 := ⟨_, rfl⟩
  rw [← hX] at x1 hu
  rw [← hY] at x2 hv
  have hb5 := (Row.at ((Row.new (w.alloc (.cells ((wv z).setIfInBounds 5 (.int .u64 X)) 26)) 26 (wv t))) (b' := w.heap.size + 1) (by simp)).get (i := 5) (cv_get (digs_get _ t (by omega)))
  have fb5 := (Row.at ((Row.new (w.alloc (.cells ((wv z).setIfInBounds 5 (.int .u64 X)) 26)) 26 (wv t))) (b' := w.heap.size + 1) (by simp)).free 5
  have HU := Lib.hid hu
  have HV := Lib.hid hv
  clear hX hY hu hv
  generalize dig 18446744073709551616 z 5 = x at *
  generalize dig 18446744073709551616 t 5 = y at *
  go_enter Tryd.func29, Tryd.ntmps29
  go_wp2
  have hr0 : Row ((w.alloc (.cells ((wv z).setIfInBounds 5 (.int .u64 X)) 26)).alloc (.cells ((wv t).setIfInBounds 5 (.int .u64 Y)) 26)) w.heap.size 26 (wv (z + half)) := by
    have h := (Row.new w 26 ((wv z).setIfInBounds 5 (.int .u64 X))).alloc (.cells ((wv t).setIfInBounds 5 (.int .u64 Y)) 26)
    exact h.to (by unfold wv; rw [cv_set, HU.out])
  have hr1 : Row ((w.alloc (.cells ((wv z).setIfInBounds 5 (.int .u64 X)) 26)).alloc (.cells ((wv t).setIfInBounds 5 (.int .u64 Y)) 26)) (w.heap.size + 1) 26 (wv (t + half)) := by
    have h := Row.at (Row.new (w.alloc (.cells ((wv z).setIfInBounds 5 (.int .u64 X)) 26)) 26 ((wv t).setIfInBounds 5 (.int .u64 Y))) (b' := w.heap.size + 1) (by simp)
    exact h.to (by unfold wv; rw [cv_set, HV.out])
  have hbl := ((Below.refl w.heap.size w).alloc (Nat.le_refl _) (.cells ((wv z).setIfInBounds 5 (.int .u64 X)) 26)).alloc (by simp) (.cells ((wv t).setIfInBounds 5 (.int .u64 Y)) 26)
  have hdiv : (z + half) / 18446744073709551616 ^ 6 = (t + half) / 18446744073709551616 ^ 6 := by
    have e : (18446744073709551616 : Int) ^ 6 = half + half := by decide
    have hp : (0 : Int) < half := by decide
    rw [e, Int.ediv_eq_zero_of_lt (by omega) (by omega), Int.ediv_eq_zero_of_lt (by omega) (by omega)]
  have H0 := Lib.hid hr0
  have H1 := Lib.hid hr1
  have HBL := Lib.hid hbl
  have HD := Lib.hid hdiv
  clear hr0 hr1 hbl hdiv ha5 fa5 hb5 fb5 x1 x2 h0 h1 g0 g1
  generalize z + half = a at *
  generalize t + half = b at *
  go_loopw [5] (fun i wr => RelCmp w.heap.size w a b i wr) (fun i _ => (intOf i + 1).toNat)
  case atStart => exact ⟨6, Nat.le_refl _, rfl, H0.out, H1.out, HD.out, HBL.out⟩
  case round =>
    clear H0 H1 HBL HD
    obtain ⟨k, hk, hi, ha, hb, hd, hl⟩ := hrel
    cases k with
    | zero =>
      rw [show (((0 : Nat) : Int) - 1) = -1 from rfl] at hi
      subst hi
      have e : sgn (a - b) = 0 := by
        simp only [Int.pow_zero, Int.ediv_one] at hd
        rw [hd, Int.sub_self]; rfl
      have HE := Lib.hid e
      clear e hd ha hb
      go_wp2
      go_ret
      exact ⟨ret_one (by rw [HG.out, HE.out]), hl⟩
    | succ m =>
      rw [show (((m + 1 : Nat) : Int) - 1) = m by omega] at hi
      subst hi
      have h6 : m < 6 := by omega
      have hx := ha.get (cv_get (digs_get _ a h6))
      have hy := hb.get (cv_get (digs_get _ b h6))
      have d1 := div_digit a m
      have d2 := div_digit b m
      rw [← hd] at d2
      have f0 : (0 : Int) ≤ (m : Int) := by omega
      have f1 : (m : Int) < 6 := by omega
      have hlt := ha.lt
      have hlt1 := hb.lt
      have hP : (0 : Int) < 18446744073709551616 ^ m := pow_pos' (by decide) m
      have HA := Lib.hid ha
      have HB := Lib.hid hb
      generalize dig 18446744073709551616 a m = x at *
      generalize dig 18446744073709551616 b m = y at *
      rcases Int.lt_trichotomy x y with hc | hc | hc
      · have e := sgn_neg (z := a - b) (by have := lt_of_div (a := a) (b := b) hP (by omega); omega)
        have HE := Lib.hid e
        clear e d1 d2 hd ha hb hP
        go_wp2_with fail
        go_region
        go_wp2
        go_ret
        exact ⟨ret_one (by rw [HG.out, HE.out]), hl.drew⟩
      · have hdm : a / 18446744073709551616 ^ m = b / 18446744073709551616 ^ m := by omega
        have HD := Lib.hid hdm
        subst hc
        clear d1 d2 hd ha hb hP hdm
        go_wp2_with fail
        go_region
        go_wp2_with fail
        go_region
        go_wp2
        go_roundw
        case rel => exact ⟨m, by omega, rfl, HA.out, HB.out, HD.out, hl.drew.drew⟩
        case measure => simp [intOf]
      · have e := sgn_pos (z := a - b) (by have := lt_of_div (a := b) (b := a) hP (by omega); omega)
        have HE := Lib.hid e
        clear e d1 d2 hd ha hb hP
        go_wp2_with fail
        go_region
        go_wp2_with fail
        go_region
        go_wp2
        go_ret
        exact ⟨ret_one (by rw [HG.out, HE.out]), hl.drew.drew⟩
end Go.Proofs.YtbbldcbilnkkdaaDoor.Reck
