/-
  Sums of layer 2: up and down, of the program. No condition.
-/
import Derived.Test.YtbbldcbilnkkdaaDoorBl
set_option linter.unusedVariables false
set_option linter.unusedSimpArgs false
namespace Go.Proofs.YtbbldcbilnkkdaaDoor.Reck
open Go.RowKit Num Tly Ref K

theorem pow_split (a b : Nat) : (2 : Int) ^ (64 * a + b) = 2 ^ b * 18446744073709551616 ^ a := by rw [Int.pow_add, pow64, Int.mul_comm]
theorem mix_low (y : Int) {a : Nat} (h : ∀ i, i < a → dig 18446744073709551616 y i = 0) : mix 18446744073709551616 y 0 6 a = [0, 0, 0, 0, 0, 0] := by
  have e : mix 18446744073709551616 y 0 6 a = digs 18446744073709551616 0 6 := by
    unfold mix digs
    apply List.map_congr_left
    intro i _
    split
    · rename_i g; rw [h i g]; simp [dig]
    · rfl
  rw [e, digs_null]; rfl
def RelUp (B : Nat) (w : World) (m y : Int) (a : Nat) (i : Value) (wr : World) : Prop :=
  ∃ k : Nat, a ≤ k ∧ k ≤ 6 ∧ i = .int .i64 k ∧ Row wr B 26 (wv m) ∧ Row wr (B + 1) 26 (cv [0, 0, 0, 0, 0, 0]) ∧ Row wr (B + 2) 26 (cv (mix 18446744073709551616 y 0 6 k)) ∧ Below B w wr
theorem mul_pow_word (d : Int) {b : Nat} (hb : b ≤ 64) (h0 : 0 ≤ d) : 0 ≤ d * 2 ^ b % 18446744073709551616 ∧ d * 2 ^ b % 18446744073709551616 < 18446744073709551616 ∧ d * 2 ^ b % 18446744073709551616 % 2 ^ b = 0 := by
  refine ⟨Int.emod_nonneg _ (by decide), Int.emod_lt_of_pos _ (by decide), ?_⟩
  rw [mul_mod_pow d hb, Int.mul_emod_right]
theorem up_or (x y : Int) {b : Nat} (hb : b ≤ 64) (h0 : 0 ≤ x) (g0 : 0 ≤ y) (g1 : y < 18446744073709551616) :
    bits .or .u64 (IntKind.u64.wrap (x * 2 ^ b)) (y / 2 ^ (64 - b)) = x * 2 ^ b % 18446744073709551616 + y / 2 ^ (64 - b) := by
  obtain ⟨p1, p2, p3⟩ := mul_pow_word x hb h0
  have hU : (0 : Int) < 2 ^ (64 - b) := pow_pos' two_pos _
  have c1 : y / 2 ^ (64 - b) < 2 ^ b := Int.ediv_lt_of_lt_mul hU (by rw [← q_split hb]; exact g1)
  have c2 : y / 2 ^ (64 - b) ≤ y := Int.ediv_le_self _ g0
  rw [IntKind.wrap_u64]
  exact or_join _ _ b p1 p2 p3 (Int.ediv_nonneg g0 (by omega)) c1 (by omega)
theorem down_or (x y : Int) {b : Nat} (hb : b ≤ 64) (h0 : 0 ≤ x) (h1 : x < 18446744073709551616) (g0 : 0 ≤ y) :
    bits .or .u64 (x / 2 ^ b) (IntKind.u64.wrap (y * 2 ^ (64 - b))) = x / 2 ^ b + y * 2 ^ (64 - b) % 18446744073709551616 := by
  obtain ⟨p1, p2, p3⟩ := mul_pow_word y (show 64 - b ≤ 64 by omega) g0
  have hU : (0 : Int) < 2 ^ b := pow_pos' two_pos _
  have c1 : x / 2 ^ b < 2 ^ (64 - b) := Int.ediv_lt_of_lt_mul hU (by rw [Int.mul_comm, ← q_split hb]; exact h1)
  have c2 : x / 2 ^ b ≤ x := Int.ediv_le_self _ h0
  rw [IntKind.wrap_u64]
  exact or_join' _ _ (64 - b) p1 p2 p3 (Int.ediv_nonneg h0 (by omega)) c1 (by omega)
set_option maxRecDepth 100000 in
set_option maxHeartbeats 1000000 in
theorem up (m K : Int) (a b : Nat) (ha : a < 6) (hb : b < 64) (hK : K = 64 * (a : Int) + (b : Int)) (w : World) :
    Calls Tryd.prog 79 #[.agg (wv m), .int .i64 K] w fun e w' => e = .returned (.agg (wv (m * 2 ^ (64 * a + b)))) ∧ Below w.heap.size w w' := by
  have HA := Lib.hid (((Row.new w 26 (wv m)).alloc (.cells (cv [0, 0, 0, 0, 0, 0]) 26)).alloc (.cells (cv [0, 0, 0, 0, 0, 0]) 26))
  have HZ := Lib.hid ((Row.at (Row.new (w.alloc (.cells (wv m) 26)) 26 (cv [0, 0, 0, 0, 0, 0])) (b' := w.heap.size + 1) (by simp)).alloc (.cells (cv [0, 0, 0, 0, 0, 0]) 26))
  have HT := Lib.hid (Row.at (Row.new ((w.alloc (.cells (wv m) 26)).alloc (.cells (cv [0, 0, 0, 0, 0, 0]) 26)) 26 (cv [0, 0, 0, 0, 0, 0])) (b' := w.heap.size + 2) (by simp))
  have HB := Lib.hid ((((Below.refl w.heap.size w).alloc (Nat.le_refl _) (.cells (wv m) 26)).alloc (by simp) (.cells (cv [0, 0, 0, 0, 0, 0]) 26)).alloc (by simp; omega) (.cells (cv [0, 0, 0, 0, 0, 0]) 26))
  have k0 : 0 ≤ K := by omega
  have k1 : K / 64 = (a : Int) := by omega
  have k2 : K % 64 = (b : Int) := by omega
  have b0 : (0 : Int) ≤ (b : Int) := by omega
  have b1 : (0 : Int) ≤ 64 - (b : Int) := by omega
  have b2 : (64 - (b : Int)).toNat = 64 - b := by omega
  obtain ⟨y, hy⟩ : ∃ y, y = m * 2 ^ (64 * a + b) := ⟨_, rfl⟩
  have hlow : ∀ i, i < a → dig 18446744073709551616 y i = 0 := fun i hi => by
    rw [hy, pow_split, ← Int.mul_assoc]; exact dig_shift_lt _ hi
  have hfst : dig 18446744073709551616 y a = dig 18446744073709551616 m 0 * 2 ^ b % 18446744073709551616 := by
    have := dig_shift_ge (m * 2 ^ b) 0 a
    rw [Nat.zero_add, Int.mul_assoc, ← pow_split, ← hy] at this
    rw [this, up_first m (by omega)]
  have hnxt : ∀ j, dig 18446744073709551616 y (a + (j + 1)) = dig 18446744073709551616 m (j + 1) * 2 ^ b % 18446744073709551616 + dig 18446744073709551616 m j / 2 ^ (64 - b) := fun j => by
    have := dig_shift_ge (m * 2 ^ b) (j + 1) a
    rw [Int.mul_assoc, ← pow_split, ← hy] at this
    rw [Nat.add_comm, this, up_next m (by omega)]
  rw [← hy]
  have HH := Lib.hid (And.intro hlow (And.intro hfst hnxt))
  have Hb := Lib.hid hb
  have Ha := Lib.hid ha
  clear hy hlow hfst hnxt hK
  go_enter Tryd.func79, Tryd.ntmps79
  go_wp2
  simp only [k1]
  go_loopw [6] (fun i wr => RelUp w.heap.size w m y a i wr) (fun i _ => 6 - (intOf i).toNat)
  case atStart =>
    refine ⟨a, Nat.le_refl _, by omega, rfl, HA.out, HZ.out, ?_, HB.out⟩
    rw [mix_low y HH.out.1]; exact HT.out
  case round =>
    clear HA HZ HT HB
    obtain ⟨k, hka, hk, rfl, ra, rz, rt, hl⟩ := hrel
    rcases Nat.lt_or_ge k 6 with h6 | h6
    · have hkb : decide ((k : Int) < 6) = true := by simp; omega
      obtain ⟨j, rfl⟩ : ∃ j, k = a + j := ⟨k - a, by omega⟩
      have hx := ra.get (cv_get (digs_get _ m (show j < 6 by omega)))
      have hf := rt.free (a + j)
      have hc := rt.get (cv_get (mix_get _ _ _ h6))
      have e1 : ((a + j : Nat) : Int) - (a : Int) = (j : Int) := by omega
      have f0 : (0 : Int) ≤ ((a + j : Nat) : Int) := by omega
      have f1 : ((a + j : Nat) : Int) < 6 := by omega
      have f2 : (0 : Int) ≤ (j : Int) := by omega
      have f3 : (j : Int) < 6 := by omega
      have l1 := ra.lt
      have l2 := rt.lt
      have RA := Lib.hid ra
      have RZ := Lib.hid rz
      have RT := Lib.hid rt
      have HS := Lib.hid h6
      clear ra rz rt hka hk h6
      cases j with
      | zero =>
        have hd := HH.out.2.1
        have HD := Lib.hid hd
        clear hd
        rw [show a + 0 = a from rfl] at *
        rw [show ((0 : Nat) : Int) = 0 from rfl] at *
        generalize dig 18446744073709551616 m 0 = x at *
        go_wp2
        go_roundw
        case rel =>
          refine ⟨a + 1, by omega, HS.out, by go_num, RA.out.other (by simp; omega) _, RZ.out.other (by simp) _, ?_, hl.setCell (by simp; omega) _⟩
          rw [← mix_set _ _ _ HS.out, ← cv_set, HD.out, ← IntKind.wrap_u64]
          exact RT.out.set a _
        case measure => simp [intOf]; have := HS.out; omega
      | succ i =>
        have hx2 := RA.out.get (cv_get (digs_get _ m (show i < 6 by have := HS.out; omega)))
        have HD := Lib.hid (HH.out.2.2 i)
        have e2 : ((i + 1 : Nat) : Int) - 1 = (i : Int) := by omega
        have d0 := dig_nonneg q_pos m (i + 1)
        have d1 := dig_nonneg q_pos m i
        have d2 := dig_lt q_pos m i
        have hor := up_or (dig 18446744073709551616 m (i + 1)) (dig 18446744073709551616 m i) (b := b) (by have := Hb.out; omega) d0 d1 d2
        generalize dig 18446744073709551616 m (i + 1) = x at *
        generalize dig 18446744073709551616 m i = v at *
        have g0 : (0 : Int) ≤ (i : Int) := by omega
        have g1 : (i : Int) < 6 := by have := HS.out; omega
        by_cases hb0 : b = 0
        · have hg : ¬ (0 : Int) < (b : Int) := by omega
          have HB0 := Lib.hid hb0
          clear hor hb0
          go_wp2
          go_roundw
          case rel =>
            refine ⟨a + (i + 1) + 1, by omega, HS.out, by go_num, RA.out.other (by simp; omega) _, RZ.out.other (by simp) _, ?_, hl.setCell (by simp; omega) _⟩
            rw [← mix_set _ _ _ HS.out, ← cv_set, HD.out, show v / 2 ^ (64 - b) = 0 by rw [HB0.out]; exact Int.ediv_eq_zero_of_lt d1 d2, Int.add_zero, ← IntKind.wrap_u64]
            exact RT.out.set _ _
          case measure => simp [intOf]; have := HS.out; omega
        · have hg : (0 : Int) < (b : Int) := by omega
          clear hb0
          go_wp2_with fail
          go_region
          go_wp2
          go_roundw
          case rel =>
            refine ⟨a + (i + 1) + 1, by omega, HS.out, by go_num, ?_, ?_, ?_, ?_⟩
            · exact ((RA.out.other (by simp; omega) _).other (by simp; omega) _).drew
            · exact ((RZ.out.other (by simp) _).other (by simp) _).drew
            · exact (((RT.out.set _ _).set _ _).to (by rw [cv_set, cv_set, List.set_set, ← HD.out, mix_set _ _ _ HS.out])).drew
            · exact ((hl.setCell (by simp; omega) _).setCell (by simp; omega) _).drew
          case measure => simp [intOf]; have := HS.out; omega
    · obtain rfl : k = 6 := by omega
      rw [mix_full] at rt
      have HT := Lib.hid rt
      have HZ := Lib.hid rz
      clear rt rz
      go_wp2_with (first | (refine wpList_load_row rfl 26 _ rfl (w.heap.size + 2) rfl 26 _ (0, 0) _ HT.out Tryd.underlying26 rfl (by kernel_rfl) ?_) | (refine wpList_store_row rfl 26 _ _ rfl (w.heap.size + 1) _ rfl rfl 26 _ HZ.out ?_ ?_ ?_ ?_; kernel_rfl; (first | (rw [wv_size, wv_size]) | kernel_rfl); (first | exact cv_one _ | kernel_rfl)))
      refine bodyPost_ret (v := .agg (wv y)) (results_cell_row Tryd.results79 _ _ (w.heap.size + 1) 26 _ (0, 0) _ rfl (Row.put HZ.out _) Tryd.underlying26 rfl (by kernel_rfl)) rfl ⟨rfl, Row.put_below hl HZ.out (by omega) _⟩

theorem mix_high (y : Int) {c : Nat} (hc : c ≤ 6) (h : ∀ i, c ≤ i → dig 18446744073709551616 y i = 0) : mix 18446744073709551616 y 0 6 c = digs 18446744073709551616 y 6 := by
  unfold mix digs
  apply List.map_congr_left
  intro i _
  split
  · rfl
  · rw [h i (by omega)]; simp [dig]
def RelDown (B : Nat) (w : World) (m y : Int) (c : Nat) (i : Value) (wr : World) : Prop :=
  ∃ k : Nat, k ≤ c ∧ i = .int .i64 k ∧ Row wr B 26 (wv m) ∧ Row wr (B + 1) 26 (cv [0, 0, 0, 0, 0, 0]) ∧ Row wr (B + 2) 26 (cv (mix 18446744073709551616 y 0 6 k)) ∧ Below B w wr
set_option maxRecDepth 100000 in
set_option maxHeartbeats 1000000 in
theorem down (m K : Int) (a b : Nat) (hm0 : 0 ≤ m) (hm1 : m < 18446744073709551616 ^ 6) (ha : a < 6) (hb : b < 64) (hK : K = 64 * (a : Int) + (b : Int)) (w : World) :
    Calls Tryd.prog 44 #[.agg (wv m), .int .i64 K] w fun e w' => e = .returned (.agg (wv (m / 2 ^ (64 * a + b)))) ∧ Below w.heap.size w w' := by
  have HA := Lib.hid (((Row.new w 26 (wv m)).alloc (.cells (cv [0, 0, 0, 0, 0, 0]) 26)).alloc (.cells (cv [0, 0, 0, 0, 0, 0]) 26))
  have HZ := Lib.hid ((Row.at (Row.new (w.alloc (.cells (wv m) 26)) 26 (cv [0, 0, 0, 0, 0, 0])) (b' := w.heap.size + 1) (by simp)).alloc (.cells (cv [0, 0, 0, 0, 0, 0]) 26))
  have HT := Lib.hid (Row.at (Row.new ((w.alloc (.cells (wv m) 26)).alloc (.cells (cv [0, 0, 0, 0, 0, 0]) 26)) 26 (cv [0, 0, 0, 0, 0, 0])) (b' := w.heap.size + 2) (by simp))
  have HB := Lib.hid ((((Below.refl w.heap.size w).alloc (Nat.le_refl _) (.cells (wv m) 26)).alloc (by simp) (.cells (cv [0, 0, 0, 0, 0, 0]) 26)).alloc (by simp; omega) (.cells (cv [0, 0, 0, 0, 0, 0]) 26))
  have k0 : 0 ≤ K := by omega
  have k1 : K / 64 = (a : Int) := by omega
  have k2 : K % 64 = (b : Int) := by omega
  have b0 : (0 : Int) ≤ (b : Int) := by omega
  have b1 : (0 : Int) ≤ 64 - (b : Int) := by omega
  have b2 : (64 - (b : Int)).toNat = 64 - b := by omega
  obtain ⟨c, hc⟩ : ∃ c, a + c = 6 := ⟨6 - a, by omega⟩
  have k3 : 6 - (a : Int) = (c : Int) := by omega
  obtain ⟨y, hy⟩ : ∃ y, y = m / 2 ^ (64 * a + b) := ⟨_, rfl⟩
  have htop : ∀ i, 6 ≤ i → dig 18446744073709551616 m i = 0 := fun i hi => dig_top hm0 hm1 hi
  have hnxt : ∀ j, dig 18446744073709551616 y j = dig 18446744073709551616 m (a + j) / 2 ^ b + dig 18446744073709551616 m (a + j + 1) * 2 ^ (64 - b) % 18446744073709551616 := fun j => by
    rw [hy, down_digit m (by omega), Nat.add_comm j a]
  have hhigh : ∀ i, c ≤ i → dig 18446744073709551616 y i = 0 := fun i hi => by
    rw [hnxt, htop _ (by omega), htop _ (by omega)]; simp
  rw [← hy]
  have HH := Lib.hid (And.intro hhigh (And.intro htop hnxt))
  have Hb := Lib.hid hb
  have Ha := Lib.hid hc
  clear hy hhigh htop hnxt hK hm0 hm1 hc ha hb
  go_enter Tryd.func44, Tryd.ntmps44
  go_wp2
  simp only [k1, k3]
  go_loopw [11] (fun i wr => RelDown w.heap.size w m y c i wr) (fun i _ => c - (intOf i).toNat)
  case atStart =>
    refine ⟨0, Nat.zero_le _, rfl, HA.out, HZ.out, ?_, HB.out⟩
    rw [mix_low y (fun i hi => absurd hi (by omega))]; exact HT.out
  case round =>
    clear HA HZ HT HB
    obtain ⟨k, hk, rfl, ra, rz, rt, hl⟩ := hrel
    rcases Nat.lt_or_ge k c with h6 | h6
    · have hkb : decide ((k : Int) < (c : Int)) = true := by simp; omega
      have hk6 : k < 6 := by have := Ha.out; omega
      have hx := ra.get (cv_get (digs_get _ m (show a + k < 6 by have := Ha.out; omega)))
      have hf := rt.free k
      have hc := rt.get (cv_get (mix_get _ _ _ hk6))
      have e1 : (k : Int) + (a : Int) = ((a + k : Nat) : Int) := by omega
      have f0 : (0 : Int) ≤ ((a + k : Nat) : Int) := by omega
      have f1 : ((a + k : Nat) : Int) < 6 := by have := Ha.out; omega
      have f2 : (0 : Int) ≤ (k : Int) := by omega
      have f3 : (k : Int) < 6 := by omega
      have e2 : ((a + k : Nat) : Int) + 1 = ((a + k + 1 : Nat) : Int) := by omega
      have l1 := ra.lt
      have l2 := rt.lt
      have RA := Lib.hid ra
      have RZ := Lib.hid rz
      have RT := Lib.hid rt
      have HS := Lib.hid h6
      have H6 := Lib.hid hk6
      have HD := Lib.hid (HH.out.2.2 k)
      clear ra rz rt hk h6 hk6
      obtain ⟨n, hn⟩ : ∃ n, n = a + k := ⟨_, rfl⟩
      obtain ⟨n1, hn1⟩ : ∃ n1, n1 = a + k + 1 := ⟨_, rfl⟩
      have HN := Lib.hid hn
      have HN1 := Lib.hid hn1
      rw [← hn1] at e2 HD
      rw [← hn] at e1 e2 f0 f1 hx HD
      clear hn hn1
      have d0 := dig_nonneg q_pos m n
      have d1 := dig_nonneg q_pos m n1
      have d2 := dig_lt q_pos m n
      have hor := down_or (dig 18446744073709551616 m n) (dig 18446744073709551616 m n1) (b := b) (by have := Hb.out; omega) d0 d2 d1
      by_cases hcase : n1 < 6 ∧ 0 < b
      · obtain ⟨c1, c2⟩ := hcase
        have hx2 := RA.out.get (cv_get (digs_get _ m c1))
        have g0 : (0 : Int) ≤ (n1 : Int) := by omega
        have g1 : (n1 : Int) < 6 := by omega
        have g2 : decide ((n1 : Int) < 6) = true := by simp; omega
        have hg : (0 : Int) < (b : Int) := by omega
        generalize dig 18446744073709551616 m n = x at *
        generalize dig 18446744073709551616 m n1 = v at *
        clear c1 c2
        go_wp2_with fail
        go_region
        go_wp2
        go_roundw
        case rel =>
          refine ⟨k + 1, by have := HS.out; omega, by go_num, ?_, ?_, ?_, ?_⟩
          · exact ((RA.out.other (by simp; omega) _).other (by simp; omega) _).drew
          · exact ((RZ.out.other (by simp) _).other (by simp) _).drew
          · exact (((RT.out.set _ _).set _ _).to (by rw [cv_set, cv_set, List.set_set, ← HD.out, mix_set _ _ _ H6.out])).drew
          · exact ((hl.setCell (by simp; omega) _).setCell (by simp; omega) _).drew
        case measure => simp [intOf]; have := HS.out; omega
      · have hz : dig 18446744073709551616 m n1 * 2 ^ (64 - b) % 18446744073709551616 = 0 := by
          by_cases c1 : n1 < 6
          · obtain rfl : b = 0 := by omega
            exact Int.mul_emod_left _ _
          · rw [HH.out.2.1 n1 (by omega)]; simp
        rw [hz, Int.add_zero] at HD
        have HC := Lib.hid hcase
        clear hz hor
        generalize dig 18446744073709551616 m n = x at *
        have hend : Hid (RelDown w.heap.size w m y c (.int .i64 ((k : Int) + 1)) (wr.setCell ⟨w.heap.size + 1 + 1, k, none⟩ (.int .u64 (x / 2 ^ b)))) := by
          refine Lib.hid ⟨k + 1, by have := HS.out; omega, by go_num, RA.out.other (by simp; omega) _, RZ.out.other (by simp) _, ?_, hl.setCell (by simp; omega) _⟩
          rw [← mix_set _ _ _ H6.out, ← cv_set, HD.out]
          exact RT.out.set _ _
        by_cases c1 : n1 < 6
        · have g2 : decide ((n1 : Int) < 6) = true := by simp; omega
          have g3 : (n1 : Int) < 6 := by omega
          have hg : ¬ (0 : Int) < (b : Int) := by omega
          clear c1 hcase
          go_wp2
          go_roundw
          case rel => exact hend.out
          case measure => simp [intOf]; have := HS.out; omega
        · have g2 : decide ((n1 : Int) < 6) = false := by simp; omega
          have g3 : ¬ (n1 : Int) < 6 := by omega
          clear c1 hcase
          go_wp2
          go_roundw
          case rel => exact hend.out
          case measure => simp [intOf]; have := HS.out; omega
    · obtain rfl : k = c := by omega
      rw [mix_high y (by have := Ha.out; omega) HH.out.1] at rt
      have HT := Lib.hid rt
      have HZ := Lib.hid rz
      clear rt rz
      go_wp2_with (first | (refine wpList_load_row rfl 26 _ rfl (w.heap.size + 2) rfl 26 _ (0, 0) _ HT.out Tryd.underlying26 rfl (by kernel_rfl) ?_) | (refine wpList_store_row rfl 26 _ _ rfl (w.heap.size + 1) _ rfl rfl 26 _ HZ.out ?_ ?_ ?_ ?_; kernel_rfl; (first | (rw [wv_size, wv_size]) | kernel_rfl); (first | exact cv_one _ | kernel_rfl)))
      refine bodyPost_ret (v := .agg (wv y)) (results_cell_row Tryd.results44 _ _ (w.heap.size + 1) 26 _ (0, 0) _ rfl (Row.put HZ.out _) Tryd.underlying26 rfl (by kernel_rfl)) rfl ⟨rfl, Row.put_below hl HZ.out (by omega) _⟩
end Go.Proofs.YtbbldcbilnkkdaaDoor.Reck
