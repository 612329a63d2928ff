/-
  Sums of layer 2: methods that write through a pointer (over, times), low. No condition.
-/
import Derived.Test.YtbbldcbilnkkdaaDoorOverP
import Derived.Test.YtbbldcbilnkkdaaDoorK4
set_option linter.unusedVariables false
set_option linter.unusedSimpArgs false
namespace Go.Proofs.YtbbldcbilnkkdaaDoor.Reck
open Go.RowKit Num Tly Ref K

/-- Of the blocks that were there, none but g has turned. -/
def Turn (g : Nat) (w w' : World) : Prop := Below g w w' ∧ ∀ k, k < w.heap.size → k ≠ g → w'.heap[k]? = w.heap[k]?
section
variable {g : Nat} {w w' w'' : World}
theorem Turn.refl (g : Nat) (w : World) : Turn g w w := ⟨Below.refl _ _, fun _ _ _ => rfl⟩
theorem Turn.size (h : Turn g w w') : w.heap.size ≤ w'.heap.size := h.1.size
theorem Turn.trans (h : Turn g w w') (k : Turn g w' w'') : Turn g w w'' := ⟨h.1.trans k.1, fun b hb hn => (k.2 b (Nat.lt_of_lt_of_le hb h.size) hn).trans (h.2 b hb hn)⟩
theorem Turn.below (hb : Below w.heap.size w w') (hg : g ≤ w.heap.size) : Turn g w w' :=
  ⟨hb.mono hg, fun k hk _ => by obtain ⟨_, _, _, _, h⟩ := hb; exact h k hk⟩
theorem Turn.drew (h : Turn g w w') : Turn g w w'.drew := ⟨h.1.drew, h.2⟩
theorem Turn.set (h : Turn g w w') (o : Nat) (v : Value) : Turn g w (w'.setCell ⟨g, o, none⟩ v) :=
  ⟨h.1.setCell (Nat.le_refl _) _, fun k hk hn => (heap_setCell_other w' ⟨g, o, none⟩ k v hn).trans (h.2 k hk hn)⟩
theorem Turn.row (h : Turn g w w') {b : Nat} {T : TypeId} {cs : Array Value} (hr : Row w b T cs) (hn : b ≠ g) : Row w' b T cs := (h.2 b hr.lt hn).trans hr
theorem Turn.to (h : Turn g w w') {B : Nat} (hB : B ≤ g) : Below B w w' := h.1.mono hB
end
theorem mix_div_get (m n : Int) {j : Nat} (h6 : j < 6) : (cv (mix 18446744073709551616 m (m / n) 6 (j + 1)))[j]? = some (.int .u64 (dig 18446744073709551616 m j)) := cv_get (mix_low_get 18446744073709551616 m (m / n) (show j < j + 1 by omega) h6)
def RelOvp (g : Nat) (w : World) (m n : Int) (r i : Value) (wr : World) : Prop :=
  ∃ k : Nat, k ≤ 6 ∧ i = .int .i64 ((k : Int) - 1) ∧ r = .int .u64 (m / 18446744073709551616 ^ k % n) ∧ Row wr g 26 (cv (mix 18446744073709551616 m (m / n) 6 k)) ∧ Turn g w wr
set_option maxRecDepth 100000 in
set_option maxHeartbeats 2000000 in
theorem overp (g : Nat) (m n : Int) (h0 : 0 ≤ m) (h1 : m < 18446744073709551616 ^ 6) (n0 : 0 < n) (n1 : n < 18446744073709551616) (w : World) (hg : Row w g 26 (wv m)) :
    Calls Tryd.prog 45 #[.pointer (some ⟨g, 0, none⟩), .int .u64 n] w fun e w' => e = .returned (.int .u64 (m % n)) ∧ Row w' g 26 (wv (m / n)) ∧ Turn g w w' := by
  have HG := Lib.hid hg
  have HN := Lib.hid (And.intro n0 n1)
  have HMB := Lib.hid (And.intro h0 h1)
  have hgl := Lib.hid hg.lt
  clear hg h0 h1 n0 n1
  go_enter Tryd.func45, Tryd.ntmps45
  go_wp2
  go_loopw [5, 6] (fun r i wr => RelOvp g w m n r i wr) (fun _ i _ => (intOf i + 1).toNat)
  case atStart => exact ⟨6, Nat.le_refl _, rfl, by rw [Int.ediv_eq_zero_of_lt HMB.out.1 HMB.out.2]; rfl, by rw [mix_full]; exact HG.out, Turn.refl _ _⟩
  case round =>
    clear HG
    obtain ⟨k, hk, hi, rfl, ha, hl⟩ := hrel
    have hnp : 0 < n := HN.out.1
    cases k with
    | zero =>
      rw [show (((0 : Nat) : Int) - 1) = -1 from rfl] at hi
      subst hi
      rw [mix_zero] at ha
      rw [Int.pow_zero, Int.ediv_one]
      have HA := Lib.hid ha
      clear ha
      go_wp2
      go_ret
      exact ⟨rfl, HA.out, hl⟩
    | succ j =>
      rw [show (((j + 1 : Nat) : Int) - 1) = j by omega] at hi
      subst hi
      have h6 : j < 6 := by omega
      have HA := Lib.hid ha
      obtain ⟨e1, e2⟩ := long_div m n j 18446744073709551616 q_pos hnp
      have hdiv := fun W => div64 (m / 18446744073709551616 ^ (j + 1) % n) (dig 18446744073709551616 m j) n (Int.emod_nonneg _ (by omega)) (Int.emod_lt_of_pos _ hnp) (dig_nonneg q_pos m j) (dig_lt q_pos m j) HN.out.2 W
      rw [e1, e2] at hdiv
      have HDV := Lib.hid hdiv
      have HST := Lib.hid (mix_back 18446744073709551616 m (m / n) h6)
      have HGT := Lib.hid (mix_div_get m n h6)
      clear ha hdiv e1 e2
      generalize m / 18446744073709551616 ^ (j + 1) % n = r at *
      generalize dig 18446744073709551616 m j = x at *
      generalize dig 18446744073709551616 (m / n) j = y at *
      have f0 : (0 : Int) ≤ (j : Int) := by omega
      have f1 : (j : Int) < 6 := by omega
      have hx := HA.out.get HGT.out
      have hf := HA.out.free j
      have hlt := HA.out.lt
      have q0 : Below wr.heap.size wr wr.drew := (Below.refl _ _).drew
      have Q := Lib.hid q0
      clear q0
      go_wp2_with fail
      go_region_with (first
        | (go_at_call 54; (refine (HDV.out _).mono ?_); rintro e wD ⟨rfl, kD⟩; have Q := Lib.hid (Q.out.trans (kD.mono Q.out.size)); have hx := (HA.out.below Q.out HA.out.lt).get HGT.out; have hf := (HA.out.below Q.out HA.out.lt).free j; have hlt := (HA.out.below Q.out HA.out.lt).lt))
      all_goals
        have A2 := Lib.hid (HA.out.below Q.out HA.out.lt)
        have T2 := Lib.hid (hl.trans (Turn.below (g := g) Q.out (by have := HA.out.lt; omega)))
        clear hx hf
        go_wp2
        go_roundw
        case rel =>
          refine ⟨j, by omega, rfl, rfl, ?_, T2.out.set _ _⟩
          rw [← HST.out, ← cv_set]; exact A2.out.set j _
        case measure => simp [intOf]

def RelTmp (g : Nat) (w : World) (m n : Int) (c i : Value) (wr : World) : Prop :=
  ∃ k : Nat, k ≤ 6 ∧ i = .int .i64 k ∧ c = .int .u64 (tcarry 18446744073709551616 m n k) ∧ Row wr g 26 (cv (mix 18446744073709551616 (m * n) m 6 k)) ∧ Turn g w wr
set_option maxRecDepth 100000 in
set_option maxHeartbeats 2000000 in
theorem timesp (g : Nat) (m n : Int) (n0 : 0 ≤ n) (n1 : n < 18446744073709551616) (w : World) (hg : Row w g 26 (wv m)) :
    Calls Tryd.prog 48 #[.pointer (some ⟨g, 0, none⟩), .int .u64 n, .int .u64 0] w fun e w' => ∃ c, e = .returned (.int .u64 c) ∧ Row w' g 26 (wv (m * n)) ∧ Turn g w w' := by
  have HG := Lib.hid hg
  have HN := Lib.hid (And.intro n0 n1)
  clear hg n0 n1
  go_enter Tryd.func48, Tryd.ntmps48
  go_wp2
  go_loopw [7, 13] (fun c i wr => RelTmp g w m n c i wr) (fun _ i _ => 6 - (intOf i).toNat)
  case atStart => exact ⟨0, Nat.zero_le _, rfl, by rw [tcarry_zero], by rw [mix_zero]; exact HG.out, Turn.refl _ _⟩
  case round =>
    clear HG
    obtain ⟨k, hk, rfl, rfl, ha, hl⟩ := hrel
    have h0 := HN.out.1
    have h1 := HN.out.2
    rcases Nat.lt_or_ge k 6 with h6 | h6
    · have hx := ha.get (cv_get (mix_get _ _ _ h6))
      have hf := ha.free k
      obtain ⟨f1, f2, f3⟩ := times_facts m n h0 h1 k
      have hM := fun W => mul64 _ n (dig_nonneg q_pos m k) (dig_lt q_pos m k) h0 h1 W
      have hadd := fun W => run_add (dig 18446744073709551616 m k * n % 18446744073709551616) (tcarry 18446744073709551616 m n k) 0 (by omega) (tcarry_bound q_pos m n h0 k).1 (by omega) (by omega) W
      simp only [Int.add_zero] at hadd
      have b1 := tcarry_bound q_pos m n h0 (k + 1)
      rw [f1] at hadd
      generalize (dig 18446744073709551616 m k * n % 18446744073709551616 + tcarry 18446744073709551616 m n k) / 18446744073709551616 = c1 at *
      generalize dig 18446744073709551616 m k * n % 18446744073709551616 = lo at *
      generalize dig 18446744073709551616 m k * n / 18446744073709551616 = hi at *
      clear f1 f3
      have hkb : decide ((k : Int) < 6) = true := by simp; omega
      have g0 : (0 : Int) ≤ k := by omega
      have g1 : (k : Int) < 6 := by omega
      have e3 : IntKind.u64.wrap (hi + c1) = tcarry 18446744073709551616 m n (k + 1) := by rw [f2, IntKind.wrap_u64]; omega
      clear f2
      have hlt := ha.lt
      generalize dig 18446744073709551616 m k = x at *
      generalize tcarry 18446744073709551616 m n k = c at *
      have HA := Lib.hid ha
      have h66 := Lib.hid h6
      clear ha
      go_wp2_with fail
      refine (hM _).mono ?_
      rintro e w' ⟨rfl, rfl⟩
      clear hM
      go_wp2_with fail
      go_region
      go_wp2
      go_roundw
      case rel =>
        refine ⟨k + 1, by have := h66.out; omega, by go_num, rfl, ?_, by first | exact (hl.set _ _).drew | exact (hl.drew.set _ _)⟩
        rw [← mix_set _ _ _ h66.out, ← cv_set]; first | exact (HA.out.set k _).drew | exact HA.out.drew.set k _
      case measure => simp [intOf]; have := h66.out; omega
    · obtain rfl : k = 6 := by omega
      rw [mix_full] at ha
      have HA := Lib.hid ha
      clear ha
      go_wp2
      go_ret
      exact ⟨_, rfl, HA.out, hl⟩
theorem q6' : (18446744073709551616 : Int) ^ 6 = 2 ^ 384 := by rw [pow64]
theorem wv_mod' (z x : Int) : wv (z + 2 ^ 384 * x) = wv z := by
  unfold wv
  rw [← q6', digs_mod q_pos z 6 x]
/-- The lowest bits. -/
theorem low_eq {m : Int} (k : Nat) (hk : k ≤ 384) : m * 2 ^ (384 - k) % 2 ^ 384 / 2 ^ (384 - k) = m % 2 ^ k := by
  have hP : (0 : Int) < 2 ^ (384 - k) := pow_pos' two_pos _
  have e : (2 : Int) ^ 384 = 2 ^ (384 - k) * 2 ^ k := by rw [← Int.pow_add]; congr 1; omega
  rw [e, Int.mul_comm m, Int.mul_emod_mul_of_pos _ _ hP, Int.mul_ediv_cancel_left _ (by omega)]
theorem wv_canon (z : Int) : wv z = wv (z % 2 ^ 384) := by
  have h1 := Int.mul_ediv_add_emod z (2 ^ 384)
  have := wv_mod' (z % 2 ^ 384) (z / 2 ^ 384)
  rw [Int.add_comm, h1] at this
  exact this
set_option maxRecDepth 100000 in
theorem low149 (m : Int) (w : World) : Calls Tryd.prog 47 #[.agg (wv m), .int .i64 149] w fun e w' => e = .returned (.agg (wv (m % 2 ^ 149))) ∧ Below w.heap.size w w' := by
  have HA := Lib.hid ((Row.new w 26 (wv m)).alloc (.cells (cv [0, 0, 0, 0, 0, 0]) 26))
  have HZ := Lib.hid (Row.at (Row.new (w.alloc (.cells (wv m) 26)) 26 (cv [0, 0, 0, 0, 0, 0])) (b' := w.heap.size + 1) (by simp))
  have HB := Lib.hid (((Below.refl w.heap.size w).alloc (Nat.le_refl _) (.cells (wv m) 26)).alloc (by simp) (.cells (cv [0, 0, 0, 0, 0, 0]) 26))
  obtain ⟨u, hu⟩ : ∃ u, u = m * 2 ^ (64 * 3 + 43) := ⟨_, rfl⟩
  have hup := fun W => up m 235 3 43 (by omega) (by omega) (by omega) W
  rw [← hu] at hup
  obtain ⟨v, hv⟩ : ∃ v, v = u % 2 ^ 384 := ⟨_, rfl⟩
  have hP : (0 : Int) < 2 ^ 384 := pow_pos' two_pos _
  have hdn := fun W => down v 235 3 43 (by rw [hv]; exact Int.emod_nonneg _ (by omega)) (by rw [q6', hv]; exact Int.emod_lt_of_pos _ hP) (by omega) (by omega) (by omega) W
  obtain ⟨R, hR⟩ : ∃ R, R = v / 2 ^ (64 * 3 + 43) := ⟨_, rfl⟩
  rw [← hR] at hdn
  have e1 : R = m % 2 ^ 149 := by
    rw [hR, hv, hu]
    exact low_eq 149 (by omega)
  have e2 : wv u = wv v := by rw [hv]; exact wv_canon u
  rw [← e1]
  rw [e2] at hup
  have HU := Lib.hid hup
  have HD := Lib.hid hdn
  clear hu hv hR e1 e2 hP hup hdn
  go_enter Tryd.func47, Tryd.ntmps47
  go_wp2_with (refine wpList_load_row rfl 26 _ rfl (w.heap.size) rfl 26 _ (0, 0) _ HA.out Tryd.underlying26 rfl (by kernel_rfl) ?_)
  refine (HU.out _).mono ?_
  rintro e w1 ⟨rfl, k1⟩
  have Z1 := Lib.hid (HZ.out.below k1 HZ.out.lt)
  have B1 := Lib.hid (HB.out.trans (k1.mono HB.out.size))
  clear k1
  go_wp2_with fail
  refine (HD.out _).mono ?_
  rintro e w2 ⟨rfl, k2⟩
  have Z2 := Lib.hid (Z1.out.below k2 Z1.out.lt)
  have B2 := Lib.hid (B1.out.trans (k2.mono B1.out.size))
  clear k2
  go_wp2_with (refine wpList_store_row rfl 26 _ _ rfl (w.heap.size + 1) _ rfl rfl 26 _ Z2.out ?_ ?_ ?_ ?_; kernel_rfl; (first | (rw [wv_size, wv_size]) | kernel_rfl); (first | exact cv_one _ | kernel_rfl))
  refine bodyPost_ret (v := .agg (wv R)) (results_cell_row Tryd.results47 _ _ (w.heap.size + 1) 26 _ (0, 0) _ rfl (Row.put Z2.out _) Tryd.underlying26 rfl (by kernel_rfl)) rfl ⟨rfl, Row.put_below B2.out Z2.out (by omega) _⟩
end Go.Proofs.YtbbldcbilnkkdaaDoor.Reck
