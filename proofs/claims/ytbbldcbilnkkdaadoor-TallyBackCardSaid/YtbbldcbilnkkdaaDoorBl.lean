/-
  Sums of layer 2: length, below, up, down of the program. No condition.
-/
import Derived.Test.YtbbldcbilnkkdaaDoorLen
import Derived.Test.YtbbldcbilnkkdaaDoorReck
import Derived.Test.YtbbldcbilnkkdaaDoorShelf
set_option linter.unusedVariables false
set_option linter.unusedSimpArgs false
namespace Go.Proofs.YtbbldcbilnkkdaaDoor.Reck
open Go.RowKit Num Tly Ref K

def RelLen (B : Nat) (w : World) (m : Int) (i : Value) (wr : World) : Prop :=
  ∃ k : Nat, k ≤ 6 ∧ i = .int .i64 ((k : Int) - 1) ∧ Row wr B 26 (wv m) ∧ m < 18446744073709551616 ^ k ∧ Below B w wr
theorem less_word {m : Int} {j : Nat} (h0 : 0 ≤ m) (h : m < 18446744073709551616 ^ (j + 1)) (hc : dig 18446744073709551616 m j = 0) : m < 18446744073709551616 ^ j := by
  have hP : (0 : Int) < 18446744073709551616 ^ j := pow_pos' (by decide) j
  have hq : m / 18446744073709551616 ^ j < 18446744073709551616 := Int.ediv_lt_of_lt_mul hP (by rw [Int.mul_comm, ← Int.pow_succ]; exact h)
  have hq0 : 0 ≤ m / 18446744073709551616 ^ j := Int.ediv_nonneg h0 (by omega)
  unfold dig at hc
  have e : m / 18446744073709551616 ^ j = 0 := by omega
  have hm := Int.mul_ediv_add_emod m (18446744073709551616 ^ j)
  rw [e, Int.mul_zero, Int.zero_add] at hm
  rw [← hm]
  exact Int.emod_lt_of_pos _ hP
set_option maxRecDepth 100000 in
theorem length (m : Int) (h0 : 0 ≤ m) (h1 : m < 18446744073709551616 ^ 6) (w : World) : Calls Tryd.prog 81 #[.agg (wv m)] w fun e w' => e = .returned (.int .i64 (bl m)) ∧ Below w.heap.size w w' := by
  have HA := Lib.hid (Row.new w 26 (wv m))
  have HB := Lib.hid ((Below.refl w.heap.size w).alloc (Nat.le_refl _) (.cells (wv m) 26))
  have H0 := Lib.hid h0
  have H1 := Lib.hid h1
  have HL := Lib.hid (show m < 2 ^ 384 by rw [show (384 : Nat) = 64 * 6 from rfl, ← pow64]; exact h1)
  clear h0 h1
  go_enter Tryd.func81, Tryd.ntmps81
  go_wp2
  go_loopw [3] (fun i wr => RelLen w.heap.size w m i wr) (fun i _ => (intOf i + 1).toNat)
  case atStart => exact ⟨6, Nat.le_refl _, rfl, HA.out, H1.out, HB.out⟩
  case round =>
    clear HA HB H1
    obtain ⟨k, hk, hi, ha, hd, hl⟩ := hrel
    cases k with
    | zero =>
      rw [show (((0 : Nat) : Int) - 1) = -1 from rfl] at hi
      subst hi
      have e : m = 0 := by
        have := H0.out
        simp only [Int.pow_zero] at hd
        omega
      have HE := Lib.hid e
      clear e hd ha
      go_wp2
      go_ret
      exact ⟨ret_one (by rw [HE.out]; rfl), hl⟩
    | succ j =>
      rw [show (((j + 1 : Nat) : Int) - 1) = j by omega] at hi
      subst hi
      have h6 : j < 6 := by omega
      have hx := ha.get (cv_get (digs_get _ m h6))
      have f0 : (0 : Int) ≤ (j : Int) := by omega
      have f1 : (j : Int) < 6 := by omega
      have hlt := ha.lt
      have HA := Lib.hid ha
      have hx0 := dig_nonneg q_pos m j
      have hx1 := dig_lt q_pos m j
      by_cases hc : dig 18446744073709551616 m j = 0
      · have HM := Lib.hid (less_word H0.out hd hc)
        rw [hc] at hx
        clear ha hd hc hx0 hx1
        go_wp2
        go_roundw
        case rel => exact ⟨j, by omega, rfl, HA.out, HM.out, hl⟩
        case measure => simp [intOf]
      · have HE := Lib.hid (bl_word H0.out hd hc)
        have hne : (dig 18446744073709551616 m j != 0) = true := by simpa using hc
        have hlen := fun W => Tryd.bits_Len64 (dig 18446744073709551616 m j) W hx0 (by omega)
        clear ha hd hc
        generalize dig 18446744073709551616 m j = x at *
        have hwr : wrap64 (64 * (j : Int) + (Lib.bitLen x.toNat : Nat)) = 64 * (j : Int) + (Lib.bitLen x.toNat : Nat) := by
          have := HE.out
          have h3 := bl_fits H0.out HL.out
          unfold wrap64; omega
        have HW := Lib.hid hwr
        have HLEN := Lib.hid hlen
        clear hlen hwr
        go_wp2_with (go_at_call 96; refine (HLEN.out _).mono ?_; rintro e w' ⟨rfl, rfl⟩)
        go_ret
        exact ⟨ret_one (by rw [HE.out]; exact HW.out), hl⟩

def RelBelow (B : Nat) (w : World) (m : Int) (K : Nat) (i : Value) (wr : World) : Prop :=
  ∃ k : Nat, k ≤ 6 ∧ i = .int .i64 k ∧ Row wr B 26 (wv m) ∧ m % 2 ^ (min K (64 * k)) = 0 ∧ Below B w wr
set_option maxRecDepth 100000 in
theorem below (m : Int) (K : Nat) (hK : K ≤ 384) (w : World) : Calls Tryd.prog 82 #[.agg (wv m), .int .i64 K] w fun e w' => e = .returned (.bool (decide (m % 2 ^ K ≠ 0))) ∧ Below w.heap.size w w' := by
  have HA := Lib.hid (Row.new w 26 (wv m))
  have HB := Lib.hid ((Below.refl w.heap.size w).alloc (Nat.le_refl _) (.cells (wv m) 26))
  obtain ⟨G, hG⟩ : ∃ G, G = decide (m % 2 ^ K ≠ 0) := ⟨_, rfl⟩
  rw [← hG]
  have HG := Lib.hid hG
  clear hG
  go_enter Tryd.func82, Tryd.ntmps82
  go_wp2
  go_loopw [7] (fun i wr => RelBelow w.heap.size w m K i wr) (fun i _ => 6 - (intOf i).toNat)
  case atStart => exact ⟨0, Nat.zero_le _, rfl, HA.out, by simp [Int.emod_one], HB.out⟩
  case round =>
    clear HA HB
    obtain ⟨k, hk, rfl, ha, hd, hl⟩ := hrel
    have HD := Lib.hid hd
    clear hd
    rcases Nat.lt_or_ge k 6 with h6 | h6
    · have hkb : decide ((k : Int) < 6) = true := by simp; omega
      rcases Nat.lt_or_ge (64 * k) K with hn | hn
      · have hx := ha.get (cv_get (digs_get _ m h6))
        have f0 : (0 : Int) ≤ (k : Int) := by omega
        have f1 : (k : Int) < 6 := by omega
        have hlt := ha.lt
        have HA := Lib.hid ha
        obtain ⟨t, ht⟩ : ∃ t, t = min (K - 64 * k) 64 := ⟨_, rfl⟩
        have hmin : min ((K : Int) - 64 * (k : Int)) 64 = t := by omega
        have hle : ¬ ((K : Int) - 64 * (k : Int) ≤ 0) := by omega
        have hle2 : 0 < (K : Int) - 64 * (k : Int) := by omega
        have g0 : (0 : Int) ≤ 64 - (t : Int) := by omega
        have g1 : (64 - (t : Int)).toNat = 64 - t := by omega
        have hst := below_step (m := m) (j := k) (t := t) (by omega) (by have := HD.out; rwa [Nat.min_eq_right (by omega)] at this)
        have HT := Lib.hid ht
        have HN := Lib.hid hn
        by_cases hc : dig 18446744073709551616 m k * 2 ^ (64 - t) % 18446744073709551616 = 0
        · have HM := Lib.hid (hst.1 hc)
          have hc2 : IntKind.u64.wrap (dig 18446744073709551616 m k * 2 ^ (64 - t)) = 0 := by rw [IntKind.wrap_u64]; exact hc
          clear hst hc ha ht hn
          generalize dig 18446744073709551616 m k = x at *
          go_wp2
          go_roundw
          case rel => exact ⟨k + 1, by omega, by go_num, HA.out, by have := HM.out; rwa [show 64 * k + t = min K (64 * (k + 1)) by have := HT.out; have := HN.out; omega] at this, hl⟩
          case measure => simp [intOf]; omega
        · have HM := Lib.hid (fun h => hc (hst.2 h))
          have hc2 : (IntKind.u64.wrap (dig 18446744073709551616 m k * 2 ^ (64 - t)) != 0) = true := by rw [IntKind.wrap_u64]; simpa using hc
          have HE := Lib.hid (show G = true by
            rw [HG.out]; simp only [decide_eq_true_eq]
            intro h
            exact HM.out (mod_zero_of (by omega) h))
          clear hst hc ha ht hn
          generalize dig 18446744073709551616 m k = x at *
          go_wp2
          go_ret
          exact ⟨by rw [HE.out]; rfl, hl⟩
      · have HE := Lib.hid (show G = false by
          rw [HG.out, decide_eq_false_iff_not, Decidable.not_not]
          have := HD.out
          rwa [Nat.min_eq_left hn] at this)
        have hle : (K : Int) - 64 * (k : Int) ≤ 0 := by omega
        clear hn
        go_wp2
        go_ret
        exact ⟨by rw [HE.out]; rfl, hl⟩
    · obtain rfl : k = 6 := by omega
      have HE := Lib.hid (show G = false by
        rw [HG.out, decide_eq_false_iff_not, Decidable.not_not]
        have := HD.out
        rwa [Nat.min_eq_left (by omega)] at this)
      go_wp2
      go_ret
      exact ⟨by rw [HE.out]; rfl, hl⟩
end Go.Proofs.YtbbldcbilnkkdaaDoor.Reck
