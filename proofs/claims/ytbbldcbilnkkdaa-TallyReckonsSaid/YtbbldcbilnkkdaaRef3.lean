/-
  Sums of layer 2, more of the document's functions: Finite, float, Put, Merge, Neg. No condition.
-/
import Derived.Test.YtbbldcbilnkkdaaRef2
set_option linter.unusedVariables false
set_option linter.unusedSimpArgs false
namespace Go.Proofs.Ytbbldcbilnkkdaa.Ref
open Go.RowKit Num Tly

theorem set_top (N : Int) (n p : Nat) (b : Int) (h0 : 0 ≤ N) (h1 : N < 2 ^ p) (hb : b = 0 ∨ b = 1) : (digs 2 N n).set p b = digs 2 (N + 2 ^ p * b) n := by
  have hp : (0 : Int) < 2 ^ p := Int.pow_pos (by decide)
  apply List.ext_getElem?
  intro i
  rw [List.getElem?_set]
  by_cases hn : i < n
  · by_cases hi : p = i
    · subst hi
      rw [if_pos rfl, if_pos (by simpa [digs] using hn), digs_get _ _ hn]
      congr 1
      unfold dig
      rw [Int.add_mul_ediv_left _ _ (by omega), Int.ediv_eq_zero_of_lt h0 h1]
      omega
    · rw [if_neg hi, digs_get _ _ hn, digs_get _ _ hn]
      congr 1
      rcases Nat.lt_or_ge i p with hl | hl
      · exact (dig_mod two_pos N hl b).symm
      · have h2 : (2 : Int) ^ (p + 1) ≤ 2 ^ i := pow_mono two_pos (by omega)
        rw [Int.pow_succ] at h2
        have h3 : 2 ^ p * b ≤ 2 ^ p ∧ 0 ≤ 2 ^ p * b := by rcases hb with rfl | rfl <;> omega
        rw [dig_eq_zero (n := i) (by decide) h0 (by omega) (Nat.le_refl _), dig_eq_zero (n := i) (by decide) (by omega) (by omega) (Nat.le_refl _)]
  · have e1 : (digs 2 N n)[i]? = none := List.getElem?_eq_none (by simp [digs]; omega)
    have e2 : (digs 2 (N + 2 ^ p * b) n)[i]? = none := List.getElem?_eq_none (by simp [digs]; omega)
    rw [e1, e2]
    by_cases hi : p = i
    · rw [if_pos hi, if_neg (by simp [digs]; omega)]
    · rw [if_neg hi]
theorem Finite_yes (u : Int) (h0 : 0 ≤ u) (h1 : u < 4294967296) (h : u / 8388608 % 256 ≠ 255) (w : World) : Calls Try.prog 37 #[.int .u32 u] w fun e w' => e = .returned (.bool true) ∧ w' = w := by
  have m2 : ((u / 8388608 % 256) != 255) = true := by simpa using h
  clear h
  go_enter Try.func37, Try.ntmps37
  go_wp2
  go_ret
  exact ⟨rfl, rfl⟩
theorem Finite_no (u : Int) (h0 : 0 ≤ u) (h1 : u < 4294967296) (h : u / 8388608 % 256 = 255) (w : World) : Calls Try.prog 37 #[.int .u32 u] w fun e w' => e = .returned (.bool false) ∧ w' = w := by
  have m2 : ((u / 8388608 % 256) != 255) = false := by simpa using h
  clear h
  go_enter Try.func37, Try.ntmps37
  go_wp2
  go_ret
  exact ⟨rfl, rfl⟩
theorem float_step (M : Int) (s k : Nat) (hk : s + k < 384) (h0 : 0 ≤ M) :
    (bv (M % 2 ^ k * 2 ^ s)).setIfInBounds (s + k) (.int .i64 (dig 2 M k)) = bv (M % 2 ^ (k + 1) * 2 ^ s) := by
  unfold bv
  obtain ⟨b1, b2⟩ := mod_two_pow M k
  have hs : (0 : Int) < 2 ^ s := Int.pow_pos (by decide)
  rw [iv_set, set_top _ _ _ _ (Int.mul_nonneg b1 (Int.le_of_lt hs)) ?_ (bit_le M k)]
  · congr 2
    rw [mod_succ two_pos, Int.add_mul, Int.pow_add]
    congr 1
    rw [Int.mul_comm (2 ^ s), Int.mul_assoc, Int.mul_assoc, Int.mul_comm (2 ^ s)]
  · rw [Nat.add_comm, Int.pow_add]
    exact Int.mul_lt_mul_of_pos_right b2 hs
def RelFloat (B : Nat) (w : World) (M : Int) (s : Nat) (i : Value) (wr : World) : Prop :=
  ∃ k : Nat, k ≤ 24 ∧ i = .int .i64 k ∧ Row wr B 3 (bv (M % 2 ^ k * 2 ^ s)) ∧ Below B w wr
set_option maxRecDepth 100000 in
set_option maxHeartbeats 1000000 in
theorem float (u : Int) (h0 : 0 ≤ u) (h1 : u < 4294967296) (h : u / 8388608 % 256 ≠ 255) (w : World) : Calls Try.prog 41 #[.int .u32 u] w (IsBits (flt u) w) := by
  have HF := Lib.hid h
  clear h
  obtain ⟨F, hFl⟩ : ∃ F, F = flt u := ⟨_, rfl⟩
  rw [← hFl]
  have hm0 : (0 : Int) ≤ u % 8388608 ∧ u % 8388608 < 8388608 := by omega
  obtain ⟨M, hM⟩ : ∃ M, M = mant u := ⟨_, rfl⟩
  obtain ⟨s, hs⟩ : ∃ s, s = shift u := ⟨_, rfl⟩
  have hcase : (u / 8388608 % 256 = 0 ∧ M = u % 8388608 ∧ s = 0) ∨ (0 < u / 8388608 % 256 ∧ M = u % 8388608 + 8388608 ∧ u / 8388608 % 256 - 1 = s) := by
    by_cases he : u / 8388608 % 256 = 0
    · left
      refine ⟨he, by rw [hM]; unfold mant; rw [if_pos he], by rw [hs]; unfold shift; rw [he]; rfl⟩
    · right
      refine ⟨by omega, by rw [hM]; unfold mant; rw [if_neg he], by rw [hs]; unfold shift; omega⟩
  have hpos : (¬ u / 2147483648 = 1) → F = M * 2 ^ s := fun h => by rw [hFl, hM, hs, flt_pos u h]
  have hneg : u / 2147483648 = 1 → F = -(M * 2 ^ s) := fun h => by rw [hFl, hM, hs, flt_neg u h]
  have hM0 : 0 ≤ M := by rcases hcase with ⟨_, h, _⟩ | ⟨_, h, _⟩ <;> omega
  have hM1 : M < 16777216 := by rcases hcase with ⟨_, h, _⟩ | ⟨_, h, _⟩ <;> omega
  have hs1 : s ≤ 253 := by have := HF.out; rcases hcase with ⟨_, _, h⟩ | ⟨_, _, h⟩ <;> omega
  have HP := Lib.hid hpos
  have HN := Lib.hid hneg
  clear hFl hM hs hpos hneg
  have hmk := make384
  have hz : bv (M % 2 ^ 0 * 2 ^ s) = bv 0 := by simp [Int.emod_one]
  have HZ := Lib.hid hz
  clear hz
  rcases hcase with ⟨he, rfl, rfl⟩ | ⟨he, rfl, hs⟩
  · have e0 : decide ((0 : Int) < u / 8388608 % 256) = false := by simp [he]
    go_enter Try.func41, Try.ntmps41
    go_wp2
    clear hmk
    go_loopw [7] (fun i wr => RelFloat w.heap.size w ((u % 8388608)) (0) i wr) (fun i _ => 24 - (intOf i).toNat)
    case atStart =>
      exact ⟨0, Nat.zero_le _, rfl, (Row.new w _ _).to HZ.out.symm, (Below.refl _ _).alloc (Nat.le_refl _) _⟩
    case round =>
      obtain ⟨k, hk, rfl, hb, hl⟩ := hrel
      rcases Nat.lt_or_ge k 24 with h6 | h6
      · have hf := hb.free (0 + k)
        have hc := hb.get (iv_get (digs_get 2 ((u % 8388608) % 2 ^ k * 2 ^ 0) (show 0 + k < 384 by omega)))
        have hst := float_step ((u % 8388608)) (0) k (by omega) hM0
        have hdn := dig_nonneg two_pos ((u % 8388608)) k
        have hdl := dig_lt two_pos ((u % 8388608)) k
        have hdd : ((u % 8388608)) / 2 ^ k % 2 = dig 2 ((u % 8388608)) k := rfl
        have hnn : 0 ≤ ((u % 8388608)) / 2 ^ k := Int.ediv_nonneg hM0 (Int.le_of_lt (Int.pow_pos (by decide)))
        (try simp only [Nat.zero_add] at hst hf hc)
        have hkb : decide ((k : Int) < 24) = true := by simp; omega
        have g0 : (0 : Int) ≤ k := by omega
        have g1 : (k : Int) < 24 := by omega
        have g2 : (0 : Int) ≤ (0 : Int) + (k : Int) := by omega
        have g3 : (0 : Int) + (k : Int) < 384 := by omega
        have g4 : ((0 : Int) + (k : Int)).toNat = 0 + k := by omega
        have hlt1 := hb.lt
        have HB := Lib.hid hb
        have HS := Lib.hid hst
        have HD := Lib.hid hdd
        clear hb hst hdd
        go_wp2
        go_roundw
        case rel =>
          refine ⟨k + 1, by omega, by go_num, ?_, hl.setCell (Nat.le_refl _) _⟩
          rw [HD.out]
          exact (HB.out.set _ _).to HS.out
        case measure => simp [intOf]; omega
      · obtain rfl : k = 24 := by omega
        have e : ((u % 8388608)) % 2 ^ 24 * 2 ^ 0 = ((u % 8388608)) * 2 ^ 0 := by rw [Int.emod_eq_of_lt hM0 (by omega)]
        rw [e] at hb
        by_cases hs : u / 2147483648 = 1
        · have hs' : (u / 2147483648 == 1) = true := by simp [hs]
          have hF := HN.out hs
          have HB := Lib.hid hb
          have HFF := Lib.hid hF
          clear hb hs e hF
          go_wp2_with fail
          refine (minus _ w.heap.size _ HB.out).mono ?_
          rintro e w1 ⟨b, hb, rfl, hr, hb1⟩
          have HR := Lib.hid hr
          clear hr
          go_wp2
          go_ret
          have hsz := hl.size
          exact ⟨b, by omega, rfl, HR.out.to (by rw [HFF.out]), hl.trans (hb1.mono hsz)⟩
        · have hs' : (u / 2147483648 == 1) = false := by simp [hs]
          have hF := HP.out hs
          have HB := Lib.hid hb
          have HFF := Lib.hid hF
          clear hb hs e hF
          go_wp2
          go_ret
          exact ⟨_, Nat.le_refl _, rfl, HB.out.to (by rw [HFF.out]), hl⟩
  · have e0 : decide ((0 : Int) < u / 8388608 % 256) = true := by simp [he]
    go_enter Try.func41, Try.ntmps41
    go_wp2
    clear hmk
    go_loopw [7] (fun i wr => RelFloat w.heap.size w ((u % 8388608 + 8388608)) (s) i wr) (fun i _ => 24 - (intOf i).toNat)
    case atStart =>
      exact ⟨0, Nat.zero_le _, rfl, (Row.new w _ _).to HZ.out.symm, (Below.refl _ _).alloc (Nat.le_refl _) _⟩
    case round =>
      obtain ⟨k, hk, rfl, hb, hl⟩ := hrel
      rcases Nat.lt_or_ge k 24 with h6 | h6
      · have hf := hb.free (s + k)
        have hc := hb.get (iv_get (digs_get 2 ((u % 8388608 + 8388608) % 2 ^ k * 2 ^ s) (show s + k < 384 by omega)))
        have hst := float_step ((u % 8388608 + 8388608)) (s) k (by omega) hM0
        have hdn := dig_nonneg two_pos ((u % 8388608 + 8388608)) k
        have hdl := dig_lt two_pos ((u % 8388608 + 8388608)) k
        have hdd : ((u % 8388608 + 8388608)) / 2 ^ k % 2 = dig 2 ((u % 8388608 + 8388608)) k := rfl
        have hnn : 0 ≤ ((u % 8388608 + 8388608)) / 2 ^ k := Int.ediv_nonneg hM0 (Int.le_of_lt (Int.pow_pos (by decide)))
        (try simp only [Nat.zero_add] at hst hf hc)
        have hkb : decide ((k : Int) < 24) = true := by simp; omega
        have g0 : (0 : Int) ≤ k := by omega
        have g1 : (k : Int) < 24 := by omega
        have g2 : (0 : Int) ≤ (s : Int) + (k : Int) := by omega
        have g3 : (s : Int) + (k : Int) < 384 := by omega
        have g4 : ((s : Int) + (k : Int)).toNat = s + k := by omega
        have hlt1 := hb.lt
        have HB := Lib.hid hb
        have HS := Lib.hid hst
        have HD := Lib.hid hdd
        clear hb hst hdd
        go_wp2
        go_roundw
        case rel =>
          refine ⟨k + 1, by omega, by go_num, ?_, hl.setCell (Nat.le_refl _) _⟩
          rw [HD.out]
          exact (HB.out.set _ _).to HS.out
        case measure => simp [intOf]; omega
      · obtain rfl : k = 24 := by omega
        have e : ((u % 8388608 + 8388608)) % 2 ^ 24 * 2 ^ s = ((u % 8388608 + 8388608)) * 2 ^ s := by rw [Int.emod_eq_of_lt hM0 (by omega)]
        rw [e] at hb
        by_cases hs : u / 2147483648 = 1
        · have hs' : (u / 2147483648 == 1) = true := by simp [hs]
          have hF := HN.out hs
          have HB := Lib.hid hb
          have HFF := Lib.hid hF
          clear hb hs e hF
          go_wp2_with fail
          refine (minus _ w.heap.size _ HB.out).mono ?_
          rintro e w1 ⟨b, hb, rfl, hr, hb1⟩
          have HR := Lib.hid hr
          clear hr
          go_wp2
          go_ret
          have hsz := hl.size
          exact ⟨b, by omega, rfl, HR.out.to (by rw [HFF.out]), hl.trans (hb1.mono hsz)⟩
        · have hs' : (u / 2147483648 == 1) = false := by simp [hs]
          have hF := HP.out hs
          have HB := Lib.hid hb
          have HFF := Lib.hid hF
          clear hb hs e hF
          go_wp2
          go_ret
          exact ⟨_, Nat.le_refl _, rfl, HB.out.to (by rw [HFF.out]), hl⟩
end Go.Proofs.Ytbbldcbilnkkdaa.Ref
