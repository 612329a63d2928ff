/-
  Gatherings of layer 2: gather, nibbles of the program and of the document. No condition.
-/
import Derived.Test.YtbbldcbilnkkdaaRef4
import Derived.Test.YtbbldcbilnkkdaaK4
set_option linter.unusedVariables false
set_option linter.unusedSimpArgs false
namespace Go.Proofs.Ytbbldcbilnkkdaa.Mons
open Go.RowKit Num Tly Ref K

/-- Four bits of x, in their place. -/
def nib (x : Int) (k : Nat) : Int := x / 2 ^ (4 * k) % 16 * 2 ^ (4 * k)
def nibs (x y : Int) : Nat → Int
  | 0 => 0
  | k + 1 => bits .or .u64 (nibs x y k) (max (nib x k) (nib y k))
theorem pow4_fits (k : Nat) (hk : k < 16) : (2 : Int) ^ (4 * k) * 16 ≤ 18446744073709551616 := by
  have h := pow_mono (q := 2) (m := 4 * k + 4) (n := 64) (by decide) (by omega)
  rw [Int.pow_add] at h
  exact h
theorem mask_place (k : Nat) (hk : k < 16) : IntKind.u64.wrap (15 * 2 ^ (4 * k)) = 15 * 2 ^ (4 * k) := by
  have h := pow4_fits k hk
  have h0 : (0 : Int) < 2 ^ (4 * k) := Int.pow_pos (by decide)
  rw [IntKind.wrap_u64]
  omega
theorem and_nib (x : Nat) (k : Nat) : x &&& (15 * 2 ^ (4 * k)) = x / 2 ^ (4 * k) % 16 * 2 ^ (4 * k) := by
  have e : (15 : Nat) * 2 ^ (4 * k) = 15 <<< (4 * k) := (Nat.shiftLeft_eq _ _).symm
  have e2 : x / 2 ^ (4 * k) % 16 = x >>> (4 * k) &&& 15 := by
    rw [Nat.shiftRight_eq_div_pow]; exact (Nat.and_two_pow_sub_one_eq_mod _ 4).symm
  rw [e, e2, ← Nat.shiftLeft_eq]
  apply Nat.eq_of_testBit_eq
  intro i
  rw [Nat.testBit_and, Nat.testBit_shiftLeft, Nat.testBit_shiftLeft, Nat.testBit_and, Nat.testBit_shiftRight]
  by_cases h : 4 * k ≤ i
  · rw [show 4 * k + (i - 4 * k) = i by omega]; simp [h, Bool.and_comm]
  · simp [h]
theorem and_place (x : Int) (h0 : 0 ≤ x) (h1 : x < 18446744073709551616) (k : Nat) (hk : k < 16) : bits .and .u64 x (15 * 2 ^ (4 * k)) = nib x k := by
  have h := pow4_fits k hk
  have hp : (0 : Int) < 2 ^ (4 * k) := Int.pow_pos (by decide)
  obtain ⟨n, rfl⟩ := Int.eq_ofNat_of_zero_le h0
  have e : (15 * 2 ^ (4 * k) : Int) = ((15 * 2 ^ (4 * k) : Nat) : Int) := by rw [Int.natCast_mul, Int.natCast_pow]; rfl
  have hl : 15 * 2 ^ (4 * k) < 18446744073709551616 := by
    have : ((15 * 2 ^ (4 * k) : Nat) : Int) < 18446744073709551616 := by rw [← e]; omega
    omega
  rw [e, u64_and_nat _ _ (by omega) hl, and_nib]
  unfold nib
  rw [Int.natCast_mul, Int.natCast_emod, Int.natCast_ediv, Int.natCast_pow]
  rfl
theorem nib_bound (x : Int) (k : Nat) (hk : k < 16) : 0 ≤ nib x k ∧ nib x k < 18446744073709551616 := by
  have h := pow4_fits k hk
  have hp : (0 : Int) < 2 ^ (4 * k) := Int.pow_pos (by decide)
  have h1 : 0 ≤ x / 2 ^ (4 * k) % 16 ∧ x / 2 ^ (4 * k) % 16 < 16 := by omega
  unfold nib
  refine ⟨Int.mul_nonneg h1.1 (by omega), ?_⟩
  have := Int.mul_le_mul_of_nonneg_right (show x / 2 ^ (4 * k) % 16 ≤ 15 by omega) (Int.le_of_lt hp)
  omega
theorem nib_wrap (x : Int) (k : Nat) (hk : k < 16) : IntKind.u64.wrap (x / 2 ^ (4 * k) % 16 * 2 ^ (4 * k)) = nib x k := by
  have h := nib_bound x k hk
  rw [IntKind.wrap_u64]
  exact Int.emod_eq_of_lt h.1 h.2
theorem nib_le (x y : Int) (k : Nat) : nib x k ≤ nib y k ↔ x / 2 ^ (4 * k) % 16 ≤ y / 2 ^ (4 * k) % 16 := by
  have hp : (0 : Int) < 2 ^ (4 * k) := Int.pow_pos (by decide)
  unfold nib
  exact Int.mul_le_mul_right hp
theorem ival {k : IntKind} {a b : Int} (h : a = b) : Value.int k a = Value.int k b := by rw [h]
def RelNib (x y : Int) (c : Int) (z i : Value) : Prop := ∃ k : Nat, k ≤ 16 ∧ i = .int .i64 (c * k) ∧ z = .int .u64 (nibs x y k)
set_option maxRecDepth 100000 in
theorem nibbles (x y : Int) (hx : 0 ≤ x ∧ x < 18446744073709551616) (hy : 0 ≤ y ∧ y < 18446744073709551616) (w : World) :
    Calls Try.prog 59 #[.int .u64 x, .int .u64 y] w fun e w' => e = .returned (.int .u64 (nibs x y 16)) ∧ w = w' := by
  go_enter Try.func59, Try.ntmps59
  go_wp2
  go_loop [5, 6] (fun z i => RelNib x y 4 z i) (fun _ i => 64 - (intOf i).toNat)
  case atStart => exact ⟨0, Nat.zero_le _, rfl, rfl⟩
  case round =>
    obtain ⟨k, hk, rfl, rfl⟩ := hrel
    rcases Nat.lt_or_ge k 16 with h6 | h6
    · have m1 := mask_place k h6
      have a1 := and_place x hx.1 hx.2 k h6
      have a2 := and_place y hy.1 hy.2 k h6
      have e4 : ((4 : Int) * (k : Int)).toNat = 4 * k := by omega
      have hlt : decide ((4 : Int) * (k : Int) < 64) = true := by simp; omega
      have g0 : (0 : Int) ≤ 4 * (k : Int) := by omega
      rcases Int.lt_or_le (nib x k) (nib y k) with hc | hc
      all_goals
        have HK : Hid (nibs x y (k + 1) = bits .or .u64 (nibs x y k) (max (nib x k) (nib y k))) := rfl
        generalize hA : nib x k = A at *
        generalize hB : nib y k = B at *
        clear hA hB
        go_wp2
        go_round
        case rel => exact ⟨k + 1, by omega, ival (by omega), ival (by rw [HK.out]; congr 1; omega)⟩
        case measure => simp [intOf]; omega
    · obtain rfl : k = 16 := by omega
      go_wp2
      go_ret
      exact ⟨rfl, rfl⟩
set_option maxRecDepth 100000 in
theorem refNibbles (x y : Int) (hx : 0 ≤ x ∧ x < 18446744073709551616) (hy : 0 ≤ y ∧ y < 18446744073709551616) (w : World) :
    Calls Try.prog 45 #[.int .u64 x, .int .u64 y] w fun e w' => e = .returned (.int .u64 (nibs x y 16)) ∧ w = w' := by
  go_enter Try.func45, Try.ntmps45
  go_wp2
  go_loop [5, 6] (fun z i => RelNib x y 1 z i) (fun _ i => 16 - (intOf i).toNat)
  case atStart => exact ⟨0, Nat.zero_le _, rfl, rfl⟩
  case round =>
    obtain ⟨k, hk, hi, rfl⟩ := hrel
    rw [Int.one_mul] at hi
    subst hi
    rcases Nat.lt_or_ge k 16 with h6 | h6
    · have hw1 := nib_wrap x k h6
      have hw2 := nib_wrap y k h6
      have hle := nib_le x y k
      have hx0 : 0 ≤ x / 2 ^ (4 * k) := Int.ediv_nonneg hx.1 (Int.le_of_lt (Int.pow_pos (by decide)))
      have hy0 : 0 ≤ y / 2 ^ (4 * k) := Int.ediv_nonneg hy.1 (Int.le_of_lt (Int.pow_pos (by decide)))
      have e4 : ((4 : Int) * (k : Int)).toNat = 4 * k := by omega
      have hlt : decide ((k : Int) < 16) = true := by simp; omega
      have g0 : (0 : Int) ≤ 4 * (k : Int) := by omega
      have HK : Hid (nibs x y (k + 1) = bits .or .u64 (nibs x y k) (max (nib x k) (nib y k))) := rfl
      have HLE := Lib.hid hle
      have H1 := Lib.hid hw1
      have H2 := Lib.hid hw2
      clear hle hw1 hw2
      rcases Int.lt_or_le (x / 2 ^ (4 * k) % 16) (y / 2 ^ (4 * k) % 16) with hc | hc
      · go_wp2
        go_round
        case rel => exact ⟨k + 1, by omega, ival (by omega), ival (by rw [HK.out, H2.out]; congr 1; have := HLE.out; omega)⟩
        case measure => simp [intOf]; omega
      · go_wp2
        go_round
        case rel => exact ⟨k + 1, by omega, ival (by omega), ival (by rw [HK.out, H1.out]; congr 1; have h1 := HLE.out; have h2 := nib_le y x k; omega)⟩
        case measure => simp [intOf]; omega
    · obtain rfl : k = 16 := by omega
      go_wp2
      go_ret
      exact ⟨rfl, rfl⟩
/-- What a word becomes. -/
def gat (m x y : Int) : Int :=
  if m = 1 then min x y else if m = 2 then max x y else if m = 3 then IntKind.u64.wrap (min (wrap64 x) (wrap64 y)) else if m = 4 then IntKind.u64.wrap (max (wrap64 x) (wrap64 y))
  else if m = 5 then IntKind.u64.wrap (x + y) else if m = 6 then bits .and .u64 x y else if m = 7 then bits .or .u64 x y else if m = 8 then nibs x y 16 else x
set_option maxRecDepth 100000 in
theorem gather (m x y : Int) (hm : 0 ≤ m ∧ m ≤ 8) (hx : 0 ≤ x ∧ x < 18446744073709551616) (hy : 0 ≤ y ∧ y < 18446744073709551616) (w : World) :
    Calls Try.prog 44 #[.int .i64 m, .int .u64 x, .int .u64 y] w fun e w' => e = .returned (.int .u64 (gat m x y)) ∧ w = w' := by
  have hc : m = 0 ∨ m = 1 ∨ m = 2 ∨ m = 3 ∨ m = 4 ∨ m = 5 ∨ m = 6 ∨ m = 7 ∨ m = 8 := by omega
  obtain ⟨G, hG⟩ : ∃ G, G = gat m x y := ⟨_, rfl⟩
  rw [← hG]
  have HG := Lib.hid hG
  clear hG hm
  rcases hc with rfl | rfl | rfl | rfl | rfl | rfl | rfl | rfl | rfl
  all_goals
    go_enter Try.func44, Try.ntmps44
    go_wp2_with (go_at_call 59; refine (nibbles x y hx hy _).mono ?_; rintro e w1 ⟨rfl, rfl⟩)
    all_goals
      go_ret
      refine ⟨ret_one ?_, rfl⟩
      rw [HG.out]
      first
        | rfl
        | (show _ = min x y; omega)
        | (show _ = max x y; omega)
        | (show _ = IntKind.u64.wrap (min (wrap64 x) (wrap64 y)); congr 1; omega)
        | (show _ = IntKind.u64.wrap (max (wrap64 x) (wrap64 y)); congr 1; omega)
end Go.Proofs.Ytbbldcbilnkkdaa.Mons
