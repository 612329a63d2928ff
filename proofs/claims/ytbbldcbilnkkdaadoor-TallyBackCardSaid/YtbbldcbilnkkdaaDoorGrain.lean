/-
  The places of the float32s in their order, and the sum of one number: contracts of grain's functions and of the law's own. No condition.
-/
import Derived.Test.YtbbldcbilnkkdaaDoorAdd
import Derived.Test.YtbbldcbilnkkdaaDoorMonoL
import Derived.Lib.Zigzag
set_option linter.unusedVariables false
set_option linter.unusedSimpArgs false
namespace Go.Proofs.YtbbldcbilnkkdaaDoor.Mono
open Go.RowKit Go.ChangeShapes Num Tly Ref K Reck

theorem grainFloat (d : Int) (w : World) : Calls Tryd.prog 20 #[.int .u32 d] w fun e w' => e = .returned (.float .f32 d.toNat) ∧ w = w' := by
  have hx := run_float32 d
  go_enter Tryd.func20, Tryd.ntmps20
  go_wp2
  go_ret
  exact ⟨rfl, rfl⟩
theorem and_top (u : Int) (h0 : 0 ≤ u) (h1 : u < 4294967296) : bits .and .u32 u 2147483648 = if 2147483648 ≤ u then 2147483648 else 0 := by
  obtain ⟨n, rfl⟩ := Int.eq_ofNat_of_zero_le h0
  have e := u32_and_nat n 2147483648 (by omega) (by omega)
  rw [show (2147483648 : Int) = ((2147483648 : Nat) : Int) from rfl, e]
  have : n &&& 2147483648 = if 2147483648 ≤ n then 2147483648 else 0 := by
    apply Nat.eq_of_testBit_eq
    intro i
    rw [Nat.testBit_and, show 2147483648 = 2 ^ 31 from rfl, Nat.testBit_two_pow]
    by_cases h : 2 ^ 31 ≤ n
    · rw [if_pos h, Nat.testBit_two_pow]
      by_cases hi : 31 = i
      · subst hi
        have : n.testBit 31 = true := by rw [Nat.testBit_eq_decide_div_mod_eq]; simp; omega
        rw [this]; rfl
      · simp [hi]
    · rw [if_neg h, Nat.zero_testBit]
      by_cases hi : 31 = i
      · subst hi
        have : n.testBit 31 = false := by rw [Nat.testBit_eq_decide_div_mod_eq]; simp; omega
        rw [this]; rfl
      · simp [hi]
  rw [this]
  split <;> split <;> omega
theorem not_top (u : Int) (h0 : 2147483648 ≤ u) (h1 : u < 4294967296) : bits .andNot .u32 u 2147483648 = u - 2147483648 := by
  obtain ⟨n, rfl⟩ := Int.eq_ofNat_of_zero_le (show 0 ≤ u by omega)
  show IntKind.u32.wrap ((BitVec.ofInt 32 (n : Int) &&& ~~~BitVec.ofInt 32 ((2147483648 : Nat) : Int)).toNat : Int) = _
  rw [BitVec.toNat_and, BitVec.toNat_not, ofInt_u32 n (by omega), ofInt_u32 2147483648 (by omega)]
  rw [show 2 ^ 32 - 1 - 2147483648 = 2 ^ 31 - 1 by decide, Nat.and_two_pow_sub_one_eq_mod, IntKind.wrap_u32]
  omega
theorem not_neg (x : Int) (h0 : -9223372036854775808 ≤ x) (h1 : x < 0) : bits .xor .i64 (-1) x = -x - 1 := by
  show IntKind.i64.wrap ((BitVec.ofInt 64 (-1) ^^^ BitVec.ofInt 64 x).toNat : Int) = _
  have e1 : (BitVec.ofInt 64 (-1)).toNat = 2 ^ 64 - 1 := by decide
  have e2 : (BitVec.ofInt 64 x).toNat = (x + 18446744073709551616).toNat := by
    rw [BitVec.toNat_ofInt]; omega
  rw [BitVec.toNat_xor, e1, e2, Lib.xor_ones64 _ (by omega), IntKind.wrap_i64]
  omega
def rk (u : Int) : Int := if 2147483648 ≤ u then -(u - 2147483648) - 1 else u
theorem rank (u : Int) (h0 : 0 ≤ u) (h1 : u < 4294967296) (w : World) : Calls Tryd.prog 32 #[.int .u32 u] w fun e w' => e = .returned (.int .i64 (rk u)) ∧ w = w' := by
  have ha := and_top u h0 h1
  by_cases h : 2147483648 ≤ u
  · rw [if_pos h] at ha
    have hk : rk u = -(u - 2147483648) - 1 := if_pos h
    rw [hk]
    have hn := not_top u h h1
    have hx := Lib.i64_not (u - 2147483648).toNat (by omega)
    rw [show (((u - 2147483648).toNat : Nat) : Int) = u - 2147483648 by omega] at hx
    go_enter Tryd.func32, Tryd.ntmps32
    go_wp2
    go_ret
    exact ⟨rfl, rfl⟩
  · rw [if_neg h] at ha
    have hk : rk u = u := if_neg h
    rw [hk]
    go_enter Tryd.func32, Tryd.ntmps32
    go_wp2
    go_ret
    exact ⟨rfl, rfl⟩
def ofr (r : Int) : Int := if r < 0 then -r - 1 + 2147483648 else r
theorem ofRank (r : Int) (h0 : -2147483648 ≤ r) (h1 : r ≤ 2147483647) (w : World) : Calls Tryd.prog 31 #[.int .i64 r] w fun e w' => e = .returned (.tuple #[.int .u32 (ofr r), .int .i64 0]) ∧ w = w' := by
  by_cases h : r < 0
  · have hk : ofr r = -r - 1 + 2147483648 := if_pos h
    have ho := or32_top (-r - 1) (by omega) (by omega)
    have hx := not_neg r (by omega) h
    have hm : (-r - 1) % 4294967296 = -r - 1 := by omega
    rw [hk]
    go_enter Tryd.func31, Tryd.ntmps31
    go_wp2
    go_ret2
    exact ⟨rfl, rfl⟩
  · have hk : ofr r = r := if_neg h
    rw [hk]
    go_enter Tryd.func31, Tryd.ntmps31
    go_wp2
    go_ret2
    exact ⟨rfl, rfl⟩
theorem one_sum {u : Int} (h : u / 8388608 % 256 ≠ 255) : addS 0 [u] = flt u := by
  unfold addS fin putv
  simp [h]
theorem ofOne (u : Int) (h0 : 0 ≤ u) (h1 : u < 4294967296) (h : u / 8388608 % 256 ≠ 255) (w : World) : Calls Tryd.prog 30 #[.float .f32 u.toNat] w fun e w' => e = .returned (.agg (wv (flt u))) ∧ Below w.heap.size w w' := by
  have hO := fun W h => of (some ⟨w.heap.size + 1, 0, none⟩) 1 1 [u] (by omega) (by intro x hx; simp at hx; omega) W h
  rw [one_sum h] at hO
  have hlies : ∀ W : World, W.heap.size = w.heap.size + 1 → Lies (W.alloc (.cells #[.float .f32 u.toNat] 39)) (W.alloc (.cells #[.float .f32 u.toNat] 39)).heap.size (some ⟨w.heap.size + 1, 0, none⟩) 1 ([u].map Ref.fl) := fun W hW =>
    ⟨rfl, fun _ => ⟨_, rfl, by simp; omega, fun j v hv => by
      match j, hv with
      | 0, hv => simp [Ref.fl] at hv; subst hv; simp [Addr.add, ← hW]⟩⟩
  have HO := Lib.hid hO
  have HL := Lib.hid hlies
  have HZ := Lib.hid (Row.new w 26 (cv [0, 0, 0, 0, 0, 0]))
  have HB := Lib.hid ((Below.refl w.heap.size w).alloc (Nat.le_refl _) (.cells (cv [0, 0, 0, 0, 0, 0]) 26))
  clear hO hlies
  go_enter Tryd.func30, Tryd.ntmps30
  go_wp2_with fail
  refine (HO.out _ (HL.out _ (by simp))).mono ?_
  rintro e w1 ⟨rfl, k1⟩
  have Z1 := Lib.hid ((HZ.out.alloc (.cells #[.float .f32 u.toNat] 39)).below k1 (by simp; omega))
  have B1 := Lib.hid ((HB.out.alloc (by simp) (.cells #[.float .f32 u.toNat] 39)).trans (k1.mono (by simp; omega)))
  have N1 := Lib.hid (Row.new w1 26 (cv [0, 0, 0, 0, 0, 0]))
  have hs1 := Z1.out.lt
  have T1 := Lib.hid (N1.out.put (wv (flt u)))
  have S1 := Lib.hid ((Z1.out.alloc (.cells (cv [0, 0, 0, 0, 0, 0]) 26)).put_other (b' := w1.heap.size) (by omega) (wv (flt u)))
  have hB1 := B1.out.size
  have C1 := Lib.hid (Row.put_below (B1.out.alloc hB1 (.cells (cv [0, 0, 0, 0, 0, 0]) 26)) N1.out hB1 (wv (flt u)))
  clear k1 HO HL HZ HB
  go_wp2_with (first | (refine wpList_store_row rfl 26 _ _ rfl (w1.heap.size) _ rfl rfl 26 _ N1.out ?_ ?_ ?_ ?_; kernel_rfl; (first | (rw [wv_size, wv_size]) | kernel_rfl); (first | exact cv_one _ | kernel_rfl)) | (refine wpList_load_row rfl 26 _ rfl (w1.heap.size) rfl 26 _ (0, 0) _ T1.out Tryd.underlying26 rfl (by kernel_rfl) ?_) | (refine wpList_store_row rfl 26 _ _ rfl (w.heap.size) _ rfl rfl 26 _ S1.out ?_ ?_ ?_ ?_; kernel_rfl; (first | (rw [wv_size, wv_size]) | kernel_rfl); (first | exact cv_one _ | kernel_rfl)))
  refine bodyPost_ret (v := .agg (wv (flt u))) (results_cell_row Tryd.results30 _ _ (w.heap.size) 26 _ (0, 0) _ rfl (S1.out.put _) Tryd.underlying26 rfl (by kernel_rfl)) rfl ⟨rfl, Row.put_below C1.out S1.out (Nat.le_refl _) _⟩
end Go.Proofs.YtbbldcbilnkkdaaDoor.Mono
