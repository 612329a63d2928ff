/-
  Sums of layer 2: Sign of the program and of the document. No condition.
-/
import Derived.Test.YtbbldcbilnkkdaaDoorRef4
import Derived.Test.YtbbldcbilnkkdaaDoorK4
set_option linter.unusedVariables false
set_option linter.unusedSimpArgs false
namespace Go.Proofs.YtbbldcbilnkkdaaDoor.Reck
open Go.RowKit Num Tly Ref K

def p5 : Int := 18446744073709551616 ^ 5
theorem half_eq : half = 9223372036854775808 * p5 := rfl
theorem p5_pos : 0 < p5 := by unfold p5; decide
theorem top_pos {z : Int} (h0 : 0 ≤ z) (h1 : z < half) : dig 18446744073709551616 z 5 / 9223372036854775808 = 0 := by
  have hp := p5_pos
  have a : 0 ≤ z / p5 := Int.ediv_nonneg h0 (by omega)
  have b : z / p5 < 9223372036854775808 := Int.ediv_lt_of_lt_mul hp (by rw [← half_eq]; exact h1)
  show z / p5 % 18446744073709551616 / 9223372036854775808 = 0
  omega
theorem top_neg {z : Int} (h0 : -half ≤ z) (h1 : z < 0) : dig 18446744073709551616 z 5 / 9223372036854775808 = 1 := by
  have hp := p5_pos
  have a : z / p5 < 0 := Int.ediv_neg_of_neg_of_pos h1 hp
  have b : -9223372036854775808 ≤ z / p5 := Int.le_ediv_of_mul_le hp (by rw [Int.neg_mul, ← half_eq]; exact h0)
  show z / p5 % 18446744073709551616 / 9223372036854775808 = 1
  omega
theorem null_iff {z : Int} (h0 : -half ≤ z) (h1 : z < half) : (digs 18446744073709551616 z 6 == [0, 0, 0, 0, 0, 0]) = decide (z = 0) := by
  by_cases h : z = 0
  · subst h
    rw [digs_null]
    rfl
  · rw [decide_eq_false h]
    rw [beq_eq_false_iff_ne]
    intro e
    have e2 : digs 18446744073709551616 z 6 = digs 18446744073709551616 0 6 := by rw [e, digs_null]; rfl
    have e3 := digs_inj q_pos z 0 6 e2
    have hh : (18446744073709551616 : Int) ^ 6 = half + half := by decide
    have hp : (0 : Int) < half := by decide
    rw [hh] at e3
    generalize half = H at *
    rw [Int.zero_emod] at e3
    rcases Int.lt_or_le z 0 with hz | hz
    · have e4 : (z + (H + H)) % (H + H) = z + (H + H) := Int.emod_eq_of_lt (by omega) (by omega)
      rw [Int.add_emod_right] at e4
      omega
    · rw [Int.emod_eq_of_lt hz (by omega)] at e3
      exact h e3
def sgn (z : Int) : Int := if z < 0 then -1 else if z = 0 then 0 else 1
theorem sgn_null : sgn 0 = 0 := rfl
theorem sgn_neg {z : Int} (h : z < 0) : sgn z = -1 := if_pos h
theorem sgn_pos {z : Int} (h : 0 < z) : sgn z = 1 := by unfold sgn; rw [if_neg (by omega), if_neg (by omega)]
theorem eql_null (T : TypeId) (ht : Tryd.prog.underlying T = some (.array 6 22)) {z : Int} (h0 : -half ≤ z) (h1 : z < half) (W : World) :
    (binOp .eql T (.agg (wv z)) (.agg #[Value.int .u64 0, Value.int .u64 0, Value.int .u64 0, Value.int .u64 0, Value.int .u64 0, Value.int .u64 0])).run Tryd.prog W = .ok (.bool (decide (z = 0))) W := by
  have h := K.eql_ints (P := Tryd.prog) W (t := T) (e := 22) (n := 6) (k := .u64) ht (by kernel_rfl) (by kernel_rfl) (digs 18446744073709551616 z 6) [0, 0, 0, 0, 0, 0] (digs_length _ _ _) rfl
  rw [null_iff h0 h1] at h
  exact h
set_option maxRecDepth 100000 in
theorem sign (z : Int) (h0 : -half ≤ z) (h1 : z < half) (w : World) : Calls Tryd.prog 77 #[.agg (wv z)] w fun e w' => e = .returned (.int .i64 (sgn z)) ∧ Below w.heap.size w w' := by
  have HA := Lib.hid (Row.new w 26 (wv z))
  have HB := Lib.hid ((Below.refl w.heap.size w).alloc (Nat.le_refl _) (.cells (wv z) 26))
  have hq := eql_null 26 Tryd.underlying26 h0 h1
  have hx := HA.out.get (i := 5) (cv_get (digs_get _ z (by omega)))
  rcases Int.lt_trichotomy z 0 with hz | hz | hz
  · have e1 : decide (z = 0) = false := by simp; omega
    have e2 := top_neg h0 hz
    have e3 := sgn_neg hz
    generalize dig 18446744073709551616 z 5 = x at *
    rw [e3]
    have HN := Lib.hid h0
    clear h0 h1 hz e3
    go_enter Tryd.func77, Tryd.ntmps77
    go_wp2_with (refine wpList_load_row rfl 26 _ rfl (w.heap.size) rfl 26 _ (0, 0) _ HA.out Tryd.underlying26 rfl (by kernel_rfl) ?_)
    go_ret
    exact ⟨rfl, HB.out⟩
  · have e1 : decide (z = 0) = true := by simp [hz]
    have e3 : sgn z = 0 := by rw [hz]; rfl
    rw [e3]
    clear h0 h1 hz e3
    go_enter Tryd.func77, Tryd.ntmps77
    go_wp2_with (refine wpList_load_row rfl 26 _ rfl (w.heap.size) rfl 26 _ (0, 0) _ HA.out Tryd.underlying26 rfl (by kernel_rfl) ?_)
    go_ret
    exact ⟨rfl, HB.out⟩
  · have e1 : decide (z = 0) = false := by simp; omega
    have e2 := top_pos (by omega) h1
    have e3 := sgn_pos hz
    generalize dig 18446744073709551616 z 5 = x at *
    rw [e3]
    clear h0 h1 hz e3
    go_enter Tryd.func77, Tryd.ntmps77
    go_wp2_with (refine wpList_load_row rfl 26 _ rfl (w.heap.size) rfl 26 _ (0, 0) _ HA.out Tryd.underlying26 rfl (by kernel_rfl) ?_)
    go_ret
    exact ⟨rfl, HB.out⟩
end Go.Proofs.YtbbldcbilnkkdaaDoor.Reck
