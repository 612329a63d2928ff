/-
  Sums of layer 2, more of the document's functions: Put, Merge, Neg. No condition.
-/
import Derived.Test.YtbbldcbilnkkdaaDoorRef3
import Derived.Deep.RegionWith
set_option linter.unusedVariables false
set_option linter.unusedSimpArgs false
namespace Go.Proofs.YtbbldcbilnkkdaaDoor.Ref
open Go.RowKit Num Tly

set_option maxRecDepth 100000 in
theorem Neg (z : Int) (w : World) : Calls Tryd.prog 89 #[.agg (wv z)] w fun e w' => e = .returned (.agg (wv (-z))) ∧ Below w.heap.size w w' := by
  have HA := Lib.hid ((Row.new w 48 (wv z)).alloc (.cells (cv [0, 0, 0, 0, 0, 0]) 48))
  have HZ := Lib.hid (Row.at (Row.new (w.alloc (.cells (wv z) 48)) 48 (cv [0, 0, 0, 0, 0, 0])) (b' := w.heap.size + 1) (by simp))
  have HB := Lib.hid (((Below.refl w.heap.size w).alloc (Nat.le_refl _) (.cells (wv z) 48)).alloc (by simp) (.cells (cv [0, 0, 0, 0, 0, 0]) 48))
  go_enter Tryd.func89, Tryd.ntmps89
  go_wp2_with (refine wpList_load_row rfl 48 _ rfl (w.heap.size) rfl 48 _ (0, 0) _ HA.out Tryd.underlying48 rfl (by kernel_rfl) ?_)
  refine (bits z _).mono ?_
  rintro e w1 ⟨b1, hb1, rfl, r1, k1⟩
  have R1 := Lib.hid r1
  have K1 := Lib.hid (HB.out.trans (k1.mono HB.out.size))
  have Z1 := Lib.hid (HZ.out.below k1 HZ.out.lt)
  clear r1 k1
  go_wp2_with fail
  refine (minus z b1 _ R1.out).mono ?_
  rintro e w3 ⟨b3, hb3, rfl, r3, k3⟩
  have R3 := Lib.hid r3
  have K3 := Lib.hid (K1.out.trans (k3.mono K1.out.size))
  have Z3 := Lib.hid (Z1.out.below k3 Z1.out.lt)
  clear r3 k3
  go_wp2_with fail
  refine (words _ b3 _ R3.out).mono ?_
  rintro e w4 ⟨rfl, k4⟩
  have K4 := Lib.hid (K3.out.trans (k4.mono K3.out.size))
  have Z4 := Lib.hid (Z3.out.below k4 Z3.out.lt)
  clear k4
  go_wp2_with (refine wpList_store_row rfl 48 _ _ rfl (w.heap.size + 1) _ rfl rfl 48 _ Z4.out ?_ ?_ ?_ ?_; kernel_rfl; (first | (rw [wv_size, wv_size]) | kernel_rfl); (first | exact cv_one _ | kernel_rfl))
  refine bodyPost_ret (v := .agg (wv (-z))) (results_cell_row Tryd.results89 _ _ (w.heap.size + 1) 48 _ (0, 0) _ rfl (Row.put Z4.out _) Tryd.underlying48 rfl (by kernel_rfl)) rfl ⟨rfl, Row.put_below K4.out Z4.out (by omega) _⟩
/-- What Put makes of a sum. -/
def putv (z u : Int) : Int := if u / 8388608 % 256 = 255 then z else z + flt u
theorem put_any (z u : Int) (h0 : 0 ≤ u) (h1 : u < 4294967296) (w : World) : Calls Tryd.prog 21 #[.agg (wv z), .int .u32 u] w fun e w' => e = .returned (.agg (wv (putv z u))) ∧ Below w.heap.size w w' := by
  unfold putv
  split
  · exact put_no z u h0 h1 ‹_› w
  · exact put z u h0 h1 ‹_› w
end Go.Proofs.YtbbldcbilnkkdaaDoor.Ref
