/-
  Sums of layer 2: apart, of the program. No condition.
-/
import Derived.Test.YtbbldcbilnkkdaaDoorReck5
set_option linter.unusedVariables false
set_option linter.unusedSimpArgs false
namespace Go.Proofs.YtbbldcbilnkkdaaDoor.Reck
open Go.RowKit Num Tly Ref K

theorem results_flag {P : Program} {fn : Func} {p s : Tmp} {ty : TypeId} (h : fn.results = #[.tmp s, .cell p ty]) (tmps : Array Value) (w : World) (g : Nat) (t : TypeId) (cs : Array Value) (d : TypeDesc)
    (hp : tmps.getD p undef = .pointer (some ⟨g, 0, none⟩)) (v : Value) (hs : tmps.getD s undef = v) (hg : Row w g t cs)
    (hu : P.underlying ty = some d) (hd : (match d with | .struct _ | .array _ _ => true | _ => false) = true) (hi : (P.info? ty).map (·.size) = some cs.size) :
    (results fn tmps).run P w = .ok (.tuple #[v, .agg cs]) w := by
  have hp' : tmps[p]?.getD undef = .pointer (some ⟨g, 0, none⟩) := by simpa using hp
  have hs' : tmps[s]?.getD undef = v := by simpa using hs
  simp [results, h, hp', hs', asAddr, run_loadVar_row w g t ty cs (0, 0) d hg hu hd hi]
/-- The greatness of a number, its sign. -/
def mag (z : Int) : Int := if z < 0 then -z else z
set_option maxRecDepth 100000 in
theorem apart (z : Int) (h0 : -half ≤ z) (h1 : z < half) (w : World) : Calls Tryd.prog 43 #[.agg (wv z)] w fun e w' => e = .returned (.tuple #[.bool (decide (z < 0)), .agg (wv (mag z))]) ∧ Below w.heap.size w w' := by
  have HA := Lib.hid ((Row.new w 26 (wv z)).alloc (.cells (cv [0, 0, 0, 0, 0, 0]) 26))
  have HZ := Lib.hid (Row.at (Row.new (w.alloc (.cells (wv z) 26)) 26 (cv [0, 0, 0, 0, 0, 0])) (b' := w.heap.size + 1) (by simp))
  have HB := Lib.hid (((Below.refl w.heap.size w).alloc (Nat.le_refl _) (.cells (wv z) 26)).alloc (by simp) (.cells (cv [0, 0, 0, 0, 0, 0]) 26))
  have HS := Lib.hid (fun W => sign z h0 h1 W)
  obtain ⟨m, hm⟩ : ∃ m, m = mag z := ⟨_, rfl⟩
  rw [← hm]
  have HM := Lib.hid hm
  clear h0 h1 hm
  by_cases hz : z < 0
  · have e1 : decide (z < 0) = true := by simp [hz]
    have HSG := Lib.hid (sgn_neg hz)
    have HMM := Lib.hid (show -z = m by rw [HM.out]; unfold mag; rw [if_pos hz])
    rw [e1]
    clear hz e1
    go_enter Tryd.func43, Tryd.ntmps43
    go_wp2_with (refine wpList_load_row rfl 26 _ rfl (w.heap.size) rfl 26 _ (0, 0) _ HA.out Tryd.underlying26 rfl (by kernel_rfl) ?_)
    refine (HS.out _).mono ?_
    rintro e w1 ⟨rfl, k1⟩
    rw [HSG.out]
    have A1 := Lib.hid (HA.out.below k1 HA.out.lt)
    have Z1 := Lib.hid (HZ.out.below k1 HZ.out.lt)
    have B1 := Lib.hid (HB.out.trans (k1.mono HB.out.size))
    clear k1
    go_wp2_with (refine wpList_load_row rfl 26 _ rfl (w.heap.size) rfl 26 _ (0, 0) _ A1.out Tryd.underlying26 rfl (by kernel_rfl) ?_)
    refine (neg z _).mono ?_
    rintro e w2 ⟨rfl, k2⟩
    have Z2 := Lib.hid (Z1.out.below k2 Z1.out.lt)
    have B2 := Lib.hid (B1.out.trans (k2.mono B1.out.size))
    clear k2
    rw [HMM.out]
    go_wp2_with (refine wpList_store_row rfl 26 _ _ rfl (w.heap.size + 1) _ rfl rfl 26 _ Z2.out ?_ ?_ ?_ ?_; kernel_rfl; (first | (rw [wv_size, wv_size]) | kernel_rfl); (first | exact cv_one _ | kernel_rfl))
    refine bodyPost_ret (v := .tuple #[.bool true, .agg (wv m)]) (results_flag Tryd.results43 _ _ (w.heap.size + 1) 26 _ _ rfl _ rfl (Z2.out.put _) Tryd.underlying26 rfl (by kernel_rfl)) rfl ⟨rfl, Row.put_below B2.out Z2.out (by omega) _⟩
  · have e1 : decide (z < 0) = false := by simp [hz]
    have e2 : decide (sgn z < 0) = false := by
      rcases Int.lt_trichotomy z 0 with h | h | h
      · exact absurd h hz
      · subst h; rfl
      · rw [sgn_pos h]; rfl
    have HMM := Lib.hid (show z = m by rw [HM.out]; unfold mag; rw [if_neg hz])
    rw [e1]
    clear hz e1
    go_enter Tryd.func43, Tryd.ntmps43
    go_wp2_with (refine wpList_load_row rfl 26 _ rfl (w.heap.size) rfl 26 _ (0, 0) _ HA.out Tryd.underlying26 rfl (by kernel_rfl) ?_)
    refine (HS.out _).mono ?_
    rintro e w1 ⟨rfl, k1⟩
    have A1 := Lib.hid (HA.out.below k1 HA.out.lt)
    have Z1 := Lib.hid (HZ.out.below k1 HZ.out.lt)
    have B1 := Lib.hid (HB.out.trans (k1.mono HB.out.size))
    clear k1
    go_wp2_with fail
    refine K.region_tail 2 (by kernel_rfl) (by kernel_rfl) ?_
    simp only [List.take_succ_cons, List.take_zero, List.drop_succ_cons, List.drop_zero]
    iterate 4 (first
      | ((with_reducible refine wpStill_step (fun KK hKK => ?_))
         first
           | ((with_reducible refine K.still_else ?_ (K.Puts.mk' _) ?_)
              (first | rfl | (simp [Region.wanted, yielded]; done))
              (with_reducible refine hKK _ ?_))
           | ((with_reducible refine K.still_if ?_ ?_)
              (first | rfl | (simp [Region.wanted, yielded]; done))
              apply K.still_row 26 _ rfl (w.heap.size) rfl 26 _ (0, 0) _ A1.out.drew Tryd.underlying26 rfl (by kernel_rfl)
              · go_simp; exact K.Puts.mk' _
              (with_reducible refine hKK _ ?_))
           | ((with_reducible refine K.still_if ?_ ?_)
              (first | rfl | (simp [Region.wanted, yielded]; done))
              apply K.still_val
              · go_simp; (try go_ints); exact K.Gives.mk' _ _
              · go_simp; exact K.Puts.mk' _
              (with_reducible refine hKK _ ?_))
         clear hKK KK)
      | skip)
    refine wpStill_nil ?_
    go_wp2_with (refine wpList_store_row rfl 26 _ _ rfl (w.heap.size + 1) _ rfl rfl 26 _ Z1.out.drew ?_ ?_ ?_ ?_; kernel_rfl; (first | (rw [wv_size, wv_size]) | kernel_rfl); (first | exact cv_one _ | kernel_rfl))
    rw [show wv z = wv m from congrArg wv HMM.out]
    refine bodyPost_ret (v := .tuple #[.bool false, .agg (wv m)]) (results_flag Tryd.results43 _ _ (w.heap.size + 1) 26 _ _ rfl _ (by first | rfl | exact congrArg Value.bool e2) (Z1.out.drew.put _) Tryd.underlying26 rfl (by kernel_rfl)) rfl ⟨rfl, Row.put_below B1.out.drew Z1.out.drew (by omega) _⟩
end Go.Proofs.YtbbldcbilnkkdaaDoor.Reck
