/-
  Sums of layer 2: signed, of the program. No condition.
-/
import Derived.Test.YtbbldcbilnkkdaaDoorReck6
import Derived.Deep.RegionWith
set_option linter.unusedVariables false
set_option linter.unusedSimpArgs false
namespace Go.Proofs.YtbbldcbilnkkdaaDoor.Reck
open Go.RowKit Num Tly Ref K

theorem results_with {P : Program} {fn : Func} {p s : Tmp} {ty : TypeId} (h : fn.results = #[.cell p ty, .tmp s]) (tmps : Array Value) (w : World) (g : Nat) (t : TypeId) (cs : Array Value) (d : TypeDesc)
    (hp : tmps.getD p undef = .pointer (some ⟨g, 0, none⟩)) (v : Value) (hs : tmps.getD s undef = v) (hg : Row w g t cs)
    (hu : P.underlying ty = some d) (hd : (match d with | .struct _ | .array _ _ => true | _ => false) = true) (hi : (P.info? ty).map (·.size) = some cs.size) :
    (results fn tmps).run P w = .ok (.tuple #[.agg cs, v]) w := by
  have hp' : tmps[p]?.getD undef = .pointer (some ⟨g, 0, none⟩) := by simpa using hp
  have hs' : tmps[s]?.getD undef = v := by simpa using hs
  simp [results, h, hp', hs', asAddr, run_loadVar_row w g t ty cs (0, 0) d hg hu hd hi]
/-- A number by its sign. -/
def sig (n : Bool) (z : Int) : Int := if n then -z else z
set_option maxRecDepth 100000 in
set_option maxHeartbeats 4000000 in
theorem signed (n : Bool) (z y : Int) (hy : wv (sig n z) = wv y) (hnz : y ≠ 0) (h0 : -half ≤ y) (h1 : y < half) (w : World) : Calls Tryd.prog 42 #[.bool n, .agg (wv z)] w fun e w' => e = .returned (.tuple #[.agg (wv y), .bool (decide (y < 0) == n)]) ∧ Below w.heap.size w w' := by
  have hq := eql_null 26 Tryd.underlying26 h0 h1
  have HS := Lib.hid (fun W => sign y h0 h1 W)
  have HY := Lib.hid hy
  have he : ∀ b : Bool, decide (y = 0) = false → (decide (y < 0) == b) = (decide (sgn y < 0) == b) := by
    intro b hd
    have hy0 : ¬ y = 0 := by simpa using hd
    rcases Int.lt_trichotomy y 0 with h | h | h
    · rw [sgn_neg h]; simp [h]
    · exact absurd h hy0
    · rw [sgn_pos h]; have : ¬ y < 0 := by omega
      simp [this]
  clear h0 h1 hy
  obtain ⟨x0, x1, x2, x3, x4, x5, hx⟩ := lit6 y
  obtain ⟨r, hr⟩ : ∃ r, r = (decide (y < 0) == n) := ⟨_, rfl⟩
  have hd : decide (y = 0) = false := by simpa using hnz
  rw [← hr]
  cases n
  · rw [show wv z = wv y from HY.out]
    rw [hx] at hq HS ⊢
    clear hx HY
    go_enter Tryd.func42, Tryd.ntmps42
    go_wp2_with fail
    obtain ⟨W0, hW0⟩ : ∃ W0, W0 = (w.alloc (.cells #[.int .u64 x0, .int .u64 x1, .int .u64 x2, .int .u64 x3, .int .u64 x4, .int .u64 x5] 26)).alloc (.cells #[Value.int .u64 0, Value.int .u64 0, Value.int .u64 0, Value.int .u64 0, Value.int .u64 0, Value.int .u64 0] 26) := ⟨_, rfl⟩
    have rA : Row W0 w.heap.size 26 #[.int .u64 x0, .int .u64 x1, .int .u64 x2, .int .u64 x3, .int .u64 x4, .int .u64 x5] := by rw [hW0]; exact (Row.new w _ _).alloc _
    have rZ : Row W0 (w.heap.size + 1) 26 #[Value.int .u64 0, Value.int .u64 0, Value.int .u64 0, Value.int .u64 0, Value.int .u64 0, Value.int .u64 0] := by rw [hW0]; exact Row.at (Row.new (w.alloc _) _ _) (by simp)
    have bl : Below w.heap.size w W0 := by rw [hW0]; exact ((Below.refl _ _).alloc (Nat.le_refl _) _).alloc (by simp) _
    rw [← hW0]
    clear hW0
    replace he := he false
    have hxa := fun o => K.row_cell rA o
    have hxz := fun o => K.row_cell rZ o
    have hfz := fun o => rZ.free o
    have lA := rA.lt
    have lZ := rZ.lt
    have RA := Lib.hid rA
    have RZ := Lib.hid rZ
    have BL := Lib.hid bl
    clear rA rZ bl
    have HE := Lib.hid (hr.trans (he hd))
    rw [hd] at hq
    clear he hr hd
    generalize sgn y = s at *
    have HC : Hid (∀ w', Below W0.heap.size W0 w' → (∀ o, w'.cell? ⟨w.heap.size, o, none⟩ = (#[.int .u64 x0, .int .u64 x1, .int .u64 x2, .int .u64 x3, .int .u64 x4, .int .u64 x5] : Array Value)[o]?) ∧ (∀ o, w'.cell? ⟨w.heap.size + 1, o, none⟩ = (#[Value.int .u64 0, Value.int .u64 0, Value.int .u64 0, Value.int .u64 0, Value.int .u64 0, Value.int .u64 0] : Array Value)[o]?) ∧ (∀ o, w'.frozen? ⟨w.heap.size + 1, o, none⟩ = false) ∧ w.heap.size < w'.heap.size ∧ w.heap.size + 1 < w'.heap.size) :=
      fun w' h => ⟨fun o => K.row_cell (RA.out.below h lA) o, fun o => K.row_cell (RZ.out.below h lZ) o, fun o => (RZ.out.below h lZ).free o, Nat.lt_of_lt_of_le lA h.size, Nat.lt_of_lt_of_le lZ h.size⟩
    have q0 : Below W0.heap.size W0 W0.drew := (Below.refl _ _).drew
    have Q := Lib.hid q0
    clear q0
    go_region_with (first
      | (go_at_call 77; (refine (HS.out _).mono ?_); rintro e wA ⟨rfl, kA⟩; have Q := Lib.hid (Q.out.trans (kA.mono Q.out.size)); obtain ⟨hxa, hxz, hfz, lA, lZ⟩ := HC.out _ Q.out))
    all_goals
      have BW := Lib.hid (BL.out.trans (Q.out.mono BL.out.size))
      have ZW := Lib.hid (RZ.out.below Q.out RZ.out.lt)
      have ZR := Lib.hid (row_set6 (x0 := .int .u64 x0) (x1 := .int .u64 x1) (x2 := .int .u64 x2) (x3 := .int .u64 x3) (x4 := .int .u64 x4) (x5 := .int .u64 x5) ZW.out rfl)
      have ZB := Lib.hid (below_set6 (b := w.heap.size + 1) (x0 := .int .u64 x0) (x1 := .int .u64 x1) (x2 := .int .u64 x2) (x3 := .int .u64 x3) (x4 := .int .u64 x4) (x5 := .int .u64 x5) BW.out (by omega))
      clear hxa hxz hfz
      go_wp2_with fail
      refine bodyPost_ret (v := .tuple #[.agg #[.int .u64 x0, .int .u64 x1, .int .u64 x2, .int .u64 x3, .int .u64 x4, .int .u64 x5], .bool r]) (results_with Tryd.results42 _ _ (w.heap.size + 1) 26 _ _ rfl _ (congrArg Value.bool ((show (!decide (s < 0)) = (decide (s < 0) == false) by cases decide (s < 0) <;> rfl).trans HE.out.symm)) ZR.out Tryd.underlying26 rfl (by kernel_rfl)) rfl ⟨rfl, ZB.out⟩
  · rw [hx] at hq HS ⊢
    have HX := Lib.hid (show wv (-z) = #[.int .u64 x0, .int .u64 x1, .int .u64 x2, .int .u64 x3, .int .u64 x4, .int .u64 x5] from (show wv (-z) = wv y from HY.out).trans hx)
    have HA := Lib.hid ((Row.new w 26 (wv z)).alloc (.cells (cv [0, 0, 0, 0, 0, 0]) 26))
    have HZ := Lib.hid (Row.at (Row.new (w.alloc (.cells (wv z) 26)) 26 (cv [0, 0, 0, 0, 0, 0])) (b' := w.heap.size + 1) (by simp))
    have HB := Lib.hid (((Below.refl w.heap.size w).alloc (Nat.le_refl _) (.cells (wv z) 26)).alloc (by simp) (.cells (cv [0, 0, 0, 0, 0, 0]) 26))
    clear hx HY
    go_enter Tryd.func42, Tryd.ntmps42
    go_wp2_with (refine wpList_load_row rfl 26 _ rfl (w.heap.size) rfl 26 _ (0, 0) _ HA.out Tryd.underlying26 rfl (by kernel_rfl) ?_)
    refine (neg z _).mono ?_
    rintro e w2 ⟨rfl, k2⟩
    have A2 := Lib.hid (HA.out.below k2 HA.out.lt)
    have Z2 := Lib.hid (HZ.out.below k2 HZ.out.lt)
    have B2 := Lib.hid (HB.out.trans (k2.mono HB.out.size))
    clear k2
    go_wp2_with (refine wpList_store_row rfl 26 _ _ rfl (w.heap.size) _ rfl rfl 26 _ A2.out ?_ ?_ ?_ ?_; kernel_rfl; (first | (rw [wv_size, wv_size]) | kernel_rfl); (first | exact cv_one _ | kernel_rfl))
    obtain ⟨W0, hW0⟩ : ∃ W0, W0 = w2.setRow w.heap.size (wv (-z)) := ⟨_, rfl⟩
    have rA : Row W0 w.heap.size 26 #[.int .u64 x0, .int .u64 x1, .int .u64 x2, .int .u64 x3, .int .u64 x4, .int .u64 x5] := by rw [hW0, ← HX.out]; exact A2.out.put _
    have rZ : Row W0 (w.heap.size + 1) 26 #[Value.int .u64 0, Value.int .u64 0, Value.int .u64 0, Value.int .u64 0, Value.int .u64 0, Value.int .u64 0] := by rw [hW0]; exact Z2.out.put_other (by omega) _
    have bl : Below w.heap.size w W0 := by rw [hW0]; exact Row.put_below B2.out A2.out (Nat.le_refl _) _
    rw [← hW0]
    clear hW0 HX A2 Z2 B2 HA HZ HB
    generalize wv (-z) = v8
    generalize wv z = v7
    replace he := he true
    have hxa := fun o => K.row_cell rA o
    have hxz := fun o => K.row_cell rZ o
    have hfz := fun o => rZ.free o
    have lA := rA.lt
    have lZ := rZ.lt
    have RA := Lib.hid rA
    have RZ := Lib.hid rZ
    have BL := Lib.hid bl
    clear rA rZ bl
    have HE := Lib.hid (hr.trans (he hd))
    rw [hd] at hq
    clear he hr hd
    generalize sgn y = s at *
    have HC : Hid (∀ w', Below W0.heap.size W0 w' → (∀ o, w'.cell? ⟨w.heap.size, o, none⟩ = (#[.int .u64 x0, .int .u64 x1, .int .u64 x2, .int .u64 x3, .int .u64 x4, .int .u64 x5] : Array Value)[o]?) ∧ (∀ o, w'.cell? ⟨w.heap.size + 1, o, none⟩ = (#[Value.int .u64 0, Value.int .u64 0, Value.int .u64 0, Value.int .u64 0, Value.int .u64 0, Value.int .u64 0] : Array Value)[o]?) ∧ (∀ o, w'.frozen? ⟨w.heap.size + 1, o, none⟩ = false) ∧ w.heap.size < w'.heap.size ∧ w.heap.size + 1 < w'.heap.size) :=
      fun w' h => ⟨fun o => K.row_cell (RA.out.below h lA) o, fun o => K.row_cell (RZ.out.below h lZ) o, fun o => (RZ.out.below h lZ).free o, Nat.lt_of_lt_of_le lA h.size, Nat.lt_of_lt_of_le lZ h.size⟩
    have q0 : Below W0.heap.size W0 W0.drew := (Below.refl _ _).drew
    have Q := Lib.hid q0
    clear q0
    go_region_with (first
      | (go_at_call 77; (refine (HS.out _).mono ?_); rintro e wA ⟨rfl, kA⟩; have Q := Lib.hid (Q.out.trans (kA.mono Q.out.size)); obtain ⟨hxa, hxz, hfz, lA, lZ⟩ := HC.out _ Q.out))
    all_goals
      have BW := Lib.hid (BL.out.trans (Q.out.mono BL.out.size))
      have ZW := Lib.hid (RZ.out.below Q.out RZ.out.lt)
      have ZR := Lib.hid (row_set6 (x0 := .int .u64 x0) (x1 := .int .u64 x1) (x2 := .int .u64 x2) (x3 := .int .u64 x3) (x4 := .int .u64 x4) (x5 := .int .u64 x5) ZW.out rfl)
      have ZB := Lib.hid (below_set6 (b := w.heap.size + 1) (x0 := .int .u64 x0) (x1 := .int .u64 x1) (x2 := .int .u64 x2) (x3 := .int .u64 x3) (x4 := .int .u64 x4) (x5 := .int .u64 x5) BW.out (by omega))
      clear hxa hxz hfz
      go_wp2_with fail
      refine bodyPost_ret (v := .tuple #[.agg #[.int .u64 x0, .int .u64 x1, .int .u64 x2, .int .u64 x3, .int .u64 x4, .int .u64 x5], .bool r]) (results_with Tryd.results42 _ _ (w.heap.size + 1) 26 _ _ rfl _ (congrArg Value.bool ((show decide (s < 0) = (decide (s < 0) == true) by cases decide (s < 0) <;> rfl).trans HE.out.symm)) ZR.out Tryd.underlying26 rfl (by kernel_rfl)) rfl ⟨rfl, ZB.out⟩
end Go.Proofs.YtbbldcbilnkkdaaDoor.Reck
