/-
  TallyRounds: every sum, by every mode, and by every number, is rounded as the document says. No condition.
-/
import Derived.Test.YtbbldcbilnkkdaaDoorModes
import Derived.Test.YtbbldcbilnkkdaaDoorOverR
set_option linter.unusedVariables false
set_option linter.unusedSimpArgs false
namespace Go.Proofs.YtbbldcbilnkkdaaDoor.tallyRounds
open Go.ChangeShapes Go.WideShapes Go.ChangeAt Go.RowKit
open Num Tly Ref K Reck

theorem num (x : Int) (w : World) : Calls Tryd.prog 17 #[.int .i64 x] w fun e w' => e = .returned (.int .i64 x) ∧ w = w' := by
  go_enter Tryd.func17, Tryd.ntmps17
  go_wp2
  go_ret
  exact ⟨rfl, rfl⟩
theorem overR_bound (z n mode : Int) (n0 : 0 ≤ n) : 0 ≤ (overR z n mode).1 ∧ (overR z n mode).1 < 4294967296 := by
  unfold overR
  split
  · simp
  · split
    · simp
    · exact packR_bound _ _ _ _ (Int.ediv_nonneg (by unfold mag; split <;> omega) n0)
set_option maxRecDepth 100000 in
set_option maxHeartbeats 4000000 in
theorem walk (z n mode : Int) (h0 : -half ≤ z) (h1 : z < half) (n0 : 0 ≤ n) (n1 : n < 18446744073709551616) (w : World) (hM : Modes w) :
    Calls Tryd.prog 4 #[.agg (wv z), .int .u64 n, .int .i64 mode] w fun e w' => e = .returned (.bool true) ∧ Below w.heap.size w w' := by
  have HA := Lib.hid (Row.new w 24 (wv z))
  have hb0 := (Below.refl w.heap.size w).alloc (Nat.le_refl _) (.cells (wv z) 24)
  have HB := Lib.hid hb0
  have HM := Lib.hid (hM.below hb0 hM.1)
  have c1 := fun W h => round z mode h0 h1 W h
  have c2 := fun W => Round z mode h0 h1 W
  have c3 := fun W h => over z n mode h0 h1 n0 n1 W h
  have c4 := fun W => Over z n mode h0 h1 n0 n1 W
  have b1 := overR_bound z 1 mode (by omega)
  have b2 := overR_bound z n mode n0
  obtain ⟨X, hX⟩ : ∃ X, X = overR z 1 mode := ⟨_, rfl⟩
  obtain ⟨Y, hY⟩ : ∃ Y, Y = overR z n mode := ⟨_, rfl⟩
  rw [← hX] at c1 c2 b1
  rw [← hY] at c3 c4 b2
  obtain ⟨x, ex⟩ := X
  obtain ⟨y, ey⟩ := Y
  have e1 : ((x.toNat : Nat) : Int) = x := by have := b1.1; simp only at this; omega
  have e2 : ((y.toNat : Nat) : Int) = y := by have := b2.1; simp only at this; omega
  have C1 := Lib.hid c1
  have C2 := Lib.hid c2
  have C3 := Lib.hid c3
  have C4 := Lib.hid c4
  have G1 := Lib.hid (grainBits x.toNat)
  have G2 := Lib.hid (grainBits y.toNat)
  rw [e1] at G1
  rw [e2] at G2
  clear c1 c2 c3 c4 hX hY b1 b2 hM hb0 h0 h1 n0 n1 e1 e2
  go_enter Tryd.func4, Tryd.ntmps4
  go_wp2_with (refine wpList_load_row rfl 24 _ rfl (w.heap.size) rfl 24 _ (0, 0) _ HA.out Tryd.underlying24 rfl (by kernel_rfl) ?_)
  refine (C1.out _ HM.out).mono ?_
  rintro e w1 ⟨rfl, k1⟩
  have A1 := Lib.hid (HA.out.below k1 HA.out.lt)
  have B1 := Lib.hid (HB.out.trans (k1.mono HB.out.size))
  have M1 := Lib.hid (HM.out.below k1 HM.out.1)
  clear k1 HA HB HM
  go_wp2_with (refine wpList_load_row rfl 24 _ rfl (w.heap.size) rfl 24 _ (0, 0) _ A1.out Tryd.underlying24 rfl (by kernel_rfl) ?_)
  refine (C2.out _).mono ?_
  rintro e w2 ⟨rfl, k2⟩
  have A2 := Lib.hid (A1.out.below k2 A1.out.lt)
  have B2 := Lib.hid (B1.out.trans (k2.mono B1.out.size))
  have M2 := Lib.hid (M1.out.below k2 M1.out.1)
  clear k2 A1 B1 M1
  go_wp2_with (first | (refine wpList_load_row rfl 24 _ rfl (w.heap.size) rfl 24 _ (0, 0) _ A2.out Tryd.underlying24 rfl (by kernel_rfl) ?_) | (go_at_call 17; refine (num _ _).mono ?_; rintro e w' ⟨rfl, rfl⟩) | (go_at_call 23; refine (G1.out _).mono ?_; rintro e w' ⟨rfl, rfl⟩))
  refine (C3.out _ M2.out).mono ?_
  rintro e w3 ⟨rfl, k3⟩
  have A3 := Lib.hid (A2.out.below k3 A2.out.lt)
  have B3 := Lib.hid (B2.out.trans (k3.mono B2.out.size))
  clear k3 A2 B2 M2
  go_wp2_with (refine wpList_load_row rfl 24 _ rfl (w.heap.size) rfl 24 _ (0, 0) _ A3.out Tryd.underlying24 rfl (by kernel_rfl) ?_)
  refine (C4.out _).mono ?_
  rintro e w4 ⟨rfl, k4⟩
  have B4 := Lib.hid (B3.out.trans (k4.mono B3.out.size))
  clear k4 A3 B3
  go_wp2_with (first | (go_at_call 17; refine (num _ _).mono ?_; rintro e w' ⟨rfl, rfl⟩) | (go_at_call 23; refine (G2.out _).mono ?_; rintro e w' ⟨rfl, rfl⟩))
  go_ret
  exact ⟨rfl, B4.out⟩
def laid1 {H : Type} : List (String × DataW H) := [("sluice/tally.modes", Rows.laid_sluice_tally_modes)]
def laidKinds1 : List LaidKind := [.data]
theorem own : ownKnob Tryd.prog.godebug = none := by kernel_rfl
theorem door_met (os : Os) (args : Array Value) : laidMetH Tryd.prog laid1 ((World.doorLaid Tryd.prog 400 os).forCall (fun _ _ => 0) ⟨#[], args, []⟩).memory :=
  laidMetH_of_parts3 (fuel := 8) (laidMet_of_run' 8 (by kernel_rfl) (by kernel_rfl)) (by kernel_rfl) (by kernel_rfl)
set_option maxRecDepth 100000 in
theorem lifted (os : Os) (started : os.Started) (H : Type) (enc : TypeId × Value → H) :
    ReturnsInHanded {} Tryd.checked os 4 .any (fun w args => (Rows.tallyRoundsSpec.pre enc Tryd.prog Tryd.f4 [] false w args ∧ laidMetH Tryd.prog laid1 w) ∧ sizedMet enc Tryd.prog Tryd.f4 (OpenSpec.ofChange Rows.tallyRoundsSpec) false w args)
      (Rows.tallyRoundsSpec.post enc Tryd.prog Tryd.f4 false true false false) := by
  refine returnsInHanded_of_change_and (C := Tryd.checked) (X := fun w _ => laidMetH Tryd.prog laid1 w) (fun _ _ _ hh h => h.of_heap hh) own started (by kernel_rfl) Tryd.func4
    (ChangeSpec.witness_shaped (enc := enc) (C := Tryd.checked) (os := os) (X := fun w _ => laidMetH Tryd.prog laid1 w) false (World.doorLaid Tryd.prog 400 os) #[.agg #[.int .u64 0, .int .u64 0, .int .u64 0, .int .u64 0, .int .u64 0, .int .u64 0], .int .u64 0, .int .i64 0] 8 rfl (World.shaped_of_RefB (by kernel_rfl) (by kernel_rfl)) (by kernel_rfl) (by kernel_rfl) (by kernel_rfl) (door_met os _)) ?_
  intro W base args ds gs before hval0 hW hcnd hsz0 hL _
  have hsz := hsz0
  have hval : ∀ (j : Nat) t v, Tryd.f4.params[j]? = some t → args[j]? = some v → Value.okWide Tryd.prog W .any base t v := hval0
  have hW' := hW
  obtain ⟨p, q, hA0, hV, rfl, hfz, hnd⟩ := hW
  have hA : DataW.TrodAll enc Tryd.prog W 0 (fun _ => true) true Tryd.f4.params.toList args.toList ds p := hA0
  rw [Tryd.params4] at hA hval
  obtain ⟨v0, vs0, d0, ds0, p0, q0, hargs, rfl, rfl, h0, r0⟩ := trodAll_cons hA
  obtain ⟨v1, vs1, d1, ds1, p1, q1, rfl, rfl, rfl, h1, r1⟩ := trodAll_cons r0
  obtain ⟨v2, vs2, d2, ds2, p2, q2, rfl, rfl, rfl, h2, r2⟩ := trodAll_cons r1
  obtain ⟨rfl, rfl, rfl⟩ := trodAll_nil r2
  obtain rfl : args = #[v0, v1, v2] := by cases args; simp_all
  obtain ⟨rfl, rfl⟩ := trodVars_none hV
  have k0 := h0
  obtain ⟨z0, l0, rfl, w0, rfl⟩ := K.open_array Tryd.underlying24 Tryd.underlying22 (by kernel_rfl) (by kernel_rfl) (hval 0 24 v0 rfl rfl) h0
  obtain ⟨a1, rfl, rfl, rfl, w1⟩ := open_int Tryd.underlying22 (hval 1 22 v1 rfl rfl) h1
  obtain ⟨a2, rfl, rfl, rfl, w2⟩ := open_int Tryd.underlying3 (hval 2 3 v2 rfl rfl) h2
  obtain ⟨y0, rfl, a0', b0'⟩ := words_are z0 l0 (fun z hz => bounds_u64 (w0 z hz))
  refine (walk y0 _ _ a0' b0' (by have := bounds_u64 w1; omega) (by have := bounds_u64 w1; omega) W (Laid.modes_of hL)).mono fun e W' ⟨he, bel⟩ => ?_
  subst he
  exact ⟨_, rfl, _, _, _, [], _, [], hW', trodAll_mk1 (shut_bool Tryd.underlying4 _), (trodAll_cons_mk (Below.trod (by kernel_rfl) (by kernel_rfl) (of_decide_eq_true (by kernel_rfl)) k0 bel (fun x hx => by cases hx)) (trodAll_cons_mk (shut_int Tryd.underlying22 w1) (trodAll_cons_mk (shut_int Tryd.underlying3 w2) trodAll_mk0))), rfl, bel.frame _, fun h => by cases h⟩
theorem over : Rows.TallyRoundsSaid :=
  OpenClaim.holds_of_wide 4 Tryd.f4 rfl rfl rfl rfl rfl rfl rfl ⟨rfl, rfl, rfl, rfl, rfl⟩ rfl rfl rfl rfl rfl (by kernel_rfl) Tryd.func4 (by kernel_rfl)
    (of_decide_eq_true (by kernel_rfl)) (by unfold Func.isWrapper; first | (rw [if_pos (by decide +kernel)]; kernel_rfl) | (rw [if_neg (by decide +kernel)]; exact ⟨rfl, rfl⟩))
    (fun os started H enc _ => lifted os started H enc)
/-- The tied card. -/
theorem proved : Rows.TallyRoundsCardSaid :=
  Claim7.holds_tied_plain_at .later [] laidKinds1 true Rows.tallyRoundsCard.stood.harness false
    over (fun _ h => by cases h) (by kernel_rfl) (fun _ h => by cases h) tallyRounds_row_tie rfl ⟨rfl, rfl⟩ (by kernel_rfl) rfl
    (fun f fn hf hfn => by
      obtain rfl : f = 4 := Option.some.inj ((show Tryd.prog.funcNamed "sluice/sluicelaw02.TallyRounds" = some 4 by kernel_rfl).symm.trans hf) |>.symm
      obtain rfl : fn = Tryd.f4 := (Option.some.inj (Tryd.func4.symm.trans hfn)).symm
      exact ⟨by kernel_rfl, fun j t ht => by
        rw [Tryd.params4] at ht
        have hm : t ∈ [24, 22, 3] := by simpa using Array.mem_of_getElem? ht
        have hall : ([24, 22, 3].all fun u => !Tryd.prog.wantsStandIn u) = true := by kernel_rfl
        exact (show Tryd.prog.wantsStandIn t = false by simpa using List.all_eq_true.1 hall t hm)⟩)
    (by kernel_rfl)
#print axioms proved
end Go.Proofs.YtbbldcbilnkkdaaDoor.tallyRounds
