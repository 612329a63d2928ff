/-
  TallyShare: the n-th part of a sum, rounded down and rounded up, held by multiplying back; and for n = 1 it is what Round gives. No condition.
-/
import Derived.Test.YtbbldcbilnkkdaaDoorModes
import Derived.Test.YtbbldcbilnkkdaaDoorAwake
import Derived.Test.YtbbldcbilnkkdaaDoorEnds
import Derived.Deep.DeepCutAuto
set_option linter.unusedVariables false
set_option linter.unusedSimpArgs false
namespace Go.Proofs.YtbbldcbilnkkdaaDoor.tallyShare
open Go.ChangeShapes Go.WideShapes Go.ChangeAt Go.RowKit
open Num Tly Ref K Reck Mono

set_option maxRecDepth 100000 in
set_option maxHeartbeats 4000000 in
theorem walk (a n : Int) (x0 : -half ≤ a) (x1 : a < half) (n0 : 0 ≤ n) (n1 : n < 18446744073709551616) (w : World) (hM : Modes w) :
    Calls Tryd.prog 7 #[.agg (wv a), .int .u64 n] w fun e w' => e = .returned (.bool true) ∧ Below w.heap.size w w' := by
  obtain ⟨k, hkk⟩ : ∃ k, 1 + n % 1099511627776 = k := ⟨_, rfl⟩
  have hk : 0 < k ∧ k ≤ 1099511627776 := by omega
  have HKK := Lib.hid hkk
  have he2 := err_is a k 2 hk.1 (by decide) (by decide)
  have he3 := err_is a k 3 hk.1 (by decide) (by decide)
  have hen := ends a k hk.1 hk.2
  have cL := fun W h => over a k 2 x0 x1 (by omega) (by omega) W h
  have cH := fun W h => over a k 3 x0 x1 (by omega) (by omega) W h
  have cO := fun W h => over a 1 0 x0 x1 (by omega) (by omega) W h
  have cS := fun W h => round a 0 x0 x1 W h
  have cC := fun s h g W => compare s a h g x0 x1 W
  have cT := fun s W => times s k (by omega) (by omega) W
  have hwi : IntKind.i64.wrap k = k := (IntWalk.i64_left _).trans (IntWalk.wrap64_in _ (by omega))
  have cBO := fun W => grainBits (overR a 1 0).1.toNat W
  obtain ⟨⟨X, EX⟩, hX⟩ : ∃ X, X = overR a 1 0 := ⟨_, rfl⟩
  rw [← hX] at cO cS cBO
  obtain ⟨a0, a1, a2, a3, a4, a5, ha⟩ := lit6 a
  rw [ha] at cL cH cO cS cC ⊢
  have HM := Lib.hid hM
  have HB3 := Lib.hid hM.1
  have CL := Lib.hid cL
  have CH := Lib.hid cH
  have CO := Lib.hid cO
  have CS := Lib.hid cS
  have CC := Lib.hid cC
  have CT := Lib.hid cT
  have CBO := Lib.hid cBO
  have HE2 := Lib.hid he2
  have HE3 := Lib.hid he3
  have HEN := Lib.hid hen
  have HWI := Lib.hid hwi
  clear ha cL cH cO cS cC cT cBO he2 he3 hen hX hM hwi x0 x1 hk hkk
  go_enter Tryd.func7, Tryd.ntmps7
  go_wp2_with fail
  obtain ⟨W0, hW0⟩ : ∃ W0, W0 = ((w.alloc (.cells #[Value.int .u64 a0, Value.int .u64 a1, Value.int .u64 a2, Value.int .u64 a3, Value.int .u64 a4, Value.int .u64 a5] 24)).alloc (.cells #[Value.int .u64 a0, Value.int .u64 a1, Value.int .u64 a2, Value.int .u64 a3, Value.int .u64 a4, Value.int .u64 a5] 26)) := ⟨_, rfl⟩
  have r5 : Row W0 (w.heap.size + 1) 26 #[Value.int .u64 a0, Value.int .u64 a1, Value.int .u64 a2, Value.int .u64 a3, Value.int .u64 a4, Value.int .u64 a5] := by rw [hW0]; exact Row.at (Row.new (w.alloc _) _ _) (by simp)
  have bl : Below w.heap.size w W0 := by rw [hW0]; exact ((Below.refl _ _).alloc (Nat.le_refl _) _).alloc (by simp) _
  rw [← hW0, HKK.out]
  clear hW0
  have A0 := Lib.hid r5
  have L0 := Lib.hid bl
  clear r5 bl
  have hlo : Hid ((overR a k 2).2 = 0 ∧ (overR a k 3).2 = 0 ∨ ¬ ((overR a k 2).2 = 0 ∧ (overR a k 3).2 = 0)) := Lib.hid (Classical.em _)
  refine (CL.out _ (HM.out.below L0.out HB3.out)).mono ?_
  rintro e w1 ⟨rfl, k1⟩
  have A1 := Lib.hid (A0.out.below k1 A0.out.lt)
  have L1 := Lib.hid (L0.out.trans (k1.mono L0.out.size))
  clear k1 A0 L0
  go_wp2_with (refine wpList_load_row rfl 26 _ rfl (w.heap.size + 1) rfl 26 _ (0, 0) _ A1.out Tryd.underlying26 rfl (by kernel_rfl) ?_)
  try rw [HKK.out]
  refine (CH.out _ (HM.out.below L1.out HB3.out)).mono ?_
  rintro e w2 ⟨rfl, k2⟩
  have A2 := Lib.hid (A1.out.below k2 A1.out.lt)
  have L2 := Lib.hid (L1.out.trans (k2.mono L1.out.size))
  clear k2 A1 L1
  go_wp2_with (refine wpList_load_row rfl 26 _ rfl (w.heap.size + 1) rfl 26 _ (0, 0) _ A2.out Tryd.underlying26 rfl (by kernel_rfl) ?_)
  refine (CO.out _ (HM.out.below L2.out HB3.out)).mono ?_
  rintro e w3 ⟨rfl, k3⟩
  have A3 := Lib.hid (A2.out.below k3 A2.out.lt)
  have L3 := Lib.hid (L2.out.trans (k3.mono L2.out.size))
  clear k3 A2 L2
  go_wp2_with (refine wpList_load_row rfl 26 _ rfl (w.heap.size + 1) rfl 26 _ (0, 0) _ A3.out Tryd.underlying26 rfl (by kernel_rfl) ?_)
  refine (CS.out _ (HM.out.below L3.out HB3.out)).mono ?_
  rintro e w4 ⟨rfl, k4⟩
  have A4 := Lib.hid (A3.out.below k4 A3.out.lt)
  have L4 := Lib.hid (L3.out.trans (k4.mono L3.out.size))
  clear k4 A3 L3
  go_wp2_with fail
  refine (awake _ (HM.out.below L4.out HB3.out)).mono ?_
  rintro e w5 ⟨rfl, k5⟩
  have A5 := Lib.hid (A4.out.below k5 A4.out.lt)
  have L5 := Lib.hid (L4.out.trans (k5.mono L4.out.size))
  clear k5 A4 L4
  go_upto_region 9 with (go_at_call 23; refine (CBO.out _).mono ?_; rintro e w' ⟨rfl, rfl⟩)
  clear CBO CO CS
  by_cases hlo : (overR a k 2).2 = 0 ∧ (overR a k 3).2 = 0
  case neg =>
    have hcase : (∃ Y, overR a k 2 = (Y, 20) ∧ ∃ Z E, overR a k 3 = (Z, E) ∧ (E = 0 ∨ E = 20)) ∨ (∃ Y, overR a k 2 = (Y, 0) ∧ ∃ Z, overR a k 3 = (Z, 20)) := by
      rcases h2 : overR a k 2 with ⟨p2, q2⟩
      rcases h3 : overR a k 3 with ⟨p3, q3⟩
      have g2 := HE2.out
      have g3 := HE3.out
      rw [h2, h3] at hlo
      rw [h2] at g2
      rw [h3] at g3
      simp only at hlo g2 g3
      rcases g2 with rfl | rfl
      · right
        rcases g3 with rfl | rfl
        · exact absurd ⟨rfl, rfl⟩ hlo
        · exact ⟨_, rfl, _, rfl⟩
      · left
        exact ⟨_, rfl, _, _, rfl, g3⟩
    clear hlo HE2 HE3 HEN CL CH CC CT HWI
    rcases hcase with ⟨Y2, e2, Y3, E3, e3, rfl | rfl⟩ | ⟨Y2, e2, Y3, e3⟩
    all_goals
      rw [e2, e3]
      clear e2 e3
      go_wp2_with (go_at_call 17; refine (num _ _).mono ?_; rintro e w' ⟨rfl, rfl⟩)
      go_ret
      exact ⟨rfl, L5.out⟩
  case pos =>
    obtain ⟨L, H, E, Z, e2, e3, -, -, hends⟩ := HEN.out hlo.1 hlo.2
    rw [e2, e3]
    have ccl := CC.out (flt L * k) hends.lf.1 hends.lf.2
    have cch := CC.out (flt H * k) hends.hf.1 hends.hf.2
    have ctl := fun W => CT.out (flt L) W
    have cth := fun W => CT.out (flt H) W
    have col := fun W => ofOne L hends.l.1 hends.l.2.1 hends.l.2.2 W
    have coh := fun W => ofOne H hends.h.1 hends.h.2.1 hends.h.2.2 W
    have l0 := hends.l.1
    have cbl := fun W => grainBits L.toNat W
    rw [show ((L.toNat : Nat) : Int) = L by omega] at cbl
    have crk := fun W => rank L hends.l.1 hends.l.2.1 W
    have cor := fun W => ofRank (rk L + 1) hends.r.1 hends.r.2 W
    have hrw : IntKind.i64.wrap (rk L + 1) = rk L + 1 := (IntWalk.i64_left _).trans (IntWalk.wrap64_in _ (by have := hends.r; omega))
    have hrb := hends.r
    have hll := hends.ll
    have hhh := hends.hh
    have hlz := hends.lz
    obtain ⟨FL, hFL⟩ : ∃ FL, FL = flt L := ⟨_, rfl⟩
    obtain ⟨FH, hFH⟩ : ∃ FH, FH = flt H := ⟨_, rfl⟩
    obtain ⟨R, hR⟩ : ∃ R, R = rk L := ⟨_, rfl⟩
    obtain ⟨N, hN⟩ : ∃ N, N = ofr (rk L + 1) := ⟨_, rfl⟩
    obtain ⟨S1, hS1⟩ : ∃ S1, S1 = sgn (flt L * k - a) := ⟨_, rfl⟩
    obtain ⟨S2, hS2⟩ : ∃ S2, S2 = sgn (flt H * k - a) := ⟨_, rfl⟩
    have hcs : (S1 = 0 ∧ S2 = 0 ∧ H = L) ∨ (S1 = -1 ∧ S2 = 1 ∧ N = H ∧ (FloatKind.f32.format.order L.toNat H.toNat == some .eq) = false ∧ (FL = 0 → H = 1)) := by
      rcases hends.cases with ⟨c1, c2, c3, c4⟩ | ⟨c1, c2, c3, c4, c5, c6, c0, c7, c8⟩
      · left
        refine ⟨?_, ?_, c2⟩
        · rw [hS1, show flt L * k - a = 0 by omega]; rfl
        · rw [hS2, c2, show flt L * k - a = 0 by omega]; rfl
      · right
        refine ⟨?_, ?_, hN.trans c6, c3, fun h => c0 (hFL ▸ h)⟩
        · rw [hS1]; exact sgn_neg (by omega)
        · rw [hS2]; exact sgn_pos (by omega)
    rw [← hS1] at ccl
    rw [← hS2] at cch
    rw [← hFL] at ccl ctl col hlz
    rw [← hFH] at cch cth coh
    rw [← hN] at cor
    rw [← hR] at cor crk hrw hrb
    have CCL := Lib.hid ccl
    have CCH := Lib.hid cch
    have CTL := Lib.hid ctl
    have CTH := Lib.hid cth
    have COL := Lib.hid col
    have COH := Lib.hid coh
    have CBL := Lib.hid cbl
    have CRK := Lib.hid crk
    have COR := Lib.hid cor
    have HRW := Lib.hid hrw
    have HRB := Lib.hid hrb
    have HLL := Lib.hid hll
    have HHH := Lib.hid hhh
    have HLZ := Lib.hid hlz
    have HCS := Lib.hid hcs
    clear hends hlo e2 e3 HE2 HE3 HEN CL CH CC CT hFL hFH hR hN hS1 hS2 hcs ccl cch ctl cth col coh cbl crk cor hrw hrb hll hhh hlz l0
    have hwi := HWI.out
    clear HWI
    go_upto_region 11 with (go_at_call 17; refine (num _ _).mono ?_; rintro e w' ⟨rfl, rfl⟩)
    have HC5 : Hid (∀ w', Below w5.heap.size w5 w' → ∀ o, w'.cell? ⟨w.heap.size + 1, o, none⟩ = (#[Value.int .u64 a0, Value.int .u64 a1, Value.int .u64 a2, Value.int .u64 a3, Value.int .u64 a4, Value.int .u64 a5] : Array Value)[o]?) :=
      Lib.hid (fun w' h => fun o => row_below h A5.out.lt A5.out o)
    refine K.region_quiet (C := Below w5.heap.size w5) (by kernel_rfl) (by kernel_rfl) (K.below_draw _) ?_
    iterate 8 (first
      | ((with_reducible refine wpQuiet_step (fun KK hKK => ?_))
         first
           | ((with_reducible refine K.quiet_else ?_ (K.Puts.mk' _) ?_)
              (first | rfl | (simp [Region.wanted, yielded]; done))
              (with_reducible refine hKK _ ?_))
           | ((with_reducible refine K.quiet_if ?_ ?_)
              (first | rfl | (simp [Region.wanted, yielded]; done))
              first
                | (apply K.quiet_val
                   · intro w' hw'; have hcc := HC5.out w' hw'; go_simp; (try go_ints); exact K.Gives.mk' _ _
                   · go_simp; exact K.Puts.mk' _)
                | (apply K.quiet_call
                   · intro w' hw'; have hcc := HC5.out w' hw'; go_simp; (try go_ints); exact K.Enters.mk' _ _ _
                   · intro w' hw'; have hcc := HC5.out w' hw'; first
                     | with_reducible exact K.calls_below hw' hw'.size (COL.out _)
                     | with_reducible exact K.calls_below hw' hw'.size (CTL.out _)
                     | with_reducible exact K.calls_below hw' hw'.size (CCL.out _)
                     | exact K.calls_below hw' hw'.size (COL.out _)
                     | exact K.calls_below hw' hw'.size (CTL.out _)
                     | exact K.calls_below hw' hw'.size (CCL.out _)
                   · go_simp; exact K.Puts.mk' _)
              (with_reducible refine hKK _ ?_))
         clear hKK KK)
      | skip)
    refine wpQuiet_nil ?_
    intro w6 hb6
    have A6 := Lib.hid (A5.out.below hb6 A5.out.lt)
    have L6 := Lib.hid (L5.out.trans (hb6.mono L5.out.size))
    clear hb6 HC5 A5 L5 COL CTL CCL
    go_upto_region 12 with (fail)
    have HC6 : Hid (∀ w', Below w6.heap.size w6 w' → ∀ o, w'.cell? ⟨w.heap.size + 1, o, none⟩ = (#[Value.int .u64 a0, Value.int .u64 a1, Value.int .u64 a2, Value.int .u64 a3, Value.int .u64 a4, Value.int .u64 a5] : Array Value)[o]?) :=
      Lib.hid (fun w' h => fun o => row_below h A6.out.lt A6.out o)
    refine K.region_quiet (C := Below w6.heap.size w6) (by kernel_rfl) (by kernel_rfl) (K.below_draw _) ?_
    iterate 8 (first
      | ((with_reducible refine wpQuiet_step (fun KK hKK => ?_))
         first
           | ((with_reducible refine K.quiet_else ?_ (K.Puts.mk' _) ?_)
              (first | rfl | (simp [Region.wanted, yielded]; done))
              (with_reducible refine hKK _ ?_))
           | ((with_reducible refine K.quiet_if ?_ ?_)
              (first | rfl | (simp [Region.wanted, yielded]; done))
              first
                | (apply K.quiet_val
                   · intro w' hw'; have hcc := HC6.out w' hw'; go_simp; (try go_ints); exact K.Gives.mk' _ _
                   · go_simp; exact K.Puts.mk' _)
                | (apply K.quiet_call
                   · intro w' hw'; have hcc := HC6.out w' hw'; go_simp; (try go_ints); exact K.Enters.mk' _ _ _
                   · intro w' hw'; have hcc := HC6.out w' hw'; first
                     | with_reducible exact K.calls_below hw' hw'.size (COH.out _)
                     | with_reducible exact K.calls_below hw' hw'.size (CTH.out _)
                     | with_reducible exact K.calls_below hw' hw'.size (CCH.out _)
                     | exact K.calls_below hw' hw'.size (COH.out _)
                     | exact K.calls_below hw' hw'.size (CTH.out _)
                     | exact K.calls_below hw' hw'.size (CCH.out _)
                   · go_simp; exact K.Puts.mk' _)
              (with_reducible refine hKK _ ?_))
         clear hKK KK)
      | skip)
    refine wpQuiet_nil ?_
    intro w7 hb7
    have A7 := Lib.hid (A6.out.below hb7 A6.out.lt)
    have L7 := Lib.hid (L6.out.trans (hb7.mono L6.out.size))
    clear hb7 HC6 A6 L6 COH CTH CCH
    clear hwi
    rcases HCS.out with ⟨rfl, rfl, rfl⟩ | ⟨rfl, rfl, rfl, o1, c0⟩
    case inl =>
      have hll := HLL.out
      have CFL := Lib.hid (fun W => Ref.grainFloat H W)
      clear HCS HHH HLL
      go_wp2_with (first | (go_at_call 17; refine (num _ _).mono ?_; rintro e w' ⟨rfl, rfl⟩) | (go_at_call 23; refine (CBL.out _).mono ?_; rintro e w' ⟨rfl, rfl⟩) | (go_at_call 32; refine (CRK.out _).mono ?_; rintro e w' ⟨rfl, rfl⟩) | (go_at_call 31; refine (COR.out _).mono ?_; rintro e w' ⟨rfl, rfl⟩) | (go_at_call 20; refine (CFL.out _).mono ?_; rintro e w' ⟨rfl, rfl⟩))
      go_ret
      exact ⟨rfl, L7.out⟩
    case inr =>
      have hhh := HHH.out
      have hlz := HLZ.out
      have hrw := HRW.out
      have hrb := HRB.out
      clear HCS HHH HLL HLZ HRW HRB
      by_cases hz : FL = 0
      · rw [decide_eq_true hz] at hlz
        have hN := c0 hz
        have CFL := Lib.hid (fun W => Ref.grainFloat 1 W)
        have hx1 : (FloatKind.f32.format.order (Int.toNat 1) N.toNat == some .eq) = true := by rw [hN]; decide +kernel
        have hx2 : (FloatKind.f32.format.order 1 N.toNat == some .eq) = true := by rw [hN]; decide +kernel
        clear c0 hz hN hhh
        go_wp2_with (first | (go_at_call 17; refine (num _ _).mono ?_; rintro e w' ⟨rfl, rfl⟩) | (go_at_call 23; refine (CBL.out _).mono ?_; rintro e w' ⟨rfl, rfl⟩) | (go_at_call 32; refine (CRK.out _).mono ?_; rintro e w' ⟨rfl, rfl⟩) | (go_at_call 31; refine (COR.out _).mono ?_; rintro e w' ⟨rfl, rfl⟩) | (go_at_call 20; refine (CFL.out _).mono ?_; rintro e w' ⟨rfl, rfl⟩))
        go_ret
        exact ⟨rfl, L7.out⟩
      · rw [decide_eq_false hz] at hlz
        have CFL := Lib.hid (fun W => Ref.grainFloat N W)
        clear c0 hz
        go_wp2_with (first | (go_at_call 17; refine (num _ _).mono ?_; rintro e w' ⟨rfl, rfl⟩) | (go_at_call 23; refine (CBL.out _).mono ?_; rintro e w' ⟨rfl, rfl⟩) | (go_at_call 32; refine (CRK.out _).mono ?_; rintro e w' ⟨rfl, rfl⟩) | (go_at_call 31; refine (COR.out _).mono ?_; rintro e w' ⟨rfl, rfl⟩) | (go_at_call 20; refine (CFL.out _).mono ?_; rintro e w' ⟨rfl, rfl⟩))
        go_ret
        exact ⟨rfl, L7.out⟩
def laid1 {H : Type} : List (String × DataW H) := [("sluice/tally.modes", Rows.laid_sluice_tally_modes)]
def laidKinds1 : List LaidKind := [.data]
theorem own : ownKnob Tryd.prog.godebug = none := by kernel_rfl
theorem door_met (os : Os) (args : Array Value) : laidMetH Tryd.prog laid1 ((World.doorLaid Tryd.prog 400 os).forCall (fun _ _ => 0) ⟨#[], args, []⟩).memory :=
  laidMetH_of_parts3 (fuel := 8) (laidMet_of_run' 8 (by kernel_rfl) (by kernel_rfl)) (by kernel_rfl) (by kernel_rfl)
set_option maxRecDepth 100000 in
theorem lifted (os : Os) (started : os.Started) (H : Type) (enc : TypeId × Value → H) :
    ReturnsInHanded {} Tryd.checked os 7 .any (fun w args => (Rows.tallyShareSpec.pre enc Tryd.prog Tryd.f7 [] false w args ∧ laidMetH Tryd.prog laid1 w) ∧ sizedMet enc Tryd.prog Tryd.f7 (OpenSpec.ofChange Rows.tallyShareSpec) false w args)
      (Rows.tallyShareSpec.post enc Tryd.prog Tryd.f7 false true false false) := by
  refine returnsInHanded_of_change_and (C := Tryd.checked) (X := fun w _ => laidMetH Tryd.prog laid1 w) (fun _ _ _ hh h => h.of_heap hh) own started (by kernel_rfl) Tryd.func7
    (ChangeSpec.witness_shaped (enc := enc) (C := Tryd.checked) (os := os) (X := fun w _ => laidMetH Tryd.prog laid1 w) false (World.doorLaid Tryd.prog 400 os) #[.agg #[.int .u64 0, .int .u64 0, .int .u64 0, .int .u64 0, .int .u64 0, .int .u64 0], .int .u64 0] 8 rfl (World.shaped_of_RefB (by kernel_rfl) (by kernel_rfl)) (by kernel_rfl) (by kernel_rfl) (by kernel_rfl) (door_met os _)) ?_
  intro W base args ds gs before hval0 hW hcnd hsz0 hL _
  have hsz : (DataW.weightsEach Tryd.prog (Tryd.f7.params.toList ++ Rows.tallyShareSpec.plain.varTypes Tryd.prog) (ds ++ gs)).all (· ≤ reachBytes) = true := hsz0
  have hval : ∀ (j : Nat) t v, Tryd.f7.params[j]? = some t → args[j]? = some v → Value.okWide Tryd.prog W .any base t v := hval0
  have hW' := hW
  obtain ⟨p, q, hA0, hV, rfl, hfz, hnd⟩ := hW
  have hA : DataW.TrodAll enc Tryd.prog W 0 (fun _ => true) true Tryd.f7.params.toList args.toList ds p := hA0
  rw [Tryd.params7] at hA hval hsz
  obtain ⟨v0, vs0, d0, ds0, p0, q0, hargs, rfl, rfl, h0, r0⟩ := trodAll_cons hA
  obtain ⟨v1, vs1, d1, ds1, p1, q1, rfl, rfl, rfl, h1, r1⟩ := trodAll_cons r0
  obtain ⟨rfl, rfl, rfl⟩ := trodAll_nil r1
  obtain rfl : args = #[v0, v1] := by cases args; simp_all
  obtain ⟨rfl, rfl⟩ := trodVars_none hV
  have k0 := h0
  obtain ⟨z0, l0, rfl, w0, rfl⟩ := K.open_array Tryd.underlying24 Tryd.underlying22 (by kernel_rfl) (by kernel_rfl) (hval 0 24 v0 rfl rfl) h0
  obtain ⟨a1, rfl, rfl, rfl, w1⟩ := open_int Tryd.underlying22 (hval 1 22 v1 rfl rfl) h1
  obtain ⟨y0, rfl, a0', b0'⟩ := words_are z0 l0 (fun z hz => bounds_u64 (w0 z hz))
  refine (walk y0 _ a0' b0' (by have := bounds_u64 w1; omega) (by have := bounds_u64 w1; omega) W (Laid.modes_of hL)).mono fun e W' ⟨he, bel⟩ => ?_
  subst he
  exact ⟨_, rfl, _, _, _, [], _, [], hW', trodAll_mk1 (shut_bool Tryd.underlying4 _), (trodAll_cons_mk (Below.trod (by kernel_rfl) (by kernel_rfl) (of_decide_eq_true (by kernel_rfl)) k0 bel (fun x hx => by cases hx)) (trodAll_cons_mk (shut_int Tryd.underlying22 w1) trodAll_mk0)), rfl, bel.frame _, fun h => by cases h⟩
theorem over : Rows.TallyShareSaid :=
  OpenClaim.holds_of_wide 7 Tryd.f7 rfl rfl rfl rfl rfl rfl rfl ⟨rfl, rfl, rfl, rfl, rfl⟩ rfl rfl rfl rfl rfl (by kernel_rfl) Tryd.func7 (by kernel_rfl)
    (of_decide_eq_true (by kernel_rfl)) (by unfold Func.isWrapper; first | (rw [if_pos (by decide +kernel)]; kernel_rfl) | (rw [if_neg (by decide +kernel)]; exact ⟨rfl, rfl⟩))
    (fun os started H enc _ => lifted os started H enc)
/-- The tied card. -/
theorem proved : Rows.TallyShareCardSaid :=
  Claim7.holds_tied_plain_at .later [] laidKinds1 true Rows.tallyShareCard.stood.harness false
    over (fun _ h => by cases h) (by kernel_rfl) (fun _ h => by cases h) tallyShare_row_tie rfl ⟨rfl, rfl⟩ (by kernel_rfl) rfl
    (fun f fn hf hfn => by
      obtain rfl : f = 7 := Option.some.inj ((show Tryd.prog.funcNamed "sluice/sluicelaw02.TallyShare" = some 7 by kernel_rfl).symm.trans hf) |>.symm
      obtain rfl : fn = Tryd.f7 := (Option.some.inj (Tryd.func7.symm.trans hfn)).symm
      exact ⟨by kernel_rfl, fun j t ht => by
        rw [Tryd.params7] at ht
        have hm : t ∈ [24, 22] := by simpa using Array.mem_of_getElem? ht
        have hall : ([24, 22].all fun u => !Tryd.prog.wantsStandIn u) = true := by kernel_rfl
        exact (show Tryd.prog.wantsStandIn t = false by simpa using List.all_eq_true.1 hall t hm)⟩)
    (by kernel_rfl)
#print axioms proved
end Go.Proofs.YtbbldcbilnkkdaaDoor.tallyShare
