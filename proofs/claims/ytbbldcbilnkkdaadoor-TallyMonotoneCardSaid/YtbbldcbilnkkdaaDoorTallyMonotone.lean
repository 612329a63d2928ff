/-
  TallyMonotone: rounding keeps the order of sums; down is below and up is above, with no float32 between; even and zero are one of the two. No condition.
-/
import Derived.Test.YtbbldcbilnkkdaaDoorModes
import Derived.Test.YtbbldcbilnkkdaaDoorAwake
import Derived.Test.YtbbldcbilnkkdaaDoorEnds
import Derived.Deep.DeepCutAuto
set_option linter.unusedVariables false
set_option linter.unusedSimpArgs false
namespace Go.Proofs.YtbbldcbilnkkdaaDoor.tallyMonotone
open Go.ChangeShapes Go.WideShapes Go.ChangeAt Go.RowKit
open Num Tly Ref K Reck Mono

/-- Behind the exchange: the two sums in order. -/
def Two (g : Nat) (w : World) (wx : World) : Prop :=
  ∃ a b : Int, -half ≤ a ∧ a < half ∧ -half ≤ b ∧ b < half ∧ a ≤ b ∧ Row wx (g + 1 + 1) 26 (wv a) ∧ Row wx (g + 1 + 1 + 1) 26 (wv b) ∧ Below g w wx
set_option maxRecDepth 100000 in
set_option maxHeartbeats 4000000 in
theorem walk (z t mode : Int) (h0 : -half ≤ z) (h1 : z < half) (g0 : -half ≤ t) (g1 : t < half) (w : World) (hM : Modes w) :
    Calls Tryd.prog 6 #[.agg (wv z), .agg (wv t), .int .i64 mode] w fun e w' => e = .returned (.bool true) ∧ Below w.heap.size w w' := by
  have cmp := fun W => compare z t h0 h1 g0 g1 W
  obtain ⟨G, hG⟩ : ∃ G, G = sgn (z - t) := ⟨_, rfl⟩
  rw [← hG] at cmp
  have HM := Lib.hid hM
  have HG := Lib.hid hG
  have HR := Lib.hid (And.intro (And.intro h0 h1) (And.intro g0 g1))
  obtain ⟨a0, a1, a2, a3, a4, a5, ha⟩ := lit6 z
  obtain ⟨b0, b1, b2, b3, b4, b5, hb⟩ := lit6 t
  have HA := Lib.hid ha
  have HB := Lib.hid hb
  rw [ha, hb] at cmp ⊢
  have HC := Lib.hid cmp
  clear hM hG ha hb h0 h1 g0 g1 cmp
  go_enter Tryd.func6, Tryd.ntmps6
  go_wp2_with fail
  refine (HC.out _).mono ?_
  rintro e w1 ⟨rfl, k1⟩
  obtain ⟨W0, hW0⟩ : ∃ W0, W0 = ((((w.alloc (.cells #[Value.int .u64 a0, Value.int .u64 a1, Value.int .u64 a2, Value.int .u64 a3, Value.int .u64 a4, Value.int .u64 a5] 24)).alloc (.cells #[Value.int .u64 b0, Value.int .u64 b1, Value.int .u64 b2, Value.int .u64 b3, Value.int .u64 b4, Value.int .u64 b5] 24)).alloc (.cells #[Value.int .u64 a0, Value.int .u64 a1, Value.int .u64 a2, Value.int .u64 a3, Value.int .u64 a4, Value.int .u64 a5] 26)).alloc (.cells #[Value.int .u64 b0, Value.int .u64 b1, Value.int .u64 b2, Value.int .u64 b3, Value.int .u64 b4, Value.int .u64 b5] 26)) := ⟨_, rfl⟩
  have r3 : Row W0 w.heap.size 24 #[Value.int .u64 a0, Value.int .u64 a1, Value.int .u64 a2, Value.int .u64 a3, Value.int .u64 a4, Value.int .u64 a5] := by rw [hW0]; exact (((Row.new w _ _).alloc _).alloc _).alloc _
  have r4 : Row W0 (w.heap.size + 1) 24 #[Value.int .u64 b0, Value.int .u64 b1, Value.int .u64 b2, Value.int .u64 b3, Value.int .u64 b4, Value.int .u64 b5] := by rw [hW0]; exact ((Row.at (Row.new (w.alloc _) _ _) (by simp)).alloc _).alloc _
  have r7 : Row W0 (w.heap.size + 1 + 1) 26 #[Value.int .u64 a0, Value.int .u64 a1, Value.int .u64 a2, Value.int .u64 a3, Value.int .u64 a4, Value.int .u64 a5] := by rw [hW0]; exact (Row.at (Row.new ((w.alloc _).alloc _) _ _) (by simp)).alloc _
  have r8 : Row W0 (w.heap.size + 1 + 1 + 1) 26 #[Value.int .u64 b0, Value.int .u64 b1, Value.int .u64 b2, Value.int .u64 b3, Value.int .u64 b4, Value.int .u64 b5] := by rw [hW0]; exact Row.at (Row.new (((w.alloc _).alloc _).alloc _) _ _) (by simp)
  have bl : Below w.heap.size w W0 := by rw [hW0]; exact ((((Below.refl _ _).alloc (Nat.le_refl _) _).alloc (by simp) _).alloc (by simp; omega) _).alloc (by simp; omega) _
  rw [← hW0] at k1
  clear hW0
  have hL := bl.trans (k1.mono bl.size)
  have R3 := Lib.hid (r3.below k1 r3.lt)
  have R4 := Lib.hid (r4.below k1 r4.lt)
  have R7 := Lib.hid (r7.below k1 r7.lt)
  have R8 := Lib.hid (r8.below k1 r8.lt)
  have HL := Lib.hid hL
  clear r3 r4 r7 r8 bl k1 hL HC
  go_upto_if 27 with (fail)
  go_cut [] (fun wx => Two w.heap.size w wx)
  case first =>
    --<<
    by_cases hzt : z ≤ t
    · have hg : ¬ (0 < G) := by
        rw [HG.out]; unfold sgn; split
        · omega
        · split <;> omega
      have HZT := Lib.hid hzt
      clear hzt
      go_wp2
      go_meet
      exact ⟨z, t, HR.out.1.1, HR.out.1.2, HR.out.2.1, HR.out.2.2, HZT.out, HA.out ▸ R7.out, HB.out ▸ R8.out, HL.out⟩
    · have hg : 0 < G := by
        rw [HG.out]; unfold sgn; rw [if_neg (by omega), if_neg (by omega)]; omega
      have HZT := Lib.hid (show t ≤ z by omega)
      clear hzt
      have S7 := Lib.hid (R7.out.put #[Value.int .u64 b0, Value.int .u64 b1, Value.int .u64 b2, Value.int .u64 b3, Value.int .u64 b4, Value.int .u64 b5])
      have S3 := Lib.hid (R3.out.put_other (b' := w.heap.size + 1 + 1) (by omega) #[Value.int .u64 b0, Value.int .u64 b1, Value.int .u64 b2, Value.int .u64 b3, Value.int .u64 b4, Value.int .u64 b5])
      have S8 := Lib.hid (R8.out.put_other (b' := w.heap.size + 1 + 1) (by omega) #[Value.int .u64 b0, Value.int .u64 b1, Value.int .u64 b2, Value.int .u64 b3, Value.int .u64 b4, Value.int .u64 b5])
      have L7 := Lib.hid (Row.put_below HL.out R7.out (by omega) #[Value.int .u64 b0, Value.int .u64 b1, Value.int .u64 b2, Value.int .u64 b3, Value.int .u64 b4, Value.int .u64 b5])
      go_wp2_with (first | (refine wpList_load_row rfl 24 _ rfl (w.heap.size + 1) rfl 24 _ (0, 0) _ R4.out Tryd.underlying24 rfl (by kernel_rfl) ?_) | (refine wpList_store_row rfl 26 _ _ rfl (w.heap.size + 1 + 1) _ rfl rfl 26 _ R7.out ?_ ?_ ?_ ?_; kernel_rfl; (first | (rw [wv_size, wv_size]) | kernel_rfl); (first | exact cv_one _ | kernel_rfl)) | (refine wpList_load_row rfl 24 _ rfl (w.heap.size) rfl 24 _ (0, 0) _ S3.out Tryd.underlying24 rfl (by kernel_rfl) ?_) | (refine wpList_store_row rfl 26 _ _ rfl (w.heap.size + 1 + 1 + 1) _ rfl rfl 26 _ S8.out ?_ ?_ ?_ ?_; kernel_rfl; (first | (rw [wv_size, wv_size]) | kernel_rfl); (first | exact cv_one _ | kernel_rfl)))
      go_meet
      exact ⟨t, z, HR.out.2.1, HR.out.2.2, HR.out.1.1, HR.out.1.2, HZT.out, HB.out ▸ (S7.out.put_other (by omega) _), HA.out ▸ (S8.out.put _), Row.put_below L7.out S8.out (by omega) _⟩
    -->>
  case rest =>
    obtain ⟨a, b, x0, x1, y0, y1, hab, ra, rb, hl⟩ := hcut
    clear HA HB HR HG R3 R4 R7 R8 HL
    rename World => wc
    have hw : 0 ≤ IntKind.u64.wrap mode := by simp [IntKind.wrap, IntKind.bits, IntKind.signed]; omega
    have hm : 0 ≤ wrap64 ((IntKind.u64.wrap mode).tmod 4) ∧ wrap64 ((IntKind.u64.wrap mode).tmod 4) < 4 := by
      generalize IntKind.u64.wrap mode = x at *
      rw [Int.tmod_eq_emod_of_nonneg hw]
      unfold wrap64
      omega
    obtain ⟨m, hmm⟩ : ∃ m, m = wrap64 ((IntKind.u64.wrap mode).tmod 4) := ⟨_, rfl⟩
    rw [← hmm] at hm
    have hng := not_gt a b m hm.1 hm.2 hab
    have heX := err_is a 1 m (by decide) hm.1 hm.2
    have heY := err_is b 1 m (by decide) hm.1 hm.2
    have he2 := err_is a 1 2 (by decide) (by decide) (by decide)
    have he3 := err_is a 1 3 (by decide) (by decide) (by decide)
    have hen := ends a 1 (by decide) (by decide)
    have cX := fun W h => round a m x0 x1 W h
    have cY := fun W h => round b m y0 y1 W h
    have cL := fun W h => round a 2 x0 x1 W h
    have cH := fun W h => round a 3 x0 x1 W h
    have cE := fun W h => round a 0 x0 x1 W h
    have cZ := fun W h => round a 1 x0 x1 W h
    have cC := fun s h g W => compare s a h g x0 x1 W
    obtain ⟨⟨X, EX⟩, hX⟩ : ∃ X, X = overR a 1 m := ⟨_, rfl⟩
    obtain ⟨⟨Y, EY⟩, hY⟩ : ∃ Y, Y = overR b 1 m := ⟨_, rfl⟩
    rw [← hX] at cX heX hng
    rw [← hY] at cY heY hng
    obtain ⟨a0', a1', a2', a3', a4', a5', ha⟩ := lit6 a
    obtain ⟨b0', b1', b2', b3', b4', b5', hb⟩ := lit6 b
    rw [ha] at cX cL cH cE cZ cC ra
    rw [hb] at cY rb
    have CX := Lib.hid cX
    have CY := Lib.hid cY
    have CL := Lib.hid cL
    have CH := Lib.hid cH
    have CE := Lib.hid cE
    have CZ := Lib.hid cZ
    have CC := Lib.hid cC
    have RA := Lib.hid ra
    have RB := Lib.hid rb
    have HL := Lib.hid hl
    have HEX := Lib.hid heX
    have HEY := Lib.hid heY
    have HE2 := Lib.hid he2
    have HE3 := Lib.hid he3
    have HNG := Lib.hid hng
    have HEN := Lib.hid hen
    have HMM := Lib.hid hmm
    have HB3 := Lib.hid HM.out.1
    clear ha hb cX cY cL cH cE cZ cC ra rb hl heX heY he2 he3 hng hen hX hY hmm hm hab x0 x1 y0 y1 hw
    go_wp2_with (refine wpList_load_row rfl 26 _ rfl (w.heap.size + 1 + 1) rfl 26 _ (0, 0) _ RA.out Tryd.underlying26 rfl (by kernel_rfl) ?_)
    rw [← HMM.out]
    refine (CX.out _ (HM.out.below HL.out HB3.out)).mono ?_
    rintro e w2 ⟨rfl, k2⟩
    have A2 := Lib.hid (RA.out.below k2 RA.out.lt)
    have B2 := Lib.hid (RB.out.below k2 RB.out.lt)
    have L2 := Lib.hid (HL.out.trans (k2.mono HL.out.size))
    clear k2 RA RB HL CX
    go_wp2_with (refine wpList_load_row rfl 26 _ rfl (w.heap.size + 1 + 1 + 1) rfl 26 _ (0, 0) _ B2.out Tryd.underlying26 rfl (by kernel_rfl) ?_)
    refine (CY.out _ (HM.out.below L2.out HB3.out)).mono ?_
    rintro e w3 ⟨rfl, k3⟩
    have A3 := Lib.hid (A2.out.below k3 A2.out.lt)
    have L3 := Lib.hid (L2.out.trans (k3.mono L2.out.size))
    clear k3 A2 B2 L2 CY
    have hAW := Lib.hid (awake w3 (HM.out.below L3.out HB3.out))
    go_upto_region 9 with (fail)
    go_cut [62] (fun q wx => q = .bool false ∧ Row wx (w.heap.size + 1 + 1) 26 #[Value.int .u64 a0', Value.int .u64 a1', Value.int .u64 a2', Value.int .u64 a3', Value.int .u64 a4', Value.int .u64 a5'] ∧ Below w.heap.size w wx)
    case first =>
      --<<
      have hcase : (EX = 20) ∨ (EX = 0 ∧ EY = 20) ∨ (EX = 0 ∧ EY = 0) := by
        have h1 : EX = 0 ∨ EX = 20 := HEX.out
        have h2 : EY = 0 ∨ EY = 20 := HEY.out
        omega
      clear HEX HEY
      rcases hcase with rfl | ⟨rfl, rfl⟩ | ⟨rfl, rfl⟩
      case inl =>
        go_wp2_with fail
        refine hAW.out.mono ?_
        rintro e w4 ⟨rfl, k4⟩
        have A4 := Lib.hid (A3.out.below k4 A3.out.lt)
        have L4 := Lib.hid (L3.out.trans (k4.mono L3.out.size))
        clear k4 A3 L3 hAW
        go_wp2_with (go_at_call 17; refine (num _ _).mono ?_; rintro e w' ⟨rfl, rfl⟩)
        go_meet
        exact ⟨rfl, A4.out, L4.out⟩
      case inr.inl =>
        go_wp2_with fail
        refine hAW.out.mono ?_
        rintro e w4 ⟨rfl, k4⟩
        have A4 := Lib.hid (A3.out.below k4 A3.out.lt)
        have L4 := Lib.hid (L3.out.trans (k4.mono L3.out.size))
        clear k4 A3 L3 hAW
        go_wp2_with (go_at_call 17; refine (num _ _).mono ?_; rintro e w' ⟨rfl, rfl⟩)
        go_meet
        exact ⟨rfl, A4.out, L4.out⟩
      case inr.inr =>
        have hord := HNG.out rfl rfl
        go_wp2_with fail
        refine hAW.out.mono ?_
        rintro e w4 ⟨rfl, k4⟩
        have A4 := Lib.hid (A3.out.below k4 A3.out.lt)
        have L4 := Lib.hid (L3.out.trans (k4.mono L3.out.size))
        clear k4 A3 L3 hAW
        go_wp2_with (go_at_call 17; refine (num _ _).mono ?_; rintro e w' ⟨rfl, rfl⟩)
        go_meet
        exact ⟨rfl, A4.out, L4.out⟩
      -->>
    case rest =>
      obtain ⟨rfl, ra, hl⟩ := hcut
      rename World => w5
      have RA := Lib.hid ra
      have HL := Lib.hid hl
      clear ra hl HEX HEY HNG A3 L3 hAW
      by_cases hlo : (overR a 1 2).2 = 0 ∧ (overR a 1 3).2 = 0
      case neg =>
        have hcase : (∃ Y, overR a 1 2 = (Y, 20) ∧ ∃ Z E, overR a 1 3 = (Z, E) ∧ (E = 0 ∨ E = 20)) ∨ (∃ Y, overR a 1 2 = (Y, 0) ∧ ∃ Z, overR a 1 3 = (Z, 20)) := by
          rcases h2 : overR a 1 2 with ⟨p2, q2⟩
          rcases h3 : overR a 1 3 with ⟨p3, q3⟩
          have g2 := HE2.out
          have g3 := HE3.out
          rw [h2, h3] at hlo
          rw [h2] at g2
          rw [h3] at g3
          simp only at hlo g2 g3
          rcases g2 with rfl | rfl
          · right
            rcases g3 with rfl | rfl
            · exact absurd ⟨rfl, rfl⟩ hlo
            · exact ⟨_, rfl, _, rfl⟩
          · left
            exact ⟨_, rfl, _, _, rfl, g3⟩
        have hcl := CL.out
        have hch := CH.out
        clear hlo HE2 HE3 HEN CL CH CE CZ CC
        rcases hcase with ⟨Y2, e2, Y3, E3, e3, rfl | rfl⟩ | ⟨Y2, e2, Y3, e3⟩
        all_goals
          rw [e2] at hcl
          rw [e3] at hch
          have CL := Lib.hid hcl
          have CH := Lib.hid hch
          clear hcl hch e2 e3
          go_wp2_with (refine wpList_load_row rfl 26 _ rfl (w.heap.size + 1 + 1) rfl 26 _ (0, 0) _ RA.out Tryd.underlying26 rfl (by kernel_rfl) ?_)
          refine (CL.out _ (HM.out.below HL.out HB3.out)).mono ?_
          rintro e w6 ⟨rfl, k6⟩
          have A6 := Lib.hid (RA.out.below k6 RA.out.lt)
          have L6 := Lib.hid (HL.out.trans (k6.mono HL.out.size))
          clear k6 RA HL CL
          go_wp2_with (refine wpList_load_row rfl 26 _ rfl (w.heap.size + 1 + 1) rfl 26 _ (0, 0) _ A6.out Tryd.underlying26 rfl (by kernel_rfl) ?_)
          refine (CH.out _ (HM.out.below L6.out HB3.out)).mono ?_
          rintro e w7 ⟨rfl, k7⟩
          have L7 := Lib.hid (L6.out.trans (k7.mono L6.out.size))
          clear k7 A6 L6 CH
          go_wp2_with (go_at_call 17; refine (num _ _).mono ?_; rintro e w' ⟨rfl, rfl⟩)
          go_ret
          exact ⟨rfl, L7.out⟩
      case pos =>
        obtain ⟨L, H, E, Z, e2, e3, e0, e1, hends⟩ := HEN.out hlo.1 hlo.2
        have hcl := CL.out
        have hch := CH.out
        have hce := CE.out
        have hcz := CZ.out
        rw [e2] at hcl
        rw [e3] at hch
        rw [e0] at hce
        rw [e1] at hcz
        have ccl := CC.out (flt L) (by have := hends.lf; rw [Int.mul_one] at this; exact this.1) (by have := hends.lf; rw [Int.mul_one] at this; exact this.2)
        have cch := CC.out (flt H) (by have := hends.hf; rw [Int.mul_one] at this; exact this.1) (by have := hends.hf; rw [Int.mul_one] at this; exact this.2)
        have col := fun W => ofOne L hends.l.1 hends.l.2.1 hends.l.2.2 W
        have coh := fun W => ofOne H hends.h.1 hends.h.2.1 hends.h.2.2 W
        have l0 := hends.l.1
        have cbl := fun W => grainBits L.toNat W
        rw [show ((L.toNat : Nat) : Int) = L by omega] at cbl
        have crk := fun W => rank L hends.l.1 hends.l.2.1 W
        have cor := fun W => ofRank (rk L + 1) hends.r.1 hends.r.2 W
        have hrw : IntKind.i64.wrap (rk L + 1) = rk L + 1 := (IntWalk.i64_left _).trans (IntWalk.wrap64_in _ (by have := hends.r; omega))
        have hrb := hends.r
        have hll := hends.ll
        have hhh := hends.hh
        obtain ⟨FL, hFL⟩ : ∃ FL, FL = flt L := ⟨_, rfl⟩
        obtain ⟨FH, hFH⟩ : ∃ FH, FH = flt H := ⟨_, rfl⟩
        obtain ⟨R, hR⟩ : ∃ R, R = rk L := ⟨_, rfl⟩
        obtain ⟨N, hN⟩ : ∃ N, N = ofr (rk L + 1) := ⟨_, rfl⟩
        obtain ⟨S1, hS1⟩ : ∃ S1, S1 = sgn (flt L - a) := ⟨_, rfl⟩
        obtain ⟨S2, hS2⟩ : ∃ S2, S2 = sgn (flt H - a) := ⟨_, rfl⟩
        have hcs : (S1 = 0 ∧ S2 = 0 ∧ H = L ∧ E = L ∧ Z = L) ∨ (S1 = -1 ∧ S2 = 1 ∧ N = H ∧ ((FloatKind.f32.format.order L.toNat H.toNat == some .eq) = false ∧ (FloatKind.f32.format.order H.toNat L.toNat == some .eq) = false ∧ L ≠ 2147483648) ∧ (E = L ∨ E = H) ∧ (Z = L ∨ Z = H)) := by
          have h := hends.cases
          simp only [Int.mul_one] at h
          rcases h with ⟨c1, c2, c3, c4⟩ | ⟨c1, c2, c3, c4, c5, c6, -, c7, c8⟩
          · left
            refine ⟨?_, ?_, c2, c3, c4⟩
            · rw [hS1, show flt L - a = 0 by omega]; rfl
            · rw [hS2, c2, show flt L - a = 0 by omega]; rfl
          · right
            refine ⟨?_, ?_, hN.trans c6, ⟨c3, c4, c5⟩, c7, c8⟩
            · rw [hS1]; exact sgn_neg (by omega)
            · rw [hS2]; exact sgn_pos (by omega)
        rw [← hS1] at ccl
        rw [← hS2] at cch
        rw [← hFL] at ccl col
        rw [← hFH] at cch coh
        rw [← hN] at cor
        rw [← hR] at cor crk hrw hrb
        clear hends hlo e2 e3 e0 e1 HE2 HE3 HEN CL CH CE CZ CC hFL hFH hR hN hS1 hS2
        have HCS := Lib.hid hcs
        have CL := Lib.hid hcl
        have CH := Lib.hid hch
        have CE := Lib.hid hce
        have CZ := Lib.hid hcz
        have CCL := Lib.hid ccl
        have CCH := Lib.hid cch
        have COL := Lib.hid col
        have COH := Lib.hid coh
        have CBL := Lib.hid cbl
        have CRK := Lib.hid crk
        have COR := Lib.hid cor
        have HRW := Lib.hid hrw
        have HRB := Lib.hid hrb
        have HLL := Lib.hid hll
        have HHH := Lib.hid hhh
        clear hcs hcl hch hce hcz ccl cch col coh cbl crk cor hrw hrb hll hhh l0
        go_wp2_with (refine wpList_load_row rfl 26 _ rfl (w.heap.size + 1 + 1) rfl 26 _ (0, 0) _ RA.out Tryd.underlying26 rfl (by kernel_rfl) ?_)
        refine (CL.out _ (HM.out.below HL.out HB3.out)).mono ?_
        rintro e w6 ⟨rfl, k6⟩
        have A6 := Lib.hid (RA.out.below k6 RA.out.lt)
        have L6 := Lib.hid (HL.out.trans (k6.mono HL.out.size))
        clear k6 RA HL CL
        go_wp2_with (refine wpList_load_row rfl 26 _ rfl (w.heap.size + 1 + 1) rfl 26 _ (0, 0) _ A6.out Tryd.underlying26 rfl (by kernel_rfl) ?_)
        refine (CH.out _ (HM.out.below L6.out HB3.out)).mono ?_
        rintro e w7 ⟨rfl, k7⟩
        have A7 := Lib.hid (A6.out.below k7 A6.out.lt)
        have L7 := Lib.hid (L6.out.trans (k7.mono L6.out.size))
        clear k7 A6 L6 CH
        go_upto_region 15 with (go_at_call 17; refine (num _ _).mono ?_; rintro e w' ⟨rfl, rfl⟩)
        have HC7 : Hid (∀ w', Below w7.heap.size w7 w' → ∀ o, w'.cell? ⟨w.heap.size + 1 + 1, o, none⟩ = (#[Value.int .u64 a0', Value.int .u64 a1', Value.int .u64 a2', Value.int .u64 a3', Value.int .u64 a4', Value.int .u64 a5'] : Array Value)[o]?) :=
          Lib.hid (fun w' h => fun o => row_below h A7.out.lt A7.out o)
        refine K.region_quiet (C := Below w7.heap.size w7) (by kernel_rfl) (by kernel_rfl) (K.below_draw _) ?_
        iterate 5 (first
          | ((with_reducible refine wpQuiet_step (fun KK hKK => ?_))
             first
               | ((with_reducible refine K.quiet_else ?_ (K.Puts.mk' _) ?_)
                  (first | rfl | (simp [Region.wanted, yielded]; done))
                  (with_reducible refine hKK _ ?_))
               | ((with_reducible refine K.quiet_if ?_ ?_)
                  (first | rfl | (simp [Region.wanted, yielded]; done))
                  first
                    | (apply K.quiet_val
                       · intro w' hw'; have hcc := HC7.out w' hw'; go_simp; (try go_ints); exact K.Gives.mk' _ _
                       · go_simp; exact K.Puts.mk' _)
                    | (apply K.quiet_call
                       · intro w' hw'; have hcc := HC7.out w' hw'; go_simp; (try go_ints); exact K.Enters.mk' _ _ _
                       · intro w' hw'; have hcc := HC7.out w' hw'; first
                         | with_reducible exact K.calls_below hw' hw'.size (COL.out _)
                         | with_reducible exact K.calls_below hw' hw'.size (CCL.out _)
                         | exact K.calls_below hw' hw'.size (COL.out _)
                         | exact K.calls_below hw' hw'.size (CCL.out _)
                       · go_simp; exact K.Puts.mk' _)
                  (with_reducible refine hKK _ ?_))
             clear hKK KK)
          | skip)
        refine wpQuiet_nil ?_
        intro w8 hb8
        have A8 := Lib.hid (A7.out.below hb8 A7.out.lt)
        have L8 := Lib.hid (L7.out.trans (hb8.mono L7.out.size))
        clear hb8 HC7 A7 L7 COL CCL
        go_upto_region 16 with (fail)
        have HC8 : Hid (∀ w', Below w8.heap.size w8 w' → ∀ o, w'.cell? ⟨w.heap.size + 1 + 1, o, none⟩ = (#[Value.int .u64 a0', Value.int .u64 a1', Value.int .u64 a2', Value.int .u64 a3', Value.int .u64 a4', Value.int .u64 a5'] : Array Value)[o]?) :=
          Lib.hid (fun w' h => fun o => row_below h A8.out.lt A8.out o)
        refine K.region_quiet (C := Below w8.heap.size w8) (by kernel_rfl) (by kernel_rfl) (K.below_draw _) ?_
        iterate 5 (first
          | ((with_reducible refine wpQuiet_step (fun KK hKK => ?_))
             first
               | ((with_reducible refine K.quiet_else ?_ (K.Puts.mk' _) ?_)
                  (first | rfl | (simp [Region.wanted, yielded]; done))
                  (with_reducible refine hKK _ ?_))
               | ((with_reducible refine K.quiet_if ?_ ?_)
                  (first | rfl | (simp [Region.wanted, yielded]; done))
                  first
                    | (apply K.quiet_val
                       · intro w' hw'; have hcc := HC8.out w' hw'; go_simp; (try go_ints); exact K.Gives.mk' _ _
                       · go_simp; exact K.Puts.mk' _)
                    | (apply K.quiet_call
                       · intro w' hw'; have hcc := HC8.out w' hw'; go_simp; (try go_ints); exact K.Enters.mk' _ _ _
                       · intro w' hw'; have hcc := HC8.out w' hw'; first
                         | with_reducible exact K.calls_below hw' hw'.size (COH.out _)
                         | with_reducible exact K.calls_below hw' hw'.size (CCH.out _)
                         | exact K.calls_below hw' hw'.size (COH.out _)
                         | exact K.calls_below hw' hw'.size (CCH.out _)
                       · go_simp; exact K.Puts.mk' _)
                  (with_reducible refine hKK _ ?_))
             clear hKK KK)
          | skip)
        refine wpQuiet_nil ?_
        intro w9 hb9
        have A9 := Lib.hid (A8.out.below hb9 A8.out.lt)
        have L9 := Lib.hid (L8.out.trans (hb9.mono L8.out.size))
        clear hb9 HC8 A8 L8 COH CCH
        rcases HCS.out with ⟨rfl, rfl, rfl, rfl, rfl⟩ | ⟨rfl, rfl, rfl, c3, c7, c8⟩
        case inl =>
          have hll := HLL.out
          have hll2 : (FloatKind.f32.format.order Z.toNat Z.toNat != some .eq) = false := by rw [bne, hll]; rfl
          clear HCS HHH HLL
          go_wp2_with (refine wpList_load_row rfl 26 _ rfl (w.heap.size + 1 + 1) rfl 26 _ (0, 0) _ A9.out Tryd.underlying26 rfl (by kernel_rfl) ?_)
          refine (CE.out _ (HM.out.below L9.out HB3.out)).mono ?_
          rintro e w10 ⟨rfl, k10⟩
          have A10 := Lib.hid (A9.out.below k10 A9.out.lt)
          have L10 := Lib.hid (L9.out.trans (k10.mono L9.out.size))
          clear k10 A9 L9
          go_wp2_with (refine wpList_load_row rfl 26 _ rfl (w.heap.size + 1 + 1) rfl 26 _ (0, 0) _ A10.out Tryd.underlying26 rfl (by kernel_rfl) ?_)
          refine (CZ.out _ (HM.out.below L10.out HB3.out)).mono ?_
          rintro e w11 ⟨rfl, k11⟩
          have L11 := Lib.hid (L10.out.trans (k11.mono L10.out.size))
          clear k11 A10 L10
          have hrw := HRW.out
          go_wp2_with (first | (go_at_call 17; refine (num _ _).mono ?_; rintro e w' ⟨rfl, rfl⟩) | (go_at_call 23; refine (CBL.out _).mono ?_; rintro e w' ⟨rfl, rfl⟩) | (go_at_call 32; refine (CRK.out _).mono ?_; rintro e w' ⟨rfl, rfl⟩) | (go_at_call 31; refine (COR.out _).mono ?_; rintro e w' ⟨rfl, rfl⟩))
          go_ret
          exact ⟨rfl, L11.out⟩
        case inr =>
          have hll := HLL.out
          have hhh := HHH.out
          have hll2 : (FloatKind.f32.format.order L.toNat L.toNat != some .eq) = false := by rw [bne, hll]; rfl
          have hhh2 : (FloatKind.f32.format.order N.toNat N.toNat != some .eq) = false := by rw [bne, hhh]; rfl
          obtain ⟨o1, o2, hne⟩ := c3
          have o3 : (FloatKind.f32.format.order L.toNat N.toNat != some .eq) = true := by rw [bne, o1]; rfl
          have o4 : (FloatKind.f32.format.order N.toNat L.toNat != some .eq) = true := by rw [bne, o2]; rfl
          have hne2 : (L == 2147483648) = false := by simpa using hne
          have cfl := Ref.grainFloat N
          have CFL := Lib.hid cfl
          clear HCS HHH HLL cfl
          rcases c7 with rfl | rfl <;> rcases c8 with rfl | rfl
          all_goals
            go_wp2_with (refine wpList_load_row rfl 26 _ rfl (w.heap.size + 1 + 1) rfl 26 _ (0, 0) _ A9.out Tryd.underlying26 rfl (by kernel_rfl) ?_)
            refine (CE.out _ (HM.out.below L9.out HB3.out)).mono ?_
            rintro e w10 ⟨rfl, k10⟩
            have A10 := Lib.hid (A9.out.below k10 A9.out.lt)
            have L10 := Lib.hid (L9.out.trans (k10.mono L9.out.size))
            clear k10 A9 L9
            go_wp2_with (refine wpList_load_row rfl 26 _ rfl (w.heap.size + 1 + 1) rfl 26 _ (0, 0) _ A10.out Tryd.underlying26 rfl (by kernel_rfl) ?_)
            refine (CZ.out _ (HM.out.below L10.out HB3.out)).mono ?_
            rintro e w11 ⟨rfl, k11⟩
            have L11 := Lib.hid (L10.out.trans (k11.mono L10.out.size))
            clear k11 A10 L10
            have hrw := HRW.out
            go_wp2_with (first | (go_at_call 17; refine (num _ _).mono ?_; rintro e w' ⟨rfl, rfl⟩) | (go_at_call 23; refine (CBL.out _).mono ?_; rintro e w' ⟨rfl, rfl⟩) | (go_at_call 32; refine (CRK.out _).mono ?_; rintro e w' ⟨rfl, rfl⟩) | (go_at_call 31; refine (COR.out _).mono ?_; rintro e w' ⟨rfl, rfl⟩) | (go_at_call 20; refine (CFL.out _).mono ?_; rintro e w' ⟨rfl, rfl⟩))
            go_ret
            exact ⟨rfl, L11.out⟩
def laid1 {H : Type} : List (String × DataW H) := [("sluice/tally.modes", Rows.laid_sluice_tally_modes)]
def laidKinds1 : List LaidKind := [.data]
theorem own : ownKnob Tryd.prog.godebug = none := by kernel_rfl
theorem door_met (os : Os) (args : Array Value) : laidMetH Tryd.prog laid1 ((World.doorLaid Tryd.prog 400 os).forCall (fun _ _ => 0) ⟨#[], args, []⟩).memory :=
  laidMetH_of_parts3 (fuel := 8) (laidMet_of_run' 8 (by kernel_rfl) (by kernel_rfl)) (by kernel_rfl) (by kernel_rfl)
set_option maxRecDepth 100000 in
theorem lifted (os : Os) (started : os.Started) (H : Type) (enc : TypeId × Value → H) :
    ReturnsInHanded {} Tryd.checked os 6 .any (fun w args => (Rows.tallyMonotoneSpec.pre enc Tryd.prog Tryd.f6 [] false w args ∧ laidMetH Tryd.prog laid1 w) ∧ sizedMet enc Tryd.prog Tryd.f6 (OpenSpec.ofChange Rows.tallyMonotoneSpec) false w args)
      (Rows.tallyMonotoneSpec.post enc Tryd.prog Tryd.f6 false true false false) := by
  refine returnsInHanded_of_change_and (C := Tryd.checked) (X := fun w _ => laidMetH Tryd.prog laid1 w) (fun _ _ _ hh h => h.of_heap hh) own started (by kernel_rfl) Tryd.func6
    (ChangeSpec.witness_shaped (enc := enc) (C := Tryd.checked) (os := os) (X := fun w _ => laidMetH Tryd.prog laid1 w) false (World.doorLaid Tryd.prog 400 os) #[.agg #[.int .u64 0, .int .u64 0, .int .u64 0, .int .u64 0, .int .u64 0, .int .u64 0], .agg #[.int .u64 0, .int .u64 0, .int .u64 0, .int .u64 0, .int .u64 0, .int .u64 0], .int .i64 0] 8 rfl (World.shaped_of_RefB (by kernel_rfl) (by kernel_rfl)) (by kernel_rfl) (by kernel_rfl) (by kernel_rfl) (door_met os _)) ?_
  intro W base args ds gs before hval0 hW hcnd hsz0 hL _
  have hsz : (DataW.weightsEach Tryd.prog (Tryd.f6.params.toList ++ Rows.tallyMonotoneSpec.plain.varTypes Tryd.prog) (ds ++ gs)).all (· ≤ reachBytes) = true := hsz0
  have hval : ∀ (j : Nat) t v, Tryd.f6.params[j]? = some t → args[j]? = some v → Value.okWide Tryd.prog W .any base t v := hval0
  have hW' := hW
  obtain ⟨p, q, hA0, hV, rfl, hfz, hnd⟩ := hW
  have hA : DataW.TrodAll enc Tryd.prog W 0 (fun _ => true) true Tryd.f6.params.toList args.toList ds p := hA0
  rw [Tryd.params6] at hA hval hsz
  obtain ⟨v0, vs0, d0, ds0, p0, q0, hargs, rfl, rfl, h0, r0⟩ := trodAll_cons hA
  obtain ⟨v1, vs1, d1, ds1, p1, q1, rfl, rfl, rfl, h1, r1⟩ := trodAll_cons r0
  obtain ⟨v2, vs2, d2, ds2, p2, q2, rfl, rfl, rfl, h2, r2⟩ := trodAll_cons r1
  obtain ⟨rfl, rfl, rfl⟩ := trodAll_nil r2
  obtain rfl : args = #[v0, v1, v2] := by cases args; simp_all
  obtain ⟨rfl, rfl⟩ := trodVars_none hV
  have k0 := h0
  obtain ⟨z0, l0, rfl, w0, rfl⟩ := K.open_array Tryd.underlying24 Tryd.underlying22 (by kernel_rfl) (by kernel_rfl) (hval 0 24 v0 rfl rfl) h0
  have k1 := h1
  obtain ⟨z1, l1, rfl, w1, rfl⟩ := K.open_array Tryd.underlying24 Tryd.underlying22 (by kernel_rfl) (by kernel_rfl) (hval 1 24 v1 rfl rfl) h1
  obtain ⟨a2, rfl, rfl, rfl, w2⟩ := open_int Tryd.underlying3 (hval 2 3 v2 rfl rfl) h2
  obtain ⟨y0, rfl, a0', b0'⟩ := words_are z0 l0 (fun z hz => bounds_u64 (w0 z hz))
  obtain ⟨y1, rfl, a1', b1'⟩ := words_are z1 l1 (fun z hz => bounds_u64 (w1 z hz))
  refine (walk y0 y1 _ a0' b0' a1' b1' W (Laid.modes_of hL)).mono fun e W' ⟨he, bel⟩ => ?_
  subst he
  exact ⟨_, rfl, _, _, _, [], _, [], hW', trodAll_mk1 (shut_bool Tryd.underlying4 _), (trodAll_cons_mk (Below.trod (by kernel_rfl) (by kernel_rfl) (of_decide_eq_true (by kernel_rfl)) k0 bel (fun x hx => by cases hx)) (trodAll_cons_mk (Below.trod (by kernel_rfl) (by kernel_rfl) (of_decide_eq_true (by kernel_rfl)) k1 bel (fun x hx => by cases hx)) (trodAll_cons_mk (shut_int Tryd.underlying3 w2) trodAll_mk0))), rfl, bel.frame _, fun h => by cases h⟩
theorem over : Rows.TallyMonotoneSaid :=
  OpenClaim.holds_of_wide 6 Tryd.f6 rfl rfl rfl rfl rfl rfl rfl ⟨rfl, rfl, rfl, rfl, rfl⟩ rfl rfl rfl rfl rfl (by kernel_rfl) Tryd.func6 (by kernel_rfl)
    (of_decide_eq_true (by kernel_rfl)) (by unfold Func.isWrapper; first | (rw [if_pos (by decide +kernel)]; kernel_rfl) | (rw [if_neg (by decide +kernel)]; exact ⟨rfl, rfl⟩))
    (fun os started H enc _ => lifted os started H enc)
/-- The tied card. -/
theorem proved : Rows.TallyMonotoneCardSaid :=
  Claim7.holds_tied_plain_at .later [] laidKinds1 true Rows.tallyMonotoneCard.stood.harness false
    over (fun _ h => by cases h) (by kernel_rfl) (fun _ h => by cases h) tallyMonotone_row_tie rfl ⟨rfl, rfl⟩ (by kernel_rfl) rfl
    (fun f fn hf hfn => by
      obtain rfl : f = 6 := Option.some.inj ((show Tryd.prog.funcNamed "sluice/sluicelaw02.TallyMonotone" = some 6 by kernel_rfl).symm.trans hf) |>.symm
      obtain rfl : fn = Tryd.f6 := (Option.some.inj (Tryd.func6.symm.trans hfn)).symm
      exact ⟨by kernel_rfl, fun j t ht => by
        rw [Tryd.params6] at ht
        have hm : t ∈ [24, 24, 3] := by simpa using Array.mem_of_getElem? ht
        have hall : ([24, 24, 3].all fun u => !Tryd.prog.wantsStandIn u) = true := by kernel_rfl
        exact (show Tryd.prog.wantsStandIn t = false by simpa using List.all_eq_true.1 hall t hm)⟩)
    (by kernel_rfl)
#print axioms proved
end Go.Proofs.YtbbldcbilnkkdaaDoor.tallyMonotone
