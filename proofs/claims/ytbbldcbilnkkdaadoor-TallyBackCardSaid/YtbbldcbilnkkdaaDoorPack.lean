/-
  Sums of layer 2: packed, of the program. No condition.
-/
import Derived.Test.YtbbldcbilnkkdaaDoorBit
import Derived.Test.YtbbldcbilnkkdaaDoorAdd
import Derived.Deep.DeepCutAuto
set_option linter.unusedVariables false
set_option linter.unusedSimpArgs false
namespace Go.Proofs.YtbbldcbilnkkdaaDoor.Reck
open Go.RowKit Num Tly Ref K

theorem bit_parity (x : Int) (h0 : 0 ≤ x) (h1 : x < 4294967296) : (bits .and .u32 x 1 == 1) = decide (x % 2 = 1) := by
  have e : bits .and .u32 x 1 = x % 2 := by
    obtain ⟨n, rfl⟩ := Int.eq_ofNat_of_zero_le h0
    have := u32_and_nat n 1 (by omega) (by omega)
    rw [Nat.and_one_is_mod] at this
    rw [show (1 : Int) = ((1 : Nat) : Int) from rfl, this]
    omega
  rw [e]
  by_cases h : x % 2 = 1 <;> simp [h]
theorem small_words {S : Int} (h0 : 0 ≤ S) (h1 : S < 18446744073709551616) : wv S = #[.int .u64 S, .int .u64 0, .int .u64 0, .int .u64 0, .int .u64 0, .int .u64 0] := by
  unfold wv
  rw [digs_cons q_pos, Int.emod_eq_of_lt h0 h1, Int.ediv_eq_zero_of_lt h0 h1, digs_zero q_pos]
  rfl
set_option maxRecDepth 100000 in
set_option maxHeartbeats 8000000 in
theorem packed (neg : Bool) (Q : Int) (half rest : Bool) (mode : Int) (q0 : 0 ≤ Q) (q1 : Q < 18446744073709551616 ^ 6) (m0 : 0 ≤ mode) (m1 : mode < 4) (w : World) (hM : Modes w) :
    Calls Tryd.prog 55 #[.bool neg, .agg (wv Q), .bool half, .bool rest, .int .i64 mode] w fun e w' => e = .returned (.tuple #[.float .f32 (packR neg Q half rest mode).1.toNat, .int .i64 (packR neg Q half rest mode).2]) ∧ Below w.heap.size w w' := by
  have HA := Lib.hid (Row.new w 26 (wv Q))
  have HB := Lib.hid ((Below.refl w.heap.size w).alloc (Nat.le_refl _) (.cells (wv Q) 26))
  have HM := Lib.hid (hM.below HB.out hM.1)
  have hM3 := Lib.hid hM.1
  have HQ := Lib.hid (And.intro q0 q1)
  have HMD := Lib.hid (And.intro m0 m1)
  obtain ⟨X, hX⟩ : ∃ X, X = packR neg Q half rest mode := ⟨_, rfl⟩
  rw [← hX]
  have HX := Lib.hid hX
  have hps := ps_bound q0
  obtain ⟨S, hS⟩ : ∃ S, S = ps Q := ⟨_, rfl⟩
  have HS := Lib.hid hS
  rw [← hS] at hps
  obtain ⟨D, hD⟩ : ∃ D, D = pd Q := ⟨_, rfl⟩
  have HD := Lib.hid hD
  have hlen := Lib.hid (fun W => length Q q0 q1 W)
  obtain ⟨l, hl⟩ : ∃ l, l = bl Q := ⟨_, rfl⟩
  rw [← hl] at hlen
  have hll : l ≤ 384 := by
    rw [hl]
    refine bl_fits q0 ?_
    rw [show (384 : Nat) = 64 * 6 from rfl, ← pow64]; exact q1
  have hDl : D = l - 24 := by rw [hD, hl]; rfl
  have hmax : max (0 : Int) ((l : Int) - 24) = (D : Int) := by omega
  have hD384 : D ≤ 360 := by omega
  have HDL := Lib.hid hDl
  have HPS := Lib.hid hps
  clear hM q0 q1 m0 m1 hX hS hD hl hDl hps
  go_enter Tryd.func55, Tryd.ntmps55
  go_wp2_with (refine wpList_load_row rfl 26 _ rfl (w.heap.size) rfl 26 _ (0, 0) _ HA.out Tryd.underlying26 rfl (by kernel_rfl) ?_)
  refine (hlen.out _).mono ?_
  rintro e w1 ⟨rfl, k1⟩
  have A1 := Lib.hid (HA.out.below k1 HA.out.lt)
  have B1 := Lib.hid (HB.out.trans (k1.mono HB.out.size))
  have M1 := Lib.hid (HM.out.below k1 HM.out.1)
  clear k1 HA HB HM
  go_upto_if 20 with (fail)
  go_cut [2, 3] (fun Hv Ev wx => Hv = .bool (ph Q half) ∧ Ev = .bool (pr Q half rest) ∧ Row wx w.heap.size 26 (wv Q) ∧ Below w.heap.size w wx ∧ Modes wx)
  case first =>
    have hcases : D = 0 ∨ (0 < D ∧ rest = true) ∨ (0 < D ∧ rest = false ∧ half = true) ∨ (0 < D ∧ rest = false ∧ half = false) := by
      rcases Nat.eq_zero_or_pos D with h | h
      · exact Or.inl h
      · cases rest <;> cases half <;> simp [h]
    rcases hcases with h | ⟨h, h2⟩ | ⟨h, h2, h3⟩ | ⟨h, h2, h3⟩
    case inl =>
      have hd0 : ¬ ((0 : Int) < (D : Int)) := by omega
      have hd0' : ¬ (0 < D) := by omega
      obtain ⟨H, hH⟩ : ∃ H, H = half := ⟨_, rfl⟩
      obtain ⟨E, hE⟩ : ∃ E, E = rest := ⟨_, rfl⟩
      have HH := Lib.hid (show H = ph Q half by rw [hH]; unfold ph; rw [← HD.out, if_pos h])
      have HE := Lib.hid (show E = pr Q half rest by rw [hE]; unfold pr; rw [← HD.out, if_pos h])
      have A2 := Lib.hid A1.out
      have B2 := Lib.hid B1.out
      have M2 := Lib.hid M1.out
      rw [← hH, ← hE]
      clear hH hE A1 B1 M1 h
      go_wp2
      go_meet
      exact ⟨congrArg Value.bool HH.out, congrArg Value.bool HE.out, A2.out, B2.out, M2.out⟩
    case inr.inl =>
      obtain ⟨E, hE⟩ : ∃ E, E = true := ⟨_, rfl⟩
      have HE := Lib.hid (show E = pr Q half rest by rw [hE]; unfold pr; rw [← HD.out, if_neg (by omega), h2]; rfl)
      have hbit := Lib.hid (fun W => bit Q (D - 1) (by omega) W)
      obtain ⟨H, hH⟩ : ∃ H, H = decide (dig 2 Q (D - 1) = 1) := ⟨_, rfl⟩
      rw [← hH] at hbit
      have HH := Lib.hid (show H = ph Q half by rw [hH]; unfold ph; rw [← HD.out, if_neg (by omega)])
      have hd0 : (0 : Int) < (D : Int) := by omega
      have hd1 : (D : Int) - 1 = ((D - 1 : Nat) : Int) := by omega
      subst h2
      have HEt := Lib.hid hE
      clear h hH hE
      go_wp2_with (refine wpList_load_row rfl 26 _ rfl (w.heap.size) rfl 26 _ (0, 0) _ A1.out Tryd.underlying26 rfl (by kernel_rfl) ?_)
      refine (hbit.out _).mono ?_
      rintro e w2 ⟨rfl, k2⟩
      have A2 := Lib.hid (A1.out.below k2 A1.out.lt)
      have B2 := Lib.hid (B1.out.trans (k2.mono B1.out.size))
      have M2 := Lib.hid (M1.out.below k2 M1.out.1)
      clear k2 A1 B1 M1 hbit
      go_wp2
      go_meet
      exact ⟨congrArg Value.bool HH.out, congrArg Value.bool (by first | exact HE.out | exact HEt.out.symm.trans HE.out), A2.out, B2.out, M2.out⟩
    case inr.inr.inl =>
      obtain ⟨E, hE⟩ : ∃ E, E = true := ⟨_, rfl⟩
      have HE := Lib.hid (show E = pr Q half rest by rw [hE]; unfold pr; rw [← HD.out, if_neg (by omega), h2, h3]; rfl)
      have hbit := Lib.hid (fun W => bit Q (D - 1) (by omega) W)
      obtain ⟨H, hH⟩ : ∃ H, H = decide (dig 2 Q (D - 1) = 1) := ⟨_, rfl⟩
      rw [← hH] at hbit
      have HH := Lib.hid (show H = ph Q half by rw [hH]; unfold ph; rw [← HD.out, if_neg (by omega)])
      have hd0 : (0 : Int) < (D : Int) := by omega
      have hd1 : (D : Int) - 1 = ((D - 1 : Nat) : Int) := by omega
      subst h2
      subst h3
      have HEt := Lib.hid hE
      clear h hH hE
      go_wp2_with (refine wpList_load_row rfl 26 _ rfl (w.heap.size) rfl 26 _ (0, 0) _ A1.out Tryd.underlying26 rfl (by kernel_rfl) ?_)
      refine (hbit.out _).mono ?_
      rintro e w2 ⟨rfl, k2⟩
      have A2 := Lib.hid (A1.out.below k2 A1.out.lt)
      have B2 := Lib.hid (B1.out.trans (k2.mono B1.out.size))
      have M2 := Lib.hid (M1.out.below k2 M1.out.1)
      clear k2 A1 B1 M1 hbit
      go_wp2
      go_meet
      exact ⟨congrArg Value.bool HH.out, congrArg Value.bool (by first | exact HE.out | exact HEt.out.symm.trans HE.out), A2.out, B2.out, M2.out⟩
    case inr.inr.inr =>
      obtain ⟨E, hE⟩ : ∃ E, E = decide (Q % 2 ^ (D - 1) ≠ 0) := ⟨_, rfl⟩
      have HE := Lib.hid (show E = pr Q half rest by rw [hE]; unfold pr; rw [← HD.out, if_neg (by omega), h2, h3]; rfl)
      have hbel := fun W => below Q (D - 1) (by omega) W
      rw [← hE] at hbel
      have hbit := Lib.hid (fun W => bit Q (D - 1) (by omega) W)
      obtain ⟨H, hH⟩ : ∃ H, H = decide (dig 2 Q (D - 1) = 1) := ⟨_, rfl⟩
      rw [← hH] at hbit
      have HH := Lib.hid (show H = ph Q half by rw [hH]; unfold ph; rw [← HD.out, if_neg (by omega)])
      have hd0 : (0 : Int) < (D : Int) := by omega
      have hd1 : (D : Int) - 1 = ((D - 1 : Nat) : Int) := by omega
      subst h2
      subst h3
      obtain ⟨b0, b1, b2, b3, b4, b5, hq6⟩ := lit6 Q
      rw [hq6] at hbel
      have HBEL := Lib.hid hbel
      have hcl := fun o => row_cell (A1.out.to hq6) o
      have hcg := A1.out.lt
      clear h hH hE hbel hq6
      go_wp2_with fail
      refine (HBEL.out _).mono ?_
      rintro e w1' ⟨rfl, k1'⟩
      replace A1 := Lib.hid (A1.out.below k1' A1.out.lt)
      replace B1 := Lib.hid (B1.out.trans (k1'.mono B1.out.size))
      replace M1 := Lib.hid (M1.out.below k1' M1.out.1)
      clear k1' hcl hcg HBEL
      go_wp2_with (refine wpList_load_row rfl 26 _ rfl (w.heap.size) rfl 26 _ (0, 0) _ A1.out Tryd.underlying26 rfl (by kernel_rfl) ?_)
      refine (hbit.out _).mono ?_
      rintro e w2 ⟨rfl, k2⟩
      have A2 := Lib.hid (A1.out.below k2 A1.out.lt)
      have B2 := Lib.hid (B1.out.trans (k2.mono B1.out.size))
      have M2 := Lib.hid (M1.out.below k2 M1.out.1)
      clear k2 A1 B1 M1 hbit
      go_wp2
      go_meet
      exact ⟨congrArg Value.bool HH.out, congrArg Value.bool (by first | exact HE.out | exact HEt.out.symm.trans HE.out), A2.out, B2.out, M2.out⟩
  case rest =>
    obtain ⟨rfl, rfl, hA2, hB2, hM2⟩ := hcut
    have A2 := Lib.hid hA2
    have B2 := Lib.hid hB2
    have M2 := Lib.hid hM2
    obtain ⟨H, hH⟩ : ∃ H, H = ph Q half := ⟨_, rfl⟩
    obtain ⟨E, hE⟩ : ∃ E, E = pr Q half rest := ⟨_, rfl⟩
    have HH := Lib.hid hH
    have HE := Lib.hid hE
    rw [← hH, ← hE]
    clear hA2 hB2 hM2 hH hE
    go_wp2_with (refine wpList_load_row rfl 26 _ rfl (w.heap.size) rfl 26 _ (0, 0) _ A2.out Tryd.underlying26 rfl (by kernel_rfl) ?_)
    have hdn := down Q (D : Int) (D / 64) (D % 64) HQ.out.1 HQ.out.2 (by omega) (by omega) (by omega)
    rw [show 64 * (D / 64) + D % 64 = D by omega, show Q / 2 ^ D = S by rw [HS.out, HD.out]; rfl, small_words HPS.out.1 (by have := HPS.out; omega)] at hdn
    refine (hdn _).mono ?_
    rintro e w3 ⟨rfl, k3⟩
    have B3 := Lib.hid (B2.out.trans (k3.mono B2.out.size))
    have M3 := Lib.hid (M2.out.below k3 M2.out.1)
    obtain ⟨L, hL⟩ : ∃ L, L = decide (S % 2 = 1) := ⟨_, rfl⟩
    have hpar := bit_parity S HPS.out.1 (by have := HPS.out; omega)
    rw [← hL] at hpar
    have hws : IntKind.u32.wrap S = S := by rw [IntKind.wrap_u32]; have := HPS.out; omega
    have hra := raised mode neg L H E HMD.out.1 HMD.out.2 w3 M3.out
    obtain ⟨U, hU⟩ : ∃ U, U = roundUp mode neg L H E := ⟨_, rfl⟩
    rw [← hU] at hra
    have HRA := Lib.hid hra
    have HX2 := Lib.hid (show X = tail2 neg U S D by rw [HX.out]; unfold packR; rw [← HS.out, ← HD.out, ← HH.out, ← HE.out, ← hL, ← hU])
    have hix : ∀ W, (Instr.index 26 (.agg #[.int .u64 S, .int .u64 0, .int .u64 0, .int .u64 0, .int .u64 0, .int .u64 0]) (.int .i64 0)).run Tryd.prog W = .ok (.int .u64 S) W := fun W => by kernel_rfl
    clear k3 hdn hra hU hL A2 B2 M2
    go_wp2_with fail
    first | refine HRA.out.mono ?_ | (have hra2 := HRA.out; rw [HEt.out] at hra2; refine hra2.mono ?_)
    rintro e w4 ⟨rfl, k4⟩
    have B4 := Lib.hid (B3.out.trans (k4.mono B3.out.size))
    have hf := run_float32
    clear k4 hpar hws HRA
    have hps := HPS.out
    cases U
    · have t11 : (S == 16777216) = false := by simp; omega
      have t12 : ¬ S = 16777216 := by omega
      by_cases hs : S < 8388608
      · have t1 : decide (8388608 ≤ S) = false := by simp; omega
        have t2 : ¬ 8388608 ≤ S := by omega
        have t3 : bits .or .u32 S 2147483648 = S + 2147483648 := or32_top _ (by omega) (by omega)
        have HX1 := Lib.hid (show X = (S + sgb neg, 0) by rw [HX2.out]; unfold tail2; simp only [Bool.false_eq_true, if_false]; rw [fin2_small hs])
        clear hs HPS hps
        cases neg
        · rw [show sgb false = 0 from rfl, Int.add_zero] at HX1
          go_wp2
          go_ret2
          rw [HX1.out]
          exact ⟨rfl, B4.out⟩
        · rw [show sgb true = 2147483648 from rfl] at HX1
          go_wp2
          go_ret2
          rw [HX1.out]
          exact ⟨rfl, B4.out⟩
      have t1 : decide (8388608 ≤ S) = true := by simp; omega
      have t2 : 8388608 ≤ S := by omega
      by_cases hfar : 254 < D + 1
      · have t4 : decide (254 < (D : Int) + 1) = true := by simp; omega
        have t5 : 254 < (D : Int) + 1 := by omega
        have HX1 := Lib.hid (show X = (0, 20) by rw [HX2.out]; unfold tail2; simp only [Bool.false_eq_true, if_false]; rw [fin2_far (by omega) hfar])
        clear hfar hps
        go_wp2
        go_ret2
        rw [HX1.out]
        exact ⟨rfl, B4.out⟩
      have t4 : decide (254 < (D : Int) + 1) = false := by simp; omega
      have t5 : ¬ 254 < (D : Int) + 1 := by omega
      have t6 : IntKind.u32.wrap ((D : Int) + 1) = (D : Int) + 1 := by rw [IntKind.wrap_u32]; omega
      obtain ⟨V, hV⟩ : ∃ V, V = ((D : Int) + 1) * 8388608 := ⟨_, rfl⟩
      have t7 : IntKind.u32.wrap (((D : Int) + 1) * 8388608) = V := by rw [IntKind.wrap_u32]; omega
      have t7' : IntKind.u32.wrap (((D : Int) + 1) * 2 ^ 23) = V := t7
      obtain ⟨Z, hZ⟩ : ∃ Z, Z = V + (S - 8388608) := ⟨_, rfl⟩
      have t8 : bits .and .u32 S 8388607 = S - 8388608 := by rw [mask23 S (by omega) (by omega)]; omega
      have t9 : bits .or .u32 V (S - 8388608) = Z := by rw [hZ]; exact or32_join _ _ 23 (by omega) (by omega) (by omega) (by omega) (by omega) (by omega)
      have t10 : bits .or .u32 Z 2147483648 = Z + 2147483648 := or32_top _ (by omega) (by omega)
      have HX1 := Lib.hid (show X = (Z + sgb neg, 0) by rw [HX2.out]; unfold tail2; simp only [Bool.false_eq_true, if_false]; rw [fin2_great (by omega) hfar, hZ, hV])
      clear hfar hZ hV hps
      cases neg
      · rw [show sgb false = 0 from rfl, Int.add_zero] at HX1
        go_wp2
        go_ret2
        rw [HX1.out]
        exact ⟨rfl, B4.out⟩
      · rw [show sgb true = 2147483648 from rfl] at HX1
        go_wp2
        go_ret2
        rw [HX1.out]
        exact ⟨rfl, B4.out⟩
    · by_cases h24 : S + 1 = 16777216
      · have t11 : IntKind.u32.wrap (S + 1) = 16777216 := by rw [IntKind.wrap_u32]; omega
        by_cases hfar : 254 < (D + 1) + 1
        · have t4 : decide (254 < (D : Int) + 1 + 1) = true := by simp; omega
          have t5 : 254 < (D : Int) + 1 + 1 := by omega
          have HX1 := Lib.hid (show X = (0, 20) by rw [HX2.out]; unfold tail2; simp only [if_true]; rw [if_pos h24]; rw [fin2_far (by decide) hfar])
          clear hfar hps
          go_wp2
          go_ret2
          rw [HX1.out]
          exact ⟨rfl, B4.out⟩
        have t4 : decide (254 < (D : Int) + 1 + 1) = false := by simp; omega
        have t5 : ¬ 254 < (D : Int) + 1 + 1 := by omega
        have t6 : IntKind.u32.wrap ((D : Int) + 1 + 1) = (D : Int) + 1 + 1 := by rw [IntKind.wrap_u32]; omega
        obtain ⟨V, hV⟩ : ∃ V, V = ((D : Int) + 1 + 1) * 8388608 := ⟨_, rfl⟩
        have t7 : IntKind.u32.wrap (((D : Int) + 1 + 1) * 8388608) = V := by rw [IntKind.wrap_u32]; omega
        have t7' : IntKind.u32.wrap (((D : Int) + 1 + 1) * 2 ^ 23) = V := t7
        have t8 : bits .and .u32 8388608 8388607 = 0 := by rw [mask23 8388608 (by omega) (by omega)]; rfl
        have t9 : bits .or .u32 V 0 = V := by rw [or32_join V 0 23 (by omega) (by omega) (by omega) (by omega) (by omega) (by omega)]; omega
        have t10 : bits .or .u32 V 2147483648 = V + 2147483648 := or32_top _ (by omega) (by omega)
        have HX1 := Lib.hid (show X = (V + sgb neg, 0) by rw [HX2.out]; unfold tail2; simp only [if_true]; rw [if_pos h24]; rw [fin2_great (by decide) hfar]; refine Prod.ext ?_ rfl; show (((D + 1 : Nat) : Int) + 1) * 8388608 + (8388608 - 8388608) + sgb neg = V + sgb neg; omega)
        clear hfar hV hps
        cases neg
        · rw [show sgb false = 0 from rfl, Int.add_zero] at HX1
          go_wp2
          go_ret2
          rw [HX1.out]
          exact ⟨rfl, B4.out⟩
        · rw [show sgb true = 2147483648 from rfl] at HX1
          go_wp2
          go_ret2
          rw [HX1.out]
          exact ⟨rfl, B4.out⟩
      · have t11 : IntKind.u32.wrap (S + 1) = S + 1 := by rw [IntKind.wrap_u32]; omega
        have t12 : (S + 1 == 16777216) = false := by simpa using h24
        by_cases hs : (S + 1) < 8388608
        · have t1 : decide (8388608 ≤ (S + 1)) = false := by simp; omega
          have t2 : ¬ 8388608 ≤ (S + 1) := by omega
          have t3 : bits .or .u32 (S + 1) 2147483648 = (S + 1) + 2147483648 := or32_top _ (by omega) (by omega)
          have HX1 := Lib.hid (show X = ((S + 1) + sgb neg, 0) by rw [HX2.out]; unfold tail2; simp only [if_true]; rw [if_neg h24]; rw [fin2_small hs])
          clear hs HPS hps
          cases neg
          · rw [show sgb false = 0 from rfl, Int.add_zero] at HX1
            go_wp2
            go_ret2
            rw [HX1.out]
            exact ⟨rfl, B4.out⟩
          · rw [show sgb true = 2147483648 from rfl] at HX1
            go_wp2
            go_ret2
            rw [HX1.out]
            exact ⟨rfl, B4.out⟩
        have t1 : decide (8388608 ≤ (S + 1)) = true := by simp; omega
        have t2 : 8388608 ≤ (S + 1) := by omega
        by_cases hfar : 254 < D + 1
        · have t4 : decide (254 < (D : Int) + 1) = true := by simp; omega
          have t5 : 254 < (D : Int) + 1 := by omega
          have HX1 := Lib.hid (show X = (0, 20) by rw [HX2.out]; unfold tail2; simp only [if_true]; rw [if_neg h24]; rw [fin2_far (by omega) hfar])
          clear hfar hps
          go_wp2
          go_ret2
          rw [HX1.out]
          exact ⟨rfl, B4.out⟩
        have t4 : decide (254 < (D : Int) + 1) = false := by simp; omega
        have t5 : ¬ 254 < (D : Int) + 1 := by omega
        have t6 : IntKind.u32.wrap ((D : Int) + 1) = (D : Int) + 1 := by rw [IntKind.wrap_u32]; omega
        obtain ⟨V, hV⟩ : ∃ V, V = ((D : Int) + 1) * 8388608 := ⟨_, rfl⟩
        have t7 : IntKind.u32.wrap (((D : Int) + 1) * 8388608) = V := by rw [IntKind.wrap_u32]; omega
        have t7' : IntKind.u32.wrap (((D : Int) + 1) * 2 ^ 23) = V := t7
        obtain ⟨Z, hZ⟩ : ∃ Z, Z = V + ((S + 1) - 8388608) := ⟨_, rfl⟩
        have t8 : bits .and .u32 (S + 1) 8388607 = (S + 1) - 8388608 := by rw [mask23 (S + 1) (by omega) (by omega)]; omega
        have t9 : bits .or .u32 V ((S + 1) - 8388608) = Z := by rw [hZ]; exact or32_join _ _ 23 (by omega) (by omega) (by omega) (by omega) (by omega) (by omega)
        have t10 : bits .or .u32 Z 2147483648 = Z + 2147483648 := or32_top _ (by omega) (by omega)
        have HX1 := Lib.hid (show X = (Z + sgb neg, 0) by rw [HX2.out]; unfold tail2; simp only [if_true]; rw [if_neg h24]; rw [fin2_great (by omega) hfar, hZ, hV])
        clear hfar hZ hV hps
        cases neg
        · rw [show sgb false = 0 from rfl, Int.add_zero] at HX1
          go_wp2
          go_ret2
          rw [HX1.out]
          exact ⟨rfl, B4.out⟩
        · rw [show sgb true = 2147483648 from rfl] at HX1
          go_wp2
          go_ret2
          rw [HX1.out]
          exact ⟨rfl, B4.out⟩
end Go.Proofs.YtbbldcbilnkkdaaDoor.Reck
