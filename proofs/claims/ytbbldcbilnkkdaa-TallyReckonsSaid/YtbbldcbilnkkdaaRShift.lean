/-
  Sums of layer 2: Shift of the document. No condition.
-/
import Derived.Test.YtbbldcbilnkkdaaWhole
import Derived.Test.YtbbldcbilnkkdaaK4
set_option linter.unusedVariables false
set_option linter.unusedSimpArgs false
namespace Go.Proofs.Ytbbldcbilnkkdaa.Reck
open Go.RowKit Go.ChangeShapes Num Tly Ref K

theorem infoI : (Try.prog.info? 3).map (fun i => (i.zero, i.size, i.bytes)) = some (some (.int .i64 0), 1, 8) := by kernel_rfl
theorem bs_succ (m : Int) (j : Nat) : bs m (j + 1) = bs m j ++ [.int .i64 (dig 2 m j)] := by
  unfold bs digs
  rw [List.range_succ]
  simp
theorem bit_up_low (m : Int) {k j : Nat} (h : j < k) : dig 2 (m * 2 ^ k) j = 0 := by
  obtain ⟨d, rfl⟩ : ∃ d, k = j + 1 + d := ⟨k - j - 1, by omega⟩
  have hP : (0 : Int) < 2 ^ j := pow_pos' two_pos j
  unfold dig
  have e : m * 2 ^ (j + 1 + d) = 2 ^ j * (2 * (m * 2 ^ d)) := by
    rw [Int.pow_add, Int.pow_succ]; simp only [Int.mul_assoc, Int.mul_comm, Int.mul_left_comm]
  rw [e, Int.mul_ediv_cancel_left _ (by omega), Int.mul_emod_right]
theorem bit_up (m : Int) (k j : Nat) : dig 2 (m * 2 ^ k) (j + k) = dig 2 m j := by
  have hP : (0 : Int) < 2 ^ k := pow_pos' two_pos k
  unfold dig
  rw [Int.pow_add, Int.mul_comm (2 ^ j), div_mul hP, Int.mul_ediv_cancel _ (by omega)]
theorem bit_down (m : Int) (k j : Nat) : dig 2 (m / 2 ^ k) j = dig 2 m (k + j) := by
  have hP : (0 : Int) < 2 ^ k := pow_pos' two_pos k
  unfold dig
  rw [Int.ediv_ediv_of_nonneg (Int.le_of_lt hP), ← Int.pow_add]
def RelS1 (w1 : World) (M : Int) (kk : Nat) (c i : Value) (wr : World) : Prop :=
  ∃ j : Nat, j ≤ kk ∧ i = .int .i64 j ∧ wr.ownsRow w1.heap.size 3 1 c j (bs M j) ∧ Below w1.heap.size w1 wr
def RelS2 (w1 : World) (m M k : Int) (l : Nat) (c i : Value) (wr : World) : Prop :=
  ∃ j : Nat, j ≤ l ∧ i = .int .i64 j ∧ wr.ownsRow w1.heap.size 3 1 c ((j : Int) + k).toNat (bs M ((j : Int) + k).toNat) ∧ m % 2 ^ (min j (-k).toNat) = 0 ∧ Below w1.heap.size w1 wr
set_option maxRecDepth 100000 in
set_option maxHeartbeats 2000000 in
theorem Shift (z k : Int) (h0 : -half ≤ z) (h1 : z < half) (hk0 : -9223372036854775808 ≤ k) (hk1 : k ≤ 9223372036854775807) (w : World) :
    Calls Try.prog 31 #[.agg (wv z), .int .i64 k] w fun e w' => e = .returned (.tuple #[.agg (wv (opV (shR z k))), .int .i64 (opE (shR z k))]) ∧ Below w.heap.size w w' := by
  have HA := Lib.hid ((Row.new w 30 (wv z)).alloc (.cells (cv [0, 0, 0, 0, 0, 0]) 30))
  have HZ := Lib.hid (Row.at (Row.new (w.alloc (.cells (wv z) 30)) 30 (cv [0, 0, 0, 0, 0, 0])) (b' := w.heap.size + 1) (by simp))
  have HB := Lib.hid (((Below.refl w.heap.size w).alloc (Nat.le_refl _) (.cells (wv z) 30)).alloc (by simp) (.cells (cv [0, 0, 0, 0, 0, 0]) 30))
  obtain ⟨R, hR⟩ : ∃ R, R = shR z k := ⟨_, rfl⟩
  rw [← hR]
  have HSR := Lib.hid hR
  obtain ⟨m, hm⟩ : ∃ m, m = mag z := ⟨_, rfl⟩
  have HM := Lib.hid hm
  obtain ⟨n, hn⟩ : ∃ n, n = decide (z < 0) := ⟨_, rfl⟩
  have HN := Lib.hid hn
  have HR := Lib.hid (And.intro h0 h1)
  have hap := Apart z h0 h1
  rw [← hm, ← hn] at hap
  have HAP := Lib.hid hap
  have hm0 : 0 ≤ m := by rw [hm]; exact mag_nonneg z
  have hm1 : m < 2 ^ 384 := by
    have := mag_le h0 h1
    rw [two384, hm]
    have hp : (0 : Int) < half := by decide
    omega
  have HMB := Lib.hid (And.intro hm0 hm1)
  have hll := bl_fits hm0 hm1
  obtain ⟨l, hl⟩ : ∃ l, l = bl m := ⟨_, rfl⟩
  have HL := Lib.hid hl
  rw [← hl] at hll
  clear h0 h1 hR hm hn hap hm0 hm1 hl
  go_enter Try.func31, Try.ntmps31
  go_wp2_with (refine wpList_load_row rfl 30 _ rfl (w.heap.size) rfl 30 _ (0, 0) _ HA.out Try.underlying30 rfl (by kernel_rfl) ?_)
  refine (HAP.out _).mono ?_
  rintro e w1 ⟨b1, hb1, rfl, r1, k1⟩
  have Z1 := Lib.hid (HZ.out.below k1 HZ.out.lt)
  have B1 := Lib.hid (HB.out.trans (k1.mono HB.out.size))
  have R1 := Lib.hid r1
  have s1 := k1.size
  simp only [World.size_alloc] at s1 hb1
  have hsz := size m (some ⟨b1, 0, none⟩) 384 384 HMB.out.1 HMB.out.2 (by omega) w1 (lies_bits r1)
  rw [← HL.out] at hsz
  have HSZ := Lib.hid hsz
  clear k1 r1 hsz HA HZ HB HAP
  go_wp2_with fail
  refine HSZ.out.mono ?_
  rintro e w1' ⟨rfl, rfl⟩
  clear HSZ
  have hnull : Hid (l = 0 → R = some 0) := Lib.hid (fun h => by
    have : m = 0 := bl_null HMB.out.1 (by rw [← HL.out, h])
    rw [HSR.out]; unfold shR
    rw [if_pos]
    have := HM.out
    unfold mag at this
    split at this <;> omega)
  have hz : Hid (l ≠ 0 → z ≠ 0 ∧ 0 < m) := Lib.hid (fun h => by
    have h3 : m ≠ 0 := fun e => h (by rw [HL.out, e]; rfl)
    have := HMB.out.1
    refine ⟨fun e => h3 (by rw [HM.out, e]; rfl), by omega⟩)
  by_cases hl0 : l = 0
  · subst hl0
    have HR0 := Lib.hid (hnull.out rfl)
    clear hnull hz
    go_wp2_with (refine wpList_store_row rfl 30 _ _ rfl (w.heap.size + 1) _ rfl rfl 30 _ Z1.out ?_ ?_ ?_ ?_; kernel_rfl; (first | (rw [wv_size, wv_size]) | kernel_rfl); (first | exact cv_one _ | kernel_rfl))
    rw [HR0.out]
    refine bodyPost_ret (v := .tuple #[.agg (wv 0), .int .i64 0]) (results_two Try.results31 _ _ (w.heap.size + 1) 30 _ _ rfl _ rfl (Z1.out.put _) Try.underlying30 rfl (by kernel_rfl)) rfl ⟨by rw [wv_zero]; rfl, Row.put_below B1.out Z1.out (by omega) _⟩
  have hzz := Lib.hid (hz.out hl0)
  have hl1 : ¬ ((l : Int) = 0) := by omega
  have hl2 : ((l : Int) == 0) = false := by simpa using hl0
  clear hnull hz hl0
  have hnone : Hid (∀ K : Nat, k = K → ¬ m * 2 ^ K < 2 ^ 384 → R = none) := Lib.hid (fun K hK h => by
    rw [HSR.out]; unfold shR
    rw [if_neg hzz.out.1, if_pos (by omega), ← HM.out, ← HN.out, hK, Int.toNat_natCast, if_neg]
    rw [two384] at h
    have hp : (0 : Int) < half := by decide
    unfold fits
    cases n <;> simp <;> omega)
  have hupR : Hid (∀ K : Nat, k = K → R = if fits n (m * 2 ^ K) then some (sig n (m * 2 ^ K)) else none) := Lib.hid (fun K hK => by
    rw [HSR.out]; unfold shR
    rw [if_neg hzz.out.1, if_pos (by omega), ← HM.out, ← HN.out, hK, Int.toNat_natCast])
  have hnone2 : Hid (∀ K : Nat, 0 < K → -k = K → m % 2 ^ K ≠ 0 → R = none) := Lib.hid (fun K hK0 hK h => by
    rw [HSR.out]; unfold shR
    rw [if_neg hzz.out.1, if_neg (by omega), ← HM.out, hK, Int.toNat_natCast, if_neg h])
  have hdownR : Hid (∀ K : Nat, 0 < K → -k = K → m % 2 ^ K = 0 → R = if fits n (m / 2 ^ K) then some (sig n (m / 2 ^ K)) else none) := Lib.hid (fun K hK0 hK h => by
    have hf : fits n (m / 2 ^ K) = true := by
      rw [HN.out]
      refine fits_less (mag_fits HR.out.1 HR.out.2) ?_
      rw [HM.out]
      exact Int.ediv_le_self _ (mag_nonneg z)
    rw [hf, HSR.out]; unfold shR
    rw [if_neg hzz.out.1, if_neg (by omega), ← HM.out, ← HN.out, hK, Int.toNat_natCast, if_pos h]
    rfl)
  by_cases hfar : 384 < k
  · have HR0 := Lib.hid (hnone.out k.toNat (by omega) (by
      have h1 := hzz.out.2
      have h2 := pow_mono (q := 2) (m := 384) (n := k.toNat) two_pos (by omega)
      have h3 : 1 * 2 ^ k.toNat ≤ m * 2 ^ k.toNat := Int.mul_le_mul_of_nonneg_right (by omega) (Int.le_of_lt (pow_pos' two_pos _))
      omega))
    have hd1 : decide (384 < k) = true := by simpa using hfar
    clear hnone hupR hnone2 hdownR
    go_wp2_with (refine wpList_store_row rfl 30 _ _ rfl (w.heap.size + 1) _ rfl rfl 30 _ Z1.out ?_ ?_ ?_ ?_; kernel_rfl; (first | (rw [wv_size, wv_size]) | kernel_rfl); (first | exact cv_one _ | kernel_rfl))
    rw [HR0.out]
    refine bodyPost_ret (v := .tuple #[.agg (wv 0), .int .i64 21]) (results_two Try.results31 _ _ (w.heap.size + 1) 30 _ _ rfl _ rfl (Z1.out.put _) Try.underlying30 rfl (by kernel_rfl)) rfl ⟨by rw [wv_zero]; rfl, Row.put_below B1.out Z1.out (by omega) _⟩
  by_cases hlow : k < -384
  · have HR0 := Lib.hid (hnone2.out (-k).toNat (by omega) (by omega) (by
      have h2 := pow_mono (q := 2) (m := 384) (n := (-k).toNat) two_pos (by omega)
      have := HMB.out
      rw [Int.emod_eq_of_lt this.1 (by omega)]
      have := hzz.out.2
      omega))
    have hd1 : decide (k < -384) = true := by simpa using hlow
    clear hnone hupR hnone2 hdownR
    go_wp2_with (refine wpList_store_row rfl 30 _ _ rfl (w.heap.size + 1) _ rfl rfl 30 _ Z1.out ?_ ?_ ?_ ?_; kernel_rfl; (first | (rw [wv_size, wv_size]) | kernel_rfl); (first | exact cv_one _ | kernel_rfl))
    rw [HR0.out]
    refine bodyPost_ret (v := .tuple #[.agg (wv 0), .int .i64 21]) (results_two Try.results31 _ _ (w.heap.size + 1) 30 _ _ rfl _ rfl (Z1.out.put _) Try.underlying30 rfl (by kernel_rfl)) rfl ⟨by rw [wv_zero]; rfl, Row.put_below B1.out Z1.out (by omega) _⟩
  have hd1 : decide (384 < k) = false := by simpa using hfar
  have hd2 : decide (k < -384) = false := by simpa using hlow
  obtain ⟨M, hM⟩ : ∃ M, M = if 0 ≤ k then m * 2 ^ k.toNat else m / 2 ^ (-k).toNat := ⟨_, rfl⟩
  have HMM := Lib.hid hM
  have hkl : k ≤ 384 := by omega
  have hkl2 : -384 ≤ k := by omega
  have HL1 := Lib.hid (And.intro hl1 hll)
  clear hnone hM hfar hlow
  obtain ⟨i0, hi, hz0, hz1, hz2⟩ := info_parts infoI
  have s1' : w.heap.size ≤ w1.heap.size := by omega
  go_wp2
  go_loopw [9, 10] (fun c i wr => RelS1 w1 M k.toNat c i wr) (fun _ i _ => k.toNat - (intOf i).toNat)
  case atStart => exact ⟨0, Nat.zero_le _, rfl, World.ownsRow_nil _ _ _ _, Below.refl _ _⟩
  case round =>
    obtain ⟨j, hj, rfl, hown, hl⟩ := hrel
    rcases Nat.lt_or_ge j k.toNat with h6 | h6
    · have hkb : decide ((j : Int) < k) = true := by simp; omega
      have hkb2 : (j : Int) < k := by omega
      have hj0 : (j : Int) + 1 ≤ 384 := by omega
      have hdj : Hid (dig 2 M j = 0) := Lib.hid (by rw [HMM.out, if_pos (by omega)]; exact bit_up_low m h6)
      clear hkl hkl2
      go_wp2_with (at_builtin; refine wpList_append_own _ rfl _ _ 74 rfl w1.heap.size 3 i0 (.int .i64 0) 1 8 Try.underlying74 hi hz0 hz1 hz2 rfl (by decide) _ _ _ rfl (hown.alloc _) ⟨wr.heap.size, 0, none⟩ 1 1 [.int .i64 0] rfl rfl ?c1 ?c2 ?c3 ?c4 ?c5 ?_)
      case c1 =>
        intro j u hj
        match j, hj with
        | 0, hj => simp at hj; subst hj; simp [Addr.add]
      case c2 => intro u hu; simp at hu; subst hu; rfl
      case c3 => unfold maxLen; omega
      case c4 => omega
      case c5 => have := hl.size; simp; omega
      intro v' w2 hown' hgrow _
      have ho : w2.ownsRow w1.heap.size 3 1 v' (j + 1) (bs M (j + 1)) := by
        rw [bs_succ, hdj.out]
        exact hown'
      have hl' : Below w1.heap.size w1 w2 := (hl.alloc hl.size _).grown hgrow (by have := hl.size; simp; omega) (fun g hg => (hown.lt g hg).1)
      clear hown' hgrow hown hl
      go_wp2
      go_roundw
      case rel => exact ⟨j + 1, by omega, by go_num, ho, hl'⟩
      case measure => simp [intOf]; omega
    · obtain rfl : j = k.toNat := by omega
      have hkb : decide (((k.toNat : Nat) : Int) < k) = false := by simp; omega
      have hkb2 : ¬ (((k.toNat : Nat) : Int) < k) := by omega
      have hstart := Lib.hid (show RelS2 w1 m M k l u9 (.int .i64 0) wr from ⟨0, Nat.zero_le _, rfl, by simpa using hown, by simp [Int.emod_one], hl⟩)
      clear hown hl
      go_wp2
      go_loopw [9, 11] (fun c i wr => RelS2 w1 m M k l c i wr) (fun _ i _ => l - (intOf i).toNat)
      case atStart => exact hstart.out
      case round =>
        clear hstart
        obtain ⟨j, hj, rfl, hown, hmod, hl⟩ := hrel
        have hll := HL1.out.2
        rcases Nat.lt_or_ge j l with h6 | h6
        · have hkb : decide ((j : Int) < (l : Int)) = true := by simp; omega
          have hx := (R1.out.below hl R1.out.lt).get (iv_get (digs_get 2 m (show j < 384 by omega)))
          have f0 : (0 : Int) ≤ (j : Int) := by omega
          have f1 : (j : Int) < 384 := by omega
          have hlt := (R1.out.below hl R1.out.lt).lt
          have hbit := bit_le m j
          have HS := Lib.hid h6
          by_cases hneg : (j : Int) + k < 0
          · have hng : decide ((j : Int) + k < 0) = true := decide_eq_true hneg
            have hKj : Hid (j + 1 ≤ (-k).toNat ∧ -k = ((-k).toNat : Nat) ∧ 0 < (-k).toNat) := Lib.hid (by omega)
            have hms := mod_succ two_pos m j
            rw [show min j (-k).toNat = j by omega] at hmod
            rw [hmod, Int.zero_add] at hms
            by_cases hc : dig 2 m j = 0
            · have HMD := Lib.hid (show m % 2 ^ (min (j + 1) (-k).toNat) = 0 by rw [Nat.min_eq_left hKj.out.1, hms, hc, Int.mul_zero])
              rw [hc] at hx
              have e0 : ((j : Int) + k).toNat = 0 := by omega
              have HO := Lib.hid (show wr.ownsRow w1.heap.size 3 1 u9 (((j + 1 : Nat) : Int) + k).toNat (bs M (((j + 1 : Nat) : Int) + k).toNat) by
                rw [show (((j + 1 : Nat) : Int) + k).toNat = 0 by have := hKj.out; omega]
                rw [e0] at hown; exact hown)
              clear hown hmod hms hbit hc e0
              go_wp2
              go_roundw
              case rel => exact ⟨j + 1, by have := HS.out; omega, by go_num, HO.out, HMD.out, hl⟩
              case measure => simp [intOf]; have := HS.out; omega
            · have hc1 : dig 2 m j = 1 := by omega
              have HR0 := Lib.hid (hnone2.out (-k).toNat hKj.out.2.2 hKj.out.2.1 (fun h => by
                have h5 := mod_zero_of hKj.out.1 h
                rw [hms, hc1, Int.mul_one] at h5
                have := pow_pos' two_pos j
                omega))
              rw [hc1] at hx
              have Z2 := Lib.hid (Z1.out.below hl Z1.out.lt)
              have B2 := Lib.hid (B1.out.trans (hl.mono B1.out.size))
              clear hown hmod hms hbit hc hc1 hl
              go_wp2_with (refine wpList_store_row rfl 30 _ _ rfl (w.heap.size + 1) _ rfl rfl 30 _ Z2.out ?_ ?_ ?_ ?_; kernel_rfl; (first | (rw [wv_size, wv_size]) | kernel_rfl); (first | exact cv_one _ | kernel_rfl))
              rw [HR0.out]
              refine bodyPost_ret (v := .tuple #[.agg (wv 0), .int .i64 21]) (results_two Try.results31 _ _ (w.heap.size + 1) 30 _ _ rfl _ rfl (Z2.out.put _) Try.underlying30 rfl (by kernel_rfl)) rfl ⟨by rw [wv_zero]; rfl, Row.put_below B2.out Z2.out (by omega) _⟩
          · have hng : decide ((j : Int) + k < 0) = false := decide_eq_false hneg
            obtain ⟨c, hc⟩ : ∃ c : Nat, (j : Int) + k = c := ⟨((j : Int) + k).toNat, by omega⟩
            have HMD := Lib.hid (show m % 2 ^ (min (j + 1) (-k).toNat) = 0 by rw [show min (j + 1) (-k).toNat = min j (-k).toNat by omega]; exact hmod)
            have HDG := Lib.hid (show dig 2 M c = dig 2 m j by
              rw [HMM.out]
              split
              · rename_i g
                rw [show c = j + k.toNat by omega]; exact bit_up m k.toNat j
              · rename_i g
                rw [bit_down, show (-k).toNat + c = j by omega])
            have e1 : (((j + 1 : Nat) : Int) + k).toNat = c + 1 := by omega
            have e0 : ((j : Int) + k).toNat = c := by omega
            rw [e0] at hown
            have HE := Lib.hid e1
            have hcb : c ≤ 768 := by omega
            have HC := Lib.hid hc
            clear hmod hbit e1 e0 hc
            generalize dig 2 m j = x at *
            go_wp2_with (at_builtin; refine wpList_append_own _ rfl _ _ 74 rfl w1.heap.size 3 i0 (.int .i64 0) 1 8 Try.underlying74 hi hz0 hz1 hz2 rfl (by decide) _ _ _ rfl (hown.alloc _) ⟨wr.heap.size, 0, none⟩ 1 1 [.int .i64 x] rfl rfl ?d1 ?d2 ?d3 ?d4 ?d5 ?_)
            · rfl
            case d3 => unfold maxLen; omega
            case d4 => omega
            case d5 => have := hl.size; simp; omega
            intro v' w2 hown' hgrow _
            have ho : w2.ownsRow w1.heap.size 3 1 v' (((j + 1 : Nat) : Int) + k).toNat (bs M (((j + 1 : Nat) : Int) + k).toNat) := by
              rw [HE.out, bs_succ, HDG.out]
              exact hown'
            have hl' : Below w1.heap.size w1 w2 := (hl.alloc hl.size _).grown hgrow (by have := hl.size; simp; omega) (fun g hg => (hown.lt g hg).1)
            clear hown' hgrow hown hl hx
            go_wp2
            go_roundw
            case rel => exact ⟨j + 1, by have := HS.out; omega, by go_num, ho, HMD.out, hl'⟩
            case measure => simp [intOf]; have := HS.out; omega
        · obtain rfl : j = l := by omega
          have hkb : decide ((j : Int) < (j : Int)) = false := by simp
          have hKl : Hid (0 ≤ k ∨ (-k).toNat < j ∧ m % 2 ^ (-k).toNat = 0) := Lib.hid (by
            by_cases g : 0 ≤ k
            · exact Or.inl g
            · refine Or.inr ?_
              have h1 := hzz.out.2
              have h2 : m < 2 ^ j := by rw [HL.out]; exact bl_lt HMB.out.1
              by_cases g2 : (-k).toNat < j
              · exact ⟨g2, by rwa [Nat.min_eq_right (by omega)] at hmod⟩
              · rw [Nat.min_eq_left (by omega), Int.emod_eq_of_lt HMB.out.1 h2] at hmod
                omega)
          obtain ⟨c, hc⟩ : ∃ c : Nat, (j : Int) + k = c := ⟨((j : Int) + k).toNat, by have := hKl.out; omega⟩
          have e0 : ((j : Int) + k).toNat = c := by omega
          rw [e0] at hown
          have hM0 : 0 ≤ M := by
            rw [HMM.out]
            split
            · exact Int.mul_nonneg HMB.out.1 (Int.le_of_lt (pow_pos' two_pos _))
            · exact Int.ediv_nonneg HMB.out.1 (Int.le_of_lt (pow_pos' two_pos _))
          have hM1 : M < 2 ^ c := by
            have h2 : m < 2 ^ j := by rw [HL.out]; exact bl_lt HMB.out.1
            rw [HMM.out]
            split
            · rename_i g
              rw [show c = j + k.toNat by omega, Int.pow_add]
              exact Int.mul_lt_mul_of_pos_right h2 (pow_pos' two_pos _)
            · rename_i g
              refine Int.ediv_lt_of_lt_mul (pow_pos' two_pos _) ?_
              rw [← Int.pow_add, show c + (-k).toNat = j by omega]
              exact h2
          have HRR := Lib.hid (show R = if fits n M then some (sig n M) else none by
            rw [HMM.out]
            by_cases g : 0 ≤ k
            · rw [if_pos g]; exact hupR.out k.toNat (by omega)
            · rw [if_neg g]
              have := hKl.out
              rcases this with h | h
              · exact absurd h g
              · exact hdownR.out (-k).toNat (by omega) (by omega) h.2)
          obtain ⟨A, cp, hv, hcp, hlies⟩ := lies_of_own hown
          rw [hv]
          have HWH := Lib.hid (whole n M A c cp hM0 hM1 (by omega) wr hlies)
          have Z2 := Lib.hid (Z1.out.below hl Z1.out.lt)
          have B2 := Lib.hid (B1.out.trans (hl.mono B1.out.size))
          clear hown hmod hl hM0 hM1 hlies hc e0 hv
          go_wp2_with fail
          refine HWH.out.mono ?_
          rintro e w4 ⟨rfl, k4⟩
          have Z4 := Lib.hid (Z2.out.below k4 Z2.out.lt)
          have B4 := Lib.hid (B2.out.trans (k4.mono B2.out.size))
          have s4 : Hid (w.heap.size + 1 < w4.heap.size) := Lib.hid Z4.out.lt
          clear k4 Z2 B2
          have N4 := Lib.hid (Row.new w4 30 (cv [0, 0, 0, 0, 0, 0]))
          have N5 := Lib.hid (N4.out.put (wv (whV n M)))
          have Z5 := Lib.hid ((Z4.out.alloc (.cells (cv [0, 0, 0, 0, 0, 0]) 30)).put_other (b' := w4.heap.size) (by have := s4.out; omega) (wv (whV n M)))
          have B5 := Lib.hid (Row.put_below (B4.out.alloc B4.out.size (.cells (cv [0, 0, 0, 0, 0, 0]) 30)) N4.out B4.out.size (wv (whV n M)))
          have hwv : whV n M = if fits n M then sig n M else 0 := rfl
          have HWV := Lib.hid hwv
          clear hwv
          by_cases hfit : fits n M = true
          · rw [hfit]
            have HR0 := Lib.hid (show R = some (whV n M) by rw [HRR.out, HWV.out, if_pos hfit, if_pos hfit])
            clear hfit HRR HWV
            go_wp2_with (first | (refine wpList_store_row rfl 30 _ _ rfl (w4.heap.size) _ rfl rfl 30 _ N4.out ?_ ?_ ?_ ?_; kernel_rfl; (first | (rw [wv_size, wv_size]) | kernel_rfl); (first | exact cv_one _ | kernel_rfl)) | (refine wpList_store_row rfl 30 _ _ rfl (w.heap.size + 1) _ rfl rfl 30 _ Z5.out ?_ ?_ ?_ ?_; kernel_rfl; (first | (rw [wv_size, wv_size]) | kernel_rfl); (first | exact cv_one _ | kernel_rfl)) | (refine wpList_load_row rfl 30 _ rfl (w4.heap.size) rfl 30 _ (0, 0) _ N5.out Try.underlying30 rfl (by kernel_rfl) ?_))
            rw [HR0.out]
            refine bodyPost_ret (v := .tuple #[.agg (wv (whV n M)), .int .i64 0]) (results_two Try.results31 _ _ (w.heap.size + 1) 30 _ _ rfl _ rfl (Z5.out.put _) Try.underlying30 rfl (by kernel_rfl)) rfl ⟨rfl, Row.put_below B5.out Z5.out (by omega) _⟩
          · have HR0 := Lib.hid (show R = none by rw [HRR.out, if_neg hfit])
            rw [Bool.eq_false_iff.2 hfit]
            clear hfit HRR HWV
            go_wp2_with (first | (refine wpList_store_row rfl 30 _ _ rfl (w4.heap.size) _ rfl rfl 30 _ N4.out ?_ ?_ ?_ ?_; kernel_rfl; (first | (rw [wv_size, wv_size]) | kernel_rfl); (first | exact cv_one _ | kernel_rfl)) | (refine wpList_store_row rfl 30 _ _ rfl (w.heap.size + 1) _ rfl rfl 30 _ Z5.out ?_ ?_ ?_ ?_; kernel_rfl; (first | (rw [wv_size, wv_size]) | kernel_rfl); (first | exact cv_one _ | kernel_rfl)) | (refine wpList_load_row rfl 30 _ rfl (w4.heap.size) rfl 30 _ (0, 0) _ N5.out Try.underlying30 rfl (by kernel_rfl) ?_))
            rw [HR0.out]
            refine bodyPost_ret (v := .tuple #[.agg (wv 0), .int .i64 21]) (results_two Try.results31 _ _ (w.heap.size + 1) 30 _ _ rfl _ rfl (Z5.out.put _) Try.underlying30 rfl (by kernel_rfl)) rfl ⟨by rw [wv_zero]; rfl, Row.put_below B5.out Z5.out (by omega) _⟩
end Go.Proofs.Ytbbldcbilnkkdaa.Reck
