/-
  Sums of layer 2: Shift of the program. No condition.
-/
import Derived.Test.YtbbldcbilnkkdaaUp
import Derived.Test.YtbbldcbilnkkdaaReck7
import Derived.Test.YtbbldcbilnkkdaaAdd
set_option linter.unusedVariables false
set_option linter.unusedSimpArgs false
namespace Go.Proofs.Ytbbldcbilnkkdaa.Reck
open Go.RowKit Num Tly Ref K

/-- Does a greatness fit, by its sign? -/
def fits (n : Bool) (m : Int) : Bool := if n then decide (m ≤ half) else decide (m < half)
theorem two384 : (2 : Int) ^ 384 = half + half := by rw [show (384 : Nat) = 64 * 6 from rfl, ← pow64]; decide
theorem q6 : (18446744073709551616 : Int) ^ 6 = 2 ^ 384 := by rw [pow64]
theorem wv_mod (z x : Int) : wv (z + 2 ^ 384 * x) = wv z := by
  unfold wv
  rw [← q6, digs_mod q_pos z 6 x]
theorem sig_is (n : Bool) (m : Int) (h0 : 0 < m) (h1 : m < 2 ^ 384) : ∃ y, wv (sig n m) = wv y ∧ y ≠ 0 ∧ -half ≤ y ∧ y < half ∧ (decide (y < 0) == n) = fits n m ∧ (fits n m = true → y = sig n m) := by
  have hp : (0 : Int) < half := by decide
  rw [two384] at h1
  cases n
  · by_cases h : m < half
    · exact ⟨m, rfl, by omega, by omega, h, by rw [decide_eq_false (show ¬ m < 0 by omega)]; unfold fits; simp [h], fun _ => rfl⟩
    · refine ⟨m - (half + half), ?_, by omega, by omega, by omega, ?_, ?_⟩
      · have := wv_mod m (-1)
        rw [two384, Int.mul_neg, Int.mul_one] at this
        exact this.symm
      · rw [decide_eq_true (show m - (half + half) < 0 by omega)]; unfold fits; simp [h]
      · unfold fits; simp [h]
  · by_cases h : m ≤ half
    · refine ⟨-m, rfl, by omega, by omega, by omega, ?_, fun _ => rfl⟩
      rw [decide_eq_true (show -m < 0 by omega)]; unfold fits; simp [h]
    · refine ⟨-m + (half + half), ?_, by omega, by omega, by omega, ?_, ?_⟩
      · have := wv_mod (-m) 1
        rw [two384, Int.mul_one] at this
        exact this.symm
      · rw [decide_eq_false (show ¬ -m + (half + half) < 0 by omega)]; unfold fits; simp [h]
      · unfold fits; simp [h]
/-- What Shift makes. -/
def shR (z k : Int) : Option Int :=
  if z = 0 then some 0
  else if 0 ≤ k then (if fits (decide (z < 0)) (mag z * 2 ^ k.toNat) then some (sig (decide (z < 0)) (mag z * 2 ^ k.toNat)) else none)
  else if mag z % 2 ^ (-k).toNat = 0 then some (sig (decide (z < 0)) (mag z / 2 ^ (-k).toNat)) else none
def opV : Option Int → Int
  | some v => v
  | none => 0
def opE : Option Int → Int
  | some _ => 0
  | none => 21
theorem mag_pos {z : Int} (h : z ≠ 0) : 0 < mag z := by unfold mag; split <;> omega
theorem mag_nonneg (z : Int) : 0 ≤ mag z := by unfold mag; split <;> omega
theorem mag_le {z : Int} (h0 : -half ≤ z) (h1 : z < half) : mag z ≤ half := by unfold mag; split <;> omega
theorem mag_fits {z : Int} (h0 : -half ≤ z) (h1 : z < half) : fits (decide (z < 0)) (mag z) = true := by
  unfold fits mag
  by_cases h : z < 0
  · simp [h]; omega
  · simp [h]; omega
theorem fits_less {n : Bool} {m m' : Int} (h : fits n m = true) (hl : m' ≤ m) : fits n m' = true := by
  unfold fits at *
  cases n <;> simp at * <;> omega
set_option maxRecDepth 100000 in
set_option maxHeartbeats 2000000 in
theorem shift (z k : Int) (h0 : -half ≤ z) (h1 : z < half) (hk0 : -9223372036854775808 ≤ k) (hk1 : k ≤ 9223372036854775807) (w : World) :
    Calls Try.prog 30 #[.agg (wv z), .int .i64 k] w fun e w' => e = .returned (.tuple #[.agg (wv (opV (shR z k))), .int .i64 (opE (shR z k))]) ∧ Below w.heap.size w w' := by
  have HA := Lib.hid ((Row.new w 26 (wv z)).alloc (.cells (cv [0, 0, 0, 0, 0, 0]) 26))
  have HZ := Lib.hid (Row.at (Row.new (w.alloc (.cells (wv z) 26)) 26 (cv [0, 0, 0, 0, 0, 0])) (b' := w.heap.size + 1) (by simp))
  have HB := Lib.hid (((Below.refl w.heap.size w).alloc (Nat.le_refl _) (.cells (wv z) 26)).alloc (by simp) (.cells (cv [0, 0, 0, 0, 0, 0]) 26))
  have HR := Lib.hid (And.intro h0 h1)
  have HK := Lib.hid (And.intro hk0 hk1)
  obtain ⟨R, hR⟩ : ∃ R, R = shR z k := ⟨_, rfl⟩
  rw [← hR]
  have HSR := Lib.hid hR
  obtain ⟨m, hm⟩ : ∃ m, m = mag z := ⟨_, rfl⟩
  have HM := Lib.hid hm
  obtain ⟨n, hn⟩ : ∃ n, n = decide (z < 0) := ⟨_, rfl⟩
  have HN := Lib.hid hn
  have hap := apart z h0 h1
  rw [← hm, ← hn] at hap
  have HAP := Lib.hid hap
  have hm0 : 0 ≤ m := by rw [hm]; exact mag_nonneg z
  have hm1 : m < 2 ^ 384 := by
    have := mag_le h0 h1
    rw [two384, hm]
    have hp : (0 : Int) < half := by decide
    omega
  have HMB := Lib.hid (And.intro hm0 hm1)
  have hlen := length m hm0 (by rw [q6]; exact hm1)
  have HLEN := Lib.hid hlen
  have hll := bl_fits hm0 hm1
  obtain ⟨l, hl⟩ : ∃ l, l = bl m := ⟨_, rfl⟩
  have HL := Lib.hid hl
  rw [← hl] at hll
  clear h0 h1 hR hm hn hap hm0 hm1 hlen hl
  go_enter Try.func30, Try.ntmps30
  go_wp2_with (refine wpList_load_row rfl 26 _ rfl (w.heap.size) rfl 26 _ (0, 0) _ HA.out Try.underlying26 rfl (by kernel_rfl) ?_)
  refine (HAP.out _).mono ?_
  rintro e w1 ⟨rfl, k1⟩
  have Z1 := Lib.hid (HZ.out.below k1 HZ.out.lt)
  have B1 := Lib.hid (HB.out.trans (k1.mono HB.out.size))
  have s1 := k1.size
  simp only [World.size_alloc] at s1
  have M0 := Lib.hid (Row.new w1 26 (cv [0, 0, 0, 0, 0, 0]))
  clear k1
  go_wp2_with (first | (refine wpList_store_row rfl 26 _ _ rfl (w1.heap.size) _ rfl rfl 26 _ M0.out ?_ ?_ ?_ ?_; kernel_rfl; (first | (rw [wv_size, wv_size]) | kernel_rfl); (first | exact cv_one _ | kernel_rfl)) | (refine wpList_load_row rfl 26 _ rfl (w1.heap.size) rfl 26 _ (0, 0) _ (M0.out.put (wv m)) Try.underlying26 rfl (by kernel_rfl) ?_))
  refine (HLEN.out _).mono ?_
  rintro e w2 ⟨rfl, k2⟩
  have hgz : Hid (w1.heap.size ≠ w.heap.size + 1) := Lib.hid (by omega)
  have Z2 := Lib.hid (((Z1.out.alloc (.cells (cv [0, 0, 0, 0, 0, 0]) 26)).put_other (b' := w1.heap.size) (Ne.symm hgz.out) (wv m)).below k2 (by simp; omega))
  have M2 := Lib.hid ((M0.out.put (wv m)).below k2 (by simp))
  have B2 := Lib.hid ((Row.put_below (B1.out.alloc B1.out.size (.cells (cv [0, 0, 0, 0, 0, 0]) 26)) M0.out B1.out.size (wv m)).trans (k2.mono (by simp; omega)))
  obtain ⟨g, hg⟩ : ∃ g, g = w1.heap.size := ⟨_, rfl⟩
  rw [← hg] at hgz M2 ⊢
  have hgB : Hid (w.heap.size ≤ g) := Lib.hid (by omega)
  rw [← HL.out]
  clear k2 M0 Z1 B1 HA HZ HB hg s1 HAP HLEN
  have hnull : Hid (l = 0 → R = some 0) := Lib.hid (fun h => by
    have : m = 0 := bl_null HMB.out.1 (by rw [← HL.out, h])
    rw [HSR.out]; unfold shR
    rw [if_pos]
    have := HM.out
    unfold mag at this
    split at this <;> omega)
  have hz : Hid (l ≠ 0 → z ≠ 0 ∧ 0 < m) := Lib.hid (fun h => by
    have h3 : m ≠ 0 := fun e => h (by rw [HL.out, e]; rfl)
    have := HMB.out.1
    refine ⟨fun e => h3 (by rw [HM.out, e]; rfl), by omega⟩)
  by_cases hl0 : l = 0
  · subst hl0
    have HR0 := Lib.hid (hnull.out rfl)
    clear hnull hz
    go_wp2_with (refine wpList_store_row rfl 26 _ _ rfl (w.heap.size + 1) _ rfl rfl 26 _ Z2.out ?_ ?_ ?_ ?_; kernel_rfl; (first | (rw [wv_size, wv_size]) | kernel_rfl); (first | exact cv_one _ | kernel_rfl))
    rw [HR0.out]
    refine bodyPost_ret (v := .tuple #[.agg (wv 0), .int .i64 0]) (results_two Try.results30 _ _ (w.heap.size + 1) 26 _ _ rfl _ rfl (Z2.out.put _) Try.underlying26 rfl (by kernel_rfl)) rfl ⟨by rw [wv_zero]; rfl, Row.put_below B2.out Z2.out (by omega) _⟩
  · have hzz := Lib.hid (hz.out hl0)
    have hl1 : ¬ ((l : Int) = 0) := by omega
    have hl2 : ((l : Int) == 0) = false := by simpa using hl0
    clear hnull hz hl0
    have hnone : Hid (∀ K : Nat, k = K → ¬ m * 2 ^ K < 2 ^ 384 → R = none) := Lib.hid (fun K hK h => by
      rw [HSR.out]; unfold shR
      rw [if_neg hzz.out.1, if_pos (by omega), ← HM.out, ← HN.out, hK, Int.toNat_natCast, if_neg]
      rw [two384] at h
      have hp : (0 : Int) < half := by decide
      unfold fits
      cases n <;> simp <;> omega)
    have hupR : Hid (∀ K : Nat, k = K → R = if fits n (m * 2 ^ K) then some (sig n (m * 2 ^ K)) else none) := Lib.hid (fun K hK => by
      rw [HSR.out]; unfold shR
      rw [if_neg hzz.out.1, if_pos (by omega), ← HM.out, ← HN.out, hK, Int.toNat_natCast])
    have hnone2 : Hid (∀ K : Nat, 0 < K → -k = K → m % 2 ^ K ≠ 0 → R = none) := Lib.hid (fun K hK0 hK h => by
      rw [HSR.out]; unfold shR
      rw [if_neg hzz.out.1, if_neg (by omega), ← HM.out, hK, Int.toNat_natCast, if_neg h])
    have hdownR : Hid (∀ K : Nat, 0 < K → -k = K → m % 2 ^ K = 0 → R = if fits n (m / 2 ^ K) then some (sig n (m / 2 ^ K)) else none) := Lib.hid (fun K hK0 hK h => by
      have hf : fits n (m / 2 ^ K) = true := by
        rw [HN.out]
        refine fits_less (mag_fits HR.out.1 HR.out.2) ?_
        rw [HM.out]
        exact Int.ediv_le_self _ (mag_nonneg z)
      rw [hf, HSR.out]; unfold shR
      rw [if_neg hzz.out.1, if_neg (by omega), ← HM.out, ← HN.out, hK, Int.toNat_natCast, if_pos h]
      rfl)
    have hrk := HK.out
    have hlen1 : Hid (2 ^ (l - 1) ≤ m ∧ m < 2 ^ l ∧ 0 < l) := Lib.hid (by
      rw [HL.out]; exact ⟨bl_le hzz.out.2, bl_lt HMB.out.1, bl_pos hzz.out.2⟩)
    by_cases hbig : 0 ≤ k ∧ 384 - (l : Int) < k
    · obtain ⟨hkp, hbg⟩ := hbig
      have HR0 := Lib.hid (hnone.out k.toNat (by omega) (by
        have h1 := hlen1.out
        have h2 := pow_mono (q := 2) (m := 384) (n := (l - 1) + k.toNat) two_pos (by omega)
        have h3 : 2 ^ (l - 1) * 2 ^ k.toNat ≤ m * 2 ^ k.toNat := Int.mul_le_mul_of_nonneg_right h1.1 (Int.le_of_lt (pow_pos' two_pos _))
        rw [← Int.pow_add] at h3
        omega))
      have hd1 : decide (384 - (l : Int) < k) = true := by simpa using hbg
      clear hnone hupR hnone2 hdownR hlen1
      go_wp2_with (refine wpList_store_row rfl 26 _ _ rfl (w.heap.size + 1) _ rfl rfl 26 _ Z2.out ?_ ?_ ?_ ?_; kernel_rfl; (first | (rw [wv_size, wv_size]) | kernel_rfl); (first | exact cv_one _ | kernel_rfl))
      rw [HR0.out]
      refine bodyPost_ret (v := .tuple #[.agg (wv 0), .int .i64 21]) (results_two Try.results30 _ _ (w.heap.size + 1) 26 _ _ rfl _ rfl (Z2.out.put _) Try.underlying26 rfl (by kernel_rfl)) rfl ⟨by rw [wv_zero]; rfl, Row.put_below B2.out Z2.out (by omega) _⟩
    by_cases hfar : k ≤ -384
    · obtain ⟨K, hK⟩ : ∃ K : Nat, -k = K := ⟨(-k).toNat, by omega⟩
      have hkn : k < 0 := by omega
      have hkn2 : ¬ 0 ≤ k := by omega
      have HR0 := Lib.hid (hnone2.out K (by omega) hK (by
        have h2 := pow_mono (q := 2) (m := 384) (n := K) two_pos (by omega)
        have := HMB.out
        rw [Int.emod_eq_of_lt this.1 (by omega)]
        have := hzz.out.2
        omega))
      have hd1 : decide (k ≤ -384) = true := by simpa using hfar
      clear hnone hupR hnone2 hdownR hlen1 hbig
      go_wp2_with (refine wpList_store_row rfl 26 _ _ rfl (w.heap.size + 1) _ rfl rfl 26 _ Z2.out ?_ ?_ ?_ ?_; kernel_rfl; (first | (rw [wv_size, wv_size]) | kernel_rfl); (first | exact cv_one _ | kernel_rfl))
      rw [HR0.out]
      refine bodyPost_ret (v := .tuple #[.agg (wv 0), .int .i64 21]) (results_two Try.results30 _ _ (w.heap.size + 1) 26 _ _ rfl _ rfl (Z2.out.put _) Try.underlying26 rfl (by kernel_rfl)) rfl ⟨by rw [wv_zero]; rfl, Row.put_below B2.out Z2.out (by omega) _⟩
    obtain ⟨m0, m1, m2, m3, m4, m5, hm6⟩ := lit6 m
    by_cases hcc : k < 0 ∧ m % 2 ^ (-k).toNat ≠ 0
    · obtain ⟨hkn, hc⟩ := hcc
      obtain ⟨K, hK⟩ : ∃ K : Nat, -k = K := ⟨(-k).toNat, by omega⟩
      rw [hK, Int.toNat_natCast] at hc
      have hkn2 : ¬ 0 ≤ k := by omega
      have hd1 : decide (k ≤ -384) = false := by simpa using hfar
      have hbelow := below m K (by omega)
      have e1 : decide (m % 2 ^ K ≠ 0) = true := by simp [hc]
      rw [e1, hm6] at hbelow
      have HBL := Lib.hid hbelow
      have HR0 := Lib.hid (hnone2.out K (by omega) hK hc)
      have hcl := fun o => row_cell (M2.out.to hm6) o
      have hcg := M2.out.lt
      clear hnone hupR hnone2 hdownR hlen1 hbelow hc e1 hbig hm6
      go_wp2_with fail
      refine (HBL.out _).mono ?_
      rintro e w3 ⟨rfl, k3⟩
      have Z3 := Lib.hid (Z2.out.below k3 Z2.out.lt)
      have B3 := Lib.hid (B2.out.trans (k3.mono B2.out.size))
      clear k3 hcl hcg
      go_wp2_with (refine wpList_store_row rfl 26 _ _ rfl (w.heap.size + 1) _ rfl rfl 26 _ Z3.out ?_ ?_ ?_ ?_; kernel_rfl; (first | (rw [wv_size, wv_size]) | kernel_rfl); (first | exact cv_one _ | kernel_rfl))
      rw [HR0.out]
      refine bodyPost_ret (v := .tuple #[.agg (wv 0), .int .i64 21]) (results_two Try.results30 _ _ (w.heap.size + 1) 26 _ _ rfl _ rfl (Z3.out.put _) Try.underlying26 rfl (by kernel_rfl)) rfl ⟨by rw [wv_zero]; rfl, Row.put_below B3.out Z3.out (by omega) _⟩
    by_cases hkp : 0 ≤ k
    case' pos =>
      obtain ⟨K, hK⟩ : ∃ K : Nat, k = K := ⟨k.toNat, by omega⟩
      have hb1 := hlen1.out
      have hbg : k ≤ 384 - (l : Int) := by omega
      have hkn : ¬ k < 0 := by omega
      have hd1 : decide (384 - (l : Int) < k) = false := by simp; omega
      obtain ⟨M, hM⟩ : ∃ M, M = m * 2 ^ K := ⟨_, rfl⟩
      have hup := up m k (K / 64) (K % 64) (by omega) (by omega) (by omega)
      rw [show 64 * (K / 64) + K % 64 = K by omega, ← hM] at hup
      have HUP := Lib.hid hup
      have HF := Lib.hid (hupR.out K hK)
      rw [← hM] at HF
      have hMp : Hid (0 < M ∧ M < 2 ^ 384) := Lib.hid (by
        have hP : (0 : Int) < 2 ^ K := pow_pos' two_pos K
        refine ⟨by rw [hM]; exact Int.mul_pos hzz.out.2 hP, ?_⟩
        have h2 := pow_mono (q := 2) (m := l + K) (n := 384) two_pos (by omega)
        have h3 : m * 2 ^ K < 2 ^ l * 2 ^ K := Int.mul_lt_mul_of_pos_right hb1.2.1 hP
        rw [← Int.pow_add] at h3
        omega)
      clear hnone hupR hnone2 hdownR hlen1 hb1 hup hM hK hbig hfar hcc hm6
      go_wp2_with (refine wpList_load_row rfl 26 _ rfl (g) rfl 26 _ (0, 0) _ M2.out Try.underlying26 rfl (by kernel_rfl) ?_)
      refine (HUP.out _).mono ?_
      rintro e w3 ⟨rfl, k3⟩
      have Z3 := Lib.hid ((Z2.out.below k3 Z2.out.lt).put_other (b' := g) (Ne.symm hgz.out) (wv M))
      have M3 := Lib.hid ((M2.out.below k3 M2.out.lt).put (wv M))
      have B3 := Lib.hid (Row.put_below (B2.out.trans (k3.mono B2.out.size)) (M2.out.below k3 M2.out.lt) hgB.out (wv M))
      have M3' := Lib.hid (M2.out.below k3 M2.out.lt)
      clear k3 Z2 M2 B2
    case' neg =>
      obtain ⟨K, hK⟩ : ∃ K : Nat, -k = K := ⟨(-k).toNat, by omega⟩
      have hkn : k < 0 := by omega
      have hKb : (K : Int) < 384 := by omega
      have hc : m % 2 ^ K = 0 := by
        rw [hK, Int.toNat_natCast] at hcc
        exact Decidable.not_not.1 (fun h => hcc ⟨hkn, h⟩)
      have hd1 : decide (k ≤ -384) = false := by simpa using hfar
      have hbelow := below m K (by omega)
      have e1 : decide (m % 2 ^ K ≠ 0) = false := by simp [hc]
      rw [e1, hm6] at hbelow
      have HBL := Lib.hid hbelow
      obtain ⟨M, hM⟩ : ∃ M, M = m / 2 ^ K := ⟨_, rfl⟩
      have hdn := down m (K : Int) (K / 64) (K % 64) HMB.out.1 (by rw [q6]; exact HMB.out.2) (by omega) (by omega) (by omega)
      rw [show 64 * (K / 64) + K % 64 = K by omega, ← hM] at hdn
      have HDN := Lib.hid hdn
      have HF := Lib.hid (hdownR.out K (by omega) hK hc)
      rw [← hM] at HF
      have hMp : Hid (0 < M ∧ M < 2 ^ 384) := Lib.hid (by
        have hP : (0 : Int) < 2 ^ K := pow_pos' two_pos K
        have := HMB.out
        have h5 := Int.ediv_le_self (2 ^ K) this.1
        refine ⟨?_, by omega⟩
        have h4 := Int.mul_ediv_add_emod m (2 ^ K)
        rw [hc, ← hM, Int.add_zero] at h4
        have h6 := hzz.out.2
        rcases Int.lt_trichotomy M 0 with g | g | g
        · have := Int.ediv_nonneg this.1 (Int.le_of_lt hP); omega
        · rw [g, Int.mul_zero] at h4; omega
        · exact g)
      have hcl := fun o => row_cell (M2.out.to hm6) o
      have hcg := M2.out.lt
      clear hnone hupR hnone2 hdownR hlen1 hdn hM hbelow hc e1 hbig hfar hcc hm6
      go_wp2_with fail
      refine (HBL.out _).mono ?_
      rintro e w2' ⟨rfl, k2'⟩
      replace Z2 := Lib.hid (Z2.out.below k2' Z2.out.lt)
      replace B2 := Lib.hid (B2.out.trans (k2'.mono B2.out.size))
      replace M2 := Lib.hid (M2.out.below k2' M2.out.lt)
      clear k2' hcl hcg
      go_wp2_with (refine wpList_load_row rfl 26 _ rfl (g) rfl 26 _ (0, 0) _ M2.out Try.underlying26 rfl (by kernel_rfl) ?_)
      refine (HDN.out _).mono ?_
      rintro e w3 ⟨rfl, k3⟩
      have Z3 := Lib.hid ((Z2.out.below k3 Z2.out.lt).put_other (b' := g) (Ne.symm hgz.out) (wv M))
      have M3 := Lib.hid ((M2.out.below k3 M2.out.lt).put (wv M))
      have B3 := Lib.hid (Row.put_below (B2.out.trans (k3.mono B2.out.size)) (M2.out.below k3 M2.out.lt) hgB.out (wv M))
      have M3' := Lib.hid (M2.out.below k3 M2.out.lt)
      clear k3 Z2 M2 B2
    all_goals
      obtain ⟨y, hy1, hy2, hy3, hy4, hy5, hy6⟩ := sig_is n M hMp.out.1 hMp.out.2
      have hsg := signed n M y hy1 hy2 hy3 hy4
      rw [hy5] at hsg
      have HSG := Lib.hid hsg
      have HY := Lib.hid hy6
      clear hsg hy1 hy2 hy3 hy4 hy5 hy6
      go_wp2_with (first | (refine wpList_store_row rfl 26 _ _ rfl (g) _ rfl rfl 26 _ M3'.out ?_ ?_ ?_ ?_; kernel_rfl; (first | (rw [wv_size, wv_size]) | kernel_rfl); (first | exact cv_one _ | kernel_rfl)) | (refine wpList_load_row rfl 26 _ rfl (g) rfl 26 _ (0, 0) _ M3.out Try.underlying26 rfl (by kernel_rfl) ?_))
      refine (HSG.out _).mono ?_
      rintro e w4 ⟨rfl, k4⟩
      have Z4 := Lib.hid (Z3.out.below k4 Z3.out.lt)
      have B4 := Lib.hid (B3.out.trans (k4.mono B3.out.size))
      have s4 : Hid (w.heap.size + 1 < w4.heap.size) := Lib.hid (Z4.out.lt)
      clear k4 Z3 B3 M3 M3'
      have N4 := Lib.hid (Row.new w4 26 (cv [0, 0, 0, 0, 0, 0]))
      have N5 := Lib.hid (N4.out.put (wv y))
      have Z5 := Lib.hid ((Z4.out.alloc (.cells (cv [0, 0, 0, 0, 0, 0]) 26)).put_other (b' := w4.heap.size) (by have := s4.out; omega) (wv y))
      have B5 := Lib.hid (Row.put_below (B4.out.alloc B4.out.size (.cells (cv [0, 0, 0, 0, 0, 0]) 26)) N4.out B4.out.size (wv y))
      by_cases hfit : fits n M = true
      · rw [hfit]
        have HR0 := Lib.hid (show R = some y by rw [HF.out, if_pos hfit, HY.out hfit])
        clear hfit HF HY
        go_wp2_with (first | (refine wpList_store_row rfl 26 _ _ rfl (w4.heap.size) _ rfl rfl 26 _ N4.out ?_ ?_ ?_ ?_; kernel_rfl; (first | (rw [wv_size, wv_size]) | kernel_rfl); (first | exact cv_one _ | kernel_rfl)) | (refine wpList_store_row rfl 26 _ _ rfl (w.heap.size + 1) _ rfl rfl 26 _ Z5.out ?_ ?_ ?_ ?_; kernel_rfl; (first | (rw [wv_size, wv_size]) | kernel_rfl); (first | exact cv_one _ | kernel_rfl)) | (refine wpList_load_row rfl 26 _ rfl (w4.heap.size) rfl 26 _ (0, 0) _ N5.out Try.underlying26 rfl (by kernel_rfl) ?_))
        rw [HR0.out]
        refine bodyPost_ret (v := .tuple #[.agg (wv y), .int .i64 0]) (results_two Try.results30 _ _ (w.heap.size + 1) 26 _ _ rfl _ rfl (Z5.out.put _) Try.underlying26 rfl (by kernel_rfl)) rfl ⟨rfl, Row.put_below B5.out Z5.out (by omega) _⟩
      · have HR0 := Lib.hid (show R = none by rw [HF.out, if_neg hfit])
        rw [Bool.eq_false_iff.2 hfit]
        clear hfit HF HY
        go_wp2_with (first | (refine wpList_store_row rfl 26 _ _ rfl (w4.heap.size) _ rfl rfl 26 _ N4.out ?_ ?_ ?_ ?_; kernel_rfl; (first | (rw [wv_size, wv_size]) | kernel_rfl); (first | exact cv_one _ | kernel_rfl)) | (refine wpList_store_row rfl 26 _ _ rfl (w.heap.size + 1) _ rfl rfl 26 _ Z5.out ?_ ?_ ?_ ?_; kernel_rfl; (first | (rw [wv_size, wv_size]) | kernel_rfl); (first | exact cv_one _ | kernel_rfl)) | (refine wpList_load_row rfl 26 _ rfl (w4.heap.size) rfl 26 _ (0, 0) _ N5.out Try.underlying26 rfl (by kernel_rfl) ?_))
        rw [HR0.out]
        refine bodyPost_ret (v := .tuple #[.agg (wv 0), .int .i64 21]) (results_two Try.results30 _ _ (w.heap.size + 1) 26 _ _ rfl _ rfl (Z5.out.put _) Try.underlying26 rfl (by kernel_rfl)) rfl ⟨by rw [wv_zero]; rfl, Row.put_below B5.out Z5.out (by omega) _⟩
end Go.Proofs.Ytbbldcbilnkkdaa.Reck
