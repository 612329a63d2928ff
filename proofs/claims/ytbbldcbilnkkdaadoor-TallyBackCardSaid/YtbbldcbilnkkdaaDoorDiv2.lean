/-
  bits.Div64. No condition.
-/
import Derived.Test.YtbbldcbilnkkdaaDoorDiv
import Derived.Test.YtbbldcbilnkkdaaDoorUp
import Derived.Test.YtbbldcbilnkkdaaDoorShelf
set_option linter.unusedVariables false
set_option linter.unusedSimpArgs false
namespace Go.Proofs.YtbbldcbilnkkdaaDoor.Reck
open Go.RowKit Num Tly Ref K

theorem norm_shift (y : Int) (h0 : 0 < y) (h1 : y < 18446744073709551616) : ∃ s : Nat, s < 64 ∧ 9223372036854775808 ≤ y * 2 ^ s ∧ y * 2 ^ s < 18446744073709551616 ∧ (64 - (Lib.bitLen y.toNat : Int)) = (s : Int) := by
  have e := bitLen_bl y.toNat (by omega)
  rw [Int.toNat_of_nonneg (Int.le_of_lt h0)] at e
  have hb := bl_pos h0
  have hf := bl_fits (m := y) (n := 64) (by omega) (by exact h1)
  have h2 := bl_le h0
  have h3 := bl_lt (m := y) (by omega)
  obtain ⟨k, hk⟩ : ∃ k, bl y = k + 1 := ⟨bl y - 1, by omega⟩
  rw [hk] at h2 h3 hf e
  rw [Nat.add_sub_cancel] at h2
  refine ⟨63 - k, by omega, ?_, ?_, by rw [e]; omega⟩
  · have := Int.mul_le_mul_of_nonneg_right h2 (Int.le_of_lt (pow_pos' two_pos (63 - k)))
    rw [← Int.pow_add, show k + (63 - k) = 63 by omega] at this
    exact this
  · have := Int.mul_lt_mul_of_pos_right h3 (pow_pos' two_pos (63 - k))
    rw [← Int.pow_add, show k + 1 + (63 - k) = 64 by omega] at this
    exact this
theorem mul_small {x y : Int} (x0 : 0 ≤ x) (x1 : x < 4294967296) (y0 : 0 ≤ y) (y1 : y < 4294967296) : 0 ≤ x * y ∧ x * y < 18446744073709551616 := by
  have h1 := Int.mul_nonneg x0 y0
  have h2 : x * y ≤ 4294967295 * y := Int.mul_le_mul_of_nonneg_right (by omega) y0
  omega
theorem est_init {a d y1 y0 v : Int} (hv : v = y1 * 4294967296 + y0) (h1 : 2147483648 ≤ y1) (h1' : y1 < 4294967296) (h0 : 0 ≤ y0) (h0' : y0 < 4294967296) (ha0 : 0 ≤ a) (ha : a < v) (hv64 : v < 18446744073709551616) (hd0 : 0 ≤ d) (hd : d < 4294967296) :
    ∃ q r p : Int, a.tdiv y1 = q ∧ IntKind.u64.wrap q = q ∧ IntKind.u64.wrap (q * y1) = p ∧ IntKind.u64.wrap (a - p) = r ∧ Est a d y1 v q r := by
  have hE := est_start hv h1 h1' h0 h0' ha0 ha hd0 hd
  have h3 := hE.sum
  have h4 := hE.rlo
  have h5 := hE.rhi
  have h6 := hE.top
  have h7 := hE.nonneg
  have h8 := Int.mul_nonneg h7 (show 0 ≤ y1 by omega)
  refine ⟨a / y1, a % y1, a / y1 * y1, Int.tdiv_eq_ediv_of_nonneg ha0, ?_, ?_, ?_, hE⟩
  · rw [IntKind.wrap_u64]; omega
  · rw [IntKind.wrap_u64]; generalize a / y1 * y1 = X at *; omega
  · rw [IntKind.wrap_u64]; generalize a / y1 * y1 = X at *; omega
theorem est_rest {a d v q : Int} (hv : 0 < v) (hv64 : v < 18446744073709551616) (hq : q = (a * 4294967296 + d) / v) :
    ∃ A1 A2 A3 u : Int, IntKind.u64.wrap (a * 4294967296) = A1 ∧ IntKind.u64.wrap (A1 + d) = A2 ∧ IntKind.u64.wrap (q * v) = A3 ∧ IntKind.u64.wrap (A2 - A3) = u ∧ u = (a * 4294967296 + d) % v ∧ 0 ≤ u ∧ u < v := by
  refine ⟨_, _, _, _, rfl, rfl, rfl, rfl, ?_, ?_⟩
  · simp only [IntKind.wrap_u64]
    rw [Int.emod_add_emod, hq]
    exact wrap_rest _ _ _ (by decide) hv (by omega)
  · have e : IntKind.u64.wrap (IntKind.u64.wrap (IntKind.u64.wrap (a * 4294967296) + d) - IntKind.u64.wrap (q * v)) = (a * 4294967296 + d) % v := by
      simp only [IntKind.wrap_u64]
      rw [Int.emod_add_emod, hq]
      exact wrap_rest _ _ _ (by decide) hv (by omega)
    rw [e]
    exact ⟨Int.emod_nonneg _ (by omega), Int.emod_lt_of_pos _ hv⟩
def RelEst (a d y1 v : Int) (qv rv : Value) : Prop := ∃ q r : Int, qv = .int .u64 q ∧ rv = .int .u64 r ∧ Est a d y1 v q r
set_option maxRecDepth 100000 in
set_option maxHeartbeats 2000000 in
theorem div64 (hi lo y : Int) (h0 : 0 ≤ hi) (h1 : hi < y) (l0 : 0 ≤ lo) (l1 : lo < 18446744073709551616) (y1 : y < 18446744073709551616) (w : World) :
    Calls Tryd.prog 54 #[.int .u64 hi, .int .u64 lo, .int .u64 y] w fun e w' => e = .returned (.tuple #[.int .u64 ((hi * 18446744073709551616 + lo) / y), .int .u64 ((hi * 18446744073709551616 + lo) % y)]) ∧ Below w.heap.size w w' := by
  have HR := Lib.hid (And.intro h0 (And.intro h1 (And.intro l0 (And.intro l1 y1))))
  obtain ⟨Q, hQ⟩ : ∃ Q, Q = (hi * 18446744073709551616 + lo) / y := ⟨_, rfl⟩
  obtain ⟨R, hR⟩ : ∃ R, R = (hi * 18446744073709551616 + lo) % y := ⟨_, rfl⟩
  rw [← hQ, ← hR]
  have HQ := Lib.hid hQ
  have HRR := Lib.hid hR
  clear hQ hR
  have g0 : ¬ y = 0 := by omega
  have g0' : (y == 0) = false := by simpa using g0
  have g1 : ¬ y ≤ hi := by omega
  have g1' : decide (y ≤ hi) = false := by simpa using g1
  by_cases hz : hi = 0
  · subst hz
    have e1 : Hid (Q = lo / y) := Lib.hid (by rw [HQ.out]; simp)
    have e2 : Hid (R = lo % y) := Lib.hid (by rw [HRR.out]; simp)
    have t1 : lo.tdiv y = lo / y := Int.tdiv_eq_ediv_of_nonneg l0
    have t2 : lo.tmod y = lo % y := Int.tmod_eq_emod_of_nonneg l0
    have t3 : IntKind.u64.wrap (lo / y) = lo / y := by
      rw [IntKind.wrap_u64]
      have := Int.ediv_nonneg l0 (show 0 ≤ y by omega)
      have := Int.ediv_le_self y l0
      omega
    clear h0 h1 l0 l1 y1
    go_enter Tryd.func54, Tryd.ntmps54
    go_wp2_with fail
    go_region
    go_wp2
    go_ret2
    rw [e1.out, e2.out]
    exact ⟨rfl, (Below.refl _ _).drew⟩
  · have hz' : (hi == 0) = false := by simpa using hz
    obtain ⟨s, hs64, hs1, hs2, hsv⟩ := norm_shift y (by omega) y1
    have hlz := Tryd.bits_LeadingZeros64 y w (by omega) (by omega)
    rw [hsv] at hlz
    have HLZ := Lib.hid hlz
    clear hlz hsv
    obtain ⟨v, hv⟩ : ∃ v, v = y * 2 ^ s := ⟨_, rfl⟩
    rw [← hv] at hs1 hs2
    obtain ⟨L, hL⟩ : ∃ L, L = lo * 2 ^ s % 18446744073709551616 := ⟨_, rfl⟩
    obtain ⟨a, ha⟩ : ∃ a, a = hi * 2 ^ s + lo / 2 ^ (64 - s) := ⟨_, rfl⟩
    have hL0 := Int.emod_nonneg (lo * 2 ^ s) (b := 18446744073709551616) (by decide)
    have hL1 := Int.emod_lt_of_pos (lo * 2 ^ s) (b := 18446744073709551616) (by decide)
    rw [← hL] at hL0 hL1
    have hU : (hi * 18446744073709551616 + lo) * 2 ^ s = a * 18446744073709551616 + L := by
      rw [hL, mul_mod_pow lo (by omega), ha, Int.add_mul, Int.add_mul]
      have h3 := Int.mul_ediv_add_emod lo (2 ^ (64 - s))
      have h4 : lo * 2 ^ s = 2 ^ s * (2 ^ (64 - s) * (lo / 2 ^ (64 - s)) + lo % 2 ^ (64 - s)) := by rw [h3, Int.mul_comm]
      rw [h4, Int.mul_add, ← Int.mul_assoc, ← q_split (by omega), Int.mul_comm (lo / 2 ^ (64 - s)), Int.mul_assoc hi, Int.mul_comm 18446744073709551616 (2 ^ s), ← Int.mul_assoc]
      omega
    have hsp : (0 : Int) < 2 ^ s := pow_pos' two_pos s
    have hav : a < v := by
      have h3 : (hi * 18446744073709551616 + lo) * 2 ^ s < (y * 18446744073709551616) * 2 ^ s := Int.mul_lt_mul_of_pos_right (by omega) hsp
      have h4 : y * 18446744073709551616 * 2 ^ s = v * 18446744073709551616 := by rw [hv, Int.mul_assoc, Int.mul_comm 18446744073709551616, ← Int.mul_assoc]
      omega
    have hhs : 0 ≤ hi * 2 ^ s := Int.mul_nonneg h0 (Int.le_of_lt hsp)
    have hls : 0 ≤ lo / 2 ^ (64 - s) := Int.ediv_nonneg l0 (Int.le_of_lt (pow_pos' two_pos _))
    have ha0 : 0 ≤ a := by omega
    have u1 : IntKind.u64.wrap (y * 2 ^ s) = v := by rw [IntKind.wrap_u64, ← hv]; omega
    have u2 : IntKind.u64.wrap (lo * 2 ^ s) = L := by rw [IntKind.wrap_u64, hL]
    have u3 : bits .or .u64 (IntKind.u64.wrap (hi * 2 ^ s)) (lo / 2 ^ (64 - s)) = a := by
      have := up_or hi lo (b := s) (by omega) h0 l0 l1
      rw [this, ha, Int.emod_eq_of_lt hhs (by omega)]
    obtain ⟨c1, hc1⟩ : ∃ c, c = v / 4294967296 := ⟨_, rfl⟩
    obtain ⟨c0, hc0⟩ : ∃ c, c = v % 4294967296 := ⟨_, rfl⟩
    obtain ⟨d1, hd1⟩ : ∃ d, d = L / 4294967296 := ⟨_, rfl⟩
    obtain ⟨d0, hd0⟩ : ∃ d, d = L % 4294967296 := ⟨_, rfl⟩
    have u4 : bits .and .u64 v 4294967295 = c0 := by rw [and_low32 v (by omega) (by omega), hc0]
    have u5 : bits .and .u64 L 4294967295 = d0 := by rw [and_low32 L hL0 hL1, hd0]
    have u6 : v / 4294967296 = c1 := hc1.symm
    have u7 : L / 4294967296 = d1 := hd1.symm
    have x1 : IntKind.u64.wrap (s : Int) = s := by rw [IntKind.wrap_u64]; omega
    have x2 : min s 64 = s := by omega
    have x3 : IntKind.u64.wrap (64 - (s : Int)) = 64 - (s : Int) := by rw [IntKind.wrap_u64]; omega
    have x4 : (64 - (s : Int)).toNat = 64 - s := by omega
    have x5 : min (64 - s) 64 = 64 - s := by omega
    have BC := Lib.hid (show v = c1 * 4294967296 + c0 ∧ 2147483648 ≤ c1 ∧ c1 < 4294967296 ∧ 0 ≤ c0 ∧ c0 < 4294967296 ∧ 0 < v by omega)
    have BD := Lib.hid (show L = d1 * 4294967296 + d0 ∧ 0 ≤ d1 ∧ d1 < 4294967296 ∧ 0 ≤ d0 ∧ d0 < 4294967296 by omega)
    have BA := Lib.hid (show 0 ≤ a ∧ a < v ∧ v < 18446744073709551616 by omega)
    have HV := Lib.hid hv
    have HU := Lib.hid hU
    obtain ⟨q0, r0, p0, t1, t2, t3, t4, hE⟩ := est_init BC.out.1 BC.out.2.1 BC.out.2.2.1 BC.out.2.2.2.1 BC.out.2.2.2.2.1 ha0 hav (by omega) BD.out.2.1 BD.out.2.2.1
    have HE := Lib.hid hE
    have z1 : ¬ c1 = 0 := by have := BC.out; omega
    have z2 : (c1 == 0) = false := by simpa using z1
    clear h0 h1 l0 l1 y1 hv hL ha hL0 hL1 hU hav hhs hls ha0 hc1 hc0 hd1 hd0 hE hs1 hs2 hsp hz
    go_enter Tryd.func54, Tryd.ntmps54
    go_wp2_with (go_at_call 80; refine HLZ.out.mono ?_; rintro e w1 ⟨rfl, rfl⟩)
    clear u1 u2 u3 u4 u5 u6 u7 x3 x4 x5 t1 t2 t3 t4
    go_loop [15, 16] (fun qv rv => RelEst a d1 c1 v qv rv) (fun qv _ => (intOf qv).toNat)
    case atStart => exact ⟨q0, r0, rfl, rfl, HE.out⟩
    case round =>
      clear HE
      obtain ⟨q, r, rfl, rfl, E⟩ := hrel
      have E1 := Lib.hid E
      clear E
      have hstep : Hid ((4294967296 ≤ q ∨ 4294967296 * r + d1 < q * c0) → (q - 1) * c1 + (r + c1) = a ∧ (a * 4294967296 + d1) / v ≤ q - 1 ∧ q - 1 ≤ 4294967296 ∧ 0 ≤ q - 1) := Lib.hid (fun hc => est_next BC.out.1 BC.out.2.1 BC.out.2.2.2.1 BC.out.2.2.2.2.1 BA.out.1 BA.out.2.1 (by have := BD.out; omega) (by have := BD.out; omega) E1.out hc)
      have hsm : q < 4294967296 → 0 ≤ q * c0 ∧ q * c0 < 18446744073709551616 := fun h => mul_small E1.out.nonneg h BC.out.2.2.2.1 BC.out.2.2.2.2.1
      obtain ⟨P, hP⟩ : ∃ P, P = q * c0 := ⟨_, rfl⟩
      have HP := Lib.hid hP
      rw [← hP] at hsm hstep
      have hb := E1.out.rlo
      have hb2 := E1.out.rhi
      have hb3 := E1.out.nonneg
      have hb4 := E1.out.top
      have hbd := BD.out
      have hbc := BC.out
      have k3 : IntKind.u64.wrap (4294967296 * r) = 4294967296 * r := by rw [IntKind.wrap_u64]; omega
      have k4 : IntKind.u64.wrap (4294967296 * r + d1) = 4294967296 * r + d1 := by rw [IntKind.wrap_u64]; omega
      have k7 : IntKind.u64.wrap (r + c1) = r + c1 := by rw [IntKind.wrap_u64]; omega
      have k2 : q < 4294967296 → IntKind.u64.wrap (q * c0) = P := fun h => by rw [← hP, IntKind.wrap_u64]; have := hsm h; omega
      have k6 : (4294967296 ≤ q ∨ 4294967296 * r + d1 < P) → IntKind.u64.wrap (q - 1) = q - 1 := fun h => by rw [IntKind.wrap_u64]; have := hstep.out h; omega
      have K2 := Lib.hid k2
      have K6 := Lib.hid k6
      have HB := Lib.hid (And.intro hb (And.intro hb2 (And.intro hb3 hb4)))
      clear k2 k6 hb hb2 hb3 hb4 hbd hbc hsm hP
      by_cases hloop : (4294967296 ≤ q ∨ 4294967296 * r + d1 < P) ∧ r + c1 < 4294967296
      · obtain ⟨hc, hf⟩ := hloop
        have HN := Lib.hid (show RelEst a d1 c1 v (.int .u64 (q - 1)) (.int .u64 (r + c1)) from ⟨_, _, rfl, rfl, (hstep.out hc).1, (hstep.out hc).2.1, by have := hstep.out hc; omega, (hstep.out hc).2.2.2, by have := BC.out; have := HB.out; omega, hf⟩)
        have k6 := K6.out hc
        have k8 : decide (4294967296 ≤ r + c1) = false := by simp; omega
        have HQ1 := Lib.hid (show 1 ≤ q by have := hstep.out hc; omega)
        by_cases hb : 4294967296 ≤ q
        · have k1 : decide (4294967296 ≤ q) = true := decide_eq_true hb
          clear hc hf hb hstep
          go_wp2
          go_round
          case rel => exact HN.out
          case measure => simp [intOf]; have := HQ1.out; omega
        · have k1 : decide (4294967296 ≤ q) = false := decide_eq_false hb
          have k2 := K2.out (by omega)
          have k5 : decide (4294967296 * r + d1 < P) = true := decide_eq_true (by omega)
          clear hc hf hb hstep
          go_wp2
          go_round
          case rel => exact HN.out
          case measure => simp [intOf]; have := HQ1.out; omega
      have hends : (4294967296 ≤ q ∧ 4294967296 ≤ r + c1) ∨ (q < 4294967296 ∧ 4294967296 * r + d1 < P ∧ 4294967296 ≤ r + c1) ∨ (q < 4294967296 ∧ ¬ 4294967296 * r + d1 < P) := by omega
      rcases hends with ⟨hb, hf⟩ | ⟨hb, hc, hf⟩ | ⟨hb, hc⟩
      case' inl =>
        have k1 : decide (4294967296 ≤ q) = true := decide_eq_true hb
        have hn := hstep.out (Or.inl hb)
        have k6 := K6.out (Or.inl hb)
        have k8 : decide (4294967296 ≤ r + c1) = true := decide_eq_true hf
        obtain ⟨q1, hq1⟩ : ∃ x, x = q - 1 := ⟨_, rfl⟩
        replace k6 := k6.trans hq1.symm
        have Hq1 := Lib.hid (show q1 = (a * 4294967296 + d1) / v by rw [hq1]; exact est_far BC.out.1 BC.out.2.2.2.2.2 BC.out.2.2.2.1 BC.out.2.2.2.2.1 (by have := BD.out; omega) hn.1 hn.2.1 hn.2.2.1 hn.2.2.2 hf)
        clear hb hf hn hstep hloop hq1
        obtain ⟨A1, A2, A3, u, e1, e2, e3, e4, hu, hu0, hu1⟩ := est_rest BC.out.2.2.2.2.2 BA.out.2.2 Hq1.out
        obtain ⟨q02, r02, p02, t1, t2, t3, t4, hE2⟩ := est_init BC.out.1 BC.out.2.1 BC.out.2.2.1 BC.out.2.2.2.1 BC.out.2.2.2.2.1 hu0 hu1 BA.out.2.2 BD.out.2.2.2.1 BD.out.2.2.2.2
        have HE2 := Lib.hid hE2
        have HU2 := Lib.hid hu
        have BA2 := Lib.hid (And.intro hu0 (And.intro hu1 BA.out.2.2))
        clear hE2 hu hu0 hu1
        go_wp2
      case' inr.inl =>
        have k1 : decide (4294967296 ≤ q) = false := decide_eq_false (by omega)
        have k2 := K2.out hb
        have k5 : decide (4294967296 * r + d1 < P) = true := decide_eq_true hc
        have hn := hstep.out (Or.inr hc)
        have k6 := K6.out (Or.inr hc)
        have k8 : decide (4294967296 ≤ r + c1) = true := decide_eq_true hf
        obtain ⟨q1, hq1⟩ : ∃ x, x = q - 1 := ⟨_, rfl⟩
        replace k6 := k6.trans hq1.symm
        have Hq1 := Lib.hid (show q1 = (a * 4294967296 + d1) / v by rw [hq1]; exact est_far BC.out.1 BC.out.2.2.2.2.2 BC.out.2.2.2.1 BC.out.2.2.2.2.1 (by have := BD.out; omega) hn.1 hn.2.1 hn.2.2.1 hn.2.2.2 hf)
        clear hb hf hc hn hstep hloop hq1
        obtain ⟨A1, A2, A3, u, e1, e2, e3, e4, hu, hu0, hu1⟩ := est_rest BC.out.2.2.2.2.2 BA.out.2.2 Hq1.out
        obtain ⟨q02, r02, p02, t1, t2, t3, t4, hE2⟩ := est_init BC.out.1 BC.out.2.1 BC.out.2.2.1 BC.out.2.2.2.1 BC.out.2.2.2.2.1 hu0 hu1 BA.out.2.2 BD.out.2.2.2.1 BD.out.2.2.2.2
        have HE2 := Lib.hid hE2
        have HU2 := Lib.hid hu
        have BA2 := Lib.hid (And.intro hu0 (And.intro hu1 BA.out.2.2))
        clear hE2 hu hu0 hu1
        go_wp2
      case' inr.inr =>
        have k1 : decide (4294967296 ≤ q) = false := decide_eq_false (by omega)
        have k2 := K2.out hb
        have k5 : decide (4294967296 * r + d1 < P) = false := decide_eq_false hc
        obtain ⟨q1, hq1⟩ : ∃ x, x = q := ⟨_, rfl⟩
        have Hq1 := Lib.hid (show q1 = (a * 4294967296 + d1) / v by rw [hq1]; exact est_right BC.out.1 BC.out.2.2.2.2.2 E1.out (by rw [← HP.out]; omega))
        subst hq1
        clear hb hc hstep hloop
        obtain ⟨A1, A2, A3, u, e1, e2, e3, e4, hu, hu0, hu1⟩ := est_rest BC.out.2.2.2.2.2 BA.out.2.2 Hq1.out
        obtain ⟨q02, r02, p02, t1, t2, t3, t4, hE2⟩ := est_init BC.out.1 BC.out.2.1 BC.out.2.2.1 BC.out.2.2.2.1 BC.out.2.2.2.2.1 hu0 hu1 BA.out.2.2 BD.out.2.2.2.1 BD.out.2.2.2.2
        have HE2 := Lib.hid hE2
        have HU2 := Lib.hid hu
        have BA2 := Lib.hid (And.intro hu0 (And.intro hu1 BA.out.2.2))
        clear hE2 hu hu0 hu1
        go_wp2
      all_goals
        try clear K2 K6 E1 HP HB k3 k4 k7 k1
        try clear k2
        try clear k6 k8
        try clear k5
        go_loop [18, 16] (fun qv rv => RelEst u d0 c1 v qv rv) (fun qv _ => (intOf qv).toNat)
        case atStart => exact ⟨q02, r02, rfl, rfl, HE2.out⟩
        case round =>
          clear HE2
          obtain ⟨q, r, rfl, rfl, E⟩ := hrel
          have E1 := Lib.hid E
          clear E
          have hstep : Hid ((4294967296 ≤ q ∨ 4294967296 * r + d0 < q * c0) → (q - 1) * c1 + (r + c1) = u ∧ (u * 4294967296 + d0) / v ≤ q - 1 ∧ q - 1 ≤ 4294967296 ∧ 0 ≤ q - 1) := Lib.hid (fun hc => est_next BC.out.1 BC.out.2.1 BC.out.2.2.2.1 BC.out.2.2.2.2.1 BA2.out.1 BA2.out.2.1 (by have := BD.out; omega) (by have := BD.out; omega) E1.out hc)
          have hsm : q < 4294967296 → 0 ≤ q * c0 ∧ q * c0 < 18446744073709551616 := fun h => mul_small E1.out.nonneg h BC.out.2.2.2.1 BC.out.2.2.2.2.1
          obtain ⟨P, hP⟩ : ∃ P, P = q * c0 := ⟨_, rfl⟩
          have HP := Lib.hid hP
          rw [← hP] at hsm hstep
          have hb := E1.out.rlo
          have hb2 := E1.out.rhi
          have hb3 := E1.out.nonneg
          have hb4 := E1.out.top
          have hbd := BD.out
          have hbc := BC.out
          have k3 : IntKind.u64.wrap (4294967296 * r) = 4294967296 * r := by rw [IntKind.wrap_u64]; omega
          have k4 : IntKind.u64.wrap (4294967296 * r + d0) = 4294967296 * r + d0 := by rw [IntKind.wrap_u64]; omega
          have k7 : IntKind.u64.wrap (r + c1) = r + c1 := by rw [IntKind.wrap_u64]; omega
          have k2 : q < 4294967296 → IntKind.u64.wrap (q * c0) = P := fun h => by rw [← hP, IntKind.wrap_u64]; have := hsm h; omega
          have k6 : (4294967296 ≤ q ∨ 4294967296 * r + d0 < P) → IntKind.u64.wrap (q - 1) = q - 1 := fun h => by rw [IntKind.wrap_u64]; have := hstep.out h; omega
          have K2 := Lib.hid k2
          have K6 := Lib.hid k6
          have HB := Lib.hid (And.intro hb (And.intro hb2 (And.intro hb3 hb4)))
          clear k2 k6 hb hb2 hb3 hb4 hbd hbc hsm hP
          by_cases hloop : (4294967296 ≤ q ∨ 4294967296 * r + d0 < P) ∧ r + c1 < 4294967296
          · obtain ⟨hc, hf⟩ := hloop
            have HN := Lib.hid (show RelEst u d0 c1 v (.int .u64 (q - 1)) (.int .u64 (r + c1)) from ⟨_, _, rfl, rfl, (hstep.out hc).1, (hstep.out hc).2.1, by have := hstep.out hc; omega, (hstep.out hc).2.2.2, by have := BC.out; have := HB.out; omega, hf⟩)
            have k6 := K6.out hc
            have k8 : decide (4294967296 ≤ r + c1) = false := by simp; omega
            have HQ1 := Lib.hid (show 1 ≤ q by have := hstep.out hc; omega)
            by_cases hb : 4294967296 ≤ q
            · have k1 : decide (4294967296 ≤ q) = true := decide_eq_true hb
              clear hc hf hb hstep
              go_wp2
              go_round
              case rel => exact HN.out
              case measure => simp [intOf]; have := HQ1.out; omega
            · have k1 : decide (4294967296 ≤ q) = false := decide_eq_false hb
              have k2 := K2.out (by omega)
              have k5 : decide (4294967296 * r + d0 < P) = true := decide_eq_true (by omega)
              clear hc hf hb hstep
              go_wp2
              go_round
              case rel => exact HN.out
              case measure => simp [intOf]; have := HQ1.out; omega
          have hends : (4294967296 ≤ q ∧ 4294967296 ≤ r + c1) ∨ (q < 4294967296 ∧ 4294967296 * r + d0 < P ∧ 4294967296 ≤ r + c1) ∨ (q < 4294967296 ∧ ¬ 4294967296 * r + d0 < P) := by omega
          rcases hends with ⟨hb, hf⟩ | ⟨hb, hc, hf⟩ | ⟨hb, hc⟩
          case' inl =>
            have k1 : decide (4294967296 ≤ q) = true := decide_eq_true hb
            have hn := hstep.out (Or.inl hb)
            have k6 := K6.out (Or.inl hb)
            have k8 : decide (4294967296 ≤ r + c1) = true := decide_eq_true hf
            obtain ⟨q2, hq2⟩ : ∃ x, x = q - 1 := ⟨_, rfl⟩
            replace k6 := k6.trans hq2.symm
            have Hq2 := Lib.hid (show q2 = (u * 4294967296 + d0) / v by rw [hq2]; exact est_far BC.out.1 BC.out.2.2.2.2.2 BC.out.2.2.2.1 BC.out.2.2.2.2.1 (by have := BD.out; omega) hn.1 hn.2.1 hn.2.2.1 hn.2.2.2 hf)
            clear hb hf hn hstep hloop hq2
            obtain ⟨B1, B2, B3, u2, f1, f2, f3, f4, hu2, hu20, hu21⟩ := est_rest BC.out.2.2.2.2.2 BA.out.2.2 Hq2.out
            have hts := two_steps a d1 d0 v BC.out.2.2.2.2.2
            rw [← Hq1.out, ← HU2.out, ← Hq2.out, ← hu2, ← BD.out.1, ← HU.out, HV.out] at hts
            have hsh := shifted (hi * 18446744073709551616 + lo) y s (by have := HR.out; omega)
            rw [hsh.1, ← HQ.out] at hts
            have hqb : 0 ≤ Q ∧ Q < 18446744073709551616 := by
              have h9 := HR.out
              rw [HQ.out]
              exact ⟨Int.ediv_nonneg (by omega) (by omega), Int.ediv_lt_of_lt_mul (by omega) (by omega)⟩
            have hq1n : 0 ≤ q1 := by rw [Hq1.out]; exact Int.ediv_nonneg (by have := BA.out; have := BD.out; omega) (by have := BC.out; omega)
            have hq2n : 0 ≤ q2 := by rw [Hq2.out]; exact Int.ediv_nonneg (by have := BA2.out; have := BD.out; omega) (by have := BC.out; omega)
            have f5 : IntKind.u64.wrap (q1 * 4294967296) = q1 * 4294967296 := by rw [IntKind.wrap_u64]; omega
            have f6 : IntKind.u64.wrap (q1 * 4294967296 + q2) = Q := by rw [IntKind.wrap_u64]; omega
            have f7 : u2 / 2 ^ s = R := by rw [hts.2, hsh.2, ← HRR.out]
            clear hu2 hu20 hu21 hts hsh hqb hq1n hq2n
            go_wp2
          case' inr.inl =>
            have k1 : decide (4294967296 ≤ q) = false := decide_eq_false (by omega)
            have k2 := K2.out hb
            have k5 : decide (4294967296 * r + d0 < P) = true := decide_eq_true hc
            have hn := hstep.out (Or.inr hc)
            have k6 := K6.out (Or.inr hc)
            have k8 : decide (4294967296 ≤ r + c1) = true := decide_eq_true hf
            obtain ⟨q2, hq2⟩ : ∃ x, x = q - 1 := ⟨_, rfl⟩
            replace k6 := k6.trans hq2.symm
            have Hq2 := Lib.hid (show q2 = (u * 4294967296 + d0) / v by rw [hq2]; exact est_far BC.out.1 BC.out.2.2.2.2.2 BC.out.2.2.2.1 BC.out.2.2.2.2.1 (by have := BD.out; omega) hn.1 hn.2.1 hn.2.2.1 hn.2.2.2 hf)
            clear hb hf hc hn hstep hloop hq2
            obtain ⟨B1, B2, B3, u2, f1, f2, f3, f4, hu2, hu20, hu21⟩ := est_rest BC.out.2.2.2.2.2 BA.out.2.2 Hq2.out
            have hts := two_steps a d1 d0 v BC.out.2.2.2.2.2
            rw [← Hq1.out, ← HU2.out, ← Hq2.out, ← hu2, ← BD.out.1, ← HU.out, HV.out] at hts
            have hsh := shifted (hi * 18446744073709551616 + lo) y s (by have := HR.out; omega)
            rw [hsh.1, ← HQ.out] at hts
            have hqb : 0 ≤ Q ∧ Q < 18446744073709551616 := by
              have h9 := HR.out
              rw [HQ.out]
              exact ⟨Int.ediv_nonneg (by omega) (by omega), Int.ediv_lt_of_lt_mul (by omega) (by omega)⟩
            have hq1n : 0 ≤ q1 := by rw [Hq1.out]; exact Int.ediv_nonneg (by have := BA.out; have := BD.out; omega) (by have := BC.out; omega)
            have hq2n : 0 ≤ q2 := by rw [Hq2.out]; exact Int.ediv_nonneg (by have := BA2.out; have := BD.out; omega) (by have := BC.out; omega)
            have f5 : IntKind.u64.wrap (q1 * 4294967296) = q1 * 4294967296 := by rw [IntKind.wrap_u64]; omega
            have f6 : IntKind.u64.wrap (q1 * 4294967296 + q2) = Q := by rw [IntKind.wrap_u64]; omega
            have f7 : u2 / 2 ^ s = R := by rw [hts.2, hsh.2, ← HRR.out]
            clear hu2 hu20 hu21 hts hsh hqb hq1n hq2n
            go_wp2
          case' inr.inr =>
            have k1 : decide (4294967296 ≤ q) = false := decide_eq_false (by omega)
            have k2 := K2.out hb
            have k5 : decide (4294967296 * r + d0 < P) = false := decide_eq_false hc
            obtain ⟨q2, hq2⟩ : ∃ x, x = q := ⟨_, rfl⟩
            have Hq2 := Lib.hid (show q2 = (u * 4294967296 + d0) / v by rw [hq2]; exact est_right BC.out.1 BC.out.2.2.2.2.2 E1.out (by rw [← HP.out]; omega))
            subst hq2
            clear hb hc hstep hloop
            obtain ⟨B1, B2, B3, u2, f1, f2, f3, f4, hu2, hu20, hu21⟩ := est_rest BC.out.2.2.2.2.2 BA.out.2.2 Hq2.out
            have hts := two_steps a d1 d0 v BC.out.2.2.2.2.2
            rw [← Hq1.out, ← HU2.out, ← Hq2.out, ← hu2, ← BD.out.1, ← HU.out, HV.out] at hts
            have hsh := shifted (hi * 18446744073709551616 + lo) y s (by have := HR.out; omega)
            rw [hsh.1, ← HQ.out] at hts
            have hqb : 0 ≤ Q ∧ Q < 18446744073709551616 := by
              have h9 := HR.out
              rw [HQ.out]
              exact ⟨Int.ediv_nonneg (by omega) (by omega), Int.ediv_lt_of_lt_mul (by omega) (by omega)⟩
            have hq1n : 0 ≤ q1 := by rw [Hq1.out]; exact Int.ediv_nonneg (by have := BA.out; have := BD.out; omega) (by have := BC.out; omega)
            have hq2n : 0 ≤ q2 := by rw [Hq2.out]; exact Int.ediv_nonneg (by have := BA2.out; have := BD.out; omega) (by have := BC.out; omega)
            have f5 : IntKind.u64.wrap (q1 * 4294967296) = q1 * 4294967296 := by rw [IntKind.wrap_u64]; omega
            have f6 : IntKind.u64.wrap (q1 * 4294967296 + q2) = Q := by rw [IntKind.wrap_u64]; omega
            have f7 : u2 / 2 ^ s = R := by rw [hts.2, hsh.2, ← HRR.out]
            clear hu2 hu20 hu21 hts hsh hqb hq1n hq2n
            go_wp2
          all_goals
            go_ret2
            exact ⟨rfl, Below.refl _ _⟩
end Go.Proofs.YtbbldcbilnkkdaaDoor.Reck
