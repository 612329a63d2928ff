/-
  Sums of layer 2: Compare of the document. No condition.
-/
import Derived.Test.YtbbldcbilnkkdaaReck2
set_option linter.unusedVariables false
set_option linter.unusedSimpArgs false
namespace Go.Proofs.Ytbbldcbilnkkdaa.Reck
open Go.RowKit Num Tly Ref K

theorem div_bit (z : Int) (k : Nat) : z / 2 ^ k = 2 * (z / 2 ^ (k + 1)) + dig 2 z k := by
  have h := Int.mul_ediv_add_emod (z / 2 ^ k) 2
  rw [div_succ two_pos]
  exact h.symm
/-- The number that is left of a sign. -/
theorem top_bit {z : Int} (h0 : -half ≤ z) (h1 : z < half) : z / 2 ^ 256 / 2 ^ 127 = if z < 0 then -1 else 0 := by
  have e : (2 : Int) ^ 256 * 2 ^ 127 = half := by decide
  have hp : (0 : Int) < half := by decide
  rw [Int.ediv_ediv_of_nonneg (by decide), e]
  split
  · rename_i h
    have e2 : z = (z + half) + half * (-1) := by omega
    rw [e2, Int.add_mul_ediv_left _ _ (by omega), Int.ediv_eq_zero_of_lt (by omega) (by omega)]
    rfl
  · exact Int.ediv_eq_zero_of_lt (by omega) h1
def RelC (B g h : Nat) (w : World) (a b : Int) (i : Value) (wr : World) : Prop :=
  ∃ k : Nat, k ≤ 383 ∧ i = .int .i64 ((k : Int) - 1) ∧ Row wr g 3 (bv a) ∧ Row wr h 3 (bv b) ∧ a / 2 ^ k = b / 2 ^ k ∧ Below B w wr
set_option maxRecDepth 100000 in
set_option maxHeartbeats 1000000 in
theorem Compare (z t : Int) (h0 : -half ≤ z) (h1 : z < half) (g0 : -half ≤ t) (g1 : t < half) (w : World) : Calls Try.prog 35 #[.agg (wv z), .agg (wv t)] w fun e w' => e = .returned (.int .i64 (sgn (z - t))) ∧ Below w.heap.size w w' := by
  have HA := Lib.hid ((Row.new w 30 (wv z)).alloc (.cells (wv t) 30))
  have HB := Lib.hid (Row.at (Row.new (w.alloc (.cells (wv z) 30)) 30 (wv t)) (b' := w.heap.size + 1) (by simp))
  have HL := Lib.hid (((Below.refl w.heap.size w).alloc (Nat.le_refl _) (.cells (wv z) 30)).alloc (by simp) (.cells (wv t) 30))
  have e383 : ∀ u : Int, u / 2 ^ 383 = u / 2 ^ 256 / 2 ^ 127 := fun u => by rw [Int.ediv_ediv_of_nonneg (by decide), ← Int.pow_add]
  have tz := top_bit h0 h1
  have tt := top_bit g0 g1
  rw [← e383] at tz tt
  have dz : dig 2 z 383 = if z < 0 then 1 else 0 := by unfold dig; rw [tz]; split <;> rfl
  have dt : dig 2 t 383 = if t < 0 then 1 else 0 := by unfold dig; rw [tt]; split <;> rfl
  obtain ⟨G, hG⟩ : ∃ G, G = sgn (z - t) := ⟨_, rfl⟩
  rw [← hG]
  have HG := Lib.hid hG
  have HTZ := Lib.hid tz
  have HTT := Lib.hid tt
  have HDZ := Lib.hid dz
  have HDT := Lib.hid dt
  have HR := Lib.hid (And.intro h0 (And.intro h1 (And.intro g0 g1)))
  clear hG tz tt dz dt e383 h0 h1 g0 g1
  go_enter Try.func35, Try.ntmps35
  go_wp2_with (refine wpList_load_row rfl 30 _ rfl (w.heap.size) rfl 30 _ (0, 0) _ HA.out Try.underlying30 rfl (by kernel_rfl) ?_)
  refine (Ref.bits z _).mono ?_
  rintro e w1 ⟨b1, hb1, rfl, r1, k1⟩
  have B1 := Lib.hid (HB.out.below k1 HB.out.lt)
  have R1 := Lib.hid r1
  have L1 := Lib.hid (HL.out.trans (k1.mono HL.out.size))
  clear r1 k1
  go_wp2_with (refine wpList_load_row rfl 30 _ rfl (w.heap.size + 1) rfl 30 _ (0, 0) _ B1.out Try.underlying30 rfl (by kernel_rfl) ?_)
  refine (Ref.bits t _).mono ?_
  rintro e w2 ⟨b2, hb2, rfl, r2, k2⟩
  have R2 := Lib.hid (R1.out.below k2 R1.out.lt)
  have S2 := Lib.hid r2
  have L2 := Lib.hid (L1.out.trans (k2.mono L1.out.size))
  clear r2 k2
  have hx := R2.out.get (i := 383) (iv_get (digs_get 2 z (by omega)))
  have hy := S2.out.get (i := 383) (iv_get (digs_get 2 t (by omega)))
  have hl1 := R2.out.lt
  have hl2 := S2.out.lt
  rw [HDZ.out] at hx
  rw [HDT.out] at hy
  have fin : (z < 0 ↔ t < 0) → z / 2 ^ 383 = t / 2 ^ 383 := fun h => by rw [HTZ.out, HTT.out]; by_cases c : z < 0 <;> simp [c] <;> omega
  have HF := Lib.hid fin
  clear fin
  by_cases c1 : z < 0
  · rw [if_pos c1] at hx
    by_cases c2 : t < 0
    · rw [if_pos c2] at hy
      have HD := Lib.hid (HF.out (by simp [c1, c2]))
      clear c1 c2
      go_wp2_with fail
      go_region
      go_wp2
      have hr1 := Lib.hid (show Row w2.drew b1 3 (bv z) from R2.out)
      have hr2 := Lib.hid (show Row w2.drew b2 3 (bv t) from S2.out)
      clear hx hy
      go_loopw [7] (fun i wr => RelC w.heap.size b1 b2 w z t i wr) (fun i _ => (intOf i + 1).toNat)
      case atStart => exact ⟨383, Nat.le_refl _, rfl, hr1.out, hr2.out, HD.out, L2.out.drew⟩
      case round =>
        clear HD hr1 hr2 hl1 hl2
        obtain ⟨k, hk, hi, ha, hb, hd, hl⟩ := hrel
        cases k with
        | zero =>
          rw [show (((0 : Nat) : Int) - 1) = -1 from rfl] at hi
          subst hi
          have e : sgn (z - t) = 0 := by
            simp only [Int.pow_zero, Int.ediv_one] at hd
            rw [hd, Int.sub_self]; rfl
          have HE := Lib.hid e
          clear e hd ha hb
          go_wp2
          go_ret
          exact ⟨ret_one (by rw [HG.out, HE.out]), hl⟩
        | succ m =>
          rw [show (((m + 1 : Nat) : Int) - 1) = m by omega] at hi
          subst hi
          have h6 : m < 384 := by omega
          have hx := ha.get (iv_get (digs_get 2 z h6))
          have hy := hb.get (iv_get (digs_get 2 t h6))
          have d1 := div_bit z m
          have d2 := div_bit t m
          rw [← hd] at d2
          have f0 : (0 : Int) ≤ (m : Int) := by omega
          have f1 : (m : Int) < 384 := by omega
          have hlt := ha.lt
          have hlt1 := hb.lt
          have hP : (0 : Int) < 2 ^ m := pow_pos' (by decide) m
          have x01 := bit_le z m
          have y01 := bit_le t m
          have HA := Lib.hid ha
          have HB := Lib.hid hb
          generalize dig 2 z m = x at *
          generalize dig 2 t m = y at *
          by_cases hc : x = y
          · have hdm : z / 2 ^ m = t / 2 ^ m := by omega
            have HD := Lib.hid hdm
            subst hc
            clear d1 d2 hd ha hb hP hdm x01 y01
            go_wp2_with fail
            go_region
            go_wp2
            go_roundw
            case rel => exact ⟨m, by omega, rfl, HA.out, HB.out, HD.out, hl.drew⟩
            case measure => simp [intOf]
          · have e : sgn (z - t) = x - y := by
              have hxy : (x = 0 ∧ y = 1) ∨ (x = 1 ∧ y = 0) := by omega
              rcases hxy with ⟨rfl, rfl⟩ | ⟨rfl, rfl⟩
              · exact sgn_neg (by have := lt_of_div (a := z) (b := t) hP (by omega); omega)
              · exact sgn_pos (by have := lt_of_div (a := t) (b := z) hP (by omega); omega)
            have HE := Lib.hid e
            have hne : (x != y) = true := by simpa using hc
            clear e d1 d2 hd ha hb hP
            rcases x01 with rfl | rfl <;> rcases y01 with rfl | rfl
            · exact absurd rfl hc
            all_goals (try exact absurd rfl hc)
            all_goals
              clear hc
              go_wp2_with fail
              go_region
              go_wp2_with fail
              go_region
              go_wp2
              go_ret
              exact ⟨ret_one (by rw [HG.out, HE.out]; rfl), hl.drew.drew⟩
    · rw [if_neg c2] at hy
      have HE := Lib.hid (show sgn (z - t) = -1 from sgn_neg (by omega))
      clear c1 c2
      go_wp2_with fail
      go_region
      go_wp2_with fail
      go_region
      go_wp2
      go_ret
      exact ⟨ret_one (by rw [HG.out, HE.out]), L2.out.drew.drew⟩
  · rw [if_neg c1] at hx
    by_cases c2 : t < 0
    · rw [if_pos c2] at hy
      have HE := Lib.hid (show sgn (z - t) = 1 from sgn_pos (by omega))
      clear c1 c2
      go_wp2_with fail
      go_region
      go_wp2_with fail
      go_region
      go_wp2
      go_ret
      exact ⟨ret_one (by rw [HG.out, HE.out]), L2.out.drew.drew⟩
    · rw [if_neg c2] at hy
      have HD := Lib.hid (HF.out (by simp [c1, c2]))
      clear c1 c2
      go_wp2_with fail
      go_region
      go_wp2
      have hr1 := Lib.hid (show Row w2.drew b1 3 (bv z) from R2.out)
      have hr2 := Lib.hid (show Row w2.drew b2 3 (bv t) from S2.out)
      clear hx hy
      go_loopw [7] (fun i wr => RelC w.heap.size b1 b2 w z t i wr) (fun i _ => (intOf i + 1).toNat)
      case atStart => exact ⟨383, Nat.le_refl _, rfl, hr1.out, hr2.out, HD.out, L2.out.drew⟩
      case round =>
        clear HD hr1 hr2 hl1 hl2
        obtain ⟨k, hk, hi, ha, hb, hd, hl⟩ := hrel
        cases k with
        | zero =>
          rw [show (((0 : Nat) : Int) - 1) = -1 from rfl] at hi
          subst hi
          have e : sgn (z - t) = 0 := by
            simp only [Int.pow_zero, Int.ediv_one] at hd
            rw [hd, Int.sub_self]; rfl
          have HE := Lib.hid e
          clear e hd ha hb
          go_wp2
          go_ret
          exact ⟨ret_one (by rw [HG.out, HE.out]), hl⟩
        | succ m =>
          rw [show (((m + 1 : Nat) : Int) - 1) = m by omega] at hi
          subst hi
          have h6 : m < 384 := by omega
          have hx := ha.get (iv_get (digs_get 2 z h6))
          have hy := hb.get (iv_get (digs_get 2 t h6))
          have d1 := div_bit z m
          have d2 := div_bit t m
          rw [← hd] at d2
          have f0 : (0 : Int) ≤ (m : Int) := by omega
          have f1 : (m : Int) < 384 := by omega
          have hlt := ha.lt
          have hlt1 := hb.lt
          have hP : (0 : Int) < 2 ^ m := pow_pos' (by decide) m
          have x01 := bit_le z m
          have y01 := bit_le t m
          have HA := Lib.hid ha
          have HB := Lib.hid hb
          generalize dig 2 z m = x at *
          generalize dig 2 t m = y at *
          by_cases hc : x = y
          · have hdm : z / 2 ^ m = t / 2 ^ m := by omega
            have HD := Lib.hid hdm
            subst hc
            clear d1 d2 hd ha hb hP hdm x01 y01
            go_wp2_with fail
            go_region
            go_wp2
            go_roundw
            case rel => exact ⟨m, by omega, rfl, HA.out, HB.out, HD.out, hl.drew⟩
            case measure => simp [intOf]
          · have e : sgn (z - t) = x - y := by
              have hxy : (x = 0 ∧ y = 1) ∨ (x = 1 ∧ y = 0) := by omega
              rcases hxy with ⟨rfl, rfl⟩ | ⟨rfl, rfl⟩
              · exact sgn_neg (by have := lt_of_div (a := z) (b := t) hP (by omega); omega)
              · exact sgn_pos (by have := lt_of_div (a := t) (b := z) hP (by omega); omega)
            have HE := Lib.hid e
            have hne : (x != y) = true := by simpa using hc
            clear e d1 d2 hd ha hb hP
            rcases x01 with rfl | rfl <;> rcases y01 with rfl | rfl
            · exact absurd rfl hc
            all_goals (try exact absurd rfl hc)
            all_goals
              clear hc
              go_wp2_with fail
              go_region
              go_wp2_with fail
              go_region
              go_wp2
              go_ret
              exact ⟨ret_one (by rw [HG.out, HE.out]; rfl), hl.drew.drew⟩
end Go.Proofs.Ytbbldcbilnkkdaa.Reck
