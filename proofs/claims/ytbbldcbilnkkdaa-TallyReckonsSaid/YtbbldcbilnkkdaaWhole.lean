/-
  Sums of layer 2: size, apart, words of any length, whole, of the document. No condition.
-/
import Derived.Test.YtbbldcbilnkkdaaShift
import Derived.Test.YtbbldcbilnkkdaaReck3
import Derived.Test.YtbbldcbilnkkdaaRef4
set_option linter.unusedVariables false
set_option linter.unusedSimpArgs false
namespace Go.Proofs.Ytbbldcbilnkkdaa.Reck
open Go.RowKit Num Tly Ref K

/-- The bits of a number, as values. -/
def bs (m : Int) (L : Nat) : List Value := (digs 2 m L).map (Value.int .i64)
theorem bs_get (m : Int) {L j : Nat} (h : j < L) : (bs m L)[j]? = some (.int .i64 (dig 2 m j)) := by simp [bs, digs_get 2 m h]
theorem bs_length (m : Int) (L : Nat) : (bs m L).length = L := by simp [bs, digs_length]
theorem lies_row {w : World} {g : Nat} {T : TypeId} {xs : List Value} (h : Row w g T xs.toArray) : Lies w w.heap.size (some ⟨g, 0, none⟩) xs.length xs :=
  ⟨rfl, fun _ => ⟨_, rfl, h.lt, fun j u hu => by
    have e : (⟨g, 0, none⟩ : Addr).add j = ⟨g, j, none⟩ := by unfold Addr.add; split <;> simp_all
    rw [e]
    exact h.get (by simpa using hu)⟩⟩
theorem lies_bits {w : World} {g : Nat} {m : Int} (h : Row w g 3 (bv m)) : Lies w w.heap.size (some ⟨g, 0, none⟩) 384 (bs m 384) := by
  have := lies_row (xs := bs m 384) h
  rwa [bs_length] at this
def RelSize (m : Int) (L : Nat) (i : Value) : Prop := ∃ k : Nat, k ≤ L ∧ i = .int .i64 k ∧ m < 2 ^ k
theorem bit_top {m : Int} {j : Nat} (h0 : 0 ≤ m) (h : m < 2 ^ (j + 1)) : m = 2 ^ j * dig 2 m j + m % 2 ^ j ∧ 0 ≤ m % 2 ^ j ∧ m % 2 ^ j < 2 ^ j := by
  have hP : (0 : Int) < 2 ^ j := pow_pos' two_pos j
  have hq : m / 2 ^ j < 2 := Int.ediv_lt_of_lt_mul hP (by rw [Int.mul_comm, ← Int.pow_succ]; exact h)
  have hq0 : 0 ≤ m / 2 ^ j := Int.ediv_nonneg h0 (by omega)
  have e : dig 2 m j = m / 2 ^ j := by unfold dig; omega
  have hm := Int.mul_ediv_add_emod m (2 ^ j)
  exact ⟨by rw [e]; omega, Int.emod_nonneg _ (by omega), Int.emod_lt_of_pos _ hP⟩
set_option maxRecDepth 100000 in
theorem size (m : Int) (A : Option Addr) (L cap : Nat) (h0 : 0 ≤ m) (h1 : m < 2 ^ L) (hL : L ≤ 4611686018427387904) (w : World) (hA : Lies w w.heap.size A L (bs m L)) :
    Calls Try.prog 57 #[.slice A L cap] w fun e w' => e = .returned (.int .i64 (bl m)) ∧ w = w' := by
  have HL := Lib.hid hA
  have H0 := Lib.hid h0
  have H1 := Lib.hid h1
  clear hA h0 h1
  go_enter Try.func57, Try.ntmps57
  go_wp2
  go_loop [3] (fun i => RelSize m L i) (fun i => (intOf i).toNat)
  case atStart => exact ⟨L, Nat.le_refl _, rfl, H1.out⟩
  case round =>
    obtain ⟨k, hk, rfl, hd⟩ := hrel
    cases k with
    | zero =>
      have e : m = 0 := by
        have := H0.out
        simp only [Int.pow_zero] at hd
        omega
      have HE := Lib.hid e
      have hg : decide ((0 : Int) < ((0 : Nat) : Int)) = false := rfl
      clear e hd
      go_wp2
      go_ret
      exact ⟨ret_one (by rw [HE.out]; rfl), rfl⟩
    | succ j =>
      have hjL : j < L := by omega
      obtain ⟨ad, rfl, hBB, hcell⟩ := HL.out.at_ hjL
      have hx := hcell _ (bs_get m hjL)
      have e1 : ((j + 1 : Nat) : Int) - 1 = (j : Int) := by omega
      have f0 : (0 : Int) ≤ (j : Int) := by omega
      have f1 : (j : Int) < (L : Int) := by omega
      have hg : decide ((0 : Int) < ((j + 1 : Nat) : Int)) = true := decide_eq_true (by omega)
      have hg2 : (0 : Int) < ((j + 1 : Nat) : Int) := by omega
      have hbit := bit_le m j
      obtain ⟨t1, t2, t3⟩ := bit_top H0.out hd
      obtain ⟨n, hn⟩ : ∃ n : Nat, n = j + 1 := ⟨_, rfl⟩
      have HN := Lib.hid hn
      rw [← hn] at e1 hg hg2 hd hk ⊢
      clear hcell hn
      by_cases hc : dig 2 m j = 0
      · have HM := Lib.hid (show m < 2 ^ j by rw [hc, Int.mul_zero] at t1; omega)
        rw [hc] at hx
        clear hc hbit t1 t2 t3 hd
        go_wp2
        go_round
        case rel => exact ⟨j, by omega, rfl, HM.out⟩
        case measure => simp [intOf]; have := HN.out; omega
      · have h1 : dig 2 m j = 1 := by omega
        rw [h1] at hx
        have HE := Lib.hid (show bl m = n by
          rw [HN.out]
          refine bl_is ?_ (by rw [← HN.out]; exact hd)
          rw [h1, Int.mul_one] at t1
          omega)
        clear hc hbit t1 t2 t3 hd h1
        go_wp2
        go_ret
        exact ⟨ret_one (by rw [HE.out]), rfl⟩

theorem top_dig {z : Int} (h0 : -half ≤ z) (h1 : z < half) : dig 2 z 383 = if z < 0 then 1 else 0 := by
  have e383 : ∀ u : Int, u / 2 ^ 383 = u / 2 ^ 256 / 2 ^ 127 := fun u => by rw [Int.ediv_ediv_of_nonneg (by decide), ← Int.pow_add]
  have tz := top_bit h0 h1
  rw [← e383] at tz
  unfold dig
  rw [tz]
  split <;> rfl
set_option maxRecDepth 100000 in
theorem Apart (z : Int) (h0 : -half ≤ z) (h1 : z < half) (w : World) : Calls Try.prog 56 #[.agg (wv z)] w fun e w' =>
    ∃ b, w.heap.size ≤ b ∧ e = .returned (.tuple #[.bool (decide (z < 0)), .slice (some ⟨b, 0, none⟩) 384 384]) ∧ Row w' b 3 (bv (mag z)) ∧ Below w.heap.size w w' := by
  have HA := Lib.hid (Row.new w 30 (wv z))
  have HB := Lib.hid ((Below.refl w.heap.size w).alloc (Nat.le_refl _) (.cells (wv z) 30))
  have hd := top_dig h0 h1
  have HD := Lib.hid hd
  obtain ⟨n, hn⟩ : ∃ n, n = decide (z < 0) := ⟨_, rfl⟩
  obtain ⟨M, hM⟩ : ∃ M, M = mag z := ⟨_, rfl⟩
  rw [← hn, ← hM]
  have HN := Lib.hid hn
  have HM := Lib.hid hM
  clear hd h0 h1 hn hM
  go_enter Try.func56, Try.ntmps56
  go_wp2_with (refine wpList_load_row rfl 30 _ rfl (w.heap.size) rfl 30 _ (0, 0) _ HA.out Try.underlying30 rfl (by kernel_rfl) ?_)
  refine (Ref.bits z _).mono ?_
  rintro e w1 ⟨b1, hb1, rfl, r1, k1⟩
  have R1 := Lib.hid r1
  have B1 := Lib.hid (HB.out.trans (k1.mono HB.out.size))
  simp only [World.size_alloc] at hb1
  clear k1
  have hx := r1.get (i := 383) (iv_get (digs_get 2 z (by omega)))
  rw [HD.out] at hx
  have hl := r1.lt
  clear r1
  by_cases c : z < 0
  · have E1 := Lib.hid (show n = true by rw [HN.out]; simp [c])
    have E2 := Lib.hid (show M = -z by rw [HM.out]; unfold mag; rw [if_pos c])
    rw [if_pos c] at hx
    clear c
    go_wp2_with fail
    refine (Ref.minus z b1 _ R1.out).mono ?_
    rintro e w2 ⟨b2, hb2, rfl, r2, k2⟩
    have R2 := Lib.hid r2
    have B2 := Lib.hid (B1.out.trans (k2.mono B1.out.size))
    have hs2 := B1.out.size
    clear r2 k2 hx
    go_wp2
    go_ret2
    rw [E1.out, E2.out]
    exact ⟨b2, by omega, rfl, R2.out, B2.out⟩
  · have E1 := Lib.hid (show n = false by rw [HN.out]; simp [c])
    have E2 := Lib.hid (show M = z by rw [HM.out]; unfold mag; rw [if_neg c])
    rw [if_neg c] at hx
    clear c
    go_wp2_with fail
    go_ret2
    rw [E1.out, E2.out]
    exact ⟨b1, by omega, rfl, R1.out, B1.out⟩

def RelWordsN (B : Nat) (w : World) (m : Int) (N : Nat) (i : Value) (wr : World) : Prop :=
  ∃ k : Nat, k ≤ N ∧ i = .int .i64 k ∧ Row wr B 30 (cv [0, 0, 0, 0, 0, 0]) ∧ Row wr (B + 1) 30 (wv (m % 2 ^ k)) ∧ Below B w wr
set_option maxRecDepth 100000 in
theorem wordsN (m : Int) (A : Option Addr) (L cap : Nat) (h0 : 0 ≤ m) (h1 : m < 2 ^ L) (h2 : m < 2 ^ 384) (hL : L ≤ 4611686018427387904) (w : World) (hA : Lies w w.heap.size A L (bs m L)) :
    Calls Try.prog 38 #[.slice A L cap] w fun e w' => e = .returned (.agg (wv m)) ∧ Below w.heap.size w w' := by
  obtain ⟨N, hN⟩ : ∃ N, N = min 384 L := ⟨_, rfl⟩
  have hmN : m % 2 ^ N = m := by
    rw [hN]
    refine Int.emod_eq_of_lt h0 ?_
    rcases Nat.le_total 384 L with g | g
    · rw [Nat.min_eq_left g]; exact h2
    · rw [Nat.min_eq_right g]; exact h1
  have HN := Lib.hid hN
  have HMN := Lib.hid hmN
  have HL := Lib.hid hA
  clear hA hN hmN h0 h1 h2
  go_enter Try.func38, Try.ntmps38
  go_wp2
  go_loopw [4] (fun i wr => RelWordsN w.heap.size w m N i wr) (fun i _ => N - (intOf i).toNat)
  case atStart =>
    refine ⟨0, Nat.zero_le _, rfl, (Row.new w _ (cv [0, 0, 0, 0, 0, 0])).alloc _, ?_, ?_⟩
    · have e : wv (m % 2 ^ 0) = cv [0, 0, 0, 0, 0, 0] := by simp [Int.emod_one]; rfl
      rw [e]
      exact Row.at (Row.new (w.alloc (.cells (cv [0, 0, 0, 0, 0, 0]) 30)) _ (cv [0, 0, 0, 0, 0, 0])) (by simp)
    · exact ((Below.refl _ _).alloc (Nat.le_refl _) _).alloc (by simp) _
  case round =>
    obtain ⟨k, hk, rfl, ha, hb, hl⟩ := hrel
    rcases Nat.lt_or_ge k N with h6 | h6
    · have hk3 : k < 384 := by have := HN.out; omega
      have hkL : k < L := by have := HN.out; omega
      obtain ⟨ad, rfl, hBB, hcell⟩ := (HL.out.below hl).at_ hkL
      have hx := hcell _ (bs_get m hkL)
      have hf := hb.free (k / 64)
      have hc := hb.get (cv_get (digs_get _ (m % 2 ^ k) (show k / 64 < 6 by omega)))
      obtain ⟨st0, st1, y0, y1⟩ := words_step m k hk3
      have hor := or_top _ (k % 64) (by omega) y0 y1
      have hsh := shl_bit k
      rw [Int.natCast_pow] at hor hsh
      have HOR := Lib.hid hor
      clear hor hcell
      have hbit := bit_le m k
      generalize dig 18446744073709551616 (m % 2 ^ k) (k / 64) = y at *
      generalize dig 2 m k = x at *
      have hkb : decide ((k : Int) < 384) = true := by simp; omega
      have hkb2 : decide ((k : Int) < (L : Int)) = true := by simp; omega
      have h0 : (0 : Int) ≤ k := by omega
      have h1 : (k : Int) < 384 := by omega
      have h1L : (k : Int) < (L : Int) := by omega
      have g0 : (0 : Int) ≤ (k : Int) / 64 := by omega
      have g1 : (k : Int) / 64 < 6 := by omega
      have g2 : ((k : Int) / 64).toNat = k / 64 := by omega
      have hlt := ha.lt
      have hlt1 := hb.lt
      have HA := Lib.hid ha
      have HB := Lib.hid hb
      have S0 := Lib.hid st0
      have S1 := Lib.hid st1
      clear ha hb st0 st1
      rcases hbit with rfl | rfl
      · go_wp2
        go_roundw
        case rel => exact ⟨k + 1, by omega, by go_num, HA.out, by unfold wv; rw [S0.out rfl]; exact HB.out, hl⟩
        case measure => simp [intOf]; omega
      · go_wp2
        go_roundw
        case rel =>
          refine ⟨k + 1, by omega, by go_num, HA.out.other (by simp) _, ?_, hl.setCell (by simp) _⟩
          unfold wv
          rw [S1.out rfl, ← cv_set, ← HOR.out]
          exact HB.out.set (k / 64) _
        case measure => simp [intOf]; omega
    · obtain rfl : k = N := by omega
      rw [HMN.out] at hb
      have HA := Lib.hid ha
      have HB := Lib.hid hb
      have hend : decide ((k : Int) < 384) = true → decide ((k : Int) < (L : Int)) = false := fun h => by have := HN.out; simp at h ⊢; omega
      clear ha hb
      by_cases hc : (k : Int) < 384
      · have hkb : decide ((k : Int) < 384) = true := decide_eq_true hc
        have hkb2 := hend hkb
        have hkb3 : ¬ (k : Int) < (L : Int) := by simpa using hkb2
        clear hend
        go_wp2_with (first | (refine wpList_load_row rfl 30 _ rfl (w.heap.size + 1) rfl 30 _ (0, 0) _ HB.out Try.underlying30 rfl (by kernel_rfl) ?_) | (refine wpList_store_row rfl 30 _ _ rfl (w.heap.size) _ rfl rfl 30 _ HA.out ?_ ?_ ?_ ?_; kernel_rfl; (first | (rw [wv_size, wv_size]) | kernel_rfl); (first | exact cv_one _ | kernel_rfl)))
        refine bodyPost_ret (v := .agg (wv m)) (results_cell_row Try.results38 _ _ (w.heap.size) 30 _ (0, 0) _ rfl (Row.put HA.out _) Try.underlying30 rfl (by kernel_rfl)) rfl ⟨rfl, Row.put_below hl HA.out (Nat.le_refl _) _⟩
      · have hkb : decide ((k : Int) < 384) = false := decide_eq_false hc
        clear hend
        go_wp2_with (first | (refine wpList_load_row rfl 30 _ rfl (w.heap.size + 1) rfl 30 _ (0, 0) _ HB.out Try.underlying30 rfl (by kernel_rfl) ?_) | (refine wpList_store_row rfl 30 _ _ rfl (w.heap.size) _ rfl rfl 30 _ HA.out ?_ ?_ ?_ ?_; kernel_rfl; (first | (rw [wv_size, wv_size]) | kernel_rfl); (first | exact cv_one _ | kernel_rfl)))
        refine bodyPost_ret (v := .agg (wv m)) (results_cell_row Try.results38 _ _ (w.heap.size) 30 _ (0, 0) _ rfl (Row.put HA.out _) Try.underlying30 rfl (by kernel_rfl)) rfl ⟨rfl, Row.put_below hl HA.out (Nat.le_refl _) _⟩

/-- What whole makes. -/
def whV (n : Bool) (m : Int) : Int := if fits n m then sig n m else 0
def RelWhole (m : Int) (i : Value) : Prop := ∃ k : Nat, k ≤ 383 ∧ i = .int .i64 k ∧ m % 2 ^ k = 0
theorem half383 : half = 2 ^ 383 := by rw [show (383 : Nat) = 63 + 64 * 5 from rfl, Int.pow_add, ← pow64]; decide
set_option maxRecDepth 100000 in
set_option maxHeartbeats 1000000 in
theorem whole (n : Bool) (m : Int) (A : Option Addr) (L cap : Nat) (h0 : 0 ≤ m) (h1 : m < 2 ^ L) (hL : L ≤ 4611686018427387904) (w : World) (hA : Lies w w.heap.size A L (bs m L)) :
    Calls Try.prog 58 #[.bool n, .slice A L cap] w fun e w' => e = .returned (.tuple #[.agg (wv (whV n m)), .bool (fits n m)]) ∧ Below w.heap.size w w' := by
  have HZ := Lib.hid (Row.new w 30 (cv [0, 0, 0, 0, 0, 0]))
  have HB := Lib.hid ((Below.refl w.heap.size w).alloc (Nat.le_refl _) (.cells (cv [0, 0, 0, 0, 0, 0]) 30))
  have HL := Lib.hid (hA.below HB.out)
  have H0 := Lib.hid h0
  have H1 := Lib.hid h1
  have hsz := size m A L cap h0 h1 hL _ (HL.out.more HB.out.size)
  have HSZ := Lib.hid hsz
  obtain ⟨l, hl⟩ : ∃ l, l = bl m := ⟨_, rfl⟩
  have HLL := Lib.hid hl
  rw [← hl] at HSZ
  have hll := bl_fits h0 h1
  rw [← hl] at hll
  have hfalse : (384 < l ∨ l = 384 ∧ n = false) → fits n m = false := fun h => by
    have hp := bl_le (m := m) (by
      rcases Int.lt_or_eq_of_le h0 with g | g
      · exact g
      · rw [← g, bl_zero] at hl; omega)
    rw [← hl] at hp
    rcases h with h | ⟨h, rfl⟩
    · have := pow_mono (q := 2) (m := 384) (n := l - 1) two_pos (by omega)
      have hhalf : (0 : Int) < half := by decide
      rw [two384] at this
      unfold fits
      cases n <;> simp <;> omega
    · rw [h] at hp
      unfold fits
      rw [half383]
      simp only [Bool.false_eq_true, if_false, decide_eq_false_iff_not]
      exact Int.not_lt.2 hp
  have HF := Lib.hid hfalse
  obtain ⟨V, hV⟩ : ∃ V, V = whV n m := ⟨_, rfl⟩
  obtain ⟨F, hFF⟩ : ∃ F, F = fits n m := ⟨_, rfl⟩
  rw [← hV, ← hFF]
  have HV := Lib.hid hV
  have HFF := Lib.hid hFF
  clear hA h0 h1 hsz hl hfalse hV hFF
  go_enter Try.func58, Try.ntmps58
  go_wp2_with fail
  refine HSZ.out.mono ?_
  rintro e w1 ⟨rfl, rfl⟩
  by_cases hbad : 384 < l ∨ l = 384 ∧ n = false
  · have E1 := Lib.hid (HFF.out.trans (HF.out hbad))
    have E2 := Lib.hid (show V = 0 by rw [HV.out]; unfold whV; rw [HF.out hbad]; rfl)
    by_cases hb1 : 384 < l
    · have hd1 : decide ((384 : Int) < (l : Int)) = true := by simp; omega
      clear hbad
      go_wp2_with (refine wpList_store_row rfl 30 _ _ rfl (w.heap.size) _ rfl rfl 30 _ HZ.out ?_ ?_ ?_ ?_; kernel_rfl; (first | (rw [wv_size, wv_size]) | kernel_rfl); (first | exact cv_one _ | kernel_rfl))
      rw [E1.out, E2.out]
      refine bodyPost_ret (v := .tuple #[.agg (wv 0), .bool false]) (results_two Try.results58 _ _ (w.heap.size) 30 _ _ rfl _ rfl (HZ.out.put _) Try.underlying30 rfl (by kernel_rfl)) rfl ⟨by rw [wv_zero], Row.put_below HB.out HZ.out (by omega) _⟩
    · have hl4 : l = 384 := by omega
      have hn4 : n = false := by rcases hbad with h | h; exact absurd h hb1; exact h.2
      subst hl4
      subst hn4
      clear hbad hb1
      go_wp2_with (refine wpList_store_row rfl 30 _ _ rfl (w.heap.size) _ rfl rfl 30 _ HZ.out ?_ ?_ ?_ ?_; kernel_rfl; (first | (rw [wv_size, wv_size]) | kernel_rfl); (first | exact cv_one _ | kernel_rfl))
      rw [E1.out, E2.out]
      refine bodyPost_ret (v := .tuple #[.agg (wv 0), .bool false]) (results_two Try.results58 _ _ (w.heap.size) 30 _ _ rfl _ rfl (HZ.out.put _) Try.underlying30 rfl (by kernel_rfl)) rfl ⟨by rw [wv_zero], Row.put_below HB.out HZ.out (by omega) _⟩
  · have hm384 : m < 2 ^ 384 := bl_more H0.out (by rw [← HLL.out]; omega)
    have hwd := wordsN m A L cap H0.out H1.out hm384 hL
    have HWD := Lib.hid hwd
    have HM3 := Lib.hid hm384
    have hd1 : decide ((384 : Int) < (l : Int)) = false := by simp; omega
    clear hwd hm384
    by_cases hl4 : l = 384
    · have hn4 : n = true := by
        cases n
        · exact absurd (Or.inr ⟨hl4, rfl⟩) hbad
        · rfl
      subst hl4
      subst hn4
      clear hbad hd1
      have hbig : Hid (half ≤ m) := Lib.hid (by
        have := bl_le (m := m) (by
          rcases Int.lt_or_eq_of_le H0.out with g | g
          · exact g
          · have := HLL.out; rw [← g, bl_zero] at this; omega)
        rw [← HLL.out] at this
        rw [half383]; exact this)
      have hL4 : Hid (384 ≤ L) := Lib.hid (by have := bl_fits H0.out H1.out; rw [← HLL.out] at this; exact this)
      go_wp2
      go_loop [7] (fun i => RelWhole m i) (fun i => 383 - (intOf i).toNat)
      case atStart => exact ⟨0, Nat.zero_le _, rfl, by simp [Int.emod_one]⟩
      case round =>
        obtain ⟨k, hk, rfl, hd⟩ := hrel
        rcases Nat.lt_or_ge k 383 with h6 | h6
        · have hkL : k < L := by have := hL4.out; omega
          obtain ⟨ad, rfl, hBB, hcell⟩ := HL.out.at_ hkL
          have hx := hcell _ (bs_get m hkL)
          have f0 : (0 : Int) ≤ (k : Int) := by omega
          have f1 : (k : Int) < (L : Int) := by omega
          have hkb : decide ((k : Int) < 383) = true := by simp; omega
          have hs := mod_succ two_pos m k
          have hbit := bit_le m k
          clear hcell
          by_cases hc : dig 2 m k = 0
          · have HM := Lib.hid (show m % 2 ^ (k + 1) = 0 by rw [hs, hd, hc]; simp)
            rw [hc] at hx
            clear hc hbit hs hd
            go_wp2
            go_round
            case rel => exact ⟨k + 1, by omega, by go_num, HM.out⟩
            case measure => simp [intOf]; omega
          · have hc1 : dig 2 m k = 1 := by omega
            rw [hc1] at hx
            have hno : fits true m = false := by
              unfold fits
              simp only [if_true, decide_eq_false_iff_not]
              intro hle
              have e : m = half := by have := hbig.out; omega
              have h7 : m % 2 ^ (k + 1) = 0 := by
                rw [e, half383]
                exact Int.emod_eq_zero_of_dvd ⟨2 ^ (383 - (k + 1)), by rw [← Int.pow_add]; congr 1; omega⟩
              rw [hs, hd, hc1] at h7
              have := pow_pos' two_pos k
              omega
            have E1 := Lib.hid (HFF.out.trans hno)
            have E2 := Lib.hid (show V = 0 by rw [HV.out]; unfold whV; rw [hno]; rfl)
            clear hc hbit hs hd hc1 hno
            go_wp2_with (refine wpList_store_row rfl 30 _ _ rfl (w.heap.size) _ rfl rfl 30 _ HZ.out ?_ ?_ ?_ ?_; kernel_rfl; (first | (rw [wv_size, wv_size]) | kernel_rfl); (first | exact cv_one _ | kernel_rfl))
            rw [E1.out, E2.out]
            refine bodyPost_ret (v := .tuple #[.agg (wv 0), .bool false]) (results_two Try.results58 _ _ (w.heap.size) 30 _ _ rfl _ rfl (HZ.out.put _) Try.underlying30 rfl (by kernel_rfl)) rfl ⟨by rw [wv_zero], Row.put_below HB.out HZ.out (by omega) _⟩
        · obtain rfl : k = 383 := by omega
          have hyes : m = half := by
            have h3 := HM3.out
            have hb := hbig.out
            rw [two384] at h3
            rw [← half383] at hd
            have e : m = (m - half) + half * 1 := by omega
            rw [e, Int.add_mul_emod_self_left, Int.emod_eq_of_lt (by omega) (by omega)] at hd
            omega
          have hfit : fits true m = true := by unfold fits; simp; omega
          have E1 := Lib.hid (HFF.out.trans hfit)
          have E2 := Lib.hid (show V = -m by rw [HV.out]; unfold whV; rw [hfit]; rfl)
          clear hd hyes hfit
          go_wp2_with fail
          refine (HWD.out _ (HL.out.more HB.out.size)).mono ?_
          rintro e w2 ⟨rfl, k2⟩
          have Z2 := Lib.hid (HZ.out.below k2 HZ.out.lt)
          have B2 := Lib.hid (HB.out.trans (k2.mono HB.out.size))
          have hz2 : Hid (w.heap.size < w2.heap.size) := Lib.hid Z2.out.lt
          have N2 := Lib.hid (Row.new w2 30 (cv [0, 0, 0, 0, 0, 0]))
          have N3 := Lib.hid (N2.out.put (wv m))
          have Z3 := Lib.hid ((Z2.out.alloc (.cells (cv [0, 0, 0, 0, 0, 0]) 30)).put_other (b' := w2.heap.size) (by have := hz2.out; omega) (wv m))
          have B3 := Lib.hid (Row.put_below (B2.out.alloc B2.out.size (.cells (cv [0, 0, 0, 0, 0, 0]) 30)) N2.out B2.out.size (wv m))
          clear k2 Z2 B2
          go_wp2_with (first | (refine wpList_store_row rfl 30 _ _ rfl (w2.heap.size) _ rfl rfl 30 _ N2.out ?_ ?_ ?_ ?_; kernel_rfl; (first | (rw [wv_size, wv_size]) | kernel_rfl); (first | exact cv_one _ | kernel_rfl)) | (refine wpList_load_row rfl 30 _ rfl (w2.heap.size) rfl 30 _ (0, 0) _ N3.out Try.underlying30 rfl (by kernel_rfl) ?_))
          refine (Neg m _).mono ?_
          rintro e w4 ⟨rfl, k4⟩
          have Z4 := Lib.hid (Z3.out.below k4 Z3.out.lt)
          have B4 := Lib.hid (B3.out.trans (k4.mono B3.out.size))
          clear k4
          go_wp2_with (refine wpList_store_row rfl 30 _ _ rfl (w.heap.size) _ rfl rfl 30 _ Z4.out ?_ ?_ ?_ ?_; kernel_rfl; (first | (rw [wv_size, wv_size]) | kernel_rfl); (first | exact cv_one _ | kernel_rfl))
          rw [E1.out, E2.out]
          refine bodyPost_ret (v := .tuple #[.agg (wv (-m)), .bool true]) (results_two Try.results58 _ _ (w.heap.size) 30 _ _ rfl _ rfl (Z4.out.put _) Try.underlying30 rfl (by kernel_rfl)) rfl ⟨rfl, Row.put_below B4.out Z4.out (Nat.le_refl _) _⟩
    · have hfit : fits n m = true := by
        have : m < 2 ^ 383 := bl_more H0.out (by rw [← HLL.out]; omega)
        rw [← half383] at this
        unfold fits
        cases n <;> simp <;> omega
      have E1 := Lib.hid (HFF.out.trans hfit)
      have E2 := Lib.hid (show V = sig n m by rw [HV.out]; unfold whV; rw [hfit]; rfl)
      have hd2 : ¬ ((l : Int) = 384) := by omega
      have hd3 : ((l : Int) == 384) = false := by simpa using hd2
      have hd4 : decide ((l : Int) = 384) = false := by simpa using hd2
      clear hfit hbad
      go_wp2_with fail
      refine (HWD.out _ (HL.out.more HB.out.size)).mono ?_
      rintro e w2 ⟨rfl, k2⟩
      have Z2 := Lib.hid (HZ.out.below k2 HZ.out.lt)
      have B2 := Lib.hid (HB.out.trans (k2.mono HB.out.size))
      have hz2 : Hid (w.heap.size < w2.heap.size) := Lib.hid Z2.out.lt
      have N2 := Lib.hid (Row.new w2 30 (cv [0, 0, 0, 0, 0, 0]))
      have N3 := Lib.hid (N2.out.put (wv m))
      have Z3 := Lib.hid ((Z2.out.alloc (.cells (cv [0, 0, 0, 0, 0, 0]) 30)).put_other (b' := w2.heap.size) (by have := hz2.out; omega) (wv m))
      have B3 := Lib.hid (Row.put_below (B2.out.alloc B2.out.size (.cells (cv [0, 0, 0, 0, 0, 0]) 30)) N2.out B2.out.size (wv m))
      clear k2 Z2 B2
      cases n
      · skip
        go_wp2_with (first | (refine wpList_store_row rfl 30 _ _ rfl (w2.heap.size) _ rfl rfl 30 _ N2.out ?_ ?_ ?_ ?_; kernel_rfl; (first | (rw [wv_size, wv_size]) | kernel_rfl); (first | exact cv_one _ | kernel_rfl)) | (refine wpList_load_row rfl 30 _ rfl (w2.heap.size) rfl 30 _ (0, 0) _ N3.out Try.underlying30 rfl (by kernel_rfl) ?_) | (refine wpList_store_row rfl 30 _ _ rfl (w.heap.size) _ rfl rfl 30 _ Z3.out ?_ ?_ ?_ ?_; kernel_rfl; (first | (rw [wv_size, wv_size]) | kernel_rfl); (first | exact cv_one _ | kernel_rfl)))
        rw [E1.out, E2.out]
        refine bodyPost_ret (v := .tuple #[.agg (wv m), .bool true]) (results_two Try.results58 _ _ (w.heap.size) 30 _ _ rfl _ rfl (Z3.out.put _) Try.underlying30 rfl (by kernel_rfl)) rfl ⟨rfl, Row.put_below B3.out Z3.out (Nat.le_refl _) _⟩
      · skip
        go_wp2_with (first | (refine wpList_store_row rfl 30 _ _ rfl (w2.heap.size) _ rfl rfl 30 _ N2.out ?_ ?_ ?_ ?_; kernel_rfl; (first | (rw [wv_size, wv_size]) | kernel_rfl); (first | exact cv_one _ | kernel_rfl)) | (refine wpList_load_row rfl 30 _ rfl (w2.heap.size) rfl 30 _ (0, 0) _ N3.out Try.underlying30 rfl (by kernel_rfl) ?_))
        refine (Neg m _).mono ?_
        rintro e w4 ⟨rfl, k4⟩
        have Z4 := Lib.hid (Z3.out.below k4 Z3.out.lt)
        have B4 := Lib.hid (B3.out.trans (k4.mono B3.out.size))
        clear k4
        go_wp2_with (refine wpList_store_row rfl 30 _ _ rfl (w.heap.size) _ rfl rfl 30 _ Z4.out ?_ ?_ ?_ ?_; kernel_rfl; (first | (rw [wv_size, wv_size]) | kernel_rfl); (first | exact cv_one _ | kernel_rfl))
        rw [E1.out, E2.out]
        refine bodyPost_ret (v := .tuple #[.agg (wv (-m)), .bool true]) (results_two Try.results58 _ _ (w.heap.size) 30 _ _ rfl _ rfl (Z4.out.put _) Try.underlying30 rfl (by kernel_rfl)) rfl ⟨rfl, Row.put_below B4.out Z4.out (Nat.le_refl _) _⟩
end Go.Proofs.Ytbbldcbilnkkdaa.Reck
