/-
  Sums of layer 2: size and apart, of the document. No condition.
-/
import Derived.Test.YtbbldcbilnkkdaaDoorReck3
import Derived.Test.YtbbldcbilnkkdaaDoorReck6
import Derived.Test.YtbbldcbilnkkdaaDoorLen
set_option linter.unusedVariables false
set_option linter.unusedSimpArgs false
namespace Go.Proofs.YtbbldcbilnkkdaaDoor.Reck
open Go.RowKit Num Tly Ref K

/-- The bits of a number, as values. -/
def bs (m : Int) (L : Nat) : List Value := (digs 2 m L).map (Value.int .i64)
theorem bs_get (m : Int) {L j : Nat} (h : j < L) : (bs m L)[j]? = some (.int .i64 (dig 2 m j)) := by simp [bs, digs_get 2 m h]
theorem bs_length (m : Int) (L : Nat) : (bs m L).length = L := by simp [bs, digs_length]
theorem lies_row {w : World} {g : Nat} {T : TypeId} {xs : List Value} (h : Row w g T xs.toArray) : Lies w w.heap.size (some ⟨g, 0, none⟩) xs.length xs :=
  ⟨rfl, fun _ => ⟨_, rfl, h.lt, fun j u hu => by
    have e : (⟨g, 0, none⟩ : Addr).add j = ⟨g, j, none⟩ := by unfold Addr.add; split <;> simp_all
    rw [e]
    exact h.get (by simpa using hu)⟩⟩
theorem lies_bits {w : World} {g : Nat} {m : Int} (h : Row w g 3 (bv m)) : Lies w w.heap.size (some ⟨g, 0, none⟩) 384 (bs m 384) := by
  have := lies_row (xs := bs m 384) h
  rwa [bs_length] at this
def RelSize (m : Int) (L : Nat) (i : Value) : Prop := ∃ k : Nat, k ≤ L ∧ i = .int .i64 k ∧ m < 2 ^ k
theorem bit_top {m : Int} {j : Nat} (h0 : 0 ≤ m) (h : m < 2 ^ (j + 1)) : m = 2 ^ j * dig 2 m j + m % 2 ^ j ∧ 0 ≤ m % 2 ^ j ∧ m % 2 ^ j < 2 ^ j := by
  have hP : (0 : Int) < 2 ^ j := pow_pos' two_pos j
  have hq : m / 2 ^ j < 2 := Int.ediv_lt_of_lt_mul hP (by rw [Int.mul_comm, ← Int.pow_succ]; exact h)
  have hq0 : 0 ≤ m / 2 ^ j := Int.ediv_nonneg h0 (by omega)
  have e : dig 2 m j = m / 2 ^ j := by unfold dig; omega
  have hm := Int.mul_ediv_add_emod m (2 ^ j)
  exact ⟨by rw [e]; omega, Int.emod_nonneg _ (by omega), Int.emod_lt_of_pos _ hP⟩
set_option maxRecDepth 100000 in
theorem size (m : Int) (A : Option Addr) (L cap : Nat) (h0 : 0 ≤ m) (h1 : m < 2 ^ L) (hL : L ≤ 4611686018427387904) (w : World) (hA : Lies w w.heap.size A L (bs m L)) :
    Calls Tryd.prog 57 #[.slice A L cap] w fun e w' => e = .returned (.int .i64 (bl m)) ∧ w = w' := by
  have HL := Lib.hid hA
  have H0 := Lib.hid h0
  have H1 := Lib.hid h1
  clear hA h0 h1
  go_enter Tryd.func57, Tryd.ntmps57
  go_wp2
  go_loop [3] (fun i => RelSize m L i) (fun i => (intOf i).toNat)
  case atStart => exact ⟨L, Nat.le_refl _, rfl, H1.out⟩
  case round =>
    obtain ⟨k, hk, rfl, hd⟩ := hrel
    cases k with
    | zero =>
      have e : m = 0 := by
        have := H0.out
        simp only [Int.pow_zero] at hd
        omega
      have HE := Lib.hid e
      have hg : decide ((0 : Int) < ((0 : Nat) : Int)) = false := rfl
      clear e hd
      go_wp2
      go_ret
      exact ⟨ret_one (by rw [HE.out]; rfl), rfl⟩
    | succ j =>
      have hjL : j < L := by omega
      obtain ⟨ad, rfl, hBB, hcell⟩ := HL.out.at_ hjL
      have hx := hcell _ (bs_get m hjL)
      have e1 : ((j + 1 : Nat) : Int) - 1 = (j : Int) := by omega
      have f0 : (0 : Int) ≤ (j : Int) := by omega
      have f1 : (j : Int) < (L : Int) := by omega
      have hg : decide ((0 : Int) < ((j + 1 : Nat) : Int)) = true := decide_eq_true (by omega)
      have hg2 : (0 : Int) < ((j + 1 : Nat) : Int) := by omega
      have hbit := bit_le m j
      obtain ⟨t1, t2, t3⟩ := bit_top H0.out hd
      obtain ⟨n, hn⟩ : ∃ n : Nat, n = j + 1 := ⟨_, rfl⟩
      have HN := Lib.hid hn
      rw [← hn] at e1 hg hg2 hd hk ⊢
      clear hcell hn
      by_cases hc : dig 2 m j = 0
      · have HM := Lib.hid (show m < 2 ^ j by rw [hc, Int.mul_zero] at t1; omega)
        rw [hc] at hx
        clear hc hbit t1 t2 t3 hd
        go_wp2
        go_round
        case rel => exact ⟨j, by omega, rfl, HM.out⟩
        case measure => simp [intOf]; have := HN.out; omega
      · have h1 : dig 2 m j = 1 := by omega
        rw [h1] at hx
        have HE := Lib.hid (show bl m = n by
          rw [HN.out]
          refine bl_is ?_ (by rw [← HN.out]; exact hd)
          rw [h1, Int.mul_one] at t1
          omega)
        clear hc hbit t1 t2 t3 hd h1
        go_wp2
        go_ret
        exact ⟨ret_one (by rw [HE.out]), rfl⟩

theorem top_dig {z : Int} (h0 : -half ≤ z) (h1 : z < half) : dig 2 z 383 = if z < 0 then 1 else 0 := by
  have e383 : ∀ u : Int, u / 2 ^ 383 = u / 2 ^ 256 / 2 ^ 127 := fun u => by rw [Int.ediv_ediv_of_nonneg (by decide), ← Int.pow_add]
  have tz := top_bit h0 h1
  rw [← e383] at tz
  unfold dig
  rw [tz]
  split <;> rfl
set_option maxRecDepth 100000 in
theorem Apart (z : Int) (h0 : -half ≤ z) (h1 : z < half) (w : World) : Calls Tryd.prog 56 #[.agg (wv z)] w fun e w' =>
    ∃ b, w.heap.size ≤ b ∧ e = .returned (.tuple #[.bool (decide (z < 0)), .slice (some ⟨b, 0, none⟩) 384 384]) ∧ Row w' b 3 (bv (mag z)) ∧ Below w.heap.size w w' := by
  have HA := Lib.hid (Row.new w 48 (wv z))
  have HB := Lib.hid ((Below.refl w.heap.size w).alloc (Nat.le_refl _) (.cells (wv z) 48))
  have hd := top_dig h0 h1
  have HD := Lib.hid hd
  obtain ⟨n, hn⟩ : ∃ n, n = decide (z < 0) := ⟨_, rfl⟩
  obtain ⟨M, hM⟩ : ∃ M, M = mag z := ⟨_, rfl⟩
  rw [← hn, ← hM]
  have HN := Lib.hid hn
  have HM := Lib.hid hM
  clear hd h0 h1 hn hM
  go_enter Tryd.func56, Tryd.ntmps56
  go_wp2_with (refine wpList_load_row rfl 48 _ rfl (w.heap.size) rfl 48 _ (0, 0) _ HA.out Tryd.underlying48 rfl (by kernel_rfl) ?_)
  refine (Ref.bits z _).mono ?_
  rintro e w1 ⟨b1, hb1, rfl, r1, k1⟩
  have R1 := Lib.hid r1
  have B1 := Lib.hid (HB.out.trans (k1.mono HB.out.size))
  simp only [World.size_alloc] at hb1
  clear k1
  have hx := r1.get (i := 383) (iv_get (digs_get 2 z (by omega)))
  rw [HD.out] at hx
  have hl := r1.lt
  clear r1
  by_cases c : z < 0
  · have E1 := Lib.hid (show n = true by rw [HN.out]; simp [c])
    have E2 := Lib.hid (show M = -z by rw [HM.out]; unfold mag; rw [if_pos c])
    rw [if_pos c] at hx
    clear c
    go_wp2_with fail
    refine (Ref.minus z b1 _ R1.out).mono ?_
    rintro e w2 ⟨b2, hb2, rfl, r2, k2⟩
    have R2 := Lib.hid r2
    have B2 := Lib.hid (B1.out.trans (k2.mono B1.out.size))
    have hs2 := B1.out.size
    clear r2 k2 hx
    go_wp2
    go_ret2
    rw [E1.out, E2.out]
    exact ⟨b2, by omega, rfl, R2.out, B2.out⟩
  · have E1 := Lib.hid (show n = false by rw [HN.out]; simp [c])
    have E2 := Lib.hid (show M = z by rw [HM.out]; unfold mag; rw [if_neg c])
    rw [if_neg c] at hx
    clear c
    go_wp2_with fail
    go_ret2
    rw [E1.out, E2.out]
    exact ⟨b1, by omega, rfl, R1.out, B1.out⟩

end Go.Proofs.YtbbldcbilnkkdaaDoor.Reck
