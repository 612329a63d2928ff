/-
  Sums of layer 2, more of the document's functions on bits: words, plus, minus. No condition.
-/
import Derived.Test.YtbbldcbilnkkdaaDoorRef
import Derived.Test.YtbbldcbilnkkdaaDoorSum3
set_option linter.unusedVariables false
set_option linter.unusedSimpArgs false
namespace Go.Proofs.YtbbldcbilnkkdaaDoor.Ref
open Go.RowKit Num Tly

theorem bit_le (z : Int) (k : Nat) : dig 2 z k = 0 ∨ dig 2 z k = 1 := by
  have h1 := dig_nonneg two_pos z k
  have h2 := dig_lt two_pos z k
  omega
theorem shl_bit (k : Nat) : IntKind.u64.wrap (2 ^ (k % 64)) = ((2 ^ (k % 64) : Nat) : Int) := by
  have h : (2 : Int) ^ (k % 64) < 18446744073709551616 := by
    have := pow_mono (q := 2) (m := k % 64) (n := 63) (by decide) (by omega)
    have e : (2 : Int) ^ 63 < 18446744073709551616 := by decide
    omega
  have h0 : (0 : Int) < 2 ^ (k % 64) := Int.pow_pos (by decide)
  rw [IntKind.wrap_u64, Int.natCast_pow]
  exact Int.emod_eq_of_lt (Int.le_of_lt h0) h
def RelWords (B : Nat) (w : World) (z : Int) (i : Value) (wr : World) : Prop :=
  ∃ k : Nat, k ≤ 384 ∧ i = .int .i64 k ∧ Row wr B 48 (cv [0, 0, 0, 0, 0, 0]) ∧ Row wr (B + 1) 48 (wv (z % 2 ^ k)) ∧ Below B w wr
set_option maxRecDepth 100000 in
theorem words (z : Int) (g : Nat) (w : World) (hg : Row w g 3 (bv z)) : Calls Tryd.prog 88 #[.slice (some ⟨g, 0, none⟩) 384 384] w fun e w' => e = .returned (.agg (wv z)) ∧ Below w.heap.size w w' := by
  have hgl := hg.lt
  have HG := Lib.hid hg
  clear hg
  go_enter Tryd.func88, Tryd.ntmps88
  go_wp2
  go_loopw [4] (fun i wr => RelWords w.heap.size w z i wr) (fun i _ => 384 - (intOf i).toNat)
  case atStart =>
    refine ⟨0, Nat.zero_le _, rfl, (Row.new w _ (cv [0, 0, 0, 0, 0, 0])).alloc _, ?_, ?_⟩
    · have e : wv (z % 2 ^ 0) = cv [0, 0, 0, 0, 0, 0] := by simp [Int.emod_one]; rfl
      rw [e]
      exact Row.at (Row.new (w.alloc (.cells (cv [0, 0, 0, 0, 0, 0]) 48)) _ (cv [0, 0, 0, 0, 0, 0])) (by simp)
    · exact ((Below.refl _ _).alloc (Nat.le_refl _) _).alloc (by simp) _
  case round =>
    obtain ⟨k, hk, rfl, ha, hb, hl⟩ := hrel
    rcases Nat.lt_or_ge k 384 with h6 | h6
    · have hx := (HG.out.below hl hgl).get (iv_get (digs_get _ z h6))
      have hf := hb.free (k / 64)
      have hc := hb.get (cv_get (digs_get _ (z % 2 ^ k) (show k / 64 < 6 by omega)))
      obtain ⟨st0, st1, y0, y1⟩ := words_step z k h6
      have hor := or_top _ (k % 64) (by omega) y0 y1
      have hsh := shl_bit k
      rw [Int.natCast_pow] at hor hsh
      have HOR := Lib.hid hor
      clear hor
      have hbit := bit_le z k
      generalize dig 18446744073709551616 (z % 2 ^ k) (k / 64) = y at *
      generalize dig 2 z k = x at *
      have hkb : decide ((k : Int) < 384) = true := by simp; omega
      have h0 : (0 : Int) ≤ k := by omega
      have h1 : (k : Int) < 384 := by omega
      have g0 : (0 : Int) ≤ (k : Int) / 64 := by omega
      have g1 : (k : Int) / 64 < 6 := by omega
      have g2 : ((k : Int) / 64).toNat = k / 64 := by omega
      have hlt := ha.lt
      have hlt1 := hb.lt
      have hgl' := (HG.out.below hl hgl).lt
      have HA := Lib.hid ha
      have HB := Lib.hid hb
      have HG' := Lib.hid (HG.out.below hl hgl)
      have S0 := Lib.hid st0
      have S1 := Lib.hid st1
      clear ha hb st0 st1
      rcases hbit with rfl | rfl
      · go_wp2
        go_roundw
        case rel => exact ⟨k + 1, by omega, by go_num, HA.out, by unfold wv; rw [S0.out rfl]; exact HB.out, hl⟩
        case measure => simp [intOf]; omega
      · go_wp2
        go_roundw
        case rel =>
          refine ⟨k + 1, by omega, by go_num, HA.out.other (by simp) _, ?_, hl.setCell (by simp) _⟩
          unfold wv
          rw [S1.out rfl, ← cv_set, ← HOR.out]
          exact HB.out.set (k / 64) _
        case measure => simp [intOf]; omega
    · obtain rfl : k = 384 := by omega
      have e : wv (z % 2 ^ 384) = wv z := by
        have h1 := Int.mul_ediv_add_emod z (2 ^ 384)
        have h2 := digs_mod q_pos (z % 2 ^ 384) 6 (z / 2 ^ 384)
        have h3 : (18446744073709551616 : Int) ^ 6 = 2 ^ 384 := by rw [pow64]
        rw [h3, Int.add_comm, h1] at h2
        unfold wv
        rw [h2]
      rw [e] at hb
      have HA := Lib.hid ha
      have HB := Lib.hid hb
      clear ha hb e
      go_wp2_with (first | (refine wpList_load_row rfl 48 _ rfl (w.heap.size + 1) rfl 48 _ (0, 0) _ HB.out Tryd.underlying48 rfl (by kernel_rfl) ?_) | (refine wpList_store_row rfl 48 _ _ rfl (w.heap.size) _ rfl rfl 48 _ HA.out ?_ ?_ ?_ ?_; kernel_rfl; (first | (rw [wv_size, wv_size]) | kernel_rfl); (first | exact cv_one _ | kernel_rfl)))
      refine bodyPost_ret (v := .agg (wv z)) (results_cell_row Tryd.results88 _ _ (w.heap.size) 48 _ (0, 0) _ rfl (Row.put HA.out _) Tryd.underlying48 rfl (by kernel_rfl)) rfl ⟨rfl, Row.put_below hl HA.out (Nat.le_refl _) _⟩

def RelPlus (B : Nat) (w : World) (a b : Int) (c i : Value) (wr : World) : Prop :=
  ∃ k : Nat, k ≤ 384 ∧ i = .int .i64 k ∧ c = .int .i64 (carry 2 a b k) ∧ Row wr B 3 (iv (mix 2 (a + b) 0 384 k)) ∧ Below B w wr
set_option maxRecDepth 100000 in
theorem plus (a b : Int) (g h : Nat) (w : World) (hg : Row w g 3 (bv a)) (hh : Row w h 3 (bv b)) :
    Calls Tryd.prog 97 #[.slice (some ⟨g, 0, none⟩) 384 384, .slice (some ⟨h, 0, none⟩) 384 384] w (IsBits (a + b) w) := by
  have hgl := hg.lt
  have hhl := hh.lt
  have HG := Lib.hid hg
  have HH := Lib.hid hh
  clear hg hh
  have hmk := make384
  go_enter Tryd.func97, Tryd.ntmps97
  go_wp2
  clear hmk
  go_loopw [6, 7] (fun c i wr => RelPlus w.heap.size w a b c i wr) (fun _ i _ => 384 - (intOf i).toNat)
  case atStart =>
    refine ⟨0, Nat.zero_le _, rfl, by rw [carry_zero], ?_, (Below.refl _ _).alloc (Nat.le_refl _) _⟩
    rw [mix_zero]; exact Row.new w _ _
  case round =>
    obtain ⟨k, hk, rfl, rfl, hb, hl⟩ := hrel
    rcases Nat.lt_or_ge k 384 with h6 | h6
    · have hx := (HG.out.below hl hgl).get (iv_get (digs_get _ a h6))
      have hy := (HH.out.below hl hhl).get (iv_get (digs_get _ b h6))
      have hf := hb.free k
      have hc := hb.get (iv_get (mix_get _ _ _ h6))
      have d1 := add_digit two_pos a b k
      have d2 := add_carry two_pos a b k
      have c1 := carry_bound two_pos a b k
      have x1 := dig_nonneg two_pos a k
      have x2 := dig_lt two_pos a k
      have y1 := dig_nonneg two_pos b k
      have y2 := dig_lt two_pos b k
      generalize dig 2 a k = x at *
      generalize dig 2 b k = y at *
      generalize carry 2 a b k = c at *
      have hkb : decide ((k : Int) < 384) = true := by simp; omega
      have h0 : (0 : Int) ≤ k := by omega
      have h1 : (k : Int) < 384 := by omega
      have hlt1 := hb.lt
      have hgl' := (HG.out.below hl hgl).lt
      have hhl' := (HH.out.below hl hhl).lt
      have HB := Lib.hid hb
      have D1 := Lib.hid d1
      have D2 := Lib.hid d2
      clear hb d1 d2
      go_wp2_with fail
      go_region
      go_wp2
      go_roundw
      case rel =>
        refine ⟨k + 1, by omega, by go_num, ?_, ?_, (hl.setCell (by simp) _).drew⟩
        · rw [← D2.out]
        · rw [← mix_set _ _ _ h6, ← iv_set, ← D1.out]
          exact (HB.out.set k _).drew
      case measure => simp [intOf]; omega
    · obtain rfl : k = 384 := by omega
      rw [mix_full] at hb
      have HB := Lib.hid hb
      clear hb
      go_wp2
      go_ret
      exact ⟨_, Nat.le_refl _, rfl, HB.out, hl⟩

def RelMinus (B : Nat) (w : World) (a : Int) (i : Value) (wr : World) : Prop :=
  ∃ k : Nat, k ≤ 384 ∧ i = .int .i64 k ∧ Row wr B 3 (iv (mix 2 (-a - 1) 0 384 k)) ∧ Row wr (B + 1) 3 (bv 1) ∧ Below B w wr
theorem _root_.Go.Proofs.YtbbldcbilnkkdaaDoor.Tly.Row.to {W : World} {b : Nat} {T : TypeId} {cs cs' : Array Value} (h : Row W b T cs) (e : cs = cs') : Row W b T cs' := e ▸ h
theorem bv_one : (bv 0).setIfInBounds 0 (.int .i64 1) = bv 1 := by
  unfold bv
  rw [iv_set, digs_zero two_pos, digs_one]
  rfl
set_option maxRecDepth 100000 in
theorem minus (a : Int) (g : Nat) (w : World) (hg : Row w g 3 (bv a)) :
    Calls Tryd.prog 86 #[.slice (some ⟨g, 0, none⟩) 384 384] w (IsBits (-a) w) := by
  have hgl := hg.lt
  have HG := Lib.hid hg
  clear hg
  have hmk := make384
  have hone := Row.at (Row.new (w.alloc (.cells (bv 0) 3)) 3 (bv 0)) (b' := w.heap.size + 1) (by simp)
  have hc := hone.get (i := 0) (v := .int .i64 0) (by unfold bv; rw [digs_zero two_pos]; rfl)
  have hf := hone.free 0
  have HO := Lib.hid hone
  have HZ := Lib.hid ((Row.new w 3 (bv 0)).alloc (.cells (bv 0) 3))
  clear hone
  go_enter Tryd.func86, Tryd.ntmps86
  go_wp2
  clear hmk hc hf
  go_loopw [5] (fun i wr => RelMinus w.heap.size w a i wr) (fun i _ => 384 - (intOf i).toNat)
  case atStart =>
    refine ⟨0, Nat.zero_le _, rfl, ?_, ?_, ((Below.refl _ _).alloc (Nat.le_refl _) _).alloc (by simp) _⟩
    · rw [mix_zero]; exact (Row.new w _ _).alloc _
    · exact Row.at (Row.new (w.alloc (.cells (bv 0) 3)) 3 _) (by simp) |>.to bv_one
  case round =>
    clear HO HZ
    obtain ⟨k, hk, rfl, hb, ho, hl⟩ := hrel
    rcases Nat.lt_or_ge k 384 with h6 | h6
    · have hx := (HG.out.below hl hgl).get (iv_get (digs_get _ a h6))
      have hf := hb.free k
      have hc := hb.get (iv_get (mix_get _ _ _ h6))
      have d1 := not_digit a k
      have x1 := dig_nonneg two_pos a k
      have x2 := dig_lt two_pos a k
      generalize dig 2 a k = x at *
      have hkb : decide ((k : Int) < 384) = true := by simp; omega
      have h0 : (0 : Int) ≤ k := by omega
      have h1 : (k : Int) < 384 := by omega
      have hlt1 := hb.lt
      have hgl' := (HG.out.below hl hgl).lt
      have HB := Lib.hid hb
      have HO := Lib.hid ho
      have D1 := Lib.hid d1
      clear hb ho d1
      go_wp2
      go_roundw
      case rel =>
        refine ⟨k + 1, by omega, by go_num, ?_, HO.out.other (by simp) _, hl.setCell (by simp) _⟩
        rw [← mix_set _ _ _ h6, ← iv_set, ← D1.out]
        exact HB.out.set k _
      case measure => simp [intOf]; omega
    · obtain rfl : k = 384 := by omega
      rw [mix_full] at hb
      have HB := Lib.hid hb
      have HO := Lib.hid ho
      clear hb ho
      go_wp2_with fail
      refine (plus (-a - 1) 1 w.heap.size (w.heap.size + 1) _ HB.out HO.out).mono ?_
      rintro e w1 ⟨b, hb, rfl, hr, hb1⟩
      have e : -a - 1 + 1 = -a := by omega
      rw [e] at hr
      have HR := Lib.hid hr
      clear hr e
      go_wp2
      go_ret
      have hs := hl.size
      exact ⟨b, by omega, rfl, HR.out, hl.trans (hb1.mono hs)⟩
end Go.Proofs.YtbbldcbilnkkdaaDoor.Ref
