/-
  Sums of layer 2: the document's functions on bits, by the numbers that they stand for. No condition.
-/
import Derived.Test.YtbbldcbilnkkdaaDoorSum
import Derived.Test.YtbbldcbilnkkdaaDoorNum2
set_option linter.unusedVariables false
set_option linter.unusedSimpArgs false
namespace Go.Proofs.YtbbldcbilnkkdaaDoor.Ref
open Go.RowKit Num Tly

def iv (l : List Int) : Array Value := (l.map (Value.int .i64)).toArray
theorem iv_get {l : List Int} {i : Nat} {x : Int} (h : l[i]? = some x) : (iv l)[i]? = some (.int .i64 x) := by simp [iv, h]
theorem iv_set (l : List Int) (i : Nat) (x : Int) : (iv l).setIfInBounds i (.int .i64 x) = iv (l.set i x) := by simp [iv, List.map_set]
/-- The bits of a number modulo 2^384. -/
def bv (z : Int) : Array Value := iv (digs 2 z 384)
def IsBits (z : Int) (w : World) (e : Ending) (w' : World) : Prop := ∃ b, w.heap.size ≤ b ∧ e = .returned (.slice (some ⟨b, 0, none⟩) 384 384) ∧ Row w' b 3 (bv z) ∧ Below w.heap.size w w'
theorem make384' (W : World) : (Instr.makeSlice 52 (.int .i64 384) (.int .i64 384)).run Tryd.prog W = .ok (.slice (some ⟨W.heap.size, 0, none⟩) 384 384) (W.alloc (.cells (iv (List.replicate 384 0)) 3)) := by kernel_rfl
theorem make384 (W : World) : (Instr.makeSlice 52 (.int .i64 384) (.int .i64 384)).run Tryd.prog W = .ok (.slice (some ⟨W.heap.size, 0, none⟩) 384 384) (W.alloc (.cells (bv 0) 3)) := by
  have e : bv 0 = iv (List.replicate 384 0) := by unfold bv; rw [digs_zero two_pos]
  rw [e]
  exact make384' W
def RelBits (B : Nat) (w : World) (z : Int) (i : Value) (wr : World) : Prop :=
  ∃ k : Nat, k ≤ 384 ∧ i = .int .i64 k ∧ Row wr B 48 (wv z) ∧ Row wr (B + 1) 3 (iv (mix 2 z 0 384 k)) ∧ Below B w wr
set_option maxRecDepth 100000 in
theorem bits (z : Int) (w : World) : Calls Tryd.prog 85 #[.agg (wv z)] w (IsBits z w) := by
  have hmk := make384
  go_enter Tryd.func85, Tryd.ntmps85
  go_wp2
  clear hmk
  go_loopw [4] (fun i wr => RelBits w.heap.size w z i wr) (fun i _ => 384 - (intOf i).toNat)
  case atStart =>
    refine ⟨0, Nat.zero_le _, rfl, (Row.new w _ _).alloc _, ?_, ?_⟩
    · rw [mix_zero]; exact Row.at (Row.new (w.alloc (.cells (wv z) 48)) _ _) (by simp)
    · exact ((Below.refl _ _).alloc (Nat.le_refl _) _).alloc (by simp) _
  case round =>
    obtain ⟨k, hk, rfl, ha, hb, hl⟩ := hrel
    rcases Nat.lt_or_ge k 384 with h6 | h6
    · have hx := ha.get (cv_get (digs_get _ z (show k / 64 < 6 by omega)))
      have hf := hb.free k
      have hc := hb.get (iv_get (mix_get _ _ _ h6))
      have hw := word_bit z k
      have hxb := dig_lt q_pos z (k / 64)
      have hx0 := dig_nonneg q_pos z (k / 64)
      have hy0 : 0 ≤ dig 18446744073709551616 z (k / 64) / 2 ^ (k % 64) := Int.ediv_nonneg hx0 (Int.le_of_lt (Int.pow_pos (by decide)))
      generalize dig 18446744073709551616 z (k / 64) = x at *
      have hkb : decide ((k : Int) < 384) = true := by simp; omega
      have h0 : (0 : Int) ≤ k := by omega
      have h1 : (k : Int) < 384 := by omega
      have g0 : (0 : Int) ≤ (k : Int) / 64 := by omega
      have g1 : (k : Int) / 64 < 6 := by omega
      have g2 : ((k : Int) / 64).toNat = k / 64 := by omega
      have hlt := ha.lt
      have hlt1 := hb.lt
      have HW := Lib.hid hw
      have HA := Lib.hid ha
      have HB := Lib.hid hb
      clear ha hb hw
      go_wp2
      go_roundw
      case rel =>
        refine ⟨k + 1, by omega, by go_num, HA.out.other (by simp) _, ?_, hl.setCell (by simp) _⟩
        rw [← mix_set _ _ _ h6, ← iv_set, ← HW.out]
        exact HB.out.set k _
      case measure => simp [intOf]; omega
    · obtain rfl : k = 384 := by omega
      rw [mix_full] at hb
      have HB := Lib.hid hb
      clear hb
      go_wp2
      go_ret
      exact ⟨_, by omega, rfl, HB.out, hl⟩
end Go.Proofs.YtbbldcbilnkkdaaDoor.Ref
