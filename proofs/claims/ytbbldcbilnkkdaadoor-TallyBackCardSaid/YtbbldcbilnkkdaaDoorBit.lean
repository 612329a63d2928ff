/-
  Sums of layer 2: bit and raised, of the program. No condition.
-/
import Derived.Test.YtbbldcbilnkkdaaDoorPackV
import Derived.Test.YtbbldcbilnkkdaaDoorUp
import Derived.WalkSmall
set_option linter.unusedVariables false
set_option linter.unusedSimpArgs false
namespace Go.Proofs.YtbbldcbilnkkdaaDoor.Reck
open Go.RowKit Num Tly Ref K

set_option maxRecDepth 100000 in
theorem bit (m : Int) (k : Nat) (hk : k < 384) (w : World) : Calls Tryd.prog 83 #[.agg (wv m), .int .i64 k] w fun e w' => e = .returned (.bool (decide (dig 2 m k = 1))) ∧ Below w.heap.size w w' := by
  have HB := Lib.hid ((Below.refl w.heap.size w).alloc (Nat.le_refl _) (.cells (wv m) 26))
  have hx := (Row.new w 26 (wv m)).get (cv_get (digs_get _ m (show k / 64 < 6 by omega)))
  have hw := word_bit m k
  have hxb := dig_lt q_pos m (k / 64)
  have hx0 := dig_nonneg q_pos m (k / 64)
  have hy0 : 0 ≤ dig 18446744073709551616 m (k / 64) / 2 ^ (k % 64) := Int.ediv_nonneg hx0 (Int.le_of_lt (Int.pow_pos (by decide)))
  have hy1 : dig 18446744073709551616 m (k / 64) / 2 ^ (k % 64) ≤ dig 18446744073709551616 m (k / 64) := Int.ediv_le_self _ hx0
  have ha := and_one_u64 (dig 18446744073709551616 m (k / 64) / 2 ^ (k % 64)) hy0 (by omega)
  rw [hw] at ha
  generalize dig 18446744073709551616 m (k / 64) = x at *
  obtain ⟨d, hd⟩ : ∃ d, d = dig 2 m k := ⟨_, rfl⟩
  rw [← hd] at ha ⊢
  have h0 : (0 : Int) ≤ k := by omega
  have h1 : (k : Int) < 384 := by omega
  have g0 : (0 : Int) ≤ (k : Int) / 64 := by omega
  have g1 : (k : Int) / 64 < 6 := by omega
  have g2 : ((k : Int) / 64).toNat = k / 64 := by omega
  have g3 : decide ((0 : Int) ≤ (k : Int)) = true := by simp
  clear hd hw hy0 hy1 hx0 hxb
  go_enter Tryd.func83, Tryd.ntmps83
  go_wp2
  go_ret
  exact ⟨rfl, HB.out⟩
/-- What the table of modes holds. -/
def modesL : List Bool := [true, false, false, false, false, false, false, true, false, false, false, true]
def Modes (w : World) : Prop := 3 < w.heap.size ∧ ∀ i b, modesL[i]? = some b → w.cell? ⟨3, i, none⟩ = some (.bool b)
theorem Modes.below {B : Nat} {w w' : World} (h : Modes w) (hb : Below B w w') (hB : 3 < B) : Modes w' :=
  ⟨Nat.lt_of_lt_of_le h.1 hb.size, fun i b hi => (hb.cell (p := ⟨3, i, none⟩) hB).trans (h.2 i b hi)⟩
set_option maxRecDepth 100000 in
set_option maxHeartbeats 4000000 in
theorem raised (mode : Int) (neg last half rest : Bool) (h0 : 0 ≤ mode) (h1 : mode < 4) (w : World) (hM : Modes w) :
    Calls Tryd.prog 84 #[.int .i64 mode, .bool neg, .bool last, .bool half, .bool rest] w fun e w' => e = .returned (.bool (roundUp mode neg last half rest)) ∧ Below w.heap.size w w' := by
  have HM := Lib.hid hM
  obtain ⟨V, hV⟩ : ∃ V, V = roundUp mode neg last half rest := ⟨_, rfl⟩
  rw [← hV]
  have hcases : mode = 0 ∨ mode = 1 ∨ mode = 2 ∨ mode = 3 := by omega
  have hlt := hM.1
  clear hM h0 h1
  rcases hcases with rfl | rfl | rfl | rfl
  · have c0 := HM.out.2 0 true rfl
    have c1 := HM.out.2 1 false rfl
    have c2 := HM.out.2 2 false rfl
    cases neg <;> cases last <;> cases half <;> cases rest <;> (obtain rfl := hV; go_enter Tryd.func84, Tryd.ntmps84; go_wp2; go_ret; exact ⟨rfl, (Below.refl _ _).alloc (Nat.le_refl _) _⟩)
  · have c0 := HM.out.2 3 false rfl
    have c1 := HM.out.2 4 false rfl
    have c2 := HM.out.2 5 false rfl
    cases neg <;> cases last <;> cases half <;> cases rest <;> (obtain rfl := hV; go_enter Tryd.func84, Tryd.ntmps84; go_wp2; go_ret; exact ⟨rfl, (Below.refl _ _).alloc (Nat.le_refl _) _⟩)
  · have c0 := HM.out.2 6 false rfl
    have c1 := HM.out.2 7 true rfl
    have c2 := HM.out.2 8 false rfl
    cases neg <;> cases last <;> cases half <;> cases rest <;> (obtain rfl := hV; go_enter Tryd.func84, Tryd.ntmps84; go_wp2; go_ret; exact ⟨rfl, (Below.refl _ _).alloc (Nat.le_refl _) _⟩)
  · have c0 := HM.out.2 9 false rfl
    have c1 := HM.out.2 10 false rfl
    have c2 := HM.out.2 11 true rfl
    cases neg <;> cases last <;> cases half <;> cases rest <;> (obtain rfl := hV; go_enter Tryd.func84, Tryd.ntmps84; go_wp2; go_ret; exact ⟨rfl, (Below.refl _ _).alloc (Nat.le_refl _) _⟩)
end Go.Proofs.YtbbldcbilnkkdaaDoor.Reck
