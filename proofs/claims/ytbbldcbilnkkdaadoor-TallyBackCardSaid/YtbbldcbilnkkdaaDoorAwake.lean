/-
  What is asked ahead of the laws that stand without the document: one and a half twice is three, and is told so. No condition.
-/
import Derived.Test.YtbbldcbilnkkdaaDoorText
import Derived.Test.YtbbldcbilnkkdaaDoorAdd
set_option linter.unusedVariables false
set_option linter.unusedSimpArgs false
namespace Go.Proofs.YtbbldcbilnkkdaaDoor.Reck
open Go.RowKit Go.ChangeShapes Num Tly Ref K Bld

theorem num (x : Int) (w : World) : Calls Tryd.prog 17 #[.int .i64 x] w fun e w' => e = .returned (.int .i64 x) ∧ w = w' := by
  go_enter Tryd.func17, Tryd.ntmps17
  go_wp2
  go_ret
  exact ⟨rfl, rfl⟩
def three : Int := 2140871539058939821587428954174242704574119936
theorem three_sum : addS 0 [1069547520, 1069547520] = three := by decide +kernel
theorem three_err : addE [1069547520, 1069547520] = 0 := by decide +kernel
theorem three_round : overR three 1 0 = (1077936128, 0) := by decide +kernel
theorem three_text : textOf (decide (three < 0)) (mag three) = ⟨#[51]⟩ := by decide +kernel
theorem three_words : wv three = #[.int .u64 0, .int .u64 0, .int .u64 6291456, .int .u64 0, .int .u64 0, .int .u64 0] := by
  unfold wv
  rw [show digs 18446744073709551616 three 6 = [0, 0, 6291456, 0, 0, 0] by decide +kernel]
  rfl
theorem three_range : -half ≤ three ∧ three < half := by decide +kernel
set_option maxRecDepth 100000 in
set_option maxHeartbeats 2000000 in
theorem awake (w : World) (hM : Modes w) : Calls Tryd.prog 9 #[] w fun e w' => e = .returned (.bool true) ∧ Below w.heap.size w w' := by
  have HM := Lib.hid hM
  have hof := fun W h => of (some ⟨w.heap.size, 0, none⟩) 2 2 [1069547520, 1069547520] (by omega) (by simp) W h
  rw [three_sum, three_err] at hof
  have hlies : Lies (w.alloc (.cells #[.float .f32 1069547520, .float .f32 1069547520] 39)) (w.alloc (.cells #[.float .f32 1069547520, .float .f32 1069547520] 39)).heap.size (some ⟨w.heap.size, 0, none⟩) 2 ([1069547520, 1069547520].map Ref.fl) :=
    ⟨rfl, fun _ => ⟨_, rfl, by simp, fun j u hu => by
      match j, hu with
      | 0, hu => simp [Ref.fl] at hu; subst hu; simp [Addr.add]
      | 1, hu => simp [Ref.fl] at hu; subst hu; simp [Addr.add]⟩⟩
  have hO := hof _ hlies
  rw [three_words] at hO
  have HO := Lib.hid hO
  have hrd := fun W h => round three 0 three_range.1 three_range.2 W h
  rw [three_round, three_words] at hrd
  have HRD := Lib.hid hrd
  have htx := fun W => text three three_range.1 three_range.2 W
  rw [three_text, three_words] at htx
  have HTX := Lib.hid htx
  have hne := fun W => neq_null (h := three) (by decide +kernel) (by decide +kernel) W
  rw [three_words, show decide (three = 0) = false by decide +kernel] at hne
  have HBT := Lib.hid (grainBits 1077936128)
  clear hM hof hlies hO hrd htx
  go_enter Tryd.func9, Tryd.ntmps9
  go_wp2_with fail
  refine HO.out.mono ?_
  rintro e w1 ⟨rfl, k1⟩
  have B1 := Lib.hid (((Below.refl w.heap.size w).alloc (Nat.le_refl _) (.cells #[.float .f32 1069547520, .float .f32 1069547520] 39)).trans (k1.mono (by simp)))
  have M1 := Lib.hid (HM.out.below B1.out HM.out.1)
  clear k1
  go_wp2_with fail
  refine (HRD.out _ ?_).mono ?_
  · exact M1.out.below ((Below.refl w1.heap.size w1).alloc (Nat.le_refl _) _) M1.out.1
  rintro e w2 ⟨rfl, k2⟩
  have hr := (Row.new w1 26 #[.int .u64 0, .int .u64 0, .int .u64 6291456, .int .u64 0, .int .u64 0, .int .u64 0]).below k2 (by simp)
  have hc := fun o => row_cell hr o
  have hlt := hr.lt
  have HR := Lib.hid hr
  have B2 := Lib.hid ((B1.out.alloc B1.out.size (.cells #[.int .u64 0, .int .u64 0, .int .u64 6291456, .int .u64 0, .int .u64 0, .int .u64 0] 26)).trans (k2.mono (by have := B1.out.size; simp; omega)))
  clear k2 hr
  go_wp2_with (first | (go_at_call 17; refine (num _ _).mono ?_; rintro e w' ⟨rfl, rfl⟩) | (go_at_call 23; refine (HBT.out _).mono ?_; rintro e w' ⟨rfl, rfl⟩))
  refine (HTX.out _).mono ?_
  rintro e w3 ⟨rfl, k3⟩
  have hc2 := fun o => row_cell (HR.out.below k3 hlt) o
  have hlt2 := (HR.out.below k3 hlt).lt
  have B3 := Lib.hid (B2.out.trans (k3.mono B2.out.size))
  clear k3 hc hlt
  go_wp2
  go_ret
  exact ⟨rfl, B3.out⟩
end Go.Proofs.YtbbldcbilnkkdaaDoor.Reck
