/-
  Sums of layer 2: Merge of the document. No condition.
-/
import Derived.Test.YtbbldcbilnkkdaaReck3
set_option linter.unusedVariables false
set_option linter.unusedSimpArgs false
namespace Go.Proofs.Ytbbldcbilnkkdaa.Reck
open Go.RowKit Num Tly Ref K

set_option maxRecDepth 100000 in
set_option maxHeartbeats 2000000 in
theorem refMerge (a b : Int) (w : World) : Calls Try.prog 25 #[.agg (wv a), .agg (wv b)] w fun e w' => e = .returned (.agg (wv (a + b))) ∧ Below w.heap.size w w' := by
  obtain ⟨a0, a1, a2, a3, a4, a5, ha⟩ := lit6 a
  obtain ⟨b0, b1, b2, b3, b4, b5, hb⟩ := lit6 b
  obtain ⟨s0, s1, s2, s3, s4, s5, hs⟩ := lit6 (a + b)
  have hA := fun W => Ref.bits a W
  have hB := fun W => Ref.bits b W
  have hW := fun g W h => words (a + b) g W h
  rw [ha] at hA ⊢
  rw [hb] at hB ⊢
  rw [hs] at hW ⊢
  have HA := Lib.hid hA
  have HB := Lib.hid hB
  have HW := Lib.hid hW
  clear hA hB hW ha hb hs
  go_enter Try.func25, Try.ntmps25
  go_wp2_with fail
  obtain ⟨W0, hW0⟩ : ∃ W0, W0 = ((w.alloc (.cells #[.int .u64 a0, .int .u64 a1, .int .u64 a2, .int .u64 a3, .int .u64 a4, .int .u64 a5] 30)).alloc (.cells #[.int .u64 b0, .int .u64 b1, .int .u64 b2, .int .u64 b3, .int .u64 b4, .int .u64 b5] 30)).alloc (.cells #[Value.int .u64 0, Value.int .u64 0, Value.int .u64 0, Value.int .u64 0, Value.int .u64 0, Value.int .u64 0] 30) := ⟨_, rfl⟩
  have rA : Row W0 w.heap.size 30 #[.int .u64 a0, .int .u64 a1, .int .u64 a2, .int .u64 a3, .int .u64 a4, .int .u64 a5] := by rw [hW0]; exact ((Row.new w _ _).alloc _).alloc _
  have rB : Row W0 (w.heap.size + 1) 30 #[.int .u64 b0, .int .u64 b1, .int .u64 b2, .int .u64 b3, .int .u64 b4, .int .u64 b5] := by rw [hW0]; exact (Row.at (Row.new (w.alloc _) _ _) (by simp)).alloc _
  have rZ : Row W0 (w.heap.size + 2) 30 #[Value.int .u64 0, Value.int .u64 0, Value.int .u64 0, Value.int .u64 0, Value.int .u64 0, Value.int .u64 0] := by rw [hW0]; exact Row.at (Row.new ((w.alloc _).alloc _) _ _) (by simp)
  have bl : Below w.heap.size w W0 := by rw [hW0]; exact (((Below.refl _ _).alloc (Nat.le_refl _) _).alloc (by simp) _).alloc (by simp; omega) _
  rw [← hW0]
  have hxa := fun o => K.row_cell rA o
  have hxb := fun o => K.row_cell rB o
  have hxz := fun o => K.row_cell rZ o
  have hfz := fun o => rZ.free o
  have lA := rA.lt
  have lB := rB.lt
  have lZ := rZ.lt
  have RA := Lib.hid rA
  have RB := Lib.hid rB
  have RZ := Lib.hid rZ
  have BL := Lib.hid bl
  clear hW0 rA rB rZ bl
  have HC : Hid (∀ w', Below W0.heap.size W0 w' → (∀ o, w'.cell? ⟨w.heap.size, o, none⟩ = (#[Value.int .u64 a0, .int .u64 a1, .int .u64 a2, .int .u64 a3, .int .u64 a4, .int .u64 a5] : Array Value)[o]?) ∧ (∀ o, w'.cell? ⟨w.heap.size + 1, o, none⟩ = (#[Value.int .u64 b0, .int .u64 b1, .int .u64 b2, .int .u64 b3, .int .u64 b4, .int .u64 b5] : Array Value)[o]?) ∧
      (∀ o, w'.cell? ⟨w.heap.size + 2, o, none⟩ = (#[Value.int .u64 0, Value.int .u64 0, Value.int .u64 0, Value.int .u64 0, Value.int .u64 0, Value.int .u64 0] : Array Value)[o]?) ∧ (∀ o, w'.frozen? ⟨w.heap.size + 2, o, none⟩ = false) ∧ w.heap.size < w'.heap.size ∧ w.heap.size + 1 < w'.heap.size ∧ w.heap.size + 2 < w'.heap.size) :=
    fun w' h => ⟨fun o => K.row_cell (RA.out.below h lA) o, fun o => K.row_cell (RB.out.below h lB) o, fun o => K.row_cell (RZ.out.below h lZ) o, fun o => (RZ.out.below h lZ).free o, Nat.lt_of_lt_of_le lA h.size, Nat.lt_of_lt_of_le lB h.size, Nat.lt_of_lt_of_le lZ h.size⟩
  have q0 : Below W0.heap.size W0 W0.drew := (Below.refl _ _).drew
  have Q := Lib.hid q0
  clear q0
  go_region_with (first
    | (go_at_call_of 40 (Value.int .u64 a0); (refine (HA.out _).mono ?_); rintro e wA ⟨gA, hgA, rfl, rA, kA⟩; have Q := Lib.hid (Q.out.trans (kA.mono Q.out.size)); (try have rB := Lib.hid (rB.out.below kA rB.out.lt)); have rA := Lib.hid rA; obtain ⟨hxa, hxb, hxz, hfz, lA, lB, lZ⟩ := HC.out _ Q.out)
    | (go_at_call_of 40 (Value.int .u64 b0); (refine (HB.out _).mono ?_); rintro e wB ⟨gB, hgB, rfl, rB, kB⟩; have Q := Lib.hid (Q.out.trans (kB.mono Q.out.size)); (try have rA := Lib.hid (rA.out.below kB rA.out.lt)); have rB := Lib.hid rB; obtain ⟨hxa, hxb, hxz, hfz, lA, lB, lZ⟩ := HC.out _ Q.out)
    | (go_at_call 39; (refine (plus a b gA gB _ rA.out rB.out).mono ?_); rintro e wC ⟨gC, hgC, rfl, rC, kC⟩; have Q := Lib.hid (Q.out.trans (kC.mono Q.out.size)); have rC := Lib.hid rC; obtain ⟨hxa, hxb, hxz, hfz, lA, lB, lZ⟩ := HC.out _ Q.out)
    | (go_at_call 38; (refine (HW.out gC _ rC.out).mono ?_); rintro e wD ⟨rfl, kD⟩; have Q := Lib.hid (Q.out.trans (kD.mono Q.out.size)); obtain ⟨hxa, hxb, hxz, hfz, lA, lB, lZ⟩ := HC.out _ Q.out))
  all_goals
    have BW := Lib.hid (BL.out.trans (Q.out.mono BL.out.size))
    have ZW := Lib.hid (RZ.out.below Q.out RZ.out.lt)
    have ZR := Lib.hid (row_set6 (x0 := .int .u64 s0) (x1 := .int .u64 s1) (x2 := .int .u64 s2) (x3 := .int .u64 s3) (x4 := .int .u64 s4) (x5 := .int .u64 s5) ZW.out rfl)
    have ZB := Lib.hid (below_set6 (b := w.heap.size + 2) (x0 := .int .u64 s0) (x1 := .int .u64 s1) (x2 := .int .u64 s2) (x3 := .int .u64 s3) (x4 := .int .u64 s4) (x5 := .int .u64 s5) BW.out (by omega))
    clear hxa hxb hxz hfz
    go_wp2
    refine bodyPost_ret (v := .agg #[.int .u64 s0, .int .u64 s1, .int .u64 s2, .int .u64 s3, .int .u64 s4, .int .u64 s5]) (results_cell_row Try.results25 _ _ (w.heap.size + 2) 30 _ (0, 0) _ rfl ZR.out Try.underlying30 rfl (by kernel_rfl)) rfl ⟨rfl, ZB.out⟩
end Go.Proofs.Ytbbldcbilnkkdaa.Reck
