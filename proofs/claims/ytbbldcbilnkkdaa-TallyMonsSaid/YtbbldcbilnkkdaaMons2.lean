/-
  Gatherings of layer 2: Mon of the program and of the document. No condition.
-/
import Derived.Test.YtbbldcbilnkkdaaMons
set_option linter.unusedVariables false
set_option linter.unusedSimpArgs false
namespace Go.Proofs.Ytbbldcbilnkkdaa.Mons
open Go.RowKit Num Tly Ref K

theorem cv_eight {S : List Int} (h : S.length = 8) : (cv S).size = 8 := by simp [cv, h]
theorem info8s (S : List Int) (h : S.length = 8) : (Try.prog.info? 50).map (·.size) = some (cv S).size := by
  rw [cv_eight h]; kernel_rfl
/-- What Mon makes of a state, but for tallies. -/
def monv (m at' y : Int) (S : List Int) : List Int := if 0 ≤ at' ∧ at' < 8 ∧ 0 ≤ m ∧ m ≤ 8 then S.set at'.toNat (gat m (S.getD at'.toNat 0) y) else S
theorem monv_length (m at' y : Int) (S : List Int) : (monv m at' y S).length = S.length := by unfold monv; split <;> simp
theorem zeros8 : cv [0, 0, 0, 0, 0, 0, 0, 0] = (#[.int .u64 0, .int .u64 0, .int .u64 0, .int .u64 0, .int .u64 0, .int .u64 0, .int .u64 0, .int .u64 0] : Array Value) := rfl
set_option maxRecDepth 100000 in
set_option maxHeartbeats 1000000 in
theorem mon_plain (m at' y : Int) (S : List Int) (hS : S.length = 8) (hb : ∀ x ∈ S, 0 ≤ x ∧ x < 18446744073709551616) (hy : 0 ≤ y ∧ y < 18446744073709551616) (h9 : m ≠ 9 ∨ at' < 0 ∨ 2 < at') (w : World) :
    Calls Try.prog 22 #[.int .i64 m, .agg (cv S), .int .i64 at', .int .u64 y] w fun e w' => e = .returned (.agg (cv (monv m at' y S))) ∧ Below w.heap.size w w' := by
  have HA := Lib.hid ((Row.new w 50 (cv S)).alloc (.cells (cv [0, 0, 0, 0, 0, 0, 0, 0]) 50))
  have HZ := Lib.hid (Row.at (Row.new (w.alloc (.cells (cv S) 50)) 50 (cv [0, 0, 0, 0, 0, 0, 0, 0])) (b' := w.heap.size + 1) (by simp))
  have HB := Lib.hid (((Below.refl w.heap.size w).alloc (Nat.le_refl _) (.cells (cv S) 50)).alloc (by simp) (.cells (cv [0, 0, 0, 0, 0, 0, 0, 0]) 50))
  have H9 := Lib.hid h9
  have H8 := Lib.hid hS
  clear h9 hS
  by_cases hk : 0 ≤ at' ∧ at' < 8 ∧ 0 ≤ m ∧ m ≤ 8
  · obtain ⟨h1, h2, h3, h4⟩ := hk
    obtain ⟨k, rfl⟩ := Int.eq_ofNat_of_zero_le h1
    have hkl : k < S.length := by rw [H8.out]; omega
    have t1 : decide ((k : Int) < 0) = false := by simp
    have t2 : decide ((8 : Int) ≤ (k : Int)) = false := by simp; omega
    have t3 : decide (m < 0) = false := by simp; omega
    have t4 : decide ((9 : Int) < m) = false := by simp; omega
    have t5 : (m == 9) = false := by simp; omega
    have hx : ((w.alloc (.cells (cv S) 50)).alloc (.cells #[Value.int .u64 0, Value.int .u64 0, Value.int .u64 0, Value.int .u64 0, Value.int .u64 0, Value.int .u64 0, Value.int .u64 0, Value.int .u64 0] 50)).cell? ⟨w.heap.size, k, none⟩ = some (.int .u64 S[k]) := HA.out.get (cv_get (List.getElem?_eq_getElem hkl))
    have hf : ((w.alloc (.cells (cv S) 50)).alloc (.cells #[Value.int .u64 0, Value.int .u64 0, Value.int .u64 0, Value.int .u64 0, Value.int .u64 0, Value.int .u64 0, Value.int .u64 0, Value.int .u64 0] 50)).frozen? ⟨w.heap.size, k, none⟩ = false := HA.out.free k
    have hxb := hb _ (List.getElem_mem hkl)
    have g3 : k < 8 := by omega
    have hM : monv m k y S = S.set k (gat m S[k] y) := by
      unfold monv
      rw [if_pos ⟨h1, h2, h3, h4⟩, show ((k : Nat) : Int).toNat = k from rfl, List.getD_eq_getElem?_getD, List.getElem?_eq_getElem hkl]; rfl
    have HM := Lib.hid hM
    clear hM
    generalize S[k] = x at *
    have hl8 : (S.set k (gat m x y)).length = 8 := by rw [List.length_set]; exact H8.out
    have H1 := Lib.hid (((Row.new w 50 ((cv S).setIfInBounds k (.int .u64 (gat m x y)))).alloc (.cells (cv [0, 0, 0, 0, 0, 0, 0, 0]) 50)).to (cv_set S k _))
    have H2 := Lib.hid (Row.at (Row.new (w.alloc (.cells ((cv S).setIfInBounds k (.int .u64 (gat m x y))) 50)) 50 (cv [0, 0, 0, 0, 0, 0, 0, 0])) (b' := w.heap.size + 1) (by simp))
    have H3 := Lib.hid (((Below.refl w.heap.size w).alloc (Nat.le_refl _) (.cells ((cv S).setIfInBounds k (.int .u64 (gat m x y))) 50)).alloc (by simp) (.cells (cv [0, 0, 0, 0, 0, 0, 0, 0]) 50))
    have HL8 := Lib.hid hl8
    clear hl8
    go_enter Try.func22, Try.ntmps22
    go_wp2_with (first | (go_at_call 44; refine (gather m x y ⟨h3, h4⟩ hxb hy _).mono ?_; rintro e w1 ⟨rfl, rfl⟩) | (refine wpList_load_row rfl 50 _ rfl (w.heap.size) rfl 50 _ (0, 0) _ H1.out Try.underlying50 rfl (info8s _ HL8.out) ?_) | (refine wpList_store_row rfl 50 _ _ rfl (w.heap.size + 1) _ rfl rfl 50 _ H2.out (info8s _ HL8.out) ((cv_eight rfl).trans (cv_eight HL8.out).symm) (cv_one _) ?_))
    rw [HM.out]
    refine bodyPost_ret (v := .agg (cv (S.set k (gat m x y)))) (results_cell_row Try.results22 _ _ (w.heap.size + 1) 50 _ (0, 0) _ rfl (Row.put H2.out _) Try.underlying50 rfl (info8s _ HL8.out)) rfl ⟨rfl, Row.put_below H3.out H2.out (by omega) _⟩
  · have e : monv m at' y S = S := by unfold monv; rw [if_neg hk]
    rw [e]
    have HE := Lib.hid e
    clear e
    have hcase : at' < 0 ∨ (0 ≤ at' ∧ 8 ≤ at') ∨ (0 ≤ at' ∧ at' < 8 ∧ m < 0) ∨ (0 ≤ at' ∧ at' < 8 ∧ 0 ≤ m ∧ 9 < m) ∨ (2 < at' ∧ at' < 8 ∧ m = 9) := by have := H9.out; omega
    rcases hcase with h | ⟨g1, h⟩ | ⟨g1, g2, h⟩ | ⟨g1, g2, g3, h⟩ | ⟨g1, g2, rfl⟩
    all_goals (try have t1 : decide (at' < 0) = true := by simp; omega)
    all_goals (try (have t1 : decide (at' < 0) = false := by simp; omega))
    all_goals (try have t2 : decide ((8 : Int) ≤ at') = true := by simp; omega)
    all_goals (try (have t2 : decide ((8 : Int) ≤ at') = false := by simp; omega))
    all_goals (try have t3 : decide (m < 0) = true := by simp; omega)
    all_goals (try (have t3 : decide (m < 0) = false := by simp; omega))
    all_goals (try have t4 : decide ((9 : Int) < m) = true := by simp; omega)
    all_goals (try (have t4 : decide ((9 : Int) < m) = false := by simp; omega))
    all_goals (try have t6 : decide (at' + 6 ≤ 8) = false := by simp; omega)
    all_goals (try clear hk)
    all_goals
      go_enter Try.func22, Try.ntmps22
      go_wp2_with (first | (refine wpList_load_row rfl 50 _ rfl (w.heap.size) rfl 50 _ (0, 0) _ HA.out Try.underlying50 rfl (info8s _ H8.out) ?_) | (refine wpList_store_row rfl 50 _ _ rfl (w.heap.size + 1) _ rfl rfl 50 _ HZ.out (info8s _ H8.out) ((cv_eight rfl).trans (cv_eight H8.out).symm) (cv_one _) ?_))
      refine bodyPost_ret (v := .agg (cv S)) (results_cell_row Try.results22 _ _ (w.heap.size + 1) 50 _ (0, 0) _ rfl (Row.put HZ.out _) Try.underlying50 rfl (info8s _ H8.out)) rfl ⟨rfl, Row.put_below HB.out HZ.out (by omega) _⟩
end Go.Proofs.Ytbbldcbilnkkdaa.Mons
