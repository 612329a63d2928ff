/-
  Gatherings of layer 2: Mon of the document, but for tallies. No condition.
-/
import Derived.Test.YtbbldcbilnkkdaaMons2
set_option linter.unusedVariables false
set_option linter.unusedSimpArgs false
namespace Go.Proofs.Ytbbldcbilnkkdaa.Mons
open Go.RowKit Num Tly Ref K

theorem ret_state {a b : List Int} (h : a = b) : Ending.returned (.agg (cv a)) = .returned (.agg (cv b)) := by rw [h]
set_option maxRecDepth 100000 in
set_option maxHeartbeats 4000000 in
theorem Mon_plain (m at' y : Int) (S : List Int) (hS : S.length = 8) (hb : ∀ x ∈ S, 0 ≤ x ∧ x < 18446744073709551616) (hy : 0 ≤ y ∧ y < 18446744073709551616) (h9 : m ≠ 9 ∨ at' < 0 ∨ 2 < at') (w : World) :
    Calls Try.prog 23 #[.int .i64 m, .agg (cv S), .int .i64 at', .int .u64 y] w fun e w' => e = .returned (.agg (cv (monv m at' y S))) ∧ Below w.heap.size w w' := by
  have HA := Lib.hid ((Row.new w 50 (cv S)).alloc (.cells (cv [0, 0, 0, 0, 0, 0, 0, 0]) 50))
  have HZ := Lib.hid (Row.at (Row.new (w.alloc (.cells (cv S) 50)) 50 (cv [0, 0, 0, 0, 0, 0, 0, 0])) (b' := w.heap.size + 1) (by simp))
  have HB := Lib.hid (((Below.refl w.heap.size w).alloc (Nat.le_refl _) (.cells (cv S) 50)).alloc (by simp) (.cells (cv [0, 0, 0, 0, 0, 0, 0, 0]) 50))
  have H9 := Lib.hid h9
  have H8 := Lib.hid hS
  clear h9 hS
  by_cases hk : 0 ≤ at' ∧ at' < 8
  · obtain ⟨h1, h2⟩ := hk
    obtain ⟨k, rfl⟩ := Int.eq_ofNat_of_zero_le h1
    have hkl : k < S.length := by rw [H8.out]; omega
    have t1 : decide ((k : Int) < 0) = false := by simp
    have t2 : decide ((7 : Int) < (k : Int)) = false := by simp; omega
    have hx : ((w.alloc (.cells (cv S) 50)).alloc (.cells #[Value.int .u64 0, Value.int .u64 0, Value.int .u64 0, Value.int .u64 0, Value.int .u64 0, Value.int .u64 0, Value.int .u64 0, Value.int .u64 0] 50)).cell? ⟨w.heap.size, k, none⟩ = some (.int .u64 S[k]) := HA.out.get (cv_get (List.getElem?_eq_getElem hkl))
    have hf : ((w.alloc (.cells (cv S) 50)).alloc (.cells #[Value.int .u64 0, Value.int .u64 0, Value.int .u64 0, Value.int .u64 0, Value.int .u64 0, Value.int .u64 0, Value.int .u64 0, Value.int .u64 0] 50)).frozen? ⟨w.heap.size, k, none⟩ = false := HA.out.free k
    have hxb := hb _ (List.getElem_mem hkl)
    have g3 : k < 8 := by omega
    have hM : 0 ≤ m ∧ m ≤ 8 → monv m k y S = S.set k (gat m S[k] y) := fun h => by
      unfold monv
      rw [if_pos ⟨h1, h2, h.1, h.2⟩, show ((k : Nat) : Int).toNat = k from rfl, List.getD_eq_getElem?_getD, List.getElem?_eq_getElem hkl]; rfl
    have hN : m < 1 ∨ 8 < m → monv m k y S = S := fun h => by
      by_cases h0 : m = 0
      · subst h0
        rw [hM ⟨by omega, by omega⟩]
        show S.set k S[k] = S
        exact List.set_getElem_self hkl
      · unfold monv
        rw [if_neg (by omega)]
    have HM := Lib.hid hM
    have HN := Lib.hid hN
    clear hM hN
    generalize S[k] = x at *
    have hcase : (m < 1 ∨ 9 < m) ∨ (m = 9 ∧ 2 < (k : Int)) ∨ m = 1 ∨ m = 2 ∨ m = 3 ∨ m = 4 ∨ m = 5 ∨ m = 6 ∨ m = 7 ∨ m = 8 := by have := H9.out; omega
    have HLS : Hid (∀ v : Int, (S.set k v).length = 8) := fun v => by rw [List.length_set]; exact H8.out
    rcases hcase with h | ⟨rfl, hgt⟩ | rfl | rfl | rfl | rfl | rfl | rfl | rfl | rfl
    · rw [HN.out (by omega)]
      have e1 : (m == 1) = false := by simp; omega
      have e2 : (m == 2) = false := by simp; omega
      have e3 : (m == 3) = false := by simp; omega
      have e4 : (m == 4) = false := by simp; omega
      have e5 : (m == 5) = false := by simp; omega
      have e6 : (m == 6) = false := by simp; omega
      have e7 : (m == 7) = false := by simp; omega
      have e8 : (m == 8) = false := by simp; omega
      have e9 : (m == 9) = false := by simp; omega
      clear h
      go_enter Try.func23, Try.ntmps23
      go_wp2_with (first | (refine wpList_load_row rfl 50 _ rfl (w.heap.size) rfl 50 _ (0, 0) _ HA.out Try.underlying50 rfl ?_ ?_; exact info8s _ H8.out) | (refine wpList_store_row rfl 50 _ _ rfl (w.heap.size + 1) _ rfl rfl 50 _ HZ.out ?_ ?_ ?_ ?_; exact info8s _ H8.out; exact (cv_eight rfl).trans (cv_eight H8.out).symm; exact cv_one _))
      refine bodyPost_ret (v := .agg (cv S)) (results_cell_row Try.results23 _ _ (w.heap.size + 1) 50 _ (0, 0) _ rfl (Row.put HZ.out _) Try.underlying50 rfl (info8s _ H8.out)) rfl ⟨rfl, Row.put_below HB.out HZ.out (by omega) _⟩
    · rw [HN.out (by omega)]
      have hg : decide ((2 : Int) < (k : Int)) = true := by simp; omega
      go_enter Try.func23, Try.ntmps23
      go_wp2_with (first | (refine wpList_load_row rfl 50 _ rfl (w.heap.size) rfl 50 _ (0, 0) _ HA.out Try.underlying50 rfl ?_ ?_; exact info8s _ H8.out) | (refine wpList_store_row rfl 50 _ _ rfl (w.heap.size + 1) _ rfl rfl 50 _ HZ.out ?_ ?_ ?_ ?_; exact info8s _ H8.out; exact (cv_eight rfl).trans (cv_eight H8.out).symm; exact cv_one _))
      refine bodyPost_ret (v := .agg (cv S)) (results_cell_row Try.results23 _ _ (w.heap.size + 1) 50 _ (0, 0) _ rfl (Row.put HZ.out _) Try.underlying50 rfl (info8s _ H8.out)) rfl ⟨rfl, Row.put_below HB.out HZ.out (by omega) _⟩
    · rcases Int.lt_trichotomy (x) (y) with hc | hc | hc
      · have tok0 : True := trivial
        have HG := Lib.hid (show gat 1 x y = x by show min _ _ = _; omega)
        have H1 := Lib.hid (((Row.new w 50 ((cv S).setIfInBounds k (.int .u64 (x)))).alloc (.cells (cv [0, 0, 0, 0, 0, 0, 0, 0]) 50)).to (cv_set S k _))
        have H2 := Lib.hid (Row.at (Row.new (w.alloc (.cells ((cv S).setIfInBounds k (.int .u64 (x))) 50)) 50 (cv [0, 0, 0, 0, 0, 0, 0, 0])) (b' := w.heap.size + 1) (by simp))
        have H3 := Lib.hid (((Below.refl w.heap.size w).alloc (Nat.le_refl _) (.cells ((cv S).setIfInBounds k (.int .u64 (x))) 50)).alloc (by simp) (.cells (cv [0, 0, 0, 0, 0, 0, 0, 0]) 50))
        go_enter Try.func23, Try.ntmps23
        go_wp2_with (first | (go_at_call 45; refine (refNibbles x y hxb hy _).mono ?_; rintro e w1 ⟨rfl, rfl⟩) | (refine wpList_load_row rfl 50 _ rfl (w.heap.size) rfl 50 _ (0, 0) _ H1.out Try.underlying50 rfl ?_ ?_; exact info8s _ (HLS.out _)) | (refine wpList_store_row rfl 50 _ _ rfl (w.heap.size + 1) _ rfl rfl 50 _ H2.out ?_ ?_ ?_ ?_; exact info8s _ (HLS.out _); exact (cv_eight rfl).trans (cv_eight (HLS.out _)).symm; exact cv_one _))
        rw [HM.out (by omega), HG.out]
        refine bodyPost_ret (v := .agg (cv (S.set k (x)))) (results_cell_row Try.results23 _ _ (w.heap.size + 1) 50 _ (0, 0) _ rfl (Row.put H2.out _) Try.underlying50 rfl (info8s _ (HLS.out _))) rfl ⟨rfl, Row.put_below H3.out H2.out (by omega) _⟩
      · subst hc
        have HG := Lib.hid (show gat 1 x x = x by show min _ _ = _; omega)
        have H1 := Lib.hid (((Row.new w 50 ((cv S).setIfInBounds k (.int .u64 (x)))).alloc (.cells (cv [0, 0, 0, 0, 0, 0, 0, 0]) 50)).to (cv_set S k _))
        have H2 := Lib.hid (Row.at (Row.new (w.alloc (.cells ((cv S).setIfInBounds k (.int .u64 (x))) 50)) 50 (cv [0, 0, 0, 0, 0, 0, 0, 0])) (b' := w.heap.size + 1) (by simp))
        have H3 := Lib.hid (((Below.refl w.heap.size w).alloc (Nat.le_refl _) (.cells ((cv S).setIfInBounds k (.int .u64 (x))) 50)).alloc (by simp) (.cells (cv [0, 0, 0, 0, 0, 0, 0, 0]) 50))
        go_enter Try.func23, Try.ntmps23
        go_wp2_with (first | (go_at_call 45; refine (refNibbles x x hxb hy _).mono ?_; rintro e w1 ⟨rfl, rfl⟩) | (refine wpList_load_row rfl 50 _ rfl (w.heap.size) rfl 50 _ (0, 0) _ H1.out Try.underlying50 rfl ?_ ?_; exact info8s _ (HLS.out _)) | (refine wpList_store_row rfl 50 _ _ rfl (w.heap.size + 1) _ rfl rfl 50 _ H2.out ?_ ?_ ?_ ?_; exact info8s _ (HLS.out _); exact (cv_eight rfl).trans (cv_eight (HLS.out _)).symm; exact cv_one _))
        rw [HM.out (by omega), HG.out]
        refine bodyPost_ret (v := .agg (cv (S.set k (x)))) (results_cell_row Try.results23 _ _ (w.heap.size + 1) 50 _ (0, 0) _ rfl (Row.put H2.out _) Try.underlying50 rfl (info8s _ (HLS.out _))) rfl ⟨rfl, Row.put_below H3.out H2.out (by omega) _⟩
      · have tok2 : True := trivial
        have HG := Lib.hid (show gat 1 x y = y by show min _ _ = _; omega)
        have H1 := Lib.hid (((Row.new w 50 ((cv S).setIfInBounds k (.int .u64 (y)))).alloc (.cells (cv [0, 0, 0, 0, 0, 0, 0, 0]) 50)).to (cv_set S k _))
        have H2 := Lib.hid (Row.at (Row.new (w.alloc (.cells ((cv S).setIfInBounds k (.int .u64 (y))) 50)) 50 (cv [0, 0, 0, 0, 0, 0, 0, 0])) (b' := w.heap.size + 1) (by simp))
        have H3 := Lib.hid (((Below.refl w.heap.size w).alloc (Nat.le_refl _) (.cells ((cv S).setIfInBounds k (.int .u64 (y))) 50)).alloc (by simp) (.cells (cv [0, 0, 0, 0, 0, 0, 0, 0]) 50))
        go_enter Try.func23, Try.ntmps23
        go_wp2_with (first | (go_at_call 45; refine (refNibbles x y hxb hy _).mono ?_; rintro e w1 ⟨rfl, rfl⟩) | (refine wpList_load_row rfl 50 _ rfl (w.heap.size) rfl 50 _ (0, 0) _ H1.out Try.underlying50 rfl ?_ ?_; exact info8s _ (HLS.out _)) | (refine wpList_store_row rfl 50 _ _ rfl (w.heap.size + 1) _ rfl rfl 50 _ H2.out ?_ ?_ ?_ ?_; exact info8s _ (HLS.out _); exact (cv_eight rfl).trans (cv_eight (HLS.out _)).symm; exact cv_one _))
        rw [HM.out (by omega), HG.out]
        refine bodyPost_ret (v := .agg (cv (S.set k (y)))) (results_cell_row Try.results23 _ _ (w.heap.size + 1) 50 _ (0, 0) _ rfl (Row.put H2.out _) Try.underlying50 rfl (info8s _ (HLS.out _))) rfl ⟨rfl, Row.put_below H3.out H2.out (by omega) _⟩
    · rcases Int.lt_trichotomy (x) (y) with hc | hc | hc
      · have tok0 : True := trivial
        have HG := Lib.hid (show gat 2 x y = y by show max _ _ = _; omega)
        have H1 := Lib.hid (((Row.new w 50 ((cv S).setIfInBounds k (.int .u64 (y)))).alloc (.cells (cv [0, 0, 0, 0, 0, 0, 0, 0]) 50)).to (cv_set S k _))
        have H2 := Lib.hid (Row.at (Row.new (w.alloc (.cells ((cv S).setIfInBounds k (.int .u64 (y))) 50)) 50 (cv [0, 0, 0, 0, 0, 0, 0, 0])) (b' := w.heap.size + 1) (by simp))
        have H3 := Lib.hid (((Below.refl w.heap.size w).alloc (Nat.le_refl _) (.cells ((cv S).setIfInBounds k (.int .u64 (y))) 50)).alloc (by simp) (.cells (cv [0, 0, 0, 0, 0, 0, 0, 0]) 50))
        go_enter Try.func23, Try.ntmps23
        go_wp2_with (first | (go_at_call 45; refine (refNibbles x y hxb hy _).mono ?_; rintro e w1 ⟨rfl, rfl⟩) | (refine wpList_load_row rfl 50 _ rfl (w.heap.size) rfl 50 _ (0, 0) _ H1.out Try.underlying50 rfl ?_ ?_; exact info8s _ (HLS.out _)) | (refine wpList_store_row rfl 50 _ _ rfl (w.heap.size + 1) _ rfl rfl 50 _ H2.out ?_ ?_ ?_ ?_; exact info8s _ (HLS.out _); exact (cv_eight rfl).trans (cv_eight (HLS.out _)).symm; exact cv_one _))
        rw [HM.out (by omega), HG.out]
        refine bodyPost_ret (v := .agg (cv (S.set k (y)))) (results_cell_row Try.results23 _ _ (w.heap.size + 1) 50 _ (0, 0) _ rfl (Row.put H2.out _) Try.underlying50 rfl (info8s _ (HLS.out _))) rfl ⟨rfl, Row.put_below H3.out H2.out (by omega) _⟩
      · subst hc
        have HG := Lib.hid (show gat 2 x x = x by show max _ _ = _; omega)
        have H1 := Lib.hid (((Row.new w 50 ((cv S).setIfInBounds k (.int .u64 (x)))).alloc (.cells (cv [0, 0, 0, 0, 0, 0, 0, 0]) 50)).to (cv_set S k _))
        have H2 := Lib.hid (Row.at (Row.new (w.alloc (.cells ((cv S).setIfInBounds k (.int .u64 (x))) 50)) 50 (cv [0, 0, 0, 0, 0, 0, 0, 0])) (b' := w.heap.size + 1) (by simp))
        have H3 := Lib.hid (((Below.refl w.heap.size w).alloc (Nat.le_refl _) (.cells ((cv S).setIfInBounds k (.int .u64 (x))) 50)).alloc (by simp) (.cells (cv [0, 0, 0, 0, 0, 0, 0, 0]) 50))
        go_enter Try.func23, Try.ntmps23
        go_wp2_with (first | (go_at_call 45; refine (refNibbles x x hxb hy _).mono ?_; rintro e w1 ⟨rfl, rfl⟩) | (refine wpList_load_row rfl 50 _ rfl (w.heap.size) rfl 50 _ (0, 0) _ H1.out Try.underlying50 rfl ?_ ?_; exact info8s _ (HLS.out _)) | (refine wpList_store_row rfl 50 _ _ rfl (w.heap.size + 1) _ rfl rfl 50 _ H2.out ?_ ?_ ?_ ?_; exact info8s _ (HLS.out _); exact (cv_eight rfl).trans (cv_eight (HLS.out _)).symm; exact cv_one _))
        rw [HM.out (by omega), HG.out]
        refine bodyPost_ret (v := .agg (cv (S.set k (x)))) (results_cell_row Try.results23 _ _ (w.heap.size + 1) 50 _ (0, 0) _ rfl (Row.put H2.out _) Try.underlying50 rfl (info8s _ (HLS.out _))) rfl ⟨rfl, Row.put_below H3.out H2.out (by omega) _⟩
      · have tok2 : True := trivial
        have HG := Lib.hid (show gat 2 x y = x by show max _ _ = _; omega)
        have H1 := Lib.hid (((Row.new w 50 ((cv S).setIfInBounds k (.int .u64 (x)))).alloc (.cells (cv [0, 0, 0, 0, 0, 0, 0, 0]) 50)).to (cv_set S k _))
        have H2 := Lib.hid (Row.at (Row.new (w.alloc (.cells ((cv S).setIfInBounds k (.int .u64 (x))) 50)) 50 (cv [0, 0, 0, 0, 0, 0, 0, 0])) (b' := w.heap.size + 1) (by simp))
        have H3 := Lib.hid (((Below.refl w.heap.size w).alloc (Nat.le_refl _) (.cells ((cv S).setIfInBounds k (.int .u64 (x))) 50)).alloc (by simp) (.cells (cv [0, 0, 0, 0, 0, 0, 0, 0]) 50))
        go_enter Try.func23, Try.ntmps23
        go_wp2_with (first | (go_at_call 45; refine (refNibbles x y hxb hy _).mono ?_; rintro e w1 ⟨rfl, rfl⟩) | (refine wpList_load_row rfl 50 _ rfl (w.heap.size) rfl 50 _ (0, 0) _ H1.out Try.underlying50 rfl ?_ ?_; exact info8s _ (HLS.out _)) | (refine wpList_store_row rfl 50 _ _ rfl (w.heap.size + 1) _ rfl rfl 50 _ H2.out ?_ ?_ ?_ ?_; exact info8s _ (HLS.out _); exact (cv_eight rfl).trans (cv_eight (HLS.out _)).symm; exact cv_one _))
        rw [HM.out (by omega), HG.out]
        refine bodyPost_ret (v := .agg (cv (S.set k (x)))) (results_cell_row Try.results23 _ _ (w.heap.size + 1) 50 _ (0, 0) _ rfl (Row.put H2.out _) Try.underlying50 rfl (info8s _ (HLS.out _))) rfl ⟨rfl, Row.put_below H3.out H2.out (by omega) _⟩
    · rcases Int.lt_trichotomy (wrap64 x) (wrap64 y) with hc | hc | hc
      · have tok0 : True := trivial
        have HG := Lib.hid (show gat 3 x y = IntKind.u64.wrap (wrap64 x) by show IntKind.u64.wrap (min (wrap64 x) (wrap64 y)) = _; congr 1; omega)
        have H1 := Lib.hid (((Row.new w 50 ((cv S).setIfInBounds k (.int .u64 (IntKind.u64.wrap (wrap64 x))))).alloc (.cells (cv [0, 0, 0, 0, 0, 0, 0, 0]) 50)).to (cv_set S k _))
        have H2 := Lib.hid (Row.at (Row.new (w.alloc (.cells ((cv S).setIfInBounds k (.int .u64 (IntKind.u64.wrap (wrap64 x)))) 50)) 50 (cv [0, 0, 0, 0, 0, 0, 0, 0])) (b' := w.heap.size + 1) (by simp))
        have H3 := Lib.hid (((Below.refl w.heap.size w).alloc (Nat.le_refl _) (.cells ((cv S).setIfInBounds k (.int .u64 (IntKind.u64.wrap (wrap64 x)))) 50)).alloc (by simp) (.cells (cv [0, 0, 0, 0, 0, 0, 0, 0]) 50))
        go_enter Try.func23, Try.ntmps23
        go_wp2_with (first | (go_at_call 45; refine (refNibbles x y hxb hy _).mono ?_; rintro e w1 ⟨rfl, rfl⟩) | (refine wpList_load_row rfl 50 _ rfl (w.heap.size) rfl 50 _ (0, 0) _ H1.out Try.underlying50 rfl ?_ ?_; exact info8s _ (HLS.out _)) | (refine wpList_store_row rfl 50 _ _ rfl (w.heap.size + 1) _ rfl rfl 50 _ H2.out ?_ ?_ ?_ ?_; exact info8s _ (HLS.out _); exact (cv_eight rfl).trans (cv_eight (HLS.out _)).symm; exact cv_one _))
        rw [HM.out (by omega), HG.out]
        refine bodyPost_ret (v := .agg (cv (S.set k (IntKind.u64.wrap (wrap64 x))))) (results_cell_row Try.results23 _ _ (w.heap.size + 1) 50 _ (0, 0) _ rfl (Row.put H2.out _) Try.underlying50 rfl (info8s _ (HLS.out _))) rfl ⟨rfl, Row.put_below H3.out H2.out (by omega) _⟩
      · have tok1 : True := trivial
        have HG := Lib.hid (show gat 3 x y = IntKind.u64.wrap (wrap64 y) by show IntKind.u64.wrap (min (wrap64 x) (wrap64 y)) = _; congr 1; omega)
        have H1 := Lib.hid (((Row.new w 50 ((cv S).setIfInBounds k (.int .u64 (IntKind.u64.wrap (wrap64 y))))).alloc (.cells (cv [0, 0, 0, 0, 0, 0, 0, 0]) 50)).to (cv_set S k _))
        have H2 := Lib.hid (Row.at (Row.new (w.alloc (.cells ((cv S).setIfInBounds k (.int .u64 (IntKind.u64.wrap (wrap64 y)))) 50)) 50 (cv [0, 0, 0, 0, 0, 0, 0, 0])) (b' := w.heap.size + 1) (by simp))
        have H3 := Lib.hid (((Below.refl w.heap.size w).alloc (Nat.le_refl _) (.cells ((cv S).setIfInBounds k (.int .u64 (IntKind.u64.wrap (wrap64 y)))) 50)).alloc (by simp) (.cells (cv [0, 0, 0, 0, 0, 0, 0, 0]) 50))
        go_enter Try.func23, Try.ntmps23
        go_wp2_with (first | (go_at_call 45; refine (refNibbles x y hxb hy _).mono ?_; rintro e w1 ⟨rfl, rfl⟩) | (refine wpList_load_row rfl 50 _ rfl (w.heap.size) rfl 50 _ (0, 0) _ H1.out Try.underlying50 rfl ?_ ?_; exact info8s _ (HLS.out _)) | (refine wpList_store_row rfl 50 _ _ rfl (w.heap.size + 1) _ rfl rfl 50 _ H2.out ?_ ?_ ?_ ?_; exact info8s _ (HLS.out _); exact (cv_eight rfl).trans (cv_eight (HLS.out _)).symm; exact cv_one _))
        rw [HM.out (by omega), HG.out]
        refine bodyPost_ret (v := .agg (cv (S.set k (IntKind.u64.wrap (wrap64 y))))) (results_cell_row Try.results23 _ _ (w.heap.size + 1) 50 _ (0, 0) _ rfl (Row.put H2.out _) Try.underlying50 rfl (info8s _ (HLS.out _))) rfl ⟨rfl, Row.put_below H3.out H2.out (by omega) _⟩
      · have tok2 : True := trivial
        have HG := Lib.hid (show gat 3 x y = IntKind.u64.wrap (wrap64 y) by show IntKind.u64.wrap (min (wrap64 x) (wrap64 y)) = _; congr 1; omega)
        have H1 := Lib.hid (((Row.new w 50 ((cv S).setIfInBounds k (.int .u64 (IntKind.u64.wrap (wrap64 y))))).alloc (.cells (cv [0, 0, 0, 0, 0, 0, 0, 0]) 50)).to (cv_set S k _))
        have H2 := Lib.hid (Row.at (Row.new (w.alloc (.cells ((cv S).setIfInBounds k (.int .u64 (IntKind.u64.wrap (wrap64 y)))) 50)) 50 (cv [0, 0, 0, 0, 0, 0, 0, 0])) (b' := w.heap.size + 1) (by simp))
        have H3 := Lib.hid (((Below.refl w.heap.size w).alloc (Nat.le_refl _) (.cells ((cv S).setIfInBounds k (.int .u64 (IntKind.u64.wrap (wrap64 y)))) 50)).alloc (by simp) (.cells (cv [0, 0, 0, 0, 0, 0, 0, 0]) 50))
        go_enter Try.func23, Try.ntmps23
        go_wp2_with (first | (go_at_call 45; refine (refNibbles x y hxb hy _).mono ?_; rintro e w1 ⟨rfl, rfl⟩) | (refine wpList_load_row rfl 50 _ rfl (w.heap.size) rfl 50 _ (0, 0) _ H1.out Try.underlying50 rfl ?_ ?_; exact info8s _ (HLS.out _)) | (refine wpList_store_row rfl 50 _ _ rfl (w.heap.size + 1) _ rfl rfl 50 _ H2.out ?_ ?_ ?_ ?_; exact info8s _ (HLS.out _); exact (cv_eight rfl).trans (cv_eight (HLS.out _)).symm; exact cv_one _))
        rw [HM.out (by omega), HG.out]
        refine bodyPost_ret (v := .agg (cv (S.set k (IntKind.u64.wrap (wrap64 y))))) (results_cell_row Try.results23 _ _ (w.heap.size + 1) 50 _ (0, 0) _ rfl (Row.put H2.out _) Try.underlying50 rfl (info8s _ (HLS.out _))) rfl ⟨rfl, Row.put_below H3.out H2.out (by omega) _⟩
    · rcases Int.lt_trichotomy (wrap64 x) (wrap64 y) with hc | hc | hc
      · have tok0 : True := trivial
        have HG := Lib.hid (show gat 4 x y = IntKind.u64.wrap (wrap64 y) by show IntKind.u64.wrap (max (wrap64 x) (wrap64 y)) = _; congr 1; omega)
        have H1 := Lib.hid (((Row.new w 50 ((cv S).setIfInBounds k (.int .u64 (IntKind.u64.wrap (wrap64 y))))).alloc (.cells (cv [0, 0, 0, 0, 0, 0, 0, 0]) 50)).to (cv_set S k _))
        have H2 := Lib.hid (Row.at (Row.new (w.alloc (.cells ((cv S).setIfInBounds k (.int .u64 (IntKind.u64.wrap (wrap64 y)))) 50)) 50 (cv [0, 0, 0, 0, 0, 0, 0, 0])) (b' := w.heap.size + 1) (by simp))
        have H3 := Lib.hid (((Below.refl w.heap.size w).alloc (Nat.le_refl _) (.cells ((cv S).setIfInBounds k (.int .u64 (IntKind.u64.wrap (wrap64 y)))) 50)).alloc (by simp) (.cells (cv [0, 0, 0, 0, 0, 0, 0, 0]) 50))
        go_enter Try.func23, Try.ntmps23
        go_wp2_with (first | (go_at_call 45; refine (refNibbles x y hxb hy _).mono ?_; rintro e w1 ⟨rfl, rfl⟩) | (refine wpList_load_row rfl 50 _ rfl (w.heap.size) rfl 50 _ (0, 0) _ H1.out Try.underlying50 rfl ?_ ?_; exact info8s _ (HLS.out _)) | (refine wpList_store_row rfl 50 _ _ rfl (w.heap.size + 1) _ rfl rfl 50 _ H2.out ?_ ?_ ?_ ?_; exact info8s _ (HLS.out _); exact (cv_eight rfl).trans (cv_eight (HLS.out _)).symm; exact cv_one _))
        rw [HM.out (by omega), HG.out]
        refine bodyPost_ret (v := .agg (cv (S.set k (IntKind.u64.wrap (wrap64 y))))) (results_cell_row Try.results23 _ _ (w.heap.size + 1) 50 _ (0, 0) _ rfl (Row.put H2.out _) Try.underlying50 rfl (info8s _ (HLS.out _))) rfl ⟨rfl, Row.put_below H3.out H2.out (by omega) _⟩
      · have tok1 : True := trivial
        have HG := Lib.hid (show gat 4 x y = IntKind.u64.wrap (wrap64 y) by show IntKind.u64.wrap (max (wrap64 x) (wrap64 y)) = _; congr 1; omega)
        have H1 := Lib.hid (((Row.new w 50 ((cv S).setIfInBounds k (.int .u64 (IntKind.u64.wrap (wrap64 y))))).alloc (.cells (cv [0, 0, 0, 0, 0, 0, 0, 0]) 50)).to (cv_set S k _))
        have H2 := Lib.hid (Row.at (Row.new (w.alloc (.cells ((cv S).setIfInBounds k (.int .u64 (IntKind.u64.wrap (wrap64 y)))) 50)) 50 (cv [0, 0, 0, 0, 0, 0, 0, 0])) (b' := w.heap.size + 1) (by simp))
        have H3 := Lib.hid (((Below.refl w.heap.size w).alloc (Nat.le_refl _) (.cells ((cv S).setIfInBounds k (.int .u64 (IntKind.u64.wrap (wrap64 y)))) 50)).alloc (by simp) (.cells (cv [0, 0, 0, 0, 0, 0, 0, 0]) 50))
        go_enter Try.func23, Try.ntmps23
        go_wp2_with (first | (go_at_call 45; refine (refNibbles x y hxb hy _).mono ?_; rintro e w1 ⟨rfl, rfl⟩) | (refine wpList_load_row rfl 50 _ rfl (w.heap.size) rfl 50 _ (0, 0) _ H1.out Try.underlying50 rfl ?_ ?_; exact info8s _ (HLS.out _)) | (refine wpList_store_row rfl 50 _ _ rfl (w.heap.size + 1) _ rfl rfl 50 _ H2.out ?_ ?_ ?_ ?_; exact info8s _ (HLS.out _); exact (cv_eight rfl).trans (cv_eight (HLS.out _)).symm; exact cv_one _))
        rw [HM.out (by omega), HG.out]
        refine bodyPost_ret (v := .agg (cv (S.set k (IntKind.u64.wrap (wrap64 y))))) (results_cell_row Try.results23 _ _ (w.heap.size + 1) 50 _ (0, 0) _ rfl (Row.put H2.out _) Try.underlying50 rfl (info8s _ (HLS.out _))) rfl ⟨rfl, Row.put_below H3.out H2.out (by omega) _⟩
      · have tok2 : True := trivial
        have HG := Lib.hid (show gat 4 x y = IntKind.u64.wrap (wrap64 x) by show IntKind.u64.wrap (max (wrap64 x) (wrap64 y)) = _; congr 1; omega)
        have H1 := Lib.hid (((Row.new w 50 ((cv S).setIfInBounds k (.int .u64 (IntKind.u64.wrap (wrap64 x))))).alloc (.cells (cv [0, 0, 0, 0, 0, 0, 0, 0]) 50)).to (cv_set S k _))
        have H2 := Lib.hid (Row.at (Row.new (w.alloc (.cells ((cv S).setIfInBounds k (.int .u64 (IntKind.u64.wrap (wrap64 x)))) 50)) 50 (cv [0, 0, 0, 0, 0, 0, 0, 0])) (b' := w.heap.size + 1) (by simp))
        have H3 := Lib.hid (((Below.refl w.heap.size w).alloc (Nat.le_refl _) (.cells ((cv S).setIfInBounds k (.int .u64 (IntKind.u64.wrap (wrap64 x)))) 50)).alloc (by simp) (.cells (cv [0, 0, 0, 0, 0, 0, 0, 0]) 50))
        go_enter Try.func23, Try.ntmps23
        go_wp2_with (first | (go_at_call 45; refine (refNibbles x y hxb hy _).mono ?_; rintro e w1 ⟨rfl, rfl⟩) | (refine wpList_load_row rfl 50 _ rfl (w.heap.size) rfl 50 _ (0, 0) _ H1.out Try.underlying50 rfl ?_ ?_; exact info8s _ (HLS.out _)) | (refine wpList_store_row rfl 50 _ _ rfl (w.heap.size + 1) _ rfl rfl 50 _ H2.out ?_ ?_ ?_ ?_; exact info8s _ (HLS.out _); exact (cv_eight rfl).trans (cv_eight (HLS.out _)).symm; exact cv_one _))
        rw [HM.out (by omega), HG.out]
        refine bodyPost_ret (v := .agg (cv (S.set k (IntKind.u64.wrap (wrap64 x))))) (results_cell_row Try.results23 _ _ (w.heap.size + 1) 50 _ (0, 0) _ rfl (Row.put H2.out _) Try.underlying50 rfl (info8s _ (HLS.out _))) rfl ⟨rfl, Row.put_below H3.out H2.out (by omega) _⟩
    · have tok : True := trivial
      have HG := Lib.hid (show gat 5 x y = IntKind.u64.wrap (x + y) by rfl)
      have H1 := Lib.hid (((Row.new w 50 ((cv S).setIfInBounds k (.int .u64 (IntKind.u64.wrap (x + y))))).alloc (.cells (cv [0, 0, 0, 0, 0, 0, 0, 0]) 50)).to (cv_set S k _))
      have H2 := Lib.hid (Row.at (Row.new (w.alloc (.cells ((cv S).setIfInBounds k (.int .u64 (IntKind.u64.wrap (x + y)))) 50)) 50 (cv [0, 0, 0, 0, 0, 0, 0, 0])) (b' := w.heap.size + 1) (by simp))
      have H3 := Lib.hid (((Below.refl w.heap.size w).alloc (Nat.le_refl _) (.cells ((cv S).setIfInBounds k (.int .u64 (IntKind.u64.wrap (x + y)))) 50)).alloc (by simp) (.cells (cv [0, 0, 0, 0, 0, 0, 0, 0]) 50))
      go_enter Try.func23, Try.ntmps23
      go_wp2_with (first | (go_at_call 45; refine (refNibbles x y hxb hy _).mono ?_; rintro e w1 ⟨rfl, rfl⟩) | (refine wpList_load_row rfl 50 _ rfl (w.heap.size) rfl 50 _ (0, 0) _ H1.out Try.underlying50 rfl ?_ ?_; exact info8s _ (HLS.out _)) | (refine wpList_store_row rfl 50 _ _ rfl (w.heap.size + 1) _ rfl rfl 50 _ H2.out ?_ ?_ ?_ ?_; exact info8s _ (HLS.out _); exact (cv_eight rfl).trans (cv_eight (HLS.out _)).symm; exact cv_one _))
      rw [HM.out (by omega), HG.out]
      refine bodyPost_ret (v := .agg (cv (S.set k (IntKind.u64.wrap (x + y))))) (results_cell_row Try.results23 _ _ (w.heap.size + 1) 50 _ (0, 0) _ rfl (Row.put H2.out _) Try.underlying50 rfl (info8s _ (HLS.out _))) rfl ⟨rfl, Row.put_below H3.out H2.out (by omega) _⟩
    · have tok : True := trivial
      have HG := Lib.hid (show gat 6 x y = bits .and .u64 x y by rfl)
      have H1 := Lib.hid (((Row.new w 50 ((cv S).setIfInBounds k (.int .u64 (bits .and .u64 x y)))).alloc (.cells (cv [0, 0, 0, 0, 0, 0, 0, 0]) 50)).to (cv_set S k _))
      have H2 := Lib.hid (Row.at (Row.new (w.alloc (.cells ((cv S).setIfInBounds k (.int .u64 (bits .and .u64 x y))) 50)) 50 (cv [0, 0, 0, 0, 0, 0, 0, 0])) (b' := w.heap.size + 1) (by simp))
      have H3 := Lib.hid (((Below.refl w.heap.size w).alloc (Nat.le_refl _) (.cells ((cv S).setIfInBounds k (.int .u64 (bits .and .u64 x y))) 50)).alloc (by simp) (.cells (cv [0, 0, 0, 0, 0, 0, 0, 0]) 50))
      go_enter Try.func23, Try.ntmps23
      go_wp2_with (first | (go_at_call 45; refine (refNibbles x y hxb hy _).mono ?_; rintro e w1 ⟨rfl, rfl⟩) | (refine wpList_load_row rfl 50 _ rfl (w.heap.size) rfl 50 _ (0, 0) _ H1.out Try.underlying50 rfl ?_ ?_; exact info8s _ (HLS.out _)) | (refine wpList_store_row rfl 50 _ _ rfl (w.heap.size + 1) _ rfl rfl 50 _ H2.out ?_ ?_ ?_ ?_; exact info8s _ (HLS.out _); exact (cv_eight rfl).trans (cv_eight (HLS.out _)).symm; exact cv_one _))
      rw [HM.out (by omega), HG.out]
      refine bodyPost_ret (v := .agg (cv (S.set k (bits .and .u64 x y)))) (results_cell_row Try.results23 _ _ (w.heap.size + 1) 50 _ (0, 0) _ rfl (Row.put H2.out _) Try.underlying50 rfl (info8s _ (HLS.out _))) rfl ⟨rfl, Row.put_below H3.out H2.out (by omega) _⟩
    · have tok : True := trivial
      have HG := Lib.hid (show gat 7 x y = bits .or .u64 x y by rfl)
      have H1 := Lib.hid (((Row.new w 50 ((cv S).setIfInBounds k (.int .u64 (bits .or .u64 x y)))).alloc (.cells (cv [0, 0, 0, 0, 0, 0, 0, 0]) 50)).to (cv_set S k _))
      have H2 := Lib.hid (Row.at (Row.new (w.alloc (.cells ((cv S).setIfInBounds k (.int .u64 (bits .or .u64 x y))) 50)) 50 (cv [0, 0, 0, 0, 0, 0, 0, 0])) (b' := w.heap.size + 1) (by simp))
      have H3 := Lib.hid (((Below.refl w.heap.size w).alloc (Nat.le_refl _) (.cells ((cv S).setIfInBounds k (.int .u64 (bits .or .u64 x y))) 50)).alloc (by simp) (.cells (cv [0, 0, 0, 0, 0, 0, 0, 0]) 50))
      go_enter Try.func23, Try.ntmps23
      go_wp2_with (first | (go_at_call 45; refine (refNibbles x y hxb hy _).mono ?_; rintro e w1 ⟨rfl, rfl⟩) | (refine wpList_load_row rfl 50 _ rfl (w.heap.size) rfl 50 _ (0, 0) _ H1.out Try.underlying50 rfl ?_ ?_; exact info8s _ (HLS.out _)) | (refine wpList_store_row rfl 50 _ _ rfl (w.heap.size + 1) _ rfl rfl 50 _ H2.out ?_ ?_ ?_ ?_; exact info8s _ (HLS.out _); exact (cv_eight rfl).trans (cv_eight (HLS.out _)).symm; exact cv_one _))
      rw [HM.out (by omega), HG.out]
      refine bodyPost_ret (v := .agg (cv (S.set k (bits .or .u64 x y)))) (results_cell_row Try.results23 _ _ (w.heap.size + 1) 50 _ (0, 0) _ rfl (Row.put H2.out _) Try.underlying50 rfl (info8s _ (HLS.out _))) rfl ⟨rfl, Row.put_below H3.out H2.out (by omega) _⟩
    · have tok : True := trivial
      have HG := Lib.hid (show gat 8 x y = nibs x y 16 by rfl)
      have H1 := Lib.hid (((Row.new w 50 ((cv S).setIfInBounds k (.int .u64 (nibs x y 16)))).alloc (.cells (cv [0, 0, 0, 0, 0, 0, 0, 0]) 50)).to (cv_set S k _))
      have H2 := Lib.hid (Row.at (Row.new (w.alloc (.cells ((cv S).setIfInBounds k (.int .u64 (nibs x y 16))) 50)) 50 (cv [0, 0, 0, 0, 0, 0, 0, 0])) (b' := w.heap.size + 1) (by simp))
      have H3 := Lib.hid (((Below.refl w.heap.size w).alloc (Nat.le_refl _) (.cells ((cv S).setIfInBounds k (.int .u64 (nibs x y 16))) 50)).alloc (by simp) (.cells (cv [0, 0, 0, 0, 0, 0, 0, 0]) 50))
      go_enter Try.func23, Try.ntmps23
      go_wp2_with (first | (go_at_call 45; refine (refNibbles x y hxb hy _).mono ?_; rintro e w1 ⟨rfl, rfl⟩) | (refine wpList_load_row rfl 50 _ rfl (w.heap.size) rfl 50 _ (0, 0) _ H1.out Try.underlying50 rfl ?_ ?_; exact info8s _ (HLS.out _)) | (refine wpList_store_row rfl 50 _ _ rfl (w.heap.size + 1) _ rfl rfl 50 _ H2.out ?_ ?_ ?_ ?_; exact info8s _ (HLS.out _); exact (cv_eight rfl).trans (cv_eight (HLS.out _)).symm; exact cv_one _))
      rw [HM.out (by omega), HG.out]
      refine bodyPost_ret (v := .agg (cv (S.set k (nibs x y 16)))) (results_cell_row Try.results23 _ _ (w.heap.size + 1) 50 _ (0, 0) _ rfl (Row.put H2.out _) Try.underlying50 rfl (info8s _ (HLS.out _))) rfl ⟨rfl, Row.put_below H3.out H2.out (by omega) _⟩
  · have e : monv m at' y S = S := by unfold monv; rw [if_neg (by omega)]
    rw [e]
    clear e
    have hcase : at' < 0 ∨ (0 ≤ at' ∧ 7 < at') := by omega
    rcases hcase with h | ⟨g1, h⟩
    case' inl => have t1 : decide (at' < 0) = true := by simp; omega
    case' inr =>
      have t1 : decide (at' < 0) = false := by simp; omega
      have t2 : decide ((7 : Int) < at') = true := by simp; omega
    all_goals
      clear hk
      go_enter Try.func23, Try.ntmps23
      go_wp2_with (first | (refine wpList_load_row rfl 50 _ rfl (w.heap.size) rfl 50 _ (0, 0) _ HA.out Try.underlying50 rfl ?_ ?_; exact info8s _ H8.out) | (refine wpList_store_row rfl 50 _ _ rfl (w.heap.size + 1) _ rfl rfl 50 _ HZ.out ?_ ?_ ?_ ?_; exact info8s _ H8.out; exact (cv_eight rfl).trans (cv_eight H8.out).symm; exact cv_one _))
      refine bodyPost_ret (v := .agg (cv S)) (results_cell_row Try.results23 _ _ (w.heap.size + 1) 50 _ (0, 0) _ rfl (Row.put HZ.out _) Try.underlying50 rfl (info8s _ H8.out)) rfl ⟨rfl, Row.put_below HB.out HZ.out (by omega) _⟩
end Go.Proofs.Ytbbldcbilnkkdaa.Mons
