/-
  Gatherings of layer 2: Mon at tallies, of the program and of the document. No condition.
-/
import Derived.Test.YtbbldcbilnkkdaaMons3
import Derived.Laws.CopyOwn
set_option linter.unusedVariables false
set_option linter.unusedSimpArgs false
namespace Go.Proofs.Ytbbldcbilnkkdaa.Mons
open Go.RowKit Num Tly Ref K

theorem array_at (a : Addr) (c : Nat) (W : World) : (Instr.arrayAt 26 (.slice (some a) 6 c)).run Try.prog W = .ok (.pointer (some a)) W := by kernel_rfl
theorem digs6 (z : Int) : ((digs 18446744073709551616 z 6).map (Value.int .u64)).length = 6 := by simp [digs]
theorem one_ints (l : List Int) : ∀ v ∈ l.map (Value.int .u64), v.oneCell' = true := by
  intro v hv
  obtain ⟨z, -, rfl⟩ := List.mem_map.1 hv
  rfl
theorem add0 (b k j : Nat) : (⟨b, k, none⟩ : Addr).add j = ⟨b, k + j, none⟩ := by unfold Addr.add; split <;> simp_all
set_option maxRecDepth 100000 in
set_option maxHeartbeats 1000000 in
theorem mon0 (s0 s1 s2 s3 s4 s5 s6 s7 y v : Int) (hv : wv v = cv [s0, s1, s2, s3, s4, s5]) (hy : 0 ≤ y ∧ y < 18446744073709551616) (w : World) :
    Calls Try.prog 22 #[.int .i64 9, .agg (cv [s0, s1, s2, s3, s4, s5, s6, s7]), .int .i64 0, .int .u64 y] w fun e w' => e = .returned (.agg (cv (digs 18446744073709551616 (putv v (y % 4294967296)) 6 ++ ([s6, s7] : List Int)))) ∧ Below w.heap.size w w' := by
  have hp := fun W => put_any v (y % 4294967296) (by omega) (by omega) W
  rw [show wv v = (#[.int .u64 s0, .int .u64 s1, .int .u64 s2, .int .u64 s3, .int .u64 s4, .int .u64 s5] : Array Value) from hv] at hp
  obtain ⟨P, hP⟩ : ∃ P, P = putv v (y % 4294967296) := ⟨_, rfl⟩
  rw [← hP] at hp ⊢
  have HP := Lib.hid hp
  clear hp hP hv
  have hR : ((digs 18446744073709551616 P 6 ++ ([s6, s7] : List Int))).length = 8 := by simp [digs]
  have HR := Lib.hid hR
  clear hR
  have HA := Lib.hid ((Row.new w 50 (cv [s0, s1, s2, s3, s4, s5, s6, s7])).alloc (.cells (cv [0, 0, 0, 0, 0, 0, 0, 0]) 50))
  have HZ := Lib.hid (Row.at (Row.new (w.alloc (.cells (cv [s0, s1, s2, s3, s4, s5, s6, s7]) 50)) 50 (cv [0, 0, 0, 0, 0, 0, 0, 0])) (b' := w.heap.size + 1) (by simp))
  have HB := Lib.hid (((Below.refl w.heap.size w).alloc (Nat.le_refl _) (.cells (cv [s0, s1, s2, s3, s4, s5, s6, s7]) 50)).alloc (by simp) (.cells (cv [0, 0, 0, 0, 0, 0, 0, 0]) 50))
  have hat := array_at
  show Calls Try.prog 22 #[.int .i64 9, .agg #[.int .u64 s0, .int .u64 s1, .int .u64 s2, .int .u64 s3, .int .u64 s4, .int .u64 s5, .int .u64 s6, .int .u64 s7], .int .i64 0, .int .u64 y] w _
  go_enter Try.func22, Try.ntmps22
  go_wp2_with fail
  clear hat
  refine (HP.out _).mono ?_
  rintro e w1 ⟨rfl, k1⟩
  have s1' := k1.size
  simp only [World.size_alloc] at s1'
  have A1 := Lib.hid (HA.out.below k1 HA.out.lt)
  have Z1 := Lib.hid (HZ.out.below k1 HZ.out.lt)
  have B1 := Lib.hid (HB.out.trans (k1.mono HB.out.size))
  clear k1 HA HZ HB
  have T1 := Lib.hid (Row.new w1 26 (cv [0, 0, 0, 0, 0, 0]))
  go_wp2_with (refine wpList_store_row rfl 26 _ _ rfl (w1.heap.size) _ rfl rfl 26 _ T1.out ?_ ?_ ?_ ?_; kernel_rfl; (first | (rw [wv_size, wv_size]) | kernel_rfl); (first | exact cv_one _ | kernel_rfl))
  have A2 := Lib.hid ((A1.out.alloc (.cells (cv [0, 0, 0, 0, 0, 0]) 26)).put_other (b' := w1.heap.size) (by have := A1.out.lt; omega) (wv P))
  have Z2 := Lib.hid ((Z1.out.alloc (.cells (cv [0, 0, 0, 0, 0, 0]) 26)).put_other (b' := w1.heap.size) (by have := Z1.out.lt; omega) (wv P))
  have T2 := Lib.hid (T1.out.put (wv P))
  have B2 := Lib.hid (Row.put_below (B1.out.alloc (by omega) (.cells (cv [0, 0, 0, 0, 0, 0]) 26)) T1.out (by omega) (wv P))
  obtain ⟨w2, hw2⟩ : ∃ w2, w2 = (w1.alloc (.cells #[Value.int .u64 0, Value.int .u64 0, Value.int .u64 0, Value.int .u64 0, Value.int .u64 0, Value.int .u64 0] 26)).setRow w1.heap.size (wv P) := ⟨_, rfl⟩
  have hw2' : (w1.alloc (.cells (cv [0, 0, 0, 0, 0, 0]) 26)).setRow w1.heap.size (wv P) = w2 := hw2.symm
  rw [hw2'] at A2 Z2 T2 B2
  rw [← hw2]
  clear hw2 hw2' T1 A1 Z1 B1
  refine K.region_tail 3 (by kernel_rfl) (by kernel_rfl) ?_
  simp only [List.take_succ_cons, List.take_zero, List.drop_succ_cons, List.drop_zero]
  iterate 3 (first
    | (refine wpStill_step (fun KK hKK => ?_)
       first
         | (refine K.still_else ?_ (K.Puts.mk' _) ?_
            (first | rfl | (simp [Region.wanted, yielded]; done))
            refine hKK _ ?_)
         | (refine K.still_if ?_ ?_
            (first | rfl | (simp [Region.wanted, yielded]; done))
            apply K.still_val
            · go_simp; (try go_ints); exact K.Gives.mk' _ _
            · go_simp; exact K.Puts.mk' _
            refine hKK _ ?_)
       clear hKK KK)
    | skip)
  refine wpStill_nil ?_
  refine wpList_copy_own rfl _ _ 78 78 rfl 23 Try.underlying78 (by kernel_rfl) w.heap.size 0 8 8 ⟨w1.heap.size, 0, none⟩ 6 6 rfl rfl (cv [s0, s1, s2, s3, s4, s5, s6, s7]) 50 A2.out.drew ((digs 18446744073709551616 P 6).map (Value.int .u64)) (digs6 P) ?_ ?_ (one_ints _) ?_
  · intro j u hj
    rw [add0]
    refine T2.out.drew.get ?_
    rw [Nat.zero_add]
    simpa [wv, cv] using hj
  · rw [digs6, cv_size]; show 0 + 6 ≤ 8; omega
  have eR : (((cv [s0, s1, s2, s3, s4, s5, s6, s7]).toList.take 0) ++ ((digs 18446744073709551616 P 6).map (Value.int .u64) ++ (cv [s0, s1, s2, s3, s4, s5, s6, s7]).toList.drop (0 + ((digs 18446744073709551616 P 6).map (Value.int .u64)).length))).toArray = cv (digs 18446744073709551616 P 6 ++ ([s6, s7] : List Int)) := by
    rw [digs6]
    simp [cv]
  rw [eR]
  clear eR
  have A3 := Lib.hid (A2.out.drew.put (cv (digs 18446744073709551616 P 6 ++ ([s6, s7] : List Int))))
  have Z3 := Lib.hid (Z2.out.drew.put_other (b' := w.heap.size) (by omega) (cv (digs 18446744073709551616 P 6 ++ ([s6, s7] : List Int))))
  have B3 := Lib.hid (Row.put_below B2.out.drew A2.out.drew (Nat.le_refl _) (cv (digs 18446744073709551616 P 6 ++ ([s6, s7] : List Int))))
  obtain ⟨R, hR⟩ : ∃ R, R = (digs 18446744073709551616 P 6 ++ ([s6, s7] : List Int)) := ⟨_, rfl⟩
  rw [← hR] at A3 Z3 B3 HR ⊢
  have HRE := Lib.hid hR
  clear hR
  go_wp2_with (first | (refine wpList_load_row rfl 50 _ rfl (w.heap.size) rfl 50 _ (0, 0) _ A3.out Try.underlying50 rfl ?_ ?_; exact info8s _ HR.out) | (refine wpList_store_row rfl 50 _ _ rfl (w.heap.size + 1) _ rfl rfl 50 _ Z3.out ?_ ?_ ?_ ?_; exact info8s _ HR.out; exact (cv_eight rfl).trans (cv_eight HR.out).symm; exact cv_one _))
  refine bodyPost_ret (v := .agg (cv R)) (results_cell_row Try.results22 _ _ (w.heap.size + 1) 50 _ (0, 0) _ rfl (Row.put Z3.out _) Try.underlying50 rfl (info8s _ HR.out)) rfl ⟨by rw [HRE.out]; first | done | rfl, Row.put_below B3.out Z3.out (by omega) _⟩
set_option maxRecDepth 100000 in
set_option maxHeartbeats 1000000 in
theorem mon1 (s0 s1 s2 s3 s4 s5 s6 s7 y v : Int) (hv : wv v = cv [s1, s2, s3, s4, s5, s6]) (hy : 0 ≤ y ∧ y < 18446744073709551616) (w : World) :
    Calls Try.prog 22 #[.int .i64 9, .agg (cv [s0, s1, s2, s3, s4, s5, s6, s7]), .int .i64 1, .int .u64 y] w fun e w' => e = .returned (.agg (cv (s0 :: digs 18446744073709551616 (putv v (y % 4294967296)) 6 ++ ([s7] : List Int)))) ∧ Below w.heap.size w w' := by
  have hp := fun W => put_any v (y % 4294967296) (by omega) (by omega) W
  rw [show wv v = (#[.int .u64 s1, .int .u64 s2, .int .u64 s3, .int .u64 s4, .int .u64 s5, .int .u64 s6] : Array Value) from hv] at hp
  obtain ⟨P, hP⟩ : ∃ P, P = putv v (y % 4294967296) := ⟨_, rfl⟩
  rw [← hP] at hp ⊢
  have HP := Lib.hid hp
  clear hp hP hv
  have hR : ((s0 :: digs 18446744073709551616 P 6 ++ ([s7] : List Int))).length = 8 := by simp [digs]
  have HR := Lib.hid hR
  clear hR
  have HA := Lib.hid ((Row.new w 50 (cv [s0, s1, s2, s3, s4, s5, s6, s7])).alloc (.cells (cv [0, 0, 0, 0, 0, 0, 0, 0]) 50))
  have HZ := Lib.hid (Row.at (Row.new (w.alloc (.cells (cv [s0, s1, s2, s3, s4, s5, s6, s7]) 50)) 50 (cv [0, 0, 0, 0, 0, 0, 0, 0])) (b' := w.heap.size + 1) (by simp))
  have HB := Lib.hid (((Below.refl w.heap.size w).alloc (Nat.le_refl _) (.cells (cv [s0, s1, s2, s3, s4, s5, s6, s7]) 50)).alloc (by simp) (.cells (cv [0, 0, 0, 0, 0, 0, 0, 0]) 50))
  have hat := array_at
  show Calls Try.prog 22 #[.int .i64 9, .agg #[.int .u64 s0, .int .u64 s1, .int .u64 s2, .int .u64 s3, .int .u64 s4, .int .u64 s5, .int .u64 s6, .int .u64 s7], .int .i64 1, .int .u64 y] w _
  go_enter Try.func22, Try.ntmps22
  go_wp2_with fail
  clear hat
  refine (HP.out _).mono ?_
  rintro e w1 ⟨rfl, k1⟩
  have s1' := k1.size
  simp only [World.size_alloc] at s1'
  have A1 := Lib.hid (HA.out.below k1 HA.out.lt)
  have Z1 := Lib.hid (HZ.out.below k1 HZ.out.lt)
  have B1 := Lib.hid (HB.out.trans (k1.mono HB.out.size))
  clear k1 HA HZ HB
  have T1 := Lib.hid (Row.new w1 26 (cv [0, 0, 0, 0, 0, 0]))
  go_wp2_with (refine wpList_store_row rfl 26 _ _ rfl (w1.heap.size) _ rfl rfl 26 _ T1.out ?_ ?_ ?_ ?_; kernel_rfl; (first | (rw [wv_size, wv_size]) | kernel_rfl); (first | exact cv_one _ | kernel_rfl))
  have A2 := Lib.hid ((A1.out.alloc (.cells (cv [0, 0, 0, 0, 0, 0]) 26)).put_other (b' := w1.heap.size) (by have := A1.out.lt; omega) (wv P))
  have Z2 := Lib.hid ((Z1.out.alloc (.cells (cv [0, 0, 0, 0, 0, 0]) 26)).put_other (b' := w1.heap.size) (by have := Z1.out.lt; omega) (wv P))
  have T2 := Lib.hid (T1.out.put (wv P))
  have B2 := Lib.hid (Row.put_below (B1.out.alloc (by omega) (.cells (cv [0, 0, 0, 0, 0, 0]) 26)) T1.out (by omega) (wv P))
  obtain ⟨w2, hw2⟩ : ∃ w2, w2 = (w1.alloc (.cells #[Value.int .u64 0, Value.int .u64 0, Value.int .u64 0, Value.int .u64 0, Value.int .u64 0, Value.int .u64 0] 26)).setRow w1.heap.size (wv P) := ⟨_, rfl⟩
  have hw2' : (w1.alloc (.cells (cv [0, 0, 0, 0, 0, 0]) 26)).setRow w1.heap.size (wv P) = w2 := hw2.symm
  rw [hw2'] at A2 Z2 T2 B2
  rw [← hw2]
  clear hw2 hw2' T1 A1 Z1 B1
  refine K.region_tail 3 (by kernel_rfl) (by kernel_rfl) ?_
  simp only [List.take_succ_cons, List.take_zero, List.drop_succ_cons, List.drop_zero]
  iterate 3 (first
    | (refine wpStill_step (fun KK hKK => ?_)
       first
         | (refine K.still_else ?_ (K.Puts.mk' _) ?_
            (first | rfl | (simp [Region.wanted, yielded]; done))
            refine hKK _ ?_)
         | (refine K.still_if ?_ ?_
            (first | rfl | (simp [Region.wanted, yielded]; done))
            apply K.still_val
            · go_simp; (try go_ints); exact K.Gives.mk' _ _
            · go_simp; exact K.Puts.mk' _
            refine hKK _ ?_)
       clear hKK KK)
    | skip)
  refine wpStill_nil ?_
  refine wpList_copy_own rfl _ _ 78 78 rfl 23 Try.underlying78 (by kernel_rfl) w.heap.size 1 7 7 ⟨w1.heap.size, 0, none⟩ 6 6 rfl rfl (cv [s0, s1, s2, s3, s4, s5, s6, s7]) 50 A2.out.drew ((digs 18446744073709551616 P 6).map (Value.int .u64)) (digs6 P) ?_ ?_ (one_ints _) ?_
  · intro j u hj
    rw [add0]
    refine T2.out.drew.get ?_
    rw [Nat.zero_add]
    simpa [wv, cv] using hj
  · rw [digs6, cv_size]; show 1 + 6 ≤ 8; omega
  have eR : (((cv [s0, s1, s2, s3, s4, s5, s6, s7]).toList.take 1) ++ ((digs 18446744073709551616 P 6).map (Value.int .u64) ++ (cv [s0, s1, s2, s3, s4, s5, s6, s7]).toList.drop (1 + ((digs 18446744073709551616 P 6).map (Value.int .u64)).length))).toArray = cv (s0 :: digs 18446744073709551616 P 6 ++ ([s7] : List Int)) := by
    rw [digs6]
    simp [cv]
  rw [eR]
  clear eR
  have A3 := Lib.hid (A2.out.drew.put (cv (s0 :: digs 18446744073709551616 P 6 ++ ([s7] : List Int))))
  have Z3 := Lib.hid (Z2.out.drew.put_other (b' := w.heap.size) (by omega) (cv (s0 :: digs 18446744073709551616 P 6 ++ ([s7] : List Int))))
  have B3 := Lib.hid (Row.put_below B2.out.drew A2.out.drew (Nat.le_refl _) (cv (s0 :: digs 18446744073709551616 P 6 ++ ([s7] : List Int))))
  obtain ⟨R, hR⟩ : ∃ R, R = (s0 :: digs 18446744073709551616 P 6 ++ ([s7] : List Int)) := ⟨_, rfl⟩
  rw [← hR] at A3 Z3 B3 HR ⊢
  have HRE := Lib.hid hR
  clear hR
  go_wp2_with (first | (refine wpList_load_row rfl 50 _ rfl (w.heap.size) rfl 50 _ (0, 0) _ A3.out Try.underlying50 rfl ?_ ?_; exact info8s _ HR.out) | (refine wpList_store_row rfl 50 _ _ rfl (w.heap.size + 1) _ rfl rfl 50 _ Z3.out ?_ ?_ ?_ ?_; exact info8s _ HR.out; exact (cv_eight rfl).trans (cv_eight HR.out).symm; exact cv_one _))
  refine bodyPost_ret (v := .agg (cv R)) (results_cell_row Try.results22 _ _ (w.heap.size + 1) 50 _ (0, 0) _ rfl (Row.put Z3.out _) Try.underlying50 rfl (info8s _ HR.out)) rfl ⟨by rw [HRE.out]; first | done | rfl, Row.put_below B3.out Z3.out (by omega) _⟩
set_option maxRecDepth 100000 in
set_option maxHeartbeats 1000000 in
theorem mon2 (s0 s1 s2 s3 s4 s5 s6 s7 y v : Int) (hv : wv v = cv [s2, s3, s4, s5, s6, s7]) (hy : 0 ≤ y ∧ y < 18446744073709551616) (w : World) :
    Calls Try.prog 22 #[.int .i64 9, .agg (cv [s0, s1, s2, s3, s4, s5, s6, s7]), .int .i64 2, .int .u64 y] w fun e w' => e = .returned (.agg (cv (s0 :: s1 :: digs 18446744073709551616 (putv v (y % 4294967296)) 6 ++ ([] : List Int)))) ∧ Below w.heap.size w w' := by
  have hp := fun W => put_any v (y % 4294967296) (by omega) (by omega) W
  rw [show wv v = (#[.int .u64 s2, .int .u64 s3, .int .u64 s4, .int .u64 s5, .int .u64 s6, .int .u64 s7] : Array Value) from hv] at hp
  obtain ⟨P, hP⟩ : ∃ P, P = putv v (y % 4294967296) := ⟨_, rfl⟩
  rw [← hP] at hp ⊢
  have HP := Lib.hid hp
  clear hp hP hv
  have hR : ((s0 :: s1 :: digs 18446744073709551616 P 6 ++ ([] : List Int))).length = 8 := by simp [digs]
  have HR := Lib.hid hR
  clear hR
  have HA := Lib.hid ((Row.new w 50 (cv [s0, s1, s2, s3, s4, s5, s6, s7])).alloc (.cells (cv [0, 0, 0, 0, 0, 0, 0, 0]) 50))
  have HZ := Lib.hid (Row.at (Row.new (w.alloc (.cells (cv [s0, s1, s2, s3, s4, s5, s6, s7]) 50)) 50 (cv [0, 0, 0, 0, 0, 0, 0, 0])) (b' := w.heap.size + 1) (by simp))
  have HB := Lib.hid (((Below.refl w.heap.size w).alloc (Nat.le_refl _) (.cells (cv [s0, s1, s2, s3, s4, s5, s6, s7]) 50)).alloc (by simp) (.cells (cv [0, 0, 0, 0, 0, 0, 0, 0]) 50))
  have hat := array_at
  show Calls Try.prog 22 #[.int .i64 9, .agg #[.int .u64 s0, .int .u64 s1, .int .u64 s2, .int .u64 s3, .int .u64 s4, .int .u64 s5, .int .u64 s6, .int .u64 s7], .int .i64 2, .int .u64 y] w _
  go_enter Try.func22, Try.ntmps22
  go_wp2_with fail
  clear hat
  refine (HP.out _).mono ?_
  rintro e w1 ⟨rfl, k1⟩
  have s1' := k1.size
  simp only [World.size_alloc] at s1'
  have A1 := Lib.hid (HA.out.below k1 HA.out.lt)
  have Z1 := Lib.hid (HZ.out.below k1 HZ.out.lt)
  have B1 := Lib.hid (HB.out.trans (k1.mono HB.out.size))
  clear k1 HA HZ HB
  have T1 := Lib.hid (Row.new w1 26 (cv [0, 0, 0, 0, 0, 0]))
  go_wp2_with (refine wpList_store_row rfl 26 _ _ rfl (w1.heap.size) _ rfl rfl 26 _ T1.out ?_ ?_ ?_ ?_; kernel_rfl; (first | (rw [wv_size, wv_size]) | kernel_rfl); (first | exact cv_one _ | kernel_rfl))
  have A2 := Lib.hid ((A1.out.alloc (.cells (cv [0, 0, 0, 0, 0, 0]) 26)).put_other (b' := w1.heap.size) (by have := A1.out.lt; omega) (wv P))
  have Z2 := Lib.hid ((Z1.out.alloc (.cells (cv [0, 0, 0, 0, 0, 0]) 26)).put_other (b' := w1.heap.size) (by have := Z1.out.lt; omega) (wv P))
  have T2 := Lib.hid (T1.out.put (wv P))
  have B2 := Lib.hid (Row.put_below (B1.out.alloc (by omega) (.cells (cv [0, 0, 0, 0, 0, 0]) 26)) T1.out (by omega) (wv P))
  obtain ⟨w2, hw2⟩ : ∃ w2, w2 = (w1.alloc (.cells #[Value.int .u64 0, Value.int .u64 0, Value.int .u64 0, Value.int .u64 0, Value.int .u64 0, Value.int .u64 0] 26)).setRow w1.heap.size (wv P) := ⟨_, rfl⟩
  have hw2' : (w1.alloc (.cells (cv [0, 0, 0, 0, 0, 0]) 26)).setRow w1.heap.size (wv P) = w2 := hw2.symm
  rw [hw2'] at A2 Z2 T2 B2
  rw [← hw2]
  clear hw2 hw2' T1 A1 Z1 B1
  refine K.region_tail 3 (by kernel_rfl) (by kernel_rfl) ?_
  simp only [List.take_succ_cons, List.take_zero, List.drop_succ_cons, List.drop_zero]
  iterate 3 (first
    | (refine wpStill_step (fun KK hKK => ?_)
       first
         | (refine K.still_else ?_ (K.Puts.mk' _) ?_
            (first | rfl | (simp [Region.wanted, yielded]; done))
            refine hKK _ ?_)
         | (refine K.still_if ?_ ?_
            (first | rfl | (simp [Region.wanted, yielded]; done))
            apply K.still_val
            · go_simp; (try go_ints); exact K.Gives.mk' _ _
            · go_simp; exact K.Puts.mk' _
            refine hKK _ ?_)
       clear hKK KK)
    | skip)
  refine wpStill_nil ?_
  refine wpList_copy_own rfl _ _ 78 78 rfl 23 Try.underlying78 (by kernel_rfl) w.heap.size 2 6 6 ⟨w1.heap.size, 0, none⟩ 6 6 rfl rfl (cv [s0, s1, s2, s3, s4, s5, s6, s7]) 50 A2.out.drew ((digs 18446744073709551616 P 6).map (Value.int .u64)) (digs6 P) ?_ ?_ (one_ints _) ?_
  · intro j u hj
    rw [add0]
    refine T2.out.drew.get ?_
    rw [Nat.zero_add]
    simpa [wv, cv] using hj
  · rw [digs6, cv_size]; show 2 + 6 ≤ 8; omega
  have eR : (((cv [s0, s1, s2, s3, s4, s5, s6, s7]).toList.take 2) ++ ((digs 18446744073709551616 P 6).map (Value.int .u64) ++ (cv [s0, s1, s2, s3, s4, s5, s6, s7]).toList.drop (2 + ((digs 18446744073709551616 P 6).map (Value.int .u64)).length))).toArray = cv (s0 :: s1 :: digs 18446744073709551616 P 6 ++ ([] : List Int)) := by
    rw [digs6]
    simp [cv]
  rw [eR]
  clear eR
  have A3 := Lib.hid (A2.out.drew.put (cv (s0 :: s1 :: digs 18446744073709551616 P 6 ++ ([] : List Int))))
  have Z3 := Lib.hid (Z2.out.drew.put_other (b' := w.heap.size) (by omega) (cv (s0 :: s1 :: digs 18446744073709551616 P 6 ++ ([] : List Int))))
  have B3 := Lib.hid (Row.put_below B2.out.drew A2.out.drew (Nat.le_refl _) (cv (s0 :: s1 :: digs 18446744073709551616 P 6 ++ ([] : List Int))))
  obtain ⟨R, hR⟩ : ∃ R, R = (s0 :: s1 :: digs 18446744073709551616 P 6 ++ ([] : List Int)) := ⟨_, rfl⟩
  rw [← hR] at A3 Z3 B3 HR ⊢
  have HRE := Lib.hid hR
  clear hR
  go_wp2_with (first | (refine wpList_load_row rfl 50 _ rfl (w.heap.size) rfl 50 _ (0, 0) _ A3.out Try.underlying50 rfl ?_ ?_; exact info8s _ HR.out) | (refine wpList_store_row rfl 50 _ _ rfl (w.heap.size + 1) _ rfl rfl 50 _ Z3.out ?_ ?_ ?_ ?_; exact info8s _ HR.out; exact (cv_eight rfl).trans (cv_eight HR.out).symm; exact cv_one _))
  refine bodyPost_ret (v := .agg (cv R)) (results_cell_row Try.results22 _ _ (w.heap.size + 1) 50 _ (0, 0) _ rfl (Row.put Z3.out _) Try.underlying50 rfl (info8s _ HR.out)) rfl ⟨by rw [HRE.out]; first | done | rfl, Row.put_below B3.out Z3.out (by omega) _⟩
end Go.Proofs.Ytbbldcbilnkkdaa.Mons
