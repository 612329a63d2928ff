/-
  Gatherings of layer 2: the document's Mon at tallies; Mon of both, together. No condition.
-/
import Derived.Test.YtbbldcbilnkkdaaMons4
set_option linter.unusedVariables false
set_option linter.unusedSimpArgs false
namespace Go.Proofs.Ytbbldcbilnkkdaa.Mons
open Go.RowKit Num Tly Ref K

/-- xs written over the front of zs. -/
def over (xs zs : List Int) (j : Nat) : List Int := xs.take j ++ zs.drop j
theorem over_length (xs zs : List Int) (j : Nat) (h : xs.length = zs.length) : (over xs zs j).length = zs.length := by simp [over]; omega
theorem over_zero (xs zs : List Int) : over xs zs 0 = zs := by simp [over]
theorem over_full (xs zs : List Int) (h : xs.length = zs.length) : over xs zs zs.length = xs := by
  unfold over; rw [List.drop_length, List.append_nil, List.take_of_length_le (by omega)]
theorem over_step (xs zs : List Int) (j : Nat) (u : Int) (h : xs.length = zs.length) (hu : xs[j]? = some u) : (over xs zs j).set j u = over xs zs (j + 1) := by
  obtain ⟨hj, rfl⟩ := List.getElem?_eq_some_iff.1 hu
  unfold over
  rw [List.set_append_right _ _ (by simp; omega), List.take_succ_eq_append_getElem hj, List.append_assoc]
  congr 1
  have e : j - (xs.take j).length = 0 := by simp; omega
  rw [e, List.drop_eq_getElem_cons (by omega : j < zs.length)]
  rfl
/-- xs written into S from place k on. -/
def into (S xs : List Int) (k j : Nat) : List Int := S.take k ++ (xs.take j ++ S.drop (k + j))
theorem into_zero (S xs : List Int) (k : Nat) : into S xs k 0 = S := by simp [into]
theorem into_length (S xs : List Int) (k j : Nat) (h : k + j ≤ S.length) (hx : j ≤ xs.length) : (into S xs k j).length = S.length := by simp [into]; omega
theorem into_step (S xs : List Int) (k j : Nat) (u : Int) (h : k + j < S.length) (hu : xs[j]? = some u) : (into S xs k j).set (k + j) u = into S xs k (j + 1) := by
  obtain ⟨hj, rfl⟩ := List.getElem?_eq_some_iff.1 hu
  unfold into
  have e0 : (S.take k).length = k := by simp; omega
  rw [List.set_append_right _ _ (by rw [e0]; omega), e0, Nat.add_sub_cancel_left, List.set_append_right _ _ (by simp; omega), List.take_succ_eq_append_getElem hj, List.append_assoc]
  congr 2
  have e : j - (xs.take j).length = 0 := by simp; omega
  rw [e, List.drop_eq_getElem_cons h]
  rfl
def RelT (B : Nat) (w : World) (S xs : List Int) (i : Value) (wr : World) : Prop :=
  ∃ j : Nat, j ≤ 6 ∧ i = .int .i64 j ∧ Row wr B 50 (cv S) ∧ Row wr (B + 1) 50 (cv [0, 0, 0, 0, 0, 0, 0, 0]) ∧ Row wr (B + 2) 30 (cv (over xs [0, 0, 0, 0, 0, 0] j)) ∧ Below B w wr
def RelS (B : Nat) (w : World) (f : Nat → List Int) (P : Int) (i : Value) (wr : World) : Prop :=
  ∃ j : Nat, j ≤ 6 ∧ i = .int .i64 j ∧ Row wr B 50 (cv (f j)) ∧ Row wr (B + 1) 50 (cv [0, 0, 0, 0, 0, 0, 0, 0]) ∧ Row wr (B + 2) 30 (wv P) ∧ Below B w wr
set_option maxRecDepth 100000 in
set_option maxHeartbeats 1000000 in
theorem Mon_tally (k : Nat) (hk : k ≤ 2) (S : List Int) (hS : S.length = 8) (y v : Int) (hv : wv v = cv ((S.drop k).take 6)) (hy : 0 ≤ y ∧ y < 18446744073709551616) (w : World) :
    Calls Try.prog 23 #[.int .i64 9, .agg (cv S), .int .i64 k, .int .u64 y] w fun e w' => e = .returned (.agg (cv (S.take k ++ digs 18446744073709551616 (putv v (y % 4294967296)) 6 ++ S.drop (k + 6)))) ∧ Below w.heap.size w w' := by
  have HP := Lib.hid (fun W => Put_any v (y % 4294967296) (by omega) (by omega) W)
  obtain ⟨P, hP⟩ : ∃ P, P = putv v (y % 4294967296) := ⟨_, rfl⟩
  have HP2 := Lib.hid (hP ▸ HP.out)
  rw [← hP]
  clear HP hP
  obtain ⟨T, hT⟩ : ∃ T, T = digs 18446744073709551616 P 6 := ⟨_, rfl⟩
  have hTl : T.length = 6 := by rw [hT]; exact digs_length _ _ _
  have hTw : wv P = cv T := by rw [hT]; rfl
  rw [← hT]
  have HT := Lib.hid hT
  have HTL := Lib.hid hTl
  have HTW := Lib.hid hTw
  clear hT hTl hTw
  have HV := Lib.hid hv
  have H8 := Lib.hid hS
  clear hv hS
  have HA := Lib.hid ((Row.new w 50 (cv S)).alloc (.cells (cv [0, 0, 0, 0, 0, 0, 0, 0]) 50))
  have t1 : decide ((k : Int) < 0) = false := by simp
  have t2 : decide ((7 : Int) < (k : Int)) = false := by simp; omega
  have t3 : decide ((2 : Int) < (k : Int)) = false := by simp; omega
  have hkl : k < S.length := by rw [H8.out]; omega
  have hx : ((w.alloc (.cells (cv S) 50)).alloc (.cells #[Value.int .u64 0, Value.int .u64 0, Value.int .u64 0, Value.int .u64 0, Value.int .u64 0, Value.int .u64 0, Value.int .u64 0, Value.int .u64 0] 50)).cell? ⟨w.heap.size, k, none⟩ = some (.int .u64 S[k]) := HA.out.get (cv_get (List.getElem?_eq_getElem hkl))
  have g3 : k < 8 := by omega
  have g4 : (k : Int) < 8 := by omega
  generalize S[k] = x at *
  go_enter Try.func23, Try.ntmps23
  go_wp2
  clear hx
  go_loopw [11] (fun i wr => RelT w.heap.size w S ((S.drop k).take 6) i wr) (fun i _ => 6 - (intOf i).toNat)
  case atStart =>
    refine ⟨0, Nat.zero_le _, rfl, HA.out.alloc _, ?_, ?_, (((Below.refl _ _).alloc (Nat.le_refl _) _).alloc (by simp) _).alloc (by simp; omega) _⟩
    · exact (Row.at (Row.new (w.alloc (.cells (cv S) 50)) 50 (cv [0, 0, 0, 0, 0, 0, 0, 0])) (by simp)).alloc _
    · rw [over_zero]
      exact Row.at (Row.new ((w.alloc (.cells (cv S) 50)).alloc (.cells (cv [0, 0, 0, 0, 0, 0, 0, 0]) 50)) 30 (cv [0, 0, 0, 0, 0, 0])) (by simp)
  case round =>
    clear HA
    obtain ⟨j, hj, rfl, ha, hz, ht, hl⟩ := hrel
    rcases Nat.lt_or_ge j 6 with h6 | h6
    · have hxl : ((S.drop k).take 6).length = 6 := by simp [H8.out]; omega
      obtain ⟨u, hu⟩ : ∃ u, S[k + j]? = some u := ⟨_, List.getElem?_eq_getElem (by rw [H8.out]; omega)⟩
      have hcell := ha.get (i := k + j) (cv_get hu)
      have hq : ((S.drop k).take 6)[j]? = some u := by rw [List.getElem?_take, if_pos h6, List.getElem?_drop, hu]
      have hst := over_step ((S.drop k).take 6) [0, 0, 0, 0, 0, 0] j u hxl hq
      obtain ⟨u0, hu0⟩ : ∃ u0, (over ((S.drop k).take 6) [0, 0, 0, 0, 0, 0] j)[j]? = some u0 := ⟨_, List.getElem?_eq_getElem (by rw [over_length _ _ _ hxl]; exact h6)⟩
      have hc := ht.get (i := j) (cv_get hu0)
      have hf := ht.free j
      have hjb : decide ((j : Int) < 6) = true := by simp; omega
      have f0 : (0 : Int) ≤ (j : Int) := by omega
      have f1 : (j : Int) < 6 := by omega
      have f2 : (0 : Int) ≤ (k : Int) + (j : Int) := by omega
      have f3 : (k : Int) + (j : Int) < 8 := by omega
      have f4 : ((k : Int) + (j : Int)).toNat = k + j := by omega
      have hlt := ha.lt
      have hlt2 := ht.lt
      have HT := Lib.hid (((ht.set j (.int .u64 u)).to (cv_set _ _ _)).to (congrArg cv hst))
      have HA := Lib.hid (ha.other (a := ⟨w.heap.size + 2, j, none⟩) (by simp) (.int .u64 u))
      have HZ := Lib.hid (hz.other (a := ⟨w.heap.size + 2, j, none⟩) (by simp) (.int .u64 u))
      clear ha hz ht hq hst hxl hu hu0
      go_wp2
      go_roundw
      case rel => exact ⟨j + 1, by omega, by go_num, HA.out, HZ.out, HT.out, hl.setCell (by show w.heap.size ≤ w.heap.size + 2; omega) _⟩
      case measure => simp [intOf]; omega
    · obtain rfl : j = 6 := by omega
      have hxl : ((S.drop k).take 6).length = 6 := by simp [H8.out]; omega
      have hT := ht.to (congrArg cv (over_full ((S.drop k).take 6) [0, 0, 0, 0, 0, 0] hxl))
      rw [← HV.out] at hT
      have HT := Lib.hid hT
      have HA := Lib.hid ha
      have HZ := Lib.hid hz
      clear ha hz ht hT hxl
      go_wp2_with (refine wpList_load_row rfl 30 _ rfl (w.heap.size + 2) rfl 30 _ (0, 0) _ HT.out Try.underlying30 rfl (by kernel_rfl) ?_)
      refine (HP2.out _).mono ?_
      rintro e w1 ⟨rfl, k1⟩
      have A1 := Lib.hid (HA.out.below k1 HA.out.lt)
      have Z1 := Lib.hid (HZ.out.below k1 HZ.out.lt)
      have T1 := Lib.hid (HT.out.below k1 HT.out.lt)
      have B1 := Lib.hid (hl.trans (k1.mono hl.size))
      clear k1 HA HZ HT
      go_wp2_with (refine wpList_store_row rfl 30 _ _ rfl (w.heap.size + 2) _ rfl rfl 30 _ T1.out ?_ ?_ ?_ ?_; kernel_rfl; (first | (rw [wv_size, wv_size]) | kernel_rfl); (first | exact cv_one _ | kernel_rfl))
      have A2 := Lib.hid (A1.out.put_other (b' := w.heap.size + 2) (by omega) (wv P))
      have Z2 := Lib.hid (Z1.out.put_other (b' := w.heap.size + 2) (by omega) (wv P))
      have T2 := Lib.hid (T1.out.put (wv P))
      have B2 := Lib.hid (Row.put_below B1.out T1.out (by omega) (wv P))
      clear hl A1 Z1 T1 B1
      go_loopw [12] (fun i wr => RelS w.heap.size w (into S T k) P i wr) (fun i _ => 6 - (intOf i).toNat)
      case atStart => exact ⟨0, Nat.zero_le _, rfl, by rw [into_zero]; exact A2.out, Z2.out, T2.out, B2.out⟩
      case round =>
        clear A2 Z2 T2 B2
        obtain ⟨j, hj, rfl, ha, hz, ht, hl⟩ := hrel
        rcases Nat.lt_or_ge j 6 with h6 | h6
        · obtain ⟨u, hu⟩ : ∃ u, T[j]? = some u := ⟨_, List.getElem?_eq_getElem (by rw [HTL.out]; exact h6)⟩
          have hcell := ht.get (i := j) (v := .int .u64 u) (by rw [HTW.out]; exact cv_get hu)
          have hst := into_step S T k j u (by rw [H8.out]; omega) hu
          obtain ⟨u0, hu0⟩ : ∃ u0, (into S T k j)[k + j]? = some u0 := ⟨_, List.getElem?_eq_getElem (by rw [into_length _ _ _ _ (by rw [H8.out]; omega) (by rw [HTL.out]; omega), H8.out]; omega)⟩
          have hc := ha.get (i := k + j) (cv_get hu0)
          have hf := ha.free (k + j)
          have hjb : decide ((j : Int) < 6) = true := by simp; omega
          have f0 : (0 : Int) ≤ (j : Int) := by omega
          have f1 : (j : Int) < 6 := by omega
          have f2 : (0 : Int) ≤ (k : Int) + (j : Int) := by omega
          have f3 : (k : Int) + (j : Int) < 8 := by omega
          have f4 : ((k : Int) + (j : Int)).toNat = k + j := by omega
          have hlt := ha.lt
          have hlt2 := ht.lt
          have HA := Lib.hid (((ha.set (k + j) (.int .u64 u)).to (cv_set _ _ _)).to (congrArg cv hst))
          have HT' := Lib.hid (ht.other (a := ⟨w.heap.size, k + j, none⟩) (by simp) (.int .u64 u))
          have HZ := Lib.hid (hz.other (a := ⟨w.heap.size, k + j, none⟩) (by simp) (.int .u64 u))
          clear ha hz ht hst hu hu0
          go_wp2
          go_roundw
          case rel => exact ⟨j + 1, by omega, by go_num, HA.out, HZ.out, HT'.out, hl.setCell (by simp) _⟩
          case measure => simp [intOf]; omega
        · obtain rfl : j = 6 := by omega
          have eR : into S T k 6 = S.take k ++ T ++ S.drop (k + 6) := by
            unfold into
            rw [show T.take 6 = T from List.take_of_length_le (by rw [HTL.out]; exact Nat.le_refl _), List.append_assoc]
          rw [eR] at ha
          have hRl : (S.take k ++ T ++ S.drop (k + 6)).length = 8 := by rw [← eR, into_length _ _ _ _ (by rw [H8.out]; omega) (by rw [HTL.out]; exact Nat.le_refl _)]; exact H8.out
          obtain ⟨R, hR⟩ : ∃ R, R = S.take k ++ T ++ S.drop (k + 6) := ⟨_, rfl⟩
          rw [← hR] at ha hRl
          have HA := Lib.hid ha
          have HZ := Lib.hid hz
          have HR := Lib.hid hRl
          have HRE := Lib.hid hR
          clear ha hz ht hR hRl eR
          go_wp2_with (first | (refine wpList_load_row rfl 50 _ rfl (w.heap.size) rfl 50 _ (0, 0) _ HA.out Try.underlying50 rfl ?_ ?_; exact info8s _ HR.out) | (refine wpList_store_row rfl 50 _ _ rfl (w.heap.size + 1) _ rfl rfl 50 _ HZ.out ?_ ?_ ?_ ?_; exact info8s _ HR.out; exact (cv_eight rfl).trans (cv_eight HR.out).symm; exact cv_one _))
          refine bodyPost_ret (v := .agg (cv R)) (results_cell_row Try.results23 _ _ (w.heap.size + 1) 50 _ (0, 0) _ rfl (Row.put HZ.out _) Try.underlying50 rfl (info8s _ HR.out)) rfl ⟨by rw [HRE.out], Row.put_below hl HZ.out (by omega) _⟩
end Go.Proofs.Ytbbldcbilnkkdaa.Mons
