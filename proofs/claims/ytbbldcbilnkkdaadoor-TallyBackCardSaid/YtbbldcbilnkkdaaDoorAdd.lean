/-
  Sums of layer 2: Add, Of, the document's Add: what they make of a list of numbers. No condition.
-/
import Derived.Test.YtbbldcbilnkkdaaDoorRef4
import Derived.Test.YtbbldcbilnkkdaaDoorK3
set_option linter.unusedVariables false
set_option linter.unusedSimpArgs false
namespace Go.Proofs.YtbbldcbilnkkdaaDoor.Ref
open Go.RowKit Num Tly K

theorem run_bits32 (d : Nat) (W : World) : (callFunc 53 #[.float .f32 d]).run Tryd.prog W = .ok (.value (.int .u32 d)) W := by
  rw [run_callFunc_extern (P := Tryd.prog) Tryd.func53 (by kernel_rfl) (by kernel_rfl) (by kernel_rfl) (e := Extern.MathFloatBits.float32bits) (by kernel_rfl)]; rfl
theorem run_float32 (d : Int) (W : World) : (callFunc 51 #[.int .u32 d]).run Tryd.prog W = .ok (.value (.float .f32 d.toNat)) W := by
  rw [run_callFunc_extern (P := Tryd.prog) Tryd.func51 (by kernel_rfl) (by kernel_rfl) (by kernel_rfl) (e := Extern.MathFloatBits.float32frombits) (by kernel_rfl)]; rfl
theorem grainFloat (d : Int) (w : World) : Calls Tryd.prog 20 #[.int .u32 d] w fun e w' => e = .returned (.float .f32 d.toNat) ∧ w = w' := by
  have hx := run_float32 d
  go_enter Tryd.func20, Tryd.ntmps20
  go_wp2
  go_ret
  exact ⟨rfl, rfl⟩
theorem grainBits (d : Nat) (w : World) : Calls Tryd.prog 23 #[.float .f32 d] w fun e w' => e = .returned (.int .u32 d) ∧ w = w' := by
  have hx := run_bits32 d
  go_enter Tryd.func23, Tryd.ntmps23
  go_wp2
  go_ret
  exact ⟨rfl, rfl⟩

/-- Can all be added? -/
def fin (us : List Int) : Bool := us.all fun u => decide (u / 8388608 % 256 ≠ 255)
def addS (z : Int) (us : List Int) : Int := if fin us then us.foldl putv z else 0
def addE (us : List Int) : Int := if fin us then 0 else 16
def fl (u : Int) : Value := .float .f32 u.toNat
theorem fin_at {us : List Int} (h : fin us = true) {k : Nat} {u : Int} (hu : us[k]? = some u) : u / 8388608 % 256 ≠ 255 := by
  have := List.all_eq_true.1 h u (List.mem_of_getElem? hu)
  simpa using this
theorem results_two {P : Program} {fn : Func} {p s : Tmp} {ty : TypeId} (h : fn.results = #[.cell p ty, .tmp s]) (tmps : Array Value) (w : World) (g : Nat) (t : TypeId) (cs : Array Value) (d : TypeDesc)
    (hp : tmps.getD p undef = .pointer (some ⟨g, 0, none⟩)) (v : Value) (hs : tmps.getD s undef = v) (hg : Row w g t cs)
    (hu : P.underlying ty = some d) (hd : (match d with | .struct _ | .array _ _ => true | _ => false) = true) (hi : (P.info? ty).map (·.size) = some cs.size) :
    (results fn tmps).run P w = .ok (.tuple #[.agg cs, v]) w := by
  have hp' : tmps[p]?.getD undef = .pointer (some ⟨g, 0, none⟩) := by simpa using hp
  have hs' : tmps[s]?.getD undef = v := by simpa using hs
  simp [results, h, hp', hs', asAddr, run_loadVar_row w g t ty cs (0, 0) d hg hu hd hi]
theorem fin_succ {us : List Int} {k : Nat} {u : Int} (hu : us[k]? = some u) : fin (us.take (k + 1)) = (fin (us.take k) && decide (u / 8388608 % 256 ≠ 255)) := by
  obtain ⟨h, rfl⟩ := List.getElem?_eq_some_iff.1 hu
  rw [List.take_succ_eq_append_getElem h]
  simp only [fin, List.all_append, List.all_cons, List.all_nil, Bool.and_true]
theorem fold_succ {us : List Int} {k : Nat} {u z : Int} (hu : us[k]? = some u) : (us.take (k + 1)).foldl putv z = putv ((us.take k).foldl putv z) u := by
  obtain ⟨h, rfl⟩ := List.getElem?_eq_some_iff.1 hu
  rw [List.take_succ_eq_append_getElem h]
  simp only [List.foldl_append, List.foldl_cons, List.foldl_nil]
theorem fin_false {us : List Int} {k : Nat} {u : Int} (hu : us[k]? = some u) (h : u / 8388608 % 256 = 255) : fin us = false := by
  rw [fin, List.all_eq_false]
  exact ⟨u, List.mem_of_getElem? hu, by simp [h]⟩
theorem wv_zero : wv 0 = cv [0, 0, 0, 0, 0, 0] := by unfold wv; rw [digs_null]; rfl
def RelAdd (T : TypeId) (B : Nat) (w : World) (z : Int) (us : List Int) (n : Nat) (i : Value) (wr : World) : Prop :=
  ∃ k : Nat, k ≤ n ∧ i = .int .i64 k ∧ Row wr B T (wv ((us.take k).foldl putv z)) ∧ Row wr (B + 1) T (cv [0, 0, 0, 0, 0, 0]) ∧ Below B w wr
def RelFin (us : List Int) (n : Nat) (i : Value) : Prop := ∃ k : Nat, k ≤ n ∧ i = .int .i64 k ∧ fin (us.take k) = true
set_option maxRecDepth 100000 in
set_option maxHeartbeats 1000000 in
theorem add (z : Int) (A : Option Addr) (n cap : Nat) (us : List Int) (hn : n ≤ 9223372036854775807) (hu : ∀ u ∈ us, 0 ≤ u ∧ u < 4294967296) (w : World) (hA : Lies w w.heap.size A n (us.map fl)) :
    Calls Tryd.prog 50 #[.agg (wv z), .slice A n cap] w fun e w' => e = .returned (.tuple #[.agg (wv (addS z us)), .int .i64 (addE us)]) ∧ Below w.heap.size w w' := by
  have HA := Lib.hid ((Row.new w 26 (wv z)).alloc (.cells (cv [0, 0, 0, 0, 0, 0]) 26))
  have HZ := Lib.hid (Row.at (Row.new (w.alloc (.cells (wv z) 26)) 26 (cv [0, 0, 0, 0, 0, 0])) (b' := w.heap.size + 1) (by simp))
  have HB := Lib.hid (((Below.refl w.heap.size w).alloc (Nat.le_refl _) (.cells (wv z) 26)).alloc (by simp) (.cells (cv [0, 0, 0, 0, 0, 0]) 26))
  have HL := Lib.hid hA
  have HU := Lib.hid (show us.length = n by simpa using hA.1)
  clear hA
  have hbits := run_bits32
  go_enter Tryd.func50, Tryd.ntmps50
  go_wp2
  go_loop [12] (fun i => RelFin us n i) (fun i => n - (intOf i).toNat)
  case atStart => exact ⟨0, Nat.zero_le _, rfl, rfl⟩
  case round =>
    obtain ⟨k, hk, rfl, hfk⟩ := hrel
    rcases Nat.lt_or_ge k n with h6 | h6
    · obtain ⟨u, hu'⟩ : ∃ u, us[k]? = some u := ⟨_, List.getElem?_eq_getElem (by rw [HU.out]; exact h6)⟩
      obtain ⟨ad, rfl, hBB, hcell⟩ := (HL.out.below HB.out).at_ h6
      have hx : ((w.alloc (.cells (wv z) 26)).alloc (.cells #[Value.int .u64 0, Value.int .u64 0, Value.int .u64 0, Value.int .u64 0, Value.int .u64 0, Value.int .u64 0] 26)).cell? (ad.add k) = some (.float .f32 u.toNat) := hcell _ (show (us.map fl)[k]? = some (.float .f32 u.toNat) by simp [hu', fl])
      have hub := hu u (List.mem_of_getElem? hu')
      have e0 : ((u.toNat : Nat) : Int) = u := by omega
      have hkb : decide ((k : Int) < (n : Int)) = true := by simp; omega
      have HC := Lib.hid hu'
      have HK := Lib.hid hfk
      clear hu' hcell hfk
      by_cases hf : u / 8388608 % 256 = 255
      · have HF := Lib.hid hf
        clear hf
        go_wp2_with (first | (go_at_call 52; refine (finite_no u hub.1 hub.2 HF.out _).mono ?_; rintro e w1 ⟨rfl, rfl⟩) | (refine wpList_store_row rfl 26 _ _ rfl (w.heap.size + 1) _ rfl rfl 26 _ HZ.out ?_ ?_ ?_ ?_; kernel_rfl; (first | (rw [wv_size, wv_size]) | kernel_rfl); (first | exact cv_one _ | kernel_rfl)))
        have hfalse := fin_false HC.out HF.out
        have e1 : addE us = 16 := by unfold addE; rw [hfalse]; rfl
        have e2 : wv (addS z us) = cv [0, 0, 0, 0, 0, 0] := by unfold addS; rw [hfalse]; exact wv_zero
        rw [e1, e2]
        refine bodyPost_ret (v := .tuple #[.agg (wv 0), .int .i64 16]) (results_two Tryd.results50 _ _ (w.heap.size + 1) 26 _ _ rfl _ rfl (HZ.out.put _) Tryd.underlying26 rfl (by kernel_rfl)) rfl ⟨by rw [wv_zero], Row.put_below HB.out HZ.out (by omega) _⟩
      · have HF := Lib.hid hf
        clear hf
        go_wp2_with (first | (go_at_call 52; refine (finite_yes u hub.1 hub.2 HF.out _).mono ?_; rintro e w1 ⟨rfl, rfl⟩))
        go_round
        case rel => exact ⟨k + 1, by omega, by go_num, by rw [fin_succ HC.out, HK.out]; simpa using HF.out⟩
        case measure => simp [intOf]; omega
    · obtain rfl : k = n := by omega
      have hfin : fin us = true := by rw [← hfk, List.take_of_length_le (by rw [HU.out]; exact Nat.le_refl _)]
      have HN := Lib.hid hfin
      clear hfk hfin
      go_wp2
      go_loopw [24] (fun i wr => RelAdd 26 w.heap.size w z us k i wr) (fun i _ => k - (intOf i).toNat)
      case atStart => exact ⟨0, Nat.zero_le _, rfl, HA.out, HZ.out, HB.out⟩
      case round =>
        clear HA HZ HB
        obtain ⟨j, hj, rfl, ha, hz, hl⟩ := hrel
        rcases Nat.lt_or_ge j k with h6 | h6
        · obtain ⟨u, hu'⟩ : ∃ u, us[j]? = some u := ⟨_, List.getElem?_eq_getElem (by rw [HU.out]; exact h6)⟩
          obtain ⟨ad, rfl, hBB, hcell⟩ := (HL.out.below hl).at_ h6
          have hx := hcell _ (show (us.map fl)[j]? = some (.float .f32 u.toNat) by simp [hu', fl])
          have hub := hu u (List.mem_of_getElem? hu')
          have e0 : ((u.toNat : Nat) : Int) = u := by omega
          have hkb : decide ((j : Int) < (k : Int)) = true := by simp; omega
          have hlt := ha.lt
          have HC := Lib.hid hu'
          have HA := Lib.hid ha
          have HZ := Lib.hid hz
          clear hu' hcell ha hz
          go_wp2_with fail
          refine K.region_tail 3 (by kernel_rfl) (by kernel_rfl) ?_
          simp only [List.take_succ_cons, List.take_zero, List.drop_succ_cons, List.drop_zero]
          iterate 6 (first
            | ((with_reducible refine wpStill_step (fun KK hKK => ?_))
               first
                 | ((with_reducible refine K.still_else ?_ (K.Puts.mk' _) ?_)
                    (first | rfl | (simp [Region.wanted, yielded]; done))
                    (with_reducible refine hKK _ ?_))
                 | ((with_reducible refine K.still_if ?_ ?_)
                    (first | rfl | (simp [Region.wanted, yielded]; done))
                    apply K.still_row 26 _ rfl (w.heap.size) rfl 26 _ (0, 0) _ HA.out.drew Tryd.underlying26 rfl (by kernel_rfl)
                    · go_simp; exact K.Puts.mk' _
                    (with_reducible refine hKK _ ?_))
                 | ((with_reducible refine K.still_if ?_ ?_)
                    (first | rfl | (simp [Region.wanted, yielded]; done))
                    apply K.still_val
                    · go_simp; (try go_ints); exact K.Gives.mk' _ _
                    · go_simp; exact K.Puts.mk' _
                    (with_reducible refine hKK _ ?_))
               clear hKK KK)
            | skip)
          refine wpStill_nil ?_
          go_wp2_with fail
          refine (put_any _ u hub.1 hub.2 _).mono ?_
          rintro e w1 ⟨rfl, k1⟩
          have A1 := Lib.hid (HA.out.drew.below k1 hlt)
          have Z1 := Lib.hid (HZ.out.drew.below k1 HZ.out.lt)
          have K1 := Lib.hid (hl.drew.trans (k1.mono hl.size))
          clear k1 hx
          go_wp2_with (refine wpList_store_row rfl 26 _ _ rfl (w.heap.size) _ rfl rfl 26 _ A1.out ?_ ?_ ?_ ?_; kernel_rfl; (first | (rw [wv_size, wv_size]) | kernel_rfl); (first | exact cv_one _ | kernel_rfl))
          go_roundw
          case rel => exact ⟨j + 1, by omega, by go_num, by rw [fold_succ HC.out]; exact A1.out.put _, Z1.out.put_other (by omega) _, Row.put_below K1.out A1.out (Nat.le_refl _) _⟩
          case measure => simp [intOf]; omega
        · obtain rfl : j = k := by omega
          rw [List.take_of_length_le (by rw [HU.out]; exact Nat.le_refl _)] at ha
          have HA := Lib.hid ha
          have HZ := Lib.hid hz
          clear ha hz
          go_wp2_with (first | (refine wpList_load_row rfl 26 _ rfl (w.heap.size) rfl 26 _ (0, 0) _ HA.out Tryd.underlying26 rfl (by kernel_rfl) ?_) | (refine wpList_store_row rfl 26 _ _ rfl (w.heap.size + 1) _ rfl rfl 26 _ HZ.out ?_ ?_ ?_ ?_; kernel_rfl; (first | (rw [wv_size, wv_size]) | kernel_rfl); (first | exact cv_one _ | kernel_rfl)))
          have e1 : addE us = 0 := by unfold addE; rw [HN.out]; rfl
          have e2 : addS z us = us.foldl putv z := by unfold addS; rw [HN.out]; rfl
          rw [e1, e2]
          refine bodyPost_ret (v := .tuple #[.agg (wv (us.foldl putv z)), .int .i64 0]) (results_two Tryd.results50 _ _ (w.heap.size + 1) 26 _ _ rfl _ rfl (HZ.out.put _) Tryd.underlying26 rfl (by kernel_rfl)) rfl ⟨rfl, Row.put_below hl HZ.out (by omega) _⟩
set_option maxRecDepth 100000 in
theorem of (A : Option Addr) (n cap : Nat) (us : List Int) (hn : n ≤ 9223372036854775807) (hu : ∀ u ∈ us, 0 ≤ u ∧ u < 4294967296) (w : World) (hA : Lies w w.heap.size A n (us.map fl)) :
    Calls Tryd.prog 19 #[.slice A n cap] w fun e w' => e = .returned (.tuple #[.agg (wv (addS 0 us)), .int .i64 (addE us)]) ∧ Below w.heap.size w w' := by
  have HZ := Lib.hid (Row.new w 26 (cv [0, 0, 0, 0, 0, 0]))
  have HB := Lib.hid ((Below.refl w.heap.size w).alloc (Nat.le_refl _) (.cells (cv [0, 0, 0, 0, 0, 0]) 26))
  have ha := fun W h => add 0 A n cap us hn hu W h
  rw [show wv 0 = #[Value.int .u64 0, Value.int .u64 0, Value.int .u64 0, Value.int .u64 0, Value.int .u64 0, Value.int .u64 0] from wv_zero] at ha
  have HL := Lib.hid hA
  clear hA
  go_enter Tryd.func19, Tryd.ntmps19
  go_wp2_with fail
  refine (ha _ ((HL.out.below HB.out).more (by simp))).mono ?_
  rintro e w1 ⟨rfl, k1⟩
  have Z1 := Lib.hid (HZ.out.below k1 HZ.out.lt)
  have K1 := Lib.hid (HB.out.trans (k1.mono HB.out.size))
  clear k1 ha
  go_wp2_with (refine wpList_store_row rfl 26 _ _ rfl (w.heap.size) _ rfl rfl 26 _ Z1.out ?_ ?_ ?_ ?_; kernel_rfl; (first | (rw [wv_size, wv_size]) | kernel_rfl); (first | exact cv_one _ | kernel_rfl))
  refine bodyPost_ret (v := .tuple #[.agg (wv (addS 0 us)), .int .i64 (addE us)]) (results_two Tryd.results19 _ _ (w.heap.size) 26 _ _ rfl _ rfl (Z1.out.put _) Tryd.underlying26 rfl (by kernel_rfl)) rfl ⟨rfl, Row.put_below K1.out Z1.out (Nat.le_refl _) _⟩
end Go.Proofs.YtbbldcbilnkkdaaDoor.Ref
