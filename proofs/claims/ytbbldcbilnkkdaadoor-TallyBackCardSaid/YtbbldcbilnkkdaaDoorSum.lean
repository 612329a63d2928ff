/-
  Sums of layer 2: the program's and the document's, by the numbers that they stand for. No condition.
-/
import Derived.Test.YtbbldcbilnkkdaaDoorK
import Derived.Test.YtbbldcbilnkkdaaDoorKe
import Derived.Test.YtbbldcbilnkkdaaDoorNum
import Derived.Outline
import Derived.Shelf.Spec.BitsCarry
import Derived.Laws.MathBits
import Derived.BigRegion
import Derived.RegionTactic
import Derived.StillTailTactics
import Derived.WalkLawsBesides
import Derived.OwnWalk
import Derived.Deep.WholeRow
set_option linter.unusedVariables false
set_option linter.unusedSimpArgs false
namespace Go.Proofs.YtbbldcbilnkkdaaDoor.Tly
open Go.RowKit Num


/-- The six words of a number modulo 2^384. -/
def cv (l : List Int) : Array Value := (l.map (Value.int .u64)).toArray
def wv (z : Int) : Array Value := cv (digs 18446744073709551616 z 6)
theorem cv_get {l : List Int} {i : Nat} {x : Int} (h : l[i]? = some x) : (cv l)[i]? = some (.int .u64 x) := by simp [cv, h]
theorem cv_size (l : List Int) : (cv l).size = l.length := by simp [cv]
theorem cv_set (l : List Int) (i : Nat) (x : Int) : (cv l).setIfInBounds i (.int .u64 x) = cv (l.set i x) := by simp [cv, List.map_set]
theorem cv_one (l : List Int) : (cv l).all (·.oneCell') = true := by
  rw [Array.all_eq_true_iff_forall_mem]
  intro x hx
  simp only [cv, List.mem_toArray, List.mem_map] at hx
  obtain ⟨z, -, rfl⟩ := hx
  rfl
theorem wv_size (z : Int) : (wv z).size = 6 := by simp [wv, cv, digs]
theorem q_pos : (0 : Int) < 18446744073709551616 := by decide

/-! ### blocks known whole -/
def Row (W : World) (b : Nat) (T : TypeId) (cs : Array Value) : Prop := W.heap[b]? = some (.cells cs T (0, 0))
theorem Row.lt {W : World} {b : Nat} {T : TypeId} {cs : Array Value} (h : Row W b T cs) : b < W.heap.size := by
  rcases Nat.lt_or_ge b W.heap.size with g | g
  · exact g
  · unfold Row at h; rw [Array.getElem?_eq_none g] at h; cases h
theorem Row.get {W : World} {b : Nat} {T : TypeId} {cs : Array Value} (h : Row W b T cs) {i : Nat} {v : Value} (hv : cs[i]? = some v) : W.cell? ⟨b, i, none⟩ = some v := (K.row_cell h i).trans hv
theorem Row.free {W : World} {b : Nat} {T : TypeId} {cs : Array Value} (h : Row W b T cs) (i : Nat) : W.frozen? ⟨b, i, none⟩ = false := by unfold Row at h; simp [World.frozen?, h]
theorem Row.set {W : World} {b : Nat} {T : TypeId} {cs : Array Value} (h : Row W b T cs) (i : Nat) (v : Value) : Row (W.setCell ⟨b, i, none⟩ v) b T (cs.setIfInBounds i v) := heap_setCell_same W b i cs T v h
theorem Row.other {W : World} {b : Nat} {T : TypeId} {cs : Array Value} (h : Row W b T cs) {a : Addr} (ha : b ≠ a.block) (v : Value) : Row (W.setCell a v) b T cs := (heap_setCell_other W a b v ha).trans h
theorem Row.below {W W' : World} {b B : Nat} {T : TypeId} {cs : Array Value} (h : Row W b T cs) (hb : Below B W W') (hB : b < B) : Row W' b T cs := (hb.block b hB).trans h
theorem Row.drew {W : World} {b : Nat} {T : TypeId} {cs : Array Value} (h : Row W b T cs) : Row W.drew b T cs := h
theorem Row.alloc {W : World} {b : Nat} {T : TypeId} {cs : Array Value} (h : Row W b T cs) (o : Obj) : Row (W.alloc o) b T cs := (Below.heap_alloc W o b h.lt).trans h
theorem Row.new (W : World) (T : TypeId) (cs : Array Value) : Row (W.alloc (.cells cs T)) W.heap.size T cs := heap_alloc_new W _

theorem Row.at {W : World} {b b' : Nat} {T : TypeId} {cs : Array Value} (h : Row W b T cs) (e : b = b') : Row W b' T cs := e ▸ h

theorem Row.put {W : World} {b : Nat} {T : TypeId} {cs : Array Value} (h : Row W b T cs) (cs' : Array Value) : Row (W.setRow b cs') b T cs' := setRow_heap W b cs cs' T (0, 0) h
theorem Row.put_other {W : World} {b b' : Nat} {T : TypeId} {cs : Array Value} (h : Row W b T cs) (hb : b ≠ b') (cs' : Array Value) : Row (W.setRow b' cs') b T cs := (setRow_other W b' b cs' hb).trans h
theorem Row.put_below {w W : World} {b B : Nat} {T : TypeId} {cs : Array Value} (hl : Below B w W) (h : Row W b T cs) (hb : B ≤ b) (cs' : Array Value) : Below B w (W.setRow b cs') :=
  hl.trans ⟨rfl, rfl, rfl, by simp, fun k hk => setRow_other W b k cs' (by omega)⟩

theorem run_add (x y c : Int) (hx : 0 ≤ x) (hy : 0 ≤ y) (hc0 : 0 ≤ c) (hc : c ≤ 1) (W : World) : (callFunc 35 #[.int .u64 x, .int .u64 y, .int .u64 c]).run Tryd.prog W =
    .ok (.value (.tuple #[.int .u64 ((x + y + c) % 18446744073709551616), .int .u64 ((x + y + c) / 18446744073709551616)])) W := by
  rw [run_callFunc_extern (P := Tryd.prog) Tryd.func35 (by kernel_rfl) (by kernel_rfl) (by kernel_rfl) (e := add64Entry) (by kernel_rfl), run_add64 x y c hx hy hc0 hc]; rfl

def RelMerge (B : Nat) (w : World) (a b : Int) (c i : Value) (wr : World) : Prop :=
  ∃ k : Nat, k ≤ 6 ∧ i = .int .i64 k ∧ c = .int .u64 (carry 18446744073709551616 a b k) ∧ Row wr B 26 (cv (mix 18446744073709551616 (a + b) a 6 k)) ∧ Row wr (B + 1) 26 (wv b) ∧ Row wr (B + 2) 26 (cv [0, 0, 0, 0, 0, 0]) ∧ Below B w wr
set_option maxRecDepth 100000 in
theorem merge (a b : Int) (w : World) : Calls Tryd.prog 10 #[.agg (wv a), .agg (wv b)] w fun e w' => e = .returned (.agg (wv (a + b))) ∧ Below w.heap.size w w' := by
  go_enter Tryd.func10, Tryd.ntmps10
  go_wp2
  go_loopw [5, 7] (fun c i wr => RelMerge w.heap.size w a b c i wr) (fun _ i _ => 6 - (intOf i).toNat)
  case atStart =>
    refine ⟨0, Nat.zero_le _, rfl, by rw [carry_zero], ?_, ?_, ?_, ?_⟩
    · rw [mix_zero]; exact ((Row.new w _ _).alloc _).alloc _
    · exact Row.at ((Row.new (w.alloc (.cells (wv a) 26)) 26 (wv b)).alloc _) (by simp)
    · exact Row.at (Row.new ((w.alloc (.cells (wv a) 26)).alloc (.cells (wv b) 26)) 26 (cv [0, 0, 0, 0, 0, 0])) (by simp)
    · exact (((Below.refl _ _).alloc (Nat.le_refl _) _).alloc (by simp) _).alloc (by simp; omega) _
  case round =>
    obtain ⟨k, hk, rfl, rfl, ha, hb, hc, hl⟩ := hrel
    rcases Nat.lt_or_ge k 6 with h6 | h6
    · have hx := ha.get (cv_get (mix_get _ _ _ h6))
      have hy := hb.get (cv_get (digs_get _ b h6))
      have hf := ha.free k
      have hadd := fun W => run_add _ _ _ (dig_nonneg q_pos a k) (dig_nonneg q_pos b k) (carry_bound q_pos a b k).1 (carry_bound q_pos a b k).2 W
      rw [add_digit q_pos, add_carry q_pos] at hadd
      have hkb : decide ((k : Int) < 6) = true := by simp; omega
      have h0 : (0 : Int) ≤ k := by omega
      have h1 : (k : Int) < 6 := by omega
      have hlt := ha.lt
      have hlt1 := hb.lt
      generalize dig 18446744073709551616 a k = x at *
      generalize dig 18446744073709551616 b k = y at *
      generalize carry 18446744073709551616 a b k = c at *
      have HA := Lib.hid ha
      have HB := Lib.hid hb
      have HC := Lib.hid hc
      clear ha hb hc
      go_wp2_with fail
      go_region
      go_wp2
      go_roundw
      case rel =>
        refine ⟨k + 1, by omega, by go_num, rfl, ?_, ?_, ?_, (hl.setCell (Nat.le_refl _) _).drew⟩
        · rw [← mix_set _ _ _ h6, ← cv_set]; exact (HA.out.set k _).drew
        · exact (HB.out.other (by simp) _).drew
        · exact (HC.out.other (by simp) _).drew
      case measure => simp [intOf]; omega
    · obtain rfl : k = 6 := by omega
      rw [mix_full] at ha
      have HA := Lib.hid ha
      have HC := Lib.hid hc
      clear ha hc
      go_wp2_with (first
        | (refine wpList_load_row rfl 26 _ rfl w.heap.size rfl 26 _ (0, 0) _ HA.out Tryd.underlying26 rfl (by kernel_rfl) ?_)
        | (refine wpList_store_row rfl 26 _ _ rfl (w.heap.size + 2) _ rfl rfl 26 _ HC.out (by kernel_rfl) (by kernel_rfl) (cv_one _) ?_))
      refine bodyPost_ret (v := .agg (wv (a + b))) (results_cell_row Tryd.results10 _ _ (w.heap.size + 2) 26 _ (0, 0) _ rfl (Row.put HC.out _) Tryd.underlying26 rfl (by kernel_rfl)) rfl ⟨rfl, Row.put_below hl HC.out (by omega) _⟩

theorem run_sub (y b : Int) (h0 : 0 ≤ y) (h1 : y < 18446744073709551616) (hb0 : 0 ≤ b) (hb : b ≤ 1) (W : World) : (callFunc 36 #[.int .u64 0, .int .u64 y, .int .u64 b]).run Tryd.prog W =
    .ok (.value (.tuple #[.int .u64 ((18446744073709551616 - y - b) % 18446744073709551616), .int .u64 (if 0 < y + b then 1 else 0)])) W := by
  obtain ⟨Y, rfl⟩ := Int.eq_ofNat_of_zero_le h0
  obtain ⟨C, rfl⟩ := Int.eq_ofNat_of_zero_le hb0
  have h := run_sub64 (P := Tryd.prog) 0 Y C (by omega) W
  rw [run_callFunc_extern (P := Tryd.prog) Tryd.func36 (by kernel_rfl) (by kernel_rfl) (by kernel_rfl) (e := sub64Entry) (by kernel_rfl)]
  have e1 : (((0 + 18446744073709551616 - Y - C) % 18446744073709551616 : Nat) : Int) = (18446744073709551616 - (Y : Int) - (C : Int)) % 18446744073709551616 := by omega
  have e2 : ((if 0 < Y + C then 1 else 0 : Nat) : Int) = if (0 : Int) < (Y : Int) + (C : Int) then 1 else 0 := by split <;> split <;> omega
  rw [e1, e2] at h
  have h2 : (sub64Entry #[.int .u64 0, .int .u64 (Y : Int), .int .u64 (C : Int)]).run Tryd.prog W = _ := h
  rw [h2]
  rfl

def RelNeg (B : Nat) (w : World) (a : Int) (c i : Value) (wr : World) : Prop :=
  ∃ k : Nat, k ≤ 6 ∧ i = .int .i64 k ∧ c = .int .u64 (borrow 18446744073709551616 a k) ∧ Row wr B 26 (cv (mix 18446744073709551616 (-a) a 6 k)) ∧ Row wr (B + 1) 26 (cv [0, 0, 0, 0, 0, 0]) ∧ Below B w wr
set_option maxRecDepth 100000 in
theorem neg (a : Int) (w : World) : Calls Tryd.prog 11 #[.agg (wv a)] w fun e w' => e = .returned (.agg (wv (-a))) ∧ Below w.heap.size w w' := by
  go_enter Tryd.func11, Tryd.ntmps11
  go_wp2
  go_loopw [3, 5] (fun c i wr => RelNeg w.heap.size w a c i wr) (fun _ i _ => 6 - (intOf i).toNat)
  case atStart =>
    refine ⟨0, Nat.zero_le _, rfl, by rw [borrow_zero], ?_, ?_, ?_⟩
    · rw [mix_zero]; exact (Row.new w _ _).alloc _
    · exact Row.at (Row.new (w.alloc (.cells (wv a) 26)) 26 (cv [0, 0, 0, 0, 0, 0])) (by simp)
    · exact ((Below.refl _ _).alloc (Nat.le_refl _) _).alloc (by simp) _
  case round =>
    obtain ⟨k, hk, rfl, rfl, ha, hc, hl⟩ := hrel
    rcases Nat.lt_or_ge k 6 with h6 | h6
    · have hx := ha.get (cv_get (mix_get _ _ _ h6))
      have hf := ha.free k
      have hsub := fun W => run_sub _ _ (dig_nonneg q_pos a k) (dig_lt q_pos a k) (borrow_bound 18446744073709551616 a k).1 (borrow_bound 18446744073709551616 a k).2 W
      rw [neg_digit q_pos, neg_borrow q_pos] at hsub
      have hkb : decide ((k : Int) < 6) = true := by simp; omega
      have h0 : (0 : Int) ≤ k := by omega
      have h1 : (k : Int) < 6 := by omega
      have hlt := ha.lt
      generalize dig 18446744073709551616 a k = x at *
      generalize borrow 18446744073709551616 a k = c at *
      have HA := Lib.hid ha
      have HC := Lib.hid hc
      clear ha hc
      go_wp2
      go_roundw
      case rel =>
        refine ⟨k + 1, by omega, by go_num, rfl, ?_, ?_, hl.setCell (Nat.le_refl _) _⟩
        · rw [← mix_set _ _ _ h6, ← cv_set]; exact HA.out.set k _
        · exact HC.out.other (by simp) _
      case measure => simp [intOf]; omega
    · obtain rfl : k = 6 := by omega
      rw [mix_full] at ha
      have HA := Lib.hid ha
      have HC := Lib.hid hc
      clear ha hc
      go_wp2_with (first
        | (refine wpList_load_row rfl 26 _ rfl w.heap.size rfl 26 _ (0, 0) _ HA.out Tryd.underlying26 rfl (by kernel_rfl) ?_)
        | (refine wpList_store_row rfl 26 _ _ rfl (w.heap.size + 1) _ rfl rfl 26 _ HC.out (by kernel_rfl) (by kernel_rfl) (cv_one _) ?_))
      refine bodyPost_ret (v := .agg (wv (-a))) (results_cell_row Tryd.results11 _ _ (w.heap.size + 1) 26 _ (0, 0) _ rfl (Row.put HC.out _) Tryd.underlying26 rfl (by kernel_rfl)) rfl ⟨rfl, Row.put_below hl HC.out (by omega) _⟩

theorem ret_one {k : IntKind} {a b : Int} (h : a = b) : Ending.returned (.int k a) = .returned (.int k b) := by rw [h]
theorem ret_two {k l : IntKind} {a b c d : Int} (h : a = b) (h' : c = d) : Ending.returned (.tuple #[.int k a, .int l c]) = .returned (.tuple #[.int k b, .int l d]) := by rw [h, h']
theorem mul64 (x y : Int) (hx0 : 0 ≤ x) (hx : x < 18446744073709551616) (hy0 : 0 ≤ y) (hy : y < 18446744073709551616) (w : World) :
    Calls Tryd.prog 37 #[.int .u64 x, .int .u64 y] w fun e w' => e = .returned (.tuple #[.int .u64 (x * y / 18446744073709551616), .int .u64 (x * y % 18446744073709551616)]) ∧ w' = w := by
  have m1 := and_low32 x hx0 hx
  have m2 := and_low32 y hy0 hy
  have m3 : ∀ z, bits .and .u64 (IntKind.u64.wrap z) 4294967295 = IntKind.u64.wrap z % 4294967296 := fun z => by
    refine and_low32 _ ?_ ?_ <;> rw [IntKind.wrap_u64] <;> omega
  have hm := mul64_arith x y hx0 hx hy0 hy
  have HM := Lib.hid hm
  clear hm
  go_enter Tryd.func37, Tryd.ntmps37
  go_wp2
  go_ret2
  refine ⟨ret_two ?_ ?_, rfl⟩
  · simp only [IntKind.wrap_u64]; exact HM.out
  · rw [IntKind.wrap_u64]
end Go.Proofs.YtbbldcbilnkkdaaDoor.Tly
