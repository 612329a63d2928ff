/-
  TallyAdds: sums of every list, and to every sum, are the document's; the list stays as it was. No condition.
-/
import Derived.Test.YtbbldcbilnkkdaaRows
import Derived.Test.YtbbldcbilnkkdaaAdd
import Derived.Test.YtbbldcbilnkkdaaK4
import Derived.ChangeOld
import Derived.SizedLaws
set_option linter.unusedVariables false
set_option linter.unusedSimpArgs false
namespace Go.Proofs.Ytbbldcbilnkkdaa.tallyAdds
open Go.ChangeShapes Go.WideShapes Go.ChangeAt Go.RowKit
open Num Tly Ref K

theorem infoF : (Try.prog.info? 44).map (fun i => (i.zero, i.size, i.bytes)) = some (some (.float .f32 0), 1, 4) := by kernel_rfl
def RelFloats (B : Nat) (w : World) (us : List Int) (n : Nat) (s i : Value) (wr : World) : Prop :=
  ∃ k : Nat, k ≤ n ∧ i = .int .i64 k ∧ wr.ownsRow B 44 1 s k ((us.take k).map fl) ∧ Below B w wr
set_option maxRecDepth 100000 in
theorem floats (A : Option Addr) (n cap : Nat) (us : List Int) (hn : n * 4 ≤ 140737488351232) (hu : ∀ u ∈ us, 0 ≤ u ∧ u < 4294967296) (w : World) (hA : Lies w w.heap.size A n (us.map (Value.int .u32))) :
    Calls Try.prog 16 #[.slice A n cap] w fun e w' => ∃ v, e = .returned v ∧ w'.ownsRow w.heap.size 44 1 v n (us.map fl) ∧ Below w.heap.size w w' := by
  obtain ⟨i0, hi, hz0, hz1, hz2⟩ := info_parts infoF
  have HL := Lib.hid hA
  have HU := Lib.hid (show us.length = n by simpa using hA.1)
  clear hA
  go_enter Try.func16, Try.ntmps16
  go_wp2
  go_loopw [3, 4] (fun s i wr => RelFloats w.heap.size w us n s i wr) (fun _ i _ => n - (intOf i).toNat)
  case atStart => exact ⟨0, Nat.zero_le _, rfl, World.ownsRow_nil _ _ _ _, Below.refl _ _⟩
  case round =>
    obtain ⟨k, hk, rfl, hown, hl⟩ := hrel
    rcases Nat.lt_or_ge k n with h6 | h6
    · obtain ⟨u, hu'⟩ : ∃ u, us[k]? = some u := ⟨_, List.getElem?_eq_getElem (by rw [HU.out]; exact h6)⟩
      obtain ⟨ad, rfl, hBB, hcell⟩ := (HL.out.below hl).at_ h6
      have hx := hcell _ (show (us.map (Value.int .u32))[k]? = some (.int .u32 u) by simp [hu'])
      have hkb : decide ((k : Int) < (n : Int)) = true := by simp; omega
      have HC := Lib.hid hu'
      clear hu' hcell
      go_wp2_with (first
        | (go_at_call 21; refine (grainFloat u _).mono ?_; rintro e w1 ⟨rfl, rfl⟩)
        | (at_builtin; refine wpList_append_own _ rfl _ _ 42 rfl w.heap.size 44 i0 (.float .f32 0) 1 4 Try.underlying42 hi hz0 hz1 hz2 rfl (by decide) _ _ _ rfl (hown.alloc _) ⟨wr.heap.size, 0, none⟩ 1 1 [.float .f32 u.toNat] rfl rfl ?c1 ?c2 ?c3 ?c4 ?c5 ?_))
      case c1 =>
        intro j u hj
        match j, hj with
        | 0, hj => simp at hj; subst hj; simp [Addr.add]
      case c2 => intro u hu; simp at hu; subst hu; rfl
      case c3 => unfold maxLen; omega
      case c4 => omega
      case c5 => have := hl.size; simp; omega
      intro v' w1 hown' hgrow _
      have ho : w1.ownsRow w.heap.size 44 1 v' (k + 1) ((us.take (k + 1)).map fl) := by
        obtain ⟨hk', e⟩ := List.getElem?_eq_some_iff.1 HC.out
        rw [List.take_succ_eq_append_getElem hk', List.map_append, e, List.map_take]
        exact hown'
      have hl' : Below w.heap.size w w1 := (hl.alloc hl.size _).grown hgrow (by have := hl.size; simp; omega) (fun g hg => (hown.lt g hg).1)
      clear hown' hgrow hown hl hx
      go_wp2
      go_roundw
      case rel => exact ⟨k + 1, by omega, by go_num, ho, hl'⟩
      case measure => simp [intOf]; omega
    · obtain rfl : k = n := by omega
      rw [List.take_of_length_le (by rw [HU.out]; exact Nat.le_refl _)] at hown
      have HO := Lib.hid hown
      clear hown
      go_wp2
      go_ret
      exact ⟨_, rfl, HO.out, hl⟩

theorem xor_top (y : Int) (h0 : 0 ≤ y) (h1 : y < 4294967296) : 0 ≤ bits .xor .u32 y 2147483648 ∧ bits .xor .u32 y 2147483648 < 4294967296 := by
  rw [u32_xor y 2147483648 h0 h1 (by omega) (by omega)]
  have := Nat.xor_lt_two_pow (n := 32) (x := y.toNat) (y := (2147483648 : Int).toNat) (by omega) (by decide)
  omega
theorem bitsB (d : Nat) (w : World) : Calls Try.prog 20 #[.float .f32 d] w fun e w' => e = .returned (.int .u32 d) ∧ Below w.heap.size w w' :=
  (grainBits d w).mono fun _ _ ⟨h, e⟩ => ⟨h, e ▸ Below.refl _ _⟩
theorem infoU : (Try.prog.info? 39).map (fun i => (i.zero, i.size, i.bytes)) = some (some (.int .u32 0), 1, 4) := by kernel_rfl
/-- The list that is turned round, in its place, behind k rounds. -/
def turned (us : List Int) (k : Nat) : List Int := us.reverse.take k ++ us.drop k
theorem turned_length (us : List Int) (k : Nat) : (turned us k).length = us.length := by simp [turned]; omega
theorem turned_zero (us : List Int) : turned us 0 = us := by simp [turned]
theorem turned_full (us : List Int) : turned us us.length = us.reverse := by
  unfold turned
  rw [List.take_of_length_le (by simp), List.drop_length, List.append_nil]
theorem rev_get {us : List Int} {k : Nat} (h : k < us.length) {u : Int} (hu : us[us.length - 1 - k]? = some u) : us.reverse[k]? = some u := by
  rw [List.getElem?_reverse h]; exact hu
theorem turned_step {us : List Int} {k : Nat} (h : k < us.length) {u : Int} (hu : us.reverse[k]? = some u) : (turned us k).set k u = turned us (k + 1) := by
  unfold turned
  obtain ⟨h', rfl⟩ := List.getElem?_eq_some_iff.1 hu
  rw [List.set_append_right _ _ (by simp; omega), List.take_succ_eq_append_getElem h', List.append_assoc]
  congr 1
  have e : k - (us.reverse.take k).length = 0 := by simp; omega
  rw [e, List.drop_eq_getElem_cons h]
  rfl
def RelBack (B b9 b10 g cp ga gb : Nat) (w : World) (us : List Int) (n : Nat) (A2 : Option Addr) (c2 : Nat) (xa xb : Int) (s i : Value) (wr : World) : Prop :=
  ∃ k : Nat, k ≤ n ∧ i = .int .i64 k ∧ Pre wr g 44 cp ((turned us k).map fl ++ [.float .f32 1088421888, .float .f32 1091567616]) ∧ wr.ownsRow b9 44 1 (.slice A2 n c2) n (us.map fl) ∧
    wr.ownsRow b10 39 1 s k ((us.reverse.take k).map (Value.int .u32)) ∧ Row wr ga 26 (wv xa) ∧ Row wr gb 30 (wv xb) ∧ Below B w wr ∧ b10 ≤ wr.heap.size
def RelSame (n : Nat) (w0 : World) (i : Value) (wr : World) : Prop := ∃ k : Nat, k ≤ n ∧ i = .int .i64 k ∧ Below w0.heap.size w0 wr
theorem bytesU : Try.prog.bytesOf 39 = 4 := by kernel_rfl
theorem tally_reach {H : Type} {d0 d1 : DataW H} {n cap : Nat}
    (hsz : (DataW.weightsEach Try.prog [25, 37] [d0, d1]).all (· ≤ reachBytes) = true) (hc : d1 = .nil ∧ cap = 0 ∨ ∃ xs ys, d1 = .slice xs ys ∧ xs.length + ys.length = cap) (hn : n ≤ cap) : n * 4 ≤ 140737488351232 := by
  rcases hc with ⟨rfl, h⟩ | ⟨xs, ys, rfl, h⟩
  · omega
  · have := sized_slice hsz (j := 1) (t := 37) (e := 39) rfl rfl Try.underlying37
    rw [bytesU] at this
    unfold reachBytes at this
    omega
theorem num (x : Int) (w : World) : Calls Try.prog 13 #[.int .i64 x] w fun e w' => e = .returned (.int .i64 x) ∧ w = w' := by
  go_enter Try.func13, Try.ntmps13
  go_wp2
  go_ret
  exact ⟨rfl, rfl⟩
set_option maxRecDepth 100000 in
set_option maxHeartbeats 4000000 in
theorem walk (z : Int) (A : Option Addr) (n cap : Nat) (us : List Int) (hn : n * 4 ≤ 140737488351232) (hu : ∀ u ∈ us, 0 ≤ u ∧ u < 4294967296) (w : World) (hA : Lies w w.heap.size A n (us.map (Value.int .u32))) :
    Calls Try.prog 6 #[.agg (wv z), .slice A n cap] w fun e w' => e = .returned (.bool true) ∧ Below w.heap.size w w' := by
  obtain ⟨i0, hi, hz0, hz1, hz2⟩ := info_parts infoF
  have HL := Lib.hid hA
  have HU := Lib.hid (show us.length = n by simpa using hA.1)
  have HW := Lib.hid (Row.new w 25 (wv z))
  have HB0 := Lib.hid ((Below.refl w.heap.size w).alloc (Nat.le_refl _) (.cells (wv z) 25))
  clear hA
  go_enter Try.func6, Try.ntmps6
  go_wp2_with fail
  refine (floats A n cap us hn hu _ ((HL.out.below HB0.out).more (by simp))).mono ?_
  rintro e w1 ⟨v1, rfl, hown1, k1⟩
  have W1 := Lib.hid (HW.out.below k1 HW.out.lt)
  have B1 := Lib.hid (HB0.out.trans (k1.mono HB0.out.size))
  have s1 := k1.size
  simp only [World.size_alloc] at s1 hown1
  clear k1
  go_wp2_with (at_builtin; refine wpList_append_own _ rfl _ _ 42 rfl (w.heap.size + 1) 44 i0 (.float .f32 0) 1 4 Try.underlying42 hi hz0 hz1 hz2 rfl (by decide) _ _ _ rfl (hown1.alloc _) ⟨w1.heap.size, 0, none⟩ 2 2 [.float .f32 1088421888, .float .f32 1091567616] rfl rfl ?c1 ?c2 ?c3 ?c4 ?c5 ?_)
  case c1 =>
    intro j u hj
    match j, hj with
    | 0, hj => simp at hj; subst hj; simp [Addr.add]
    | 1, hj => simp at hj; subst hj; simp [Addr.add]
  case c2 => intro u hu; simp at hu; rcases hu with rfl | rfl <;> rfl
  case c3 => unfold maxLen; omega
  case c4 => omega
  case c5 => simp; omega
  intro v' w2 hown2 hgrow2 _
  obtain ⟨g, cp, hv, hg, hle, hcm, hpre⟩ := pre_of_own hown2 (by omega)
  rw [hv]
  have W2 := Lib.hid ((W1.out.alloc _).grown hgrow2 (fun e => by have := (hown1.lt _ e.symm).1; omega))
  have B2 := Lib.hid ((B1.out.alloc (by omega) _).grown hgrow2 (by simp; omega) (fun k hk => by have := (hown1.lt _ hk).1; omega))
  have P2 := Lib.hid hpre
  have s2 := hgrow2.size
  simp only [World.size_alloc] at s2
  have hgl := hpre.lt
  clear hown2 hgrow2 hown1 hv hpre
  have hlc : (n : Int) ≤ (cp : Int) := by omega
  go_wp2_with fail
  have L2 := Lib.hid (P2.out.lies (B := w2.heap.size) (n := n) hgl (by simp [HU.out]))
  have e2 : (us.map fl ++ [Value.float .f32 1088421888, Value.float .f32 1091567616]).take n = us.map fl := by
    rw [List.take_append_of_le_length (by simp [HU.out]), List.take_of_length_le (by simp [HU.out])]
  have L2' := Lib.hid (e2 ▸ L2.out)
  clear e2 L2
  refine (of _ n cp us (by omega) hu _ L2'.out).mono ?_
  rintro e w3 ⟨rfl, k3⟩
  have W3 := Lib.hid (W2.out.below k3 W2.out.lt)
  have B3 := Lib.hid (B2.out.trans (k3.mono B2.out.size))
  have P3 := Lib.hid (P2.out.below k3 hgl)
  have s3 := k3.size
  clear k3
  have HZ3 := Lib.hid (Row.new w3 26 (cv [0, 0, 0, 0, 0, 0]))
  go_wp2_with (refine wpList_store_row rfl 26 _ _ rfl (w3.heap.size) _ rfl rfl 26 _ HZ3.out ?_ ?_ ?_ ?_; kernel_rfl; (first | (rw [wv_size, wv_size]) | kernel_rfl); (first | exact cv_one _ | kernel_rfl))
  have A3 := Lib.hid (HZ3.out.put (wv (addS 0 us)))
  have W3' := Lib.hid ((W3.out.alloc (.cells (cv [0, 0, 0, 0, 0, 0]) 26)).put_other (b' := w3.heap.size) (by have := W3.out.lt; omega) (wv (addS 0 us)))
  have P3' := Lib.hid ((P3.out.alloc (.cells (cv [0, 0, 0, 0, 0, 0]) 26)).put_other (b := w3.heap.size) (by have := P3.out.lt; omega) (wv (addS 0 us)))
  have B3' := Lib.hid (Row.put_below (B3.out.alloc B3.out.size (.cells (cv [0, 0, 0, 0, 0, 0]) 26)) HZ3.out B3.out.size (wv (addS 0 us)))
  have hR := fun W h => Add 0 A n cap us (by omega) hu W h
  rw [show wv 0 = #[Value.int .u64 0, Value.int .u64 0, Value.int .u64 0, Value.int .u64 0, Value.int .u64 0, Value.int .u64 0] from wv_zero] at hR
  refine (hR _ ((HL.out.below B3'.out).more B3'.out.size)).mono ?_
  rintro e w4 ⟨rfl, k4⟩
  have A4 := Lib.hid (A3.out.below k4 A3.out.lt)
  have W4 := Lib.hid (W3'.out.below k4 W3'.out.lt)
  have P4 := Lib.hid (P3'.out.below k4 P3'.out.lt)
  have B4 := Lib.hid (B3'.out.trans (k4.mono B3'.out.size))
  have s4 := k4.size
  simp only [size_setRow, World.size_alloc] at s4
  clear k4 hR A3 W3' P3' B3' W3 B3 P3 HZ3 W2 B2 P2 L2'
  have HZ4 := Lib.hid (Row.new w4 30 (cv [0, 0, 0, 0, 0, 0]))
  have A4' := Lib.hid ((A4.out.alloc (.cells (cv [0, 0, 0, 0, 0, 0]) 30)).put_other (b' := w4.heap.size) (by omega) (wv (addS 0 us)))
  have R4 := Lib.hid (HZ4.out.put (wv (addS 0 us)))
  have hq : ∀ (x : Int) (W : World), (binOp .neq 24 (.agg (wv x)) (.agg (wv x))).run Try.prog W = .ok (.bool false) W := fun x W => by
    have h := K.neq_ints (P := Try.prog) W (t := 24) (e := 23) (n := 6) (k := .u64) (by kernel_rfl) (by kernel_rfl) (by kernel_rfl) (digs 18446744073709551616 x 6) (digs 18446744073709551616 x 6) (digs_length _ _ _) (digs_length _ _ _)
    rw [beq_self_eq_true] at h
    exact h
  go_wp2_with (first | (refine wpList_store_row rfl 30 _ _ rfl (w4.heap.size) _ rfl rfl 30 _ HZ4.out ?_ ?_ ?_ ?_; kernel_rfl; (first | (rw [wv_size, wv_size]) | kernel_rfl); (first | exact cv_one _ | kernel_rfl)) | (refine wpList_load_row rfl 26 _ rfl (w3.heap.size) rfl 26 _ (0, 0) _ A4'.out Try.underlying26 rfl (by kernel_rfl) ?_) | (refine wpList_load_row rfl 30 _ rfl (w4.heap.size) rfl 30 _ (0, 0) _ R4.out Try.underlying30 rfl (by kernel_rfl) ?_) | (go_at_call 13; refine (num _ _).mono ?_; rintro e w' ⟨rfl, rfl⟩))
  have W5 := Lib.hid ((W4.out.alloc (.cells (cv [0, 0, 0, 0, 0, 0]) 30)).put_other (b' := w4.heap.size) (by have := W4.out.lt; omega) (wv (addS 0 us)))
  have P5 := Lib.hid ((P4.out.alloc (.cells (cv [0, 0, 0, 0, 0, 0]) 30)).put_other (b := w4.heap.size) (by have := P4.out.lt; omega) (wv (addS 0 us)))
  have B5 := Lib.hid (Row.put_below (B4.out.alloc B4.out.size (.cells (cv [0, 0, 0, 0, 0, 0]) 30)) HZ4.out B4.out.size (wv (addS 0 us)))
  have s5 : ((w4.alloc (.cells (cv [0, 0, 0, 0, 0, 0]) 30)).setRow w4.heap.size (wv (addS 0 us))).heap.size = w4.heap.size + 1 := by simp
  obtain ⟨w5, hw5⟩ : ∃ w5, w5 = ((w4.alloc (.cells (cv [0, 0, 0, 0, 0, 0]) 30)).setRow w4.heap.size (wv (addS 0 us))) := ⟨_, rfl⟩
  rw [← hw5] at W5 P5 B5 A4' R4 s5
  have hw5' : ((w4.alloc (.cells #[Value.int .u64 0, Value.int .u64 0, Value.int .u64 0, Value.int .u64 0, Value.int .u64 0, Value.int .u64 0] 30)).setRow w4.heap.size (wv (addS 0 us))) = w5 := hw5.symm
  rw [hw5']
  clear hw5 hw5' HZ4 W4 P4 B4 A4
  obtain ⟨y0, y1, y2, y3, y4, y5, hz⟩ := lit6 z
  obtain ⟨p0, p1, p2, p3, p4, p5, hp⟩ := lit6 (addS 0 us)
  obtain ⟨q0, q1, q2, q3, q4, q5, hs⟩ := lit6 (addS z us)
  have hadd := fun W h => add z (some ⟨g, 0, none⟩) n cp us (by omega) hu W h
  rw [hz, hs] at hadd
  have hcw : ∀ o, w5.cell? ⟨w.heap.size, o, none⟩ = (#[Value.int .u64 y0, .int .u64 y1, .int .u64 y2, .int .u64 y3, .int .u64 y4, .int .u64 y5] : Array Value)[o]? := fun o => hz ▸ K.row_cell W5.out o
  have hca : ∀ o, w5.cell? ⟨w3.heap.size, o, none⟩ = (#[Value.int .u64 p0, .int .u64 p1, .int .u64 p2, .int .u64 p3, .int .u64 p4, .int .u64 p5] : Array Value)[o]? := fun o => hp ▸ K.row_cell A4'.out o
  have hwl := W5.out.lt
  have hal := A4'.out.lt
  have HADD := Lib.hid hadd
  have LZ := Lib.hid (P5.out.lies (B := w5.heap.size) (n := n) P5.out.lt (by simp [HU.out]))
  have e2 : (us.map fl ++ [Value.float .f32 1088421888, Value.float .f32 1091567616]).take n = us.map fl := by
    rw [List.take_append_of_le_length (by simp [HU.out]), List.take_of_length_le (by simp [HU.out])]
  have LZ' := Lib.hid (e2 ▸ LZ.out)
  have HAC := Lib.hid hca
  have HS := Lib.hid hs
  clear e2 LZ hadd hca hz hp hs
  go_region_with (go_at_call 19; refine (HADD.out _ ?_).mono ?_; exact LZ'.out; rintro e w6 ⟨rfl, k6⟩; have s6 := k6.size; have hca := fun o => (K.below_cell k6 hal o).trans (HAC.out o); have hfa := fun o => (A4'.out.drew.below k6 hal).free o)
  have hw3 := B5.out
  have A7 := Lib.hid (row_set6 (x0 := .int .u64 q0) (x1 := .int .u64 q1) (x2 := .int .u64 q2) (x3 := .int .u64 q3) (x4 := .int .u64 q4) (x5 := .int .u64 q5) (A4'.out.drew.below k6 hal) (wv_size _))
  have R7 := Lib.hid (row_set6_other (b := w3.heap.size) (x0 := .int .u64 q0) (x1 := .int .u64 q1) (x2 := .int .u64 q2) (x3 := .int .u64 q3) (x4 := .int .u64 q4) (x5 := .int .u64 q5) (R4.out.drew.below k6 R4.out.lt) (by omega))
  have W7 := Lib.hid (row_set6_other (b := w3.heap.size) (x0 := .int .u64 q0) (x1 := .int .u64 q1) (x2 := .int .u64 q2) (x3 := .int .u64 q3) (x4 := .int .u64 q4) (x5 := .int .u64 q5) (W5.out.drew.below k6 hwl) (by omega))
  have P7 := Lib.hid (pre_set6 (b := w3.heap.size) (x0 := .int .u64 q0) (x1 := .int .u64 q1) (x2 := .int .u64 q2) (x3 := .int .u64 q3) (x4 := .int .u64 q4) (x5 := .int .u64 q5) (P5.out.drew.below k6 P5.out.lt) (by omega))
  have B7 := Lib.hid (below_set6 (b := w3.heap.size) (x0 := .int .u64 q0) (x1 := .int .u64 q1) (x2 := .int .u64 q2) (x3 := .int .u64 q3) (x4 := .int .u64 q4) (x5 := .int .u64 q5) (B5.out.drew.trans (k6.mono B5.out.size)) (by omega))
  obtain ⟨w7, hw7⟩ : ∃ w7, w7 = set6 w6 w3.heap.size (.int .u64 q0) (.int .u64 q1) (.int .u64 q2) (.int .u64 q3) (.int .u64 q4) (.int .u64 q5) := ⟨_, rfl⟩
  have s7 : w7.heap.size = w6.heap.size := by rw [hw7]; exact set6_size
  rw [← hw7] at A7 R7 W7 P7 B7
  have hw7' : set6 w6 w3.heap.size (.int .u64 q0) (.int .u64 q1) (.int .u64 q2) (.int .u64 q3) (.int .u64 q4) (.int .u64 q5) = w7 := hw7.symm
  unfold set6 at hw7'
  rw [hw7']
  clear hw7 hw7' hca hfa hcw A4' R4 W5 P5 B5 k6 hw3
  have A7' := Lib.hid (A7.out.to HS.out.symm)
  clear A7
  go_wp2_with (refine wpList_load_row rfl 25 _ rfl (w.heap.size) rfl 25 _ (0, 0) _ W7.out Try.underlying25 rfl (by kernel_rfl) ?_)
  refine (Add z A n cap us (by omega) hu _ ((HL.out.below B7.out).more B7.out.size)).mono ?_
  rintro e w8 ⟨rfl, k8⟩
  have A8 := Lib.hid (A7'.out.below k8 A7'.out.lt)
  have R8 := Lib.hid (R7.out.below k8 R7.out.lt)
  have P8 := Lib.hid (P7.out.below k8 P7.out.lt)
  have B8 := Lib.hid (B7.out.trans (k8.mono B7.out.size))
  have s8 := k8.size
  clear k8 A7' R7 P7 B7 W7
  have hgw : g ≠ w4.heap.size := by have := P8.out.lt; omega
  have A9 := Lib.hid (A8.out.put_other (b' := w4.heap.size) (by omega) (wv (addS z us)))
  have R9 := Lib.hid (R8.out.put (wv (addS z us)))
  have P9 := Lib.hid (P8.out.put_other (b := w4.heap.size) hgw (wv (addS z us)))
  have B9 := Lib.hid (Row.put_below B8.out R8.out (by have := B8.out.size; omega) (wv (addS z us)))
  have hf7 : ∀ W, (binOp .neq 44 (.float .f32 1088421888) (.float .f32 1088421888)).run Try.prog W = .ok (.bool false) W := fun _ => by kernel_rfl
  have hf9 : ∀ W, (binOp .neq 44 (.float .f32 1091567616) (.float .f32 1091567616)).run Try.prog W = .ok (.bool false) W := fun _ => by kernel_rfl
  have hc7 := P9.out.get (i := n) (v := .float .f32 1088421888) (by rw [List.getElem?_append_right (by simp [HU.out])]; simp [HU.out])
  have hc9 := P9.out.get (i := n + 1) (v := .float .f32 1091567616) (by rw [List.getElem?_append_right (by simp [HU.out])]; simp [HU.out])
  go_wp2_with (first | (refine wpList_store_row rfl 30 _ _ rfl (w4.heap.size) _ rfl rfl 30 _ R8.out ?_ ?_ ?_ ?_; kernel_rfl; (first | (rw [wv_size, wv_size]) | kernel_rfl); (first | exact cv_one _ | kernel_rfl)) | (refine wpList_load_row rfl 26 _ rfl (w3.heap.size) rfl 26 _ (0, 0) _ A9.out Try.underlying26 rfl (by kernel_rfl) ?_) | (refine wpList_load_row rfl 30 _ rfl (w4.heap.size) rfl 30 _ (0, 0) _ R9.out Try.underlying30 rfl (by kernel_rfl) ?_) | (go_at_call 13; refine (num _ _).mono ?_; rintro e w' ⟨rfl, rfl⟩))
  clear hf7 hf9 hc7 hc9
  obtain ⟨w9, hw9⟩ : ∃ w9, w9 = w8.setRow w4.heap.size (wv (addS z us)) := ⟨_, rfl⟩
  have s9 : w9.heap.size = w8.heap.size := by rw [hw9]; simp
  rw [← hw9] at A9 R9 P9 B9 ⊢
  clear hw9 A8 R8 P8 B8
  refine (floats A n cap us hn hu _ ((HL.out.below B9.out).more B9.out.size)).mono ?_
  rintro e w10 ⟨v2, rfl, own2, k10⟩
  obtain ⟨A2, c2, hv2⟩ := own_shape own2
  subst hv2
  have A10 := Lib.hid (A9.out.below k10 A9.out.lt)
  have R10 := Lib.hid (R9.out.below k10 R9.out.lt)
  have P10 := Lib.hid (P9.out.below k10 P9.out.lt)
  have B10 := Lib.hid (B9.out.trans (k10.mono B9.out.size))
  have O10 := Lib.hid own2
  have hg9 := P9.out.lt
  have hlow : w3.heap.size < w9.heap.size ∧ w4.heap.size < w9.heap.size := ⟨A9.out.lt, R9.out.lt⟩
  have s10 := k10.size
  clear k10 own2 A9 R9 P9 B9
  have hg34 : g < w3.heap.size ∧ g < w4.heap.size := by omega
  have HAB := Lib.hid (show w3.heap.size ≠ w4.heap.size by omega)
  have HK := Lib.hid (And.intro hlow (And.intro hg9 (And.intro s10 (And.intro hle (And.intro hcm (And.intro hg hg34))))))
  clear hlow hg34 hg9 s10 s9 s8 s7 s6 s5 s4 s3 s2 s1 hgw hwl hal hgl hg hlc hle hcm
  go_wp2_with fail
  go_loopw [12] (fun i wr => RelSame n w10 i wr) (fun i _ => n - (intOf i).toNat)
  case atStart => exact ⟨0, Nat.zero_le _, rfl, Below.refl _ _⟩
  case round =>
    obtain ⟨k, hk, rfl, hl⟩ := hrel
    rcases Nat.lt_or_ge k n with h6 | h6
    · obtain ⟨u, hu'⟩ : ∃ u, us[k]? = some u := ⟨_, List.getElem?_eq_getElem (by rw [HU.out]; exact h6)⟩
      obtain ⟨ad2, rfl, hB2, hcell2⟩ := (lies_own O10.out).at_ h6
      have hx := P10.out.get (i := k) (v := .float .f32 u.toNat) (by rw [List.getElem?_append_left (by simp [HU.out]; omega)]; simp [hu', fl])
      have hy := hcell2 _ (show (us.map fl)[k]? = some (.float .f32 u.toNat) by simp [hu', fl])
      have HX : Hid (∀ w', Below wr.heap.size wr w' → w'.cell? ⟨g, k, none⟩ = some (.float .f32 u.toNat)) := fun w' h => (h.cell (p := ⟨g, k, none⟩) (Nat.lt_of_lt_of_le P10.out.lt hl.size)).trans ((hl.cell (p := ⟨g, k, none⟩) P10.out.lt).trans hx)
      have HY : Hid (∀ w', Below wr.heap.size wr w' → w'.cell? (ad2.add k) = some (.float .f32 u.toNat)) := fun w' h => (h.cell (by rw [K.block_add]; exact Nat.lt_of_lt_of_le hB2 hl.size)).trans ((hl.cell (by rw [K.block_add]; exact hB2)).trans hy)
      have hkb : decide ((k : Int) < (n : Int)) = true := by simp; omega
      have g0 : (0 : Int) ≤ (k : Int) := by omega
      have g1 : (k : Int) < (n : Int) + 2 := by omega
      have g2 : k < n + 2 := by omega
      have g3 : (k : Int) < (n : Int) := by omega
      clear hu' hcell2 hx hy
      go_wp2_with fail
      refine K.region_quiet (C := fun w' => Below wr.heap.size wr w') (by kernel_rfl) (by kernel_rfl) (K.below_draw wr) ?_
      iterate 12 (first
        | (refine wpQuiet_step (fun KK hKK => ?_)
           first
             | (refine K.quiet_else ?_ (K.Puts.mk' _) ?_
                (first | rfl | (simp [Region.wanted, yielded]; done))
                refine hKK _ ?_)
             | (refine K.quiet_if ?_ ?_
                (first | rfl | (simp [Region.wanted, yielded]; done))
                first
                  | (apply K.quiet_val
                     · intro w' hw'; have hx := HX.out w' hw'; have hy := HY.out w' hw'; go_simp; (try go_ints); exact K.Gives.mk' _ _
                     · go_simp; exact K.Puts.mk' _)
                  | (apply K.quiet_call
                     · intro w' hw'; have hx := HX.out w' hw'; have hy := HY.out w' hw'; go_simp; (try go_ints); exact K.Enters.mk' _ _ _
                     · intro w' hw'; have hx := HX.out w' hw'; have hy := HY.out w' hw'; first
                       | exact K.calls_below hw' hw'.size (bitsB _ _)
                     · go_simp; exact K.Puts.mk' _)
                refine hKK _ ?_)
           clear hKK KK)
        | skip)
      refine wpQuiet_nil ?_
      intro w11 hb11
      go_wp2
      go_roundw
      case rel => exact ⟨k + 1, by omega, by go_num, hl.trans (hb11.mono hl.size)⟩
      case measure => simp [intOf]; omega
    · obtain rfl : n = k := by omega
      have A11 := Lib.hid (A10.out.below hl A10.out.lt)
      have R11 := Lib.hid (R10.out.below hl R10.out.lt)
      have P11 := Lib.hid (P10.out.below hl P10.out.lt)
      have B11 := Lib.hid (B10.out.trans (hl.mono B10.out.size))
      have O11 := Lib.hid (own_below O10.out hl)
      have s11 := hl.size
      have HK2 := Lib.hid (lies_own O10.out).2
      clear A10 R10 P10 B10 O10 hl
      go_wp2
      obtain ⟨i1, hi1, hy0, hy1, hy2⟩ := info_parts infoU
      go_loopw [13, 14] (fun s i wr => RelBack w.heap.size w9.heap.size w10.heap.size g cp w3.heap.size w4.heap.size w us n A2 c2 (addS z us) (addS z us) s i wr) (fun _ i _ => n - (intOf i).toNat)
      case atStart => exact ⟨0, Nat.zero_le _, rfl, by rw [turned_zero]; exact P11.out, O11.out, World.ownsRow_nil _ _ _ _, A11.out, R11.out, B11.out, s11⟩
      case round =>
        clear A11 R11 P11 B11 O11 s11
        obtain ⟨k, hk', rfl, hP, hO, hown, hA, hR, hl, hs⟩ := hrel
        obtain ⟨⟨hlo1, hlo2⟩, hg9, hs10, hle, hcm, hg, hg3, hg4⟩ := HK.out
        rcases Nat.lt_or_ge k n with h6 | h6
        · have hus := HU.out
          obtain ⟨u, hu'⟩ : ∃ u, us[n - 1 - k]? = some u := ⟨_, List.getElem?_eq_getElem (by omega)⟩
          have hrv := rev_get (us := us) (k := k) (by omega) (by rw [hus]; exact hu')
          obtain ⟨ad, rfl, hBB, hcell⟩ := (HL.out.below hl).at_ (k := n - 1 - k) (by omega)
          obtain ⟨ad2, rfl, hB2, hcell2⟩ := (lies_own hO).at_ (k := n - 1 - k) (by omega)
          obtain ⟨ad3, e3, hb3, -⟩ := HK2.out (by omega)
          obtain rfl := Option.some.inj e3
          have hx := hcell2 _ (show (us.map fl)[n - 1 - k]? = some (.float .f32 u.toNat) by simp [hu', fl])
          have hy : (wr.setCell ⟨g, k, none⟩ (.float .f32 u.toNat)).cell? (ad.add (n - 1 - k)) = some (.int .u32 u) :=
            (World.cell?_of_block (w := wr) (Below.heap_setCell _ _ _ _ (by rw [K.block_add]; show ad.block ≠ g; omega))).trans (hcell _ (by simp [hu']))
          have hc := hP.get (i := k) (v := .float .f32 ((turned us k).getD k 0).toNat) (by rw [List.getElem?_append_left (by simp [turned_length]; omega)]; simp [fl, turned_length, List.getD_eq_getElem?_getD, show k < us.length by omega])
          have hf := hP.free k
          have hgl := hP.lt
          have hst : ∀ (a : Addr) (b : Nat) (m : Mode) (W : World), (store a (.float .f32 b) m).run Try.prog W = stored Try.prog W a (.float .f32 b) m := fun a b m W => run_store Try.prog W a _ m rfl
          have hkb : decide ((k : Int) < (n : Int)) = true := by simp; omega
          have g0 : (0 : Int) ≤ (k : Int) := by omega
          have g1 : (k : Int) < (n : Int) + 2 := by omega
          have g2 : k < n + 2 := by omega
          have g3 : (k : Int) < (n : Int) := by omega
          have g4 : (0 : Int) ≤ (n : Int) - 1 - (k : Int) := by omega
          have g5 : (n : Int) - 1 - (k : Int) < (n : Int) := by omega
          have g6 : ((n : Int) - 1 - (k : Int)).toNat = n - 1 - k := by omega
          have ets : ((turned us k).map fl ++ [Value.float .f32 1088421888, .float .f32 1091567616]).set k (fl u) = (turned us (k + 1)).map fl ++ [.float .f32 1088421888, .float .f32 1091567616] := by
            rw [List.set_append_left _ _ (by simp [turned_length]; omega), ← List.map_set, turned_step (by omega) hrv]
          have HP := Lib.hid (ets ▸ hP.set (i := k) (fl u))
          have HO := Lib.hid (ownsRow_setCell_below hO (a := ⟨g, k, none⟩) hg9 (fl u))
          have hown1 := ownsRow_setCell_below hown (a := ⟨g, k, none⟩) (by show g < w10.heap.size; omega) (fl u)
          have HA := Lib.hid (hA.other (a := ⟨g, k, none⟩) (by show w3.heap.size ≠ g; omega) (fl u))
          have HR := Lib.hid (hR.other (a := ⟨g, k, none⟩) (by show w4.heap.size ≠ g; omega) (fl u))
          have HLB := Lib.hid (hl.setCell (p := ⟨g, k, none⟩) (by show w.heap.size ≤ g; omega) (fl u))
          have HV := Lib.hid hrv
          clear ets hrv hP hO hown hA hR
          clear hcell hcell2 hu'
          go_wp2_with (first
            | (at_builtin; refine wpList_append_own _ rfl _ _ 37 rfl w10.heap.size 39 i1 (.int .u32 0) 1 4 Try.underlying37 hi1 hy0 hy1 hy2 rfl (by decide) _ _ _ rfl (hown1.alloc _) ⟨wr.heap.size, 0, none⟩ 1 1 [.int .u32 u] rfl rfl ?d1 ?d2 ?d3 ?d4 ?d5 ?_))
          try (case d1 =>
            intro j x hj
            match j, hj with
            | 0, hj =>
              simp only [List.getElem?_cons_zero, Option.some.injEq] at hj
              subst hj
              exact Row.get (Row.at (Row.new (wr.setCell ⟨g, k, none⟩ (.float .f32 u.toNat)) 39 #[.int .u32 u]) (b' := wr.heap.size) (by simp)) (i := 0) rfl)
          case d2 => first | rfl | (intro x hx; simp only [List.mem_singleton] at hx; subst hx; rfl)
          case d3 => unfold maxLen; omega
          case d4 => omega
          case d5 => first | omega | (simp; omega)
          intro v' w12 hown' hgrow _
          have ho : w12.ownsRow w10.heap.size 39 1 v' (k + 1) ((us.reverse.take (k + 1)).map (Value.int .u32)) := by
            obtain ⟨hk2, e⟩ := List.getElem?_eq_some_iff.1 HV.out
            rw [List.take_succ_eq_append_getElem hk2, List.map_append, e, List.map_take, List.map_reverse]
            exact hown'
          have hP2 := Lib.hid ((HP.out.alloc (.cells #[.int .u32 u] 39)).grown hgrow (fun e => by have := (hown1.lt _ e.symm).1; omega))
          have hA2 := Lib.hid ((HA.out.alloc (.cells #[.int .u32 u] 39)).grown hgrow (fun e => by have := (hown1.lt _ e.symm).1; omega))
          have hR2 := Lib.hid ((HR.out.alloc (.cells #[.int .u32 u] 39)).grown hgrow (fun e => by have := (hown1.lt _ e.symm).1; omega))
          have hO2 := Lib.hid ((HO.out.alloc (.cells #[.int .u32 u] 39)).kept hgrow (Or.inr (fun e => by have := (hown1.lt _ e.symm).1; omega)))
          have hL2 := Lib.hid ((HLB.out.alloc (by simp; omega) (.cells #[.int .u32 u] 39)).grown hgrow (by simp; omega) (fun x hx => by have := (hown1.lt x hx).1; omega))
          have hs2 := hgrow.size
          simp only [World.size_alloc, World.size_setCell] at hs2
          clear hown' hgrow hown1 HP HA HR HO HLB
          go_wp2
          go_roundw
          case rel => exact ⟨k + 1, by omega, by go_num, hP2.out, hO2.out, ho, hA2.out, hR2.out, hL2.out, by omega⟩
          case measure => simp [intOf]; omega
        · obtain rfl : n = k := by omega
          have eT : turned us n = us.reverse := by rw [← HU.out]; exact turned_full us
          have eR : us.reverse.take n = us.reverse := List.take_of_length_le (by simp [HU.out])
          rw [eT] at hP
          rw [eR] at hown
          have hA' := Lib.hid hA
          have hR' := Lib.hid hR
          have hO' := Lib.hid hown
          have hP' := Lib.hid hP
          clear hA hR hown hP hO eT eR
          have HVL0 := Lib.hid (show us.reverse.length = n by simp [HU.out])
          have HVB0 := Lib.hid (show ∀ u ∈ us.reverse, 0 ≤ u ∧ u < 4294967296 from fun u h => hu u (by simpa using h))
          have hLB := Lib.hid hl
          clear hl hs
          rcases Nat.eq_zero_or_pos n with h0 | h0
          · have hgt : decide ((0 : Int) < (n : Int)) = false := by simp [h0]
            have hgt2 : decide (0 < n) = false := by simp [h0]
            clear h0
            go_wp2_with fail
            obtain ⟨vs, hvs⟩ : ∃ vs, vs = us.reverse := ⟨_, rfl⟩
            rw [← hvs] at HVL0 HVB0 hP' hO'
            obtain ⟨WW, hWW⟩ : ∃ WW, WW = wr := ⟨_, rfl⟩
            subst hWW
            have HVL := Lib.hid HVL0.out
            have HVB := Lib.hid HVB0.out
            have PP := Lib.hid hP'.out
            have OWN := Lib.hid hO'.out
            have AA := Lib.hid hA'.out
            have RR := Lib.hid hR'.out
            have BB := Lib.hid hLB.out
            clear HVL0 HVB0 hP' hO' hA' hR' hLB hvs
            obtain ⟨A3, c3, hv3⟩ := own_shape OWN.out
            rw [hv3]
            have OW := Lib.hid (hv3 ▸ OWN.out)
            clear hv3 OWN
            have LF := Lib.hid (PP.out.lies (B := WW.heap.size) (n := n) PP.out.lt (by simp [HVL.out]))
            have e2 : (vs.map fl ++ [Value.float .f32 1088421888, Value.float .f32 1091567616]).take n = vs.map fl := by
              rw [List.take_append_of_le_length (by simp [HVL.out]), List.take_of_length_le (by simp [HVL.out])]
            have LF' := Lib.hid (e2 ▸ LF.out)
            clear e2 LF
            refine (of _ n cp vs (by omega) HVB.out _ LF'.out).mono ?_
            rintro e w13 ⟨rfl, k13⟩
            have A13 := Lib.hid (AA.out.below k13 AA.out.lt)
            have R13 := Lib.hid (RR.out.below k13 RR.out.lt)
            have B13 := Lib.hid (BB.out.trans (k13.mono BB.out.size))
            have O13 := Lib.hid (own_below OW.out k13)
            clear k13 LF' AA RR BB OW PP
            obtain ⟨⟨hlo1, hlo2⟩, hg9, hs10, hle, hcm, hg, hg3, hg4⟩ := HK.out
            have hR := fun W h => Add 0 A3 n c3 vs (by omega) HVB.out W h
            rw [show wv 0 = #[Value.int .u64 0, Value.int .u64 0, Value.int .u64 0, Value.int .u64 0, Value.int .u64 0, Value.int .u64 0] from wv_zero] at hR
            have HRR := Lib.hid hR
            clear hR
            have B14 := Lib.hid (Row.put_below B13.out A13.out (by omega) (wv (addS 0 vs)))
            have O14 := Lib.hid (own_put O13.out (b := w3.heap.size) (by omega) (wv (addS 0 vs)))
            have A14 := Lib.hid (A13.out.put (wv (addS 0 vs)))
            have R14 := Lib.hid (R13.out.put_other (b' := w3.heap.size) (Ne.symm HAB.out) (wv (addS 0 vs)))
            clear hlo1 hlo2 hg9 hs10 hle hcm hg hg3 hg4
            go_wp2_with (refine wpList_store_row rfl 26 _ _ rfl (w3.heap.size) _ rfl rfl 26 _ A13.out ?_ ?_ ?_ ?_; kernel_rfl; (first | (rw [wv_size, wv_size]) | kernel_rfl); (first | exact cv_one _ | kernel_rfl))
            refine (HRR.out _ (lies_own O14.out)).mono ?_
            rintro e w15 ⟨rfl, k15⟩
            have A15 := Lib.hid (A14.out.below k15 A14.out.lt)
            have R15 := Lib.hid (R14.out.below k15 R14.out.lt)
            have B15 := Lib.hid (B14.out.trans (k15.mono B14.out.size))
            clear k15 HRR A14 R14 O14 B14
            have hq' : ∀ (x : Int) (W : World), (binOp .eql 24 (.agg (wv x)) (.agg (wv x))).run Try.prog W = .ok (.bool true) W := fun x W => by
              have h := K.eql_ints (P := Try.prog) W (t := 24) (e := 23) (n := 6) (k := .u64) (by kernel_rfl) (by kernel_rfl) (by kernel_rfl) (digs 18446744073709551616 x 6) (digs 18446744073709551616 x 6) (digs_length _ _ _) (digs_length _ _ _)
              rw [beq_self_eq_true] at h
              exact h
            obtain ⟨⟨hlo1, hlo2⟩, hg9, hs10, hle, hcm, hg, hg3, hg4⟩ := HK.out
            have hab : Hid (w3.heap.size ≠ w4.heap.size) := HAB.out
            have hB15 := Lib.hid (Row.put_below B15.out R15.out (by omega) (wv (addS 0 vs)))
            clear hlo1 hlo2 hg9 hs10 hle hcm hg hg3 hg4
            go_wp2_with (first | (refine wpList_store_row rfl 30 _ _ rfl (w4.heap.size) _ rfl rfl 30 _ R15.out ?_ ?_ ?_ ?_; kernel_rfl; (first | (rw [wv_size, wv_size]) | kernel_rfl); (first | exact cv_one _ | kernel_rfl)) | (refine wpList_load_row rfl 26 _ rfl (w3.heap.size) rfl 26 _ (0, 0) _ (A15.out.put_other hab.out _) Try.underlying26 rfl (by kernel_rfl) ?_) | (refine wpList_load_row rfl 30 _ rfl (w4.heap.size) rfl 30 _ (0, 0) _ (R15.out.put _) Try.underlying30 rfl (by kernel_rfl) ?_) | (go_at_call 13; refine (num _ _).mono ?_; rintro e w' ⟨rfl, rfl⟩))
            go_ret
            exact ⟨rfl, hB15.out⟩
          · have hgt : decide ((0 : Int) < (n : Int)) = true := by simp [h0]
            obtain ⟨y, tl, hyt⟩ : ∃ y tl, us.reverse = y :: tl := by
              cases h : us.reverse with
              | nil => have := HVL0.out; rw [h] at this; simp at this; omega
              | cons y tl => exact ⟨y, tl, rfl⟩
            rw [hyt] at HVL0 HVB0 hP' hO'
            clear hyt
            obtain ⟨g3, c3, hv3, hgl3, hc3, hcm3, hp3⟩ := pre_of_own hO'.out h0
            rw [hv3]
            have hcb := hp3.get (i := 0) (v := .int .u32 y) rfl
            have hfb := hp3.free 0
            have hcg := hP'.out.get (i := 0) (v := .float .f32 y.toNat) rfl
            have hfg := hP'.out.free 0
            have hyb := HVB0.out y (by simp)
            obtain ⟨x, hx⟩ : ∃ x, x = bits .xor .u32 y 2147483648 := ⟨_, rfl⟩
            have hxr : bits .xor .u32 y 2147483648 = x := hx.symm
            have hxb := xor_top y hyb.1 hyb.2
            rw [← hx] at hxb
            have HVL := Lib.hid (show (x :: tl).length = n from HVL0.out)
            have HVB := Lib.hid (show ∀ u ∈ x :: tl, 0 ≤ u ∧ u < 4294967296 from fun u h => by
              rcases List.mem_cons.1 h with rfl | h
              · exact hxb
              · exact HVB0.out u (by simp [h]))
            obtain ⟨⟨hlo1, hlo2⟩, hg9, hs10, hle, hcm, hg, hg3, hg4⟩ := HK.out
            have hgl := hP'.out.lt
            have hgl3' := hp3.lt
            have PP := Lib.hid ((hP'.out.set (i := 0) (fl x)).other (a := ⟨g3, 0, none⟩) (by show g ≠ g3; omega) (.int .u32 x))
            have OWN0 := Lib.hid (((hp3.other (a := ⟨g, 0, none⟩) (by show g3 ≠ g; omega) (fl x)).set (i := 0) (.int .u32 x)).own (base := w10.heap.size) hgl3 hcm3)
            have AA := Lib.hid ((hA'.out.other (a := ⟨g, 0, none⟩) (by show w3.heap.size ≠ g; omega) (fl x)).other (a := ⟨g3, 0, none⟩) (by show w3.heap.size ≠ g3; omega) (.int .u32 x))
            have RR := Lib.hid ((hR'.out.other (a := ⟨g, 0, none⟩) (by show w4.heap.size ≠ g; omega) (fl x)).other (a := ⟨g3, 0, none⟩) (by show w4.heap.size ≠ g3; omega) (.int .u32 x))
            have BB := Lib.hid ((hLB.out.setCell (p := ⟨g, 0, none⟩) (by show w.heap.size ≤ g; omega) (fl x)).setCell (p := ⟨g3, 0, none⟩) (by show w.heap.size ≤ g3; omega) (.int .u32 x))
            have hgne : g3 ≠ g := by omega
            have hst : ∀ (a : Addr) (b : Nat) (m : Mode) (W : World), (store a (.float .f32 b) m).run Try.prog W = stored Try.prog W a (.float .f32 b) m := fun a b m W => run_store Try.prog W a _ m rfl
            have hn0 : 0 < n + 2 := by omega
            have HX := Lib.hid hx
            clear HVL0 HVB0 hP' hO' hA' hR' hLB hv3 hp3 hx hxb hyb hlo1 hlo2 hg9 hs10 hle hcm hg hg3 hg4 hc3 hcm3 hgl3
            go_wp2_with (first | (go_at_call 21; refine (grainFloat _ _).mono ?_; rintro e w' ⟨rfl, rfl⟩))
            obtain ⟨vs, hvs⟩ : ∃ vs, vs = x :: tl := ⟨_, rfl⟩
            have HVL' := Lib.hid (show vs.length = n by rw [hvs]; exact HVL.out)
            have HVB' := Lib.hid (show ∀ u ∈ vs, 0 ≤ u ∧ u < 4294967296 by rw [hvs]; exact HVB.out)
            have PP' := Lib.hid (show Pre _ g 44 cp (vs.map fl ++ [.float .f32 1088421888, .float .f32 1091567616]) by rw [hvs]; exact PP.out)
            have hln : ((y :: tl).map (Value.int .u32)).length = n := by have := HVL.out; simpa using this
            have OWN := Lib.hid (show World.ownsRow _ w10.heap.size 39 1 (.slice (some ⟨g3, 0, none⟩) n c3) n (vs.map (Value.int .u32)) by rw [hvs]; have h := OWN0.out; rw [List.length_set, hln] at h; exact h)
            obtain ⟨WW, hWW⟩ : ∃ WW, WW = ((wr.setCell ⟨g, 0, none⟩ (fl x)).setCell ⟨g3, 0, none⟩ (.int .u32 x)) := ⟨_, rfl⟩
            rw [← hWW] at PP' OWN AA RR BB
            have hWW' : ((wr.setCell ⟨g, 0, none⟩ (.float .f32 x.toNat)).setCell ⟨g3, 0, none⟩ (.int .u32 x)) = WW := hWW.symm
            rw [hWW']
            clear hWW hWW' hcb hfb hcg hfg hst OWN0 PP HVL HVB hln hvs HX
            have HVL := Lib.hid HVL'.out
            have HVB := Lib.hid HVB'.out
            have PP := Lib.hid PP'.out
            clear HVL' HVB' PP'
            have OW := Lib.hid OWN.out
            clear OWN
            have LF := Lib.hid (PP.out.lies (B := WW.heap.size) (n := n) PP.out.lt (by simp [HVL.out]))
            have e2 : (vs.map fl ++ [Value.float .f32 1088421888, Value.float .f32 1091567616]).take n = vs.map fl := by
              rw [List.take_append_of_le_length (by simp [HVL.out]), List.take_of_length_le (by simp [HVL.out])]
            have LF' := Lib.hid (e2 ▸ LF.out)
            clear e2 LF
            refine (of _ n cp vs (by omega) HVB.out _ LF'.out).mono ?_
            rintro e w13 ⟨rfl, k13⟩
            have A13 := Lib.hid (AA.out.below k13 AA.out.lt)
            have R13 := Lib.hid (RR.out.below k13 RR.out.lt)
            have B13 := Lib.hid (BB.out.trans (k13.mono BB.out.size))
            have O13 := Lib.hid (own_below OW.out k13)
            clear k13 LF' AA RR BB OW PP
            obtain ⟨⟨hlo1, hlo2⟩, hg9, hs10, hle, hcm, hg, hg3, hg4⟩ := HK.out
            have hR := fun W h => Add 0 (some ⟨g3, 0, none⟩) n c3 vs (by omega) HVB.out W h
            rw [show wv 0 = #[Value.int .u64 0, Value.int .u64 0, Value.int .u64 0, Value.int .u64 0, Value.int .u64 0, Value.int .u64 0] from wv_zero] at hR
            have HRR := Lib.hid hR
            clear hR
            have B14 := Lib.hid (Row.put_below B13.out A13.out (by omega) (wv (addS 0 vs)))
            have O14 := Lib.hid (own_put O13.out (b := w3.heap.size) (by omega) (wv (addS 0 vs)))
            have A14 := Lib.hid (A13.out.put (wv (addS 0 vs)))
            have R14 := Lib.hid (R13.out.put_other (b' := w3.heap.size) (Ne.symm HAB.out) (wv (addS 0 vs)))
            clear hlo1 hlo2 hg9 hs10 hle hcm hg hg3 hg4
            go_wp2_with (refine wpList_store_row rfl 26 _ _ rfl (w3.heap.size) _ rfl rfl 26 _ A13.out ?_ ?_ ?_ ?_; kernel_rfl; (first | (rw [wv_size, wv_size]) | kernel_rfl); (first | exact cv_one _ | kernel_rfl))
            refine (HRR.out _ (lies_own O14.out)).mono ?_
            rintro e w15 ⟨rfl, k15⟩
            have A15 := Lib.hid (A14.out.below k15 A14.out.lt)
            have R15 := Lib.hid (R14.out.below k15 R14.out.lt)
            have B15 := Lib.hid (B14.out.trans (k15.mono B14.out.size))
            clear k15 HRR A14 R14 O14 B14
            have hq' : ∀ (x : Int) (W : World), (binOp .eql 24 (.agg (wv x)) (.agg (wv x))).run Try.prog W = .ok (.bool true) W := fun x W => by
              have h := K.eql_ints (P := Try.prog) W (t := 24) (e := 23) (n := 6) (k := .u64) (by kernel_rfl) (by kernel_rfl) (by kernel_rfl) (digs 18446744073709551616 x 6) (digs 18446744073709551616 x 6) (digs_length _ _ _) (digs_length _ _ _)
              rw [beq_self_eq_true] at h
              exact h
            obtain ⟨⟨hlo1, hlo2⟩, hg9, hs10, hle, hcm, hg, hg3, hg4⟩ := HK.out
            have hab : Hid (w3.heap.size ≠ w4.heap.size) := HAB.out
            have hB15 := Lib.hid (Row.put_below B15.out R15.out (by omega) (wv (addS 0 vs)))
            clear hlo1 hlo2 hg9 hs10 hle hcm hg hg3 hg4
            go_wp2_with (first | (refine wpList_store_row rfl 30 _ _ rfl (w4.heap.size) _ rfl rfl 30 _ R15.out ?_ ?_ ?_ ?_; kernel_rfl; (first | (rw [wv_size, wv_size]) | kernel_rfl); (first | exact cv_one _ | kernel_rfl)) | (refine wpList_load_row rfl 26 _ rfl (w3.heap.size) rfl 26 _ (0, 0) _ (A15.out.put_other hab.out _) Try.underlying26 rfl (by kernel_rfl) ?_) | (refine wpList_load_row rfl 30 _ rfl (w4.heap.size) rfl 30 _ (0, 0) _ (R15.out.put _) Try.underlying30 rfl (by kernel_rfl) ?_) | (go_at_call 13; refine (num _ _).mono ?_; rintro e w' ⟨rfl, rfl⟩))
            go_ret
            exact ⟨rfl, hB15.out⟩
theorem own : ownKnob Try.prog.godebug = none := by kernel_rfl
set_option maxRecDepth 100000 in
theorem lifted (os : Os) (started : os.Started) (H : Type) (enc : TypeId × Value → H) :
    ReturnsInHanded {} Try.checked os 6 .any (Rows.tallyAddsSpec.pre6 enc Try.prog Try.f6 Rows.tallyAddsRow.domain false) (Rows.tallyAddsSpec.post enc Try.prog Try.f6 false true false false) := by
  refine returnsInHanded_of_change_sized (C := Try.checked) own started (by kernel_rfl) Try.func6
    (ChangeSpec.witness6 (enc := enc) (C := Try.checked) false ⟨#[], #[.agg #[.int .u64 0, .int .u64 0, .int .u64 0, .int .u64 0, .int .u64 0, .int .u64 0], .slice none 0 0], []⟩ 8 (by kernel_rfl) (by kernel_rfl) (by kernel_rfl) (by kernel_rfl)) ?_
  intro W base args ds gs before hval0 hW hcnd hsz0 _
  have hsz : (DataW.weightsEach Try.prog (Try.f6.params.toList ++ Rows.tallyAddsSpec.plain.varTypes Try.prog) (ds ++ gs)).all (· ≤ reachBytes) = true := hsz0
  have hval : ∀ (j : Nat) t v, Try.f6.params[j]? = some t → args[j]? = some v → Value.okWide Try.prog W .any base t v := hval0
  have hW' := hW
  obtain ⟨p, q, hA0, hV, rfl, hfz, hnd⟩ := hW
  have hA : DataW.TrodAll enc Try.prog W 0 (fun _ => true) true Try.f6.params.toList args.toList ds p := hA0
  rw [Try.params6] at hA hval hsz
  obtain ⟨v0, vs0, d0, ds0, p0, q0, hargs, rfl, rfl, h0, r0⟩ := trodAll_cons hA
  obtain ⟨v1, vs1, d1, ds1, p1, q1, rfl, rfl, rfl, h1, r1⟩ := trodAll_cons r0
  obtain ⟨rfl, rfl, rfl⟩ := trodAll_nil r1
  obtain rfl : args = #[v0, v1] := by cases args; simp_all
  obtain ⟨rfl, rfl⟩ := trodVars_none hV
  have hlt : ∀ x ∈ p0 ++ p1, x.block < W.heap.size := fun x hx => hW'.lt x (by simpa using hx)
  have k0 := h0
  obtain ⟨z0, l0, rfl, w0, rfl⟩ := K.open_array Try.underlying25 Try.underlying23 (by kernel_rfl) (by kernel_rfl) (hval 0 25 v0 rfl rfl) h0
  have k1 := h1
  obtain ⟨y, rfl, -, -⟩ := words_are z0 l0 (fun z hz => bounds_u64 (w0 z hz))
  obtain ⟨A, n, cap, us, rfl, hus, hn, hcap, hwf, hlies, len', hcase⟩ := K.open_nums (k := .u32) Try.underlying37 Try.underlying39 (by kernel_rfl) (hval 1 37 v1 rfl rfl) h1
  refine (walk _ _ _ _ _ (tally_reach hsz hcase hn) (fun u hu => by have := bounds_u32 (hwf u hu); omega) W hlies).mono fun e W' ⟨he, bel⟩ => ?_
  subst he
  exact ⟨_, rfl, _, _, _, [], _, [], hW', trodAll_mk1 (shut_bool Try.underlying4 _), (trodAll_cons_mk (Below.trod (by kernel_rfl) (by kernel_rfl) (of_decide_eq_true (by kernel_rfl)) k0 bel (fun x hx => by cases hx)) (trodAll_cons_mk (Below.trod (by kernel_rfl) (by kernel_rfl) (of_decide_eq_true (by kernel_rfl)) k1 bel (fun x hx => hlt x (by simp [hx]))) trodAll_mk0)), rfl, bel.frame _, fun h => by cases h⟩
theorem over : Rows.tallyAddsRow.holds Try.pinned (OpenSpec.ofChange Rows.tallyAddsSpec) :=
  OpenClaim.holds_of_wide 6 Try.f6 rfl rfl rfl rfl rfl rfl rfl ⟨rfl, rfl, rfl, rfl, rfl⟩ rfl rfl rfl rfl rfl (by kernel_rfl) Try.func6 (by kernel_rfl)
    (of_decide_eq_true (by kernel_rfl)) (by unfold Func.isWrapper; first | (rw [if_pos (by decide +kernel)]; kernel_rfl) | (rw [if_neg (by decide +kernel)]; exact ⟨rfl, rfl⟩))
    (fun os started H enc _ => lifted os started H enc)
theorem proved : Rows.TallyAddsSaid := over
#print axioms proved
end Go.Proofs.Ytbbldcbilnkkdaa.tallyAdds
