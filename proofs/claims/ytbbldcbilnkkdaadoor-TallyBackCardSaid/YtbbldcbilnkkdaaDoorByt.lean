/-
  The forty-eight bytes of a sum, and the sum of a text: the program's two functions. No condition.
-/
import Derived.Test.YtbbldcbilnkkdaaDoorK
import Derived.Test.YtbbldcbilnkkdaaDoorKe
import Derived.Test.YtbbldcbilnkkdaaDoorK4
import Derived.Test.YtbbldcbilnkkdaaDoorLen
import Derived.StillTailTactics
import Derived.OwnWalk
import Derived.Laws.BytesString
set_option linter.unusedVariables false
set_option linter.unusedSimpArgs false
namespace Go.Proofs.YtbbldcbilnkkdaaDoor.Byt
open Go.RowKit Go.ChangeShapes

def byteAt (ws : List Int) (i : Nat) : Int := ws.getD (i / 8) 0 / 2 ^ (8 * (i % 8)) % 256
def bytesOf (ws : List Int) (n : Nat) : List Int := (List.range n).map (byteAt ws)
def str (zs : List Int) : ByteArray := zs.foldl (fun r n => r.push (UInt8.ofNat n.toNat)) ByteArray.empty
theorem bytesOf_succ (ws : List Int) (n : Nat) : bytesOf ws (n + 1) = bytesOf ws n ++ [byteAt ws n] := by
  unfold bytesOf; rw [List.range_succ, List.map_append]; rfl
theorem bytesOf_length (ws : List Int) (n : Nat) : (bytesOf ws n).length = n := by unfold bytesOf; simp

/-- The text of bytes that a slice owns. -/
theorem string_own {P : Program} {w : World} {base e src dst : Nat} {v : Value} {zs : List Int} (hs : P.underlying src = some (.slice e)) (he : P.underlying e = some (.int .u8)) (hd : P.underlying dst = some .string)
    (h : w.ownsRow base e 1 v zs.length (zs.map (Value.int .u8))) (hn : zs ≠ []) : (convert src dst v).run P w = .ok (.string (str zs)) w := by
  have h' := h
  obtain ⟨hlen, ⟨hv, h0⟩ | ⟨g, cap, cur, rfl, hbg, hblk, hnc, hcm, hsz, htk⟩⟩ := h
  · exact absurd (List.eq_nil_of_length_eq_zero h0) hn
  · have hl := run_loadCells_list (P := P) w ⟨g, 0, none⟩ (zs.map (Value.int .u8)) (h'.cells rfl)
    rw [List.length_map] at hl
    rw [run_convert_bytes_string w src dst e _ _ _ hs he hd, run_bytesToString w _ _ _ zs hl]
    rfl

theorem info8 : (Tryd.prog.info? 5).map (fun i => (i.zero, i.size, i.bytes)) = some (some (.int .u8 0), 1, 1) := by kernel_rfl

theorem cell_get {ws : List Int} {n : Nat} (h : n < ws.length) : ((ws.map (Value.int .u64)).toArray)[n]? = some (.int .u64 (ws.getD n 0)) := by simp [List.getD_eq_getElem?_getD, h]
theorem get_bound {ws : List Int} (h : ∀ z ∈ ws, 0 ≤ z ∧ z ≤ 18446744073709551615) {n : Nat} (hn : n < ws.length) : 0 ≤ ws.getD n 0 ∧ ws.getD n 0 ≤ 18446744073709551615 := h _ (by rw [List.getD_eq_getElem?_getD, List.getElem?_eq_getElem hn]; exact List.getElem_mem hn)

def RelOut (w : World) (ws : List Int) (s i : Value) (wr : World) : Prop :=
  ∃ k : Nat, k ≤ 6 ∧ i = .int .i64 k ∧ wr.ownsRow (w.heap.size + 1) 5 1 s (bytesOf ws (8 * k)).length ((bytesOf ws (8 * k)).map (Value.int .u8)) ∧ Below (w.heap.size + 1) (w.alloc (.cells (ws.map (Value.int .u64)).toArray 26)) wr
def RelIn (w : World) (ws : List Int) (k : Nat) (x : Int) (s y i : Value) (wr : World) : Prop :=
  ∃ j : Nat, j ≤ 8 ∧ i = .int .i64 j ∧ y = .int .u64 (x / 2 ^ (8 * j)) ∧ wr.ownsRow (w.heap.size + 1) 5 1 s (bytesOf ws (8 * k + j)).length ((bytesOf ws (8 * k + j)).map (Value.int .u8)) ∧ Below (w.heap.size + 1) (w.alloc (.cells (ws.map (Value.int .u64)).toArray 26)) wr
theorem down_bound {x : Int} (h : 0 ≤ x ∧ x ≤ 18446744073709551615) (n : Nat) : 0 ≤ x / 2 ^ n ∧ x / 2 ^ n ≤ 18446744073709551615 := by
  have h2 : (0 : Int) ≤ 2 ^ n := Int.le_of_lt (Int.pow_pos (by decide))
  exact ⟨Int.ediv_nonneg h.1 h2, Int.le_trans (Int.ediv_le_self _ h.1) h.2⟩
theorem down_step (x : Int) (j : Nat) : x / 2 ^ (8 * j) / 256 = x / 2 ^ (8 * (j + 1)) := by
  have h2 : (0 : Int) ≤ 2 ^ (8 * j) := Int.le_of_lt (Int.pow_pos (by decide))
  rw [Int.ediv_ediv_of_nonneg h2, Nat.mul_add, Int.pow_add]
  rfl
theorem index6 (a0 a1 a2 a3 a4 a5 : Int) (W : World) : ∀ k : Nat, k < 6 → (Instr.index 26 (.agg #[.int .u64 a0, .int .u64 a1, .int .u64 a2, .int .u64 a3, .int .u64 a4, .int .u64 a5]) (.int .i64 k)).run Tryd.prog W = .ok (.int .u64 ([a0, a1, a2, a3, a4, a5].getD k 0)) W
  | 0, _ => by kernel_rfl
  | 1, _ => by kernel_rfl
  | 2, _ => by kernel_rfl
  | 3, _ => by kernel_rfl
  | 4, _ => by kernel_rfl
  | 5, _ => by kernel_rfl
set_option maxRecDepth 100000 in
theorem ownBytes (a0 a1 a2 a3 a4 a5 : Int) (hb : ∀ z ∈ [a0, a1, a2, a3, a4, a5], 0 ≤ z ∧ z ≤ 18446744073709551615) (w : World) :
    Calls Tryd.prog 16 #[.agg #[.int .u64 a0, .int .u64 a1, .int .u64 a2, .int .u64 a3, .int .u64 a4, .int .u64 a5]] w fun e w' => e = .returned (.string (str (bytesOf [a0, a1, a2, a3, a4, a5] 48))) ∧ Below w.heap.size w w' := by
  obtain ⟨i0, hi, hz0, hz1, hz2⟩ := info_parts info8
  obtain ⟨ws, hws⟩ : ∃ ws, ws = [a0, a1, a2, a3, a4, a5] := ⟨_, rfl⟩
  go_enter Tryd.func16, Tryd.ntmps16
  go_wp2
  go_loopw [3, 7] (fun s i wr => RelOut w ws s i wr) (fun _ i _ => 6 - (intOf i).toNat)
  case atStart => rw [hws]; exact ⟨0, Nat.zero_le _, rfl, World.ownsRow_nil _ _ _ _, Below.refl _ _⟩
  case round =>
    obtain ⟨k, hk, rfl, hown, hl⟩ := hrel
    rcases Nat.lt_or_ge k 6 with h6 | h6
    · have hl6 : ws.length = 6 := by rw [hws]; rfl
      have hxb := get_bound (ws := ws) (by rw [hws]; exact hb) (n := k) (by omega)
      have hix : ∀ W, (Instr.index 26 (.agg #[.int .u64 a0, .int .u64 a1, .int .u64 a2, .int .u64 a3, .int .u64 a4, .int .u64 a5]) (.int .i64 k)).run Tryd.prog W = .ok (.int .u64 (ws.getD k 0)) W := by
        intro W; rw [hws]; exact index6 _ _ _ _ _ _ W k h6
      obtain ⟨x, hx'⟩ : ∃ x, x = ws.getD k 0 := ⟨_, rfl⟩
      rw [← hx'] at hix hxb
      have HX := Lib.hid hx'
      have HW := Lib.hid hws
      clear hx' hws hl6
      have hkb : decide ((k : Int) < 6) = true := by simp; omega
      go_wp2
      go_loopw [3, 5, 10] (fun s y i wr => RelIn w ws k x s y i wr) (fun _ _ i _ => 8 - (intOf i).toNat)
      case atStart => exact ⟨0, Nat.zero_le _, rfl, by simp, hown, hl⟩
      case round =>
        clear hown hl
        obtain ⟨j, hj, rfl, rfl, hown, hl⟩ := hrel
        have hs := hl.size
        simp at hs
        rcases Nat.lt_or_ge j 8 with h8 | h8
        · have hbl := bytesOf_length ws (8 * k + j)
          obtain ⟨z, hz⟩ : ∃ z, z = x / 2 ^ (8 * j) := ⟨_, rfl⟩
          have hzb := down_bound hxb (8 * j)
          rw [← hz] at hzb ⊢
          have HZ := Lib.hid hz
          clear hz
          go_wp2_with (first
            | (at_builtin; refine wpList_append_own _ rfl _ _ 81 rfl (w.heap.size + 1) 5 i0 (.int .u8 0) 1 1 Tryd.underlying81 hi hz0 hz1 hz2 rfl (by decide) _ _ _ rfl (hown.alloc _) ⟨wr.heap.size, 0, none⟩ 1 1 [.int .u8 (z % 256)] rfl rfl ?c1 ?c2 ?c3 ?c4 ?c5 ?_)
            | go_in)
          case c1 =>
            intro j u hj
            match j, hj with
            | 0, hj => simp at hj; subst hj; simp [Addr.add]
          case c2 => intro u hu; simp at hu; subst hu; rfl
          case c3 => unfold maxLen; omega
          case c4 => omega
          case c5 => simp; omega
          intro v' w1 hown' hgrow _
          have ho : w1.ownsRow (w.heap.size + 1) 5 1 v' (bytesOf ws (8 * k + (j + 1))).length ((bytesOf ws (8 * k + (j + 1))).map (Value.int .u8)) := by
            have e : byteAt ws (8 * k + j) = z % 256 := by
              unfold byteAt
              rw [show (8 * k + j) / 8 = k by omega, show (8 * k + j) % 8 = j by omega, ← HX.out, ← HZ.out]
            rw [bytesOf_length, ← Nat.add_assoc, bytesOf_succ, e, List.map_append]
            exact hown'
          have hl' : Below (w.heap.size + 1) (w.alloc (.cells (ws.map (Value.int .u64)).toArray 26)) w1 :=
            (hl.alloc (by omega) _).grown hgrow (by simp; omega) (fun g hg => (hown.lt g hg).1)
          clear hown' hgrow hown hl hbl
          go_wp2
          go_roundw
          case rel => exact ⟨j + 1, by omega, by go_num, by rw [HZ.out, down_step], ho, hl'⟩
          case measure => simp [intOf]; omega
        · obtain rfl : j = 8 := by omega
          go_wp2
          go_roundw
          case rel => exact ⟨k + 1, by omega, by go_num, by rw [Nat.mul_add]; exact hown, hl⟩
          case measure => simp [intOf]; omega
    · obtain rfl : k = 6 := by omega
      have hS := string_own (P := Tryd.prog) (src := 81) (dst := 9) Tryd.underlying81 Tryd.underlying5 Tryd.underlying9 hown (by intro h; have := bytesOf_length ws 48; rw [h] at this; simp at this)
      have hl' : Below w.heap.size w wr := ((Below.refl _ _).alloc (Nat.le_refl _) _).trans (hl.mono (by omega))
      have HW := Lib.hid hws
      clear hws hl hown
      go_wp2
      go_ret
      exact ⟨by rw [← HW.out]; rfl, hl'⟩


theorem alloc_cell {w : World} {O : Obj} {b : Nat} (h : b < w.heap.size) (o : Nat) : (w.alloc O).cell? ⟨b, o, none⟩ = w.cell? ⟨b, o, none⟩ := World.cell?_alloc_lt w O ⟨b, o, none⟩ h
theorem frozen_row {w : World} {b : Nat} {cs : Array Value} {t : TypeId} (h : w.heap[b]? = some (.cells cs t (0, 0))) (o : Nat) : w.frozen? ⟨b, o, none⟩ = false := by simp [World.frozen?, h]
def byteOf (b : ByteArray) (k : Nat) : Int := if h : k < b.size then ((b[k]'h).toNat : Int) else 0
def val (x y : Int) (k : Nat) : Int := bits .or .u64 x (IntKind.u64.wrap (IntKind.u64.wrap y * 2 ^ (8 * (k % 8))))
def acc (b : ByteArray) : Nat → List Int
  | 0 => [0, 0, 0, 0, 0, 0]
  | k + 1 => (acc b k).set (k / 8) (val ((acc b k).getD (k / 8) 0) (byteOf b k) k)
theorem acc_length (b : ByteArray) : ∀ k, (acc b k).length = 6
  | 0 => rfl
  | k + 1 => by rw [acc, List.length_set, acc_length b k]
theorem acc_row (b : ByteArray) (k : Nat) (x V : Int) (hk : k < b.size) (hx : x = (acc b k).getD (k / 8) 0) (hV : V = val x ((b[k]'hk).toNat : Int) k) :
    (((acc b k).map (Value.int .u64)).toArray).setIfInBounds (k / 8) (.int .u64 V) = ((acc b (k + 1)).map (Value.int .u64)).toArray := by
  have e : byteOf b k = ((b[k]'hk).toNat : Int) := by unfold byteOf; rw [dif_pos hk]
  rw [acc, e, ← hx, ← hV, List.map_set]
  simp
def RelFrom (B : Nat) (T : TypeId) (w w0 : World) (b : ByteArray) (i : Value) (wr : World) : Prop :=
  ∃ k : Nat, k ≤ 48 ∧ i = .int .i64 k ∧ wr.heap[B]? = some (.cells ((acc b k).map (Value.int .u64)).toArray T (0, 0)) ∧ Below B w0 wr
set_option maxRecDepth 100000 in
theorem ownFrom (b : ByteArray) (hs : b.size = 48) (w : World) :
    Calls Tryd.prog 15 #[.string b] w fun e w' => ∃ a0 a1 a2 a3 a4 a5, acc b 48 = [a0, a1, a2, a3, a4, a5] ∧ e = .returned (.tuple #[.agg #[.int .u64 a0, .int .u64 a1, .int .u64 a2, .int .u64 a3, .int .u64 a4, .int .u64 a5], .int .i64 0]) ∧ Below w.heap.size w w' := by
  have hs1 : ((b.size : Int) == 48) = true := by rw [hs]; rfl
  have hs2 : ((b.size : Int) != 48) = false := by rw [hs]; rfl
  have HS := Lib.hid hs
  clear hs
  go_enter Tryd.func15, Tryd.ntmps15
  go_wp2
  go_loopw [10] (fun i wr => RelFrom (w.heap.size + 1) 26 w (w.alloc (.cells #[.int .u64 0, .int .u64 0, .int .u64 0, .int .u64 0, .int .u64 0, .int .u64 0] 26)) b i wr) (fun i _ => 48 - (intOf i).toNat)
  case atStart =>
    have h := heap_alloc_new (w.alloc (.cells #[.int .u64 0, .int .u64 0, .int .u64 0, .int .u64 0, .int .u64 0, .int .u64 0] 26)) (.cells #[.int .u64 0, .int .u64 0, .int .u64 0, .int .u64 0, .int .u64 0, .int .u64 0] 26)
    rw [World.size_alloc] at h
    exact ⟨0, Nat.zero_le _, rfl, h, (Below.refl _ _).alloc (by simp) _⟩
  case round =>
    obtain ⟨k, hk, rfl, hrow, hl⟩ := hrel
    rcases Nat.lt_or_ge k 48 with h48 | h48
    · have hx := K.row_cell hrow (k / 8)
      have hf := frozen_row hrow (k / 8)
      obtain ⟨x, hx'⟩ : ∃ x, x = (acc b k).getD (k / 8) 0 := ⟨_, rfl⟩
      rw [cell_get (by have := acc_length b k; omega), ← hx'] at hx
      have HX := Lib.hid hx'
      have HR := Lib.hid hrow
      have hkb : decide ((k : Int) < 48) = true := by simp; omega
      have hq1 : (0 : Int) ≤ (k : Int) / 8 := by omega
      have hq2 : (k : Int) / 8 < 6 := by omega
      have hq3 : k / 8 < 6 := by omega
      have hq4 : ((k : Int) / 8).toNat = k / 8 := by omega
      have hk1 : k < b.size := by have := HS.out; omega
      have hk2 : (k : Int) < (b.size : Int) := by omega
      clear hx' hrow
      go_wp2_with fail
      refine K.region_tail 14 (by kernel_rfl) (by kernel_rfl) ?_
      simp only [List.take_succ_cons, List.take_zero, List.drop_succ_cons, List.drop_zero]
      iterate 16 (first
        | ((with_reducible refine wpStill_step (fun KK hKK => ?_))
           first
             | ((with_reducible refine K.still_else ?_ (K.Puts.mk' _) ?_)
                (first | rfl | (simp [Region.wanted, yielded]; done))
                (with_reducible refine hKK _ ?_))
             | ((with_reducible refine K.still_if ?_ ?_)
                (first | rfl | (simp [Region.wanted, yielded]; done))
                apply K.still_val
                · go_simp; (try go_ints); exact K.Gives.mk' _ _
                · go_simp; exact K.Puts.mk' _
                (with_reducible refine hKK _ ?_))
           clear hKK KK)
        | skip)
      refine wpStill_nil ?_
      go_wp2
      go_roundw
      case rel =>
        refine ⟨k + 1, by omega, by go_num, ?_, (hl.setCell (by simp) _).drew⟩
        refine (heap_setCell_same wr (w.heap.size + 1) (k / 8) _ _ _ HR.out).trans ?_
        exact congrArg (fun c => some (Obj.cells c 26 (0, 0))) (acc_row b k x _ hk1 HX.out rfl)
      case measure => simp [intOf]; omega
    · obtain rfl : k = 48 := by omega
      obtain ⟨a0, a1, a2, a3, a4, a5, ha⟩ := K.len6 (acc_length b 48)
      rw [ha] at hrow
      have hx := fun o => K.row_cell hrow o
      have hr0 : wr.heap[w.heap.size]? = some (.cells #[.int .u64 0, .int .u64 0, .int .u64 0, .int .u64 0, .int .u64 0, .int .u64 0] 26 (0, 0)) := (hl.block w.heap.size (by omega)).trans (heap_alloc_new w _)
      have hy := fun o => K.row_cell hr0 o
      have hf := fun o => frozen_row hr0 o
      have hs0 : w.heap.size < wr.heap.size := by have := hl.size; simp at this; omega
      have hs1 : w.heap.size + 1 < wr.heap.size := by
        rcases Nat.lt_or_ge (w.heap.size + 1) wr.heap.size with h | h
        · exact h
        · rw [Array.getElem?_eq_none h] at hrow; cases hrow
      have HA := Lib.hid ha
      have hl' : Below w.heap.size w wr := ((Below.refl _ _).alloc (Nat.le_refl _) _).trans (hl.mono (by omega))
      have HR0 := Lib.hid hr0
      clear ha hrow hr0
      go_wp2
      obtain ⟨W6, h6⟩ : ∃ W6, W6 = ((((((wr.setCell ⟨w.heap.size, 0, none⟩ (.int .u64 a0)).setCell ⟨w.heap.size, 1, none⟩ (.int .u64 a1)).setCell ⟨w.heap.size, 2, none⟩ (.int .u64 a2)).setCell ⟨w.heap.size, 3, none⟩ (.int .u64 a3)).setCell ⟨w.heap.size, 4, none⟩ (.int .u64 a4)).setCell ⟨w.heap.size, 5, none⟩ (.int .u64 a5)) := ⟨_, rfl⟩
      rw [← h6]
      have r6 : W6.heap[w.heap.size]? = some (.cells #[.int .u64 a0, .int .u64 a1, .int .u64 a2, .int .u64 a3, .int .u64 a4, .int .u64 a5] 26 (0, 0)) := by
        rw [h6]
        exact heap_setCell_same _ _ 5 _ _ _ (heap_setCell_same _ _ 4 _ _ _ (heap_setCell_same _ _ 3 _ _ _ (heap_setCell_same _ _ 2 _ _ _ (heap_setCell_same _ _ 1 _ _ _ (heap_setCell_same _ _ 0 _ _ _ HR0.out)))))
      have x6 := fun o => K.row_cell r6 o
      have l6 : Below w.heap.size w W6 := by rw [h6]; exact (((((hl'.setCell (Nat.le_refl _) _).setCell (Nat.le_refl _) _).setCell (Nat.le_refl _) _).setCell (Nat.le_refl _) _).setCell (Nat.le_refl _) _).setCell (Nat.le_refl _) _
      have s6 : w.heap.size < W6.heap.size := by rw [h6]; simpa using hs0
      clear h6 r6
      refine bodyPost_ret (v := .tuple #[.agg #[.int .u64 a0, .int .u64 a1, .int .u64 a2, .int .u64 a3, .int .u64 a4, .int .u64 a5], .int .i64 0]) (by simp [results, Tryd.results15, go_sem, x6, s6]) rfl ⟨_, _, _, _, _, _, HA.out, rfl, l6⟩

/-! ### Back -/
open Num
theorem str_fold : ∀ (zs : List Int) (r : ByteArray), zs.foldl (fun r n => r.push (UInt8.ofNat n.toNat)) r = ⟨r.data ++ (zs.map fun n => UInt8.ofNat n.toNat).toArray⟩
  | [], r => by simp
  | z :: zs, r => by
    rw [List.foldl_cons, str_fold zs]
    simp [ByteArray.push]
theorem str_is (zs : List Int) : str zs = ⟨(zs.map fun n => UInt8.ofNat n.toNat).toArray⟩ := by
  unfold str
  rw [str_fold]
  have : ByteArray.empty.data = #[] := rfl
  rw [this]
  simp
theorem str_size (zs : List Int) : (str zs).size = zs.length := by rw [str_is]; simp [ByteArray.size]
theorem byteOf_str {zs : List Int} {k : Nat} {x : Int} (h : zs[k]? = some x) (h0 : 0 ≤ x) (h1 : x < 256) : byteOf (str zs) k = x := by
  obtain ⟨hk, e⟩ := List.getElem?_eq_some_iff.1 h
  unfold byteOf
  rw [dif_pos (by rw [str_size]; exact hk)]
  have : ∀ (b : ByteArray) (hb : b = ⟨(zs.map fun n => UInt8.ofNat n.toNat).toArray⟩) (h9 : k < b.size), ((b[k]'h9).toNat : Int) = x := by
    intro b hb h9
    subst hb
    show ((((zs.map fun n => UInt8.ofNat n.toNat).toArray)[k]'(by simpa using hk)).toNat : Int) = x
    simp only [List.getElem_toArray, List.getElem_map, e, UInt8.toNat_ofNat']
    omega
  exact this _ (str_is zs) _
def part (ws : List Int) (k : Nat) : List Int := (List.range 6).map fun i => ws.getD i 0 % 2 ^ (8 * min (k - 8 * i) 8)
theorem part_get (ws : List Int) (k i : Nat) (h : i < 6) : (part ws k)[i]? = some (ws.getD i 0 % 2 ^ (8 * min (k - 8 * i) 8)) := by simp [part, h]
theorem acc_part (ws : List Int) (h0 : ∀ i, 0 ≤ ws.getD i 0) : ∀ k, k ≤ 48 → acc (str (bytesOf ws 48)) k = part ws k
  | 0, _ => by
    unfold part acc
    simp [List.range_succ, Int.emod_one]
  | k + 1, hk => by
    rw [acc, acc_part ws h0 k (by omega)]
    have hi : k / 8 < 6 := by omega
    have hz : (bytesOf ws 48)[k]? = some (byteAt ws k) := by unfold bytesOf; simp [show k < 48 by omega]
    have hx0 : 0 ≤ byteAt ws k ∧ byteAt ws k < 256 := by unfold byteAt; omega
    rw [byteOf_str hz hx0.1 hx0.2]
    have hw0 := h0 (k / 8)
    have hg : (part ws k).getD (k / 8) 0 = ws.getD (k / 8) 0 % 2 ^ (8 * (k % 8)) := by
      rw [List.getD_eq_getElem?_getD, part_get ws k _ hi]
      show _ % 2 ^ (8 * min (k - 8 * (k / 8)) 8) = _
      rw [show min (k - 8 * (k / 8)) 8 = k % 8 by omega]
    rw [hg]
    have hv : val (ws.getD (k / 8) 0 % 2 ^ (8 * (k % 8))) (byteAt ws k) k = ws.getD (k / 8) 0 % 2 ^ (8 * (k % 8 + 1)) := by
      unfold val byteAt
      generalize ws.getD (k / 8) 0 = x at *
      have hP : (0 : Int) < 2 ^ (8 * (k % 8)) := pow_pos' two_pos _
      have hy : 0 ≤ x / 2 ^ (8 * (k % 8)) % 256 ∧ x / 2 ^ (8 * (k % 8)) % 256 < 256 := by omega
      have hlow := mod_two_pow x (8 * (k % 8))
      have hs : x % 2 ^ (8 * (k % 8 + 1)) = x % 2 ^ (8 * (k % 8)) + 2 ^ (8 * (k % 8)) * (x / 2 ^ (8 * (k % 8)) % 256) := by
        have e : (2 : Int) ^ (8 * (k % 8 + 1)) = 2 ^ (8 * (k % 8)) * 256 := by rw [Nat.mul_add, Int.pow_add]; rfl
        rw [e]
        exact mod_mul hP (by decide) x
      have hle : (2 : Int) ^ (8 * (k % 8)) ≤ 2 ^ 56 := pow_mono two_pos (by omega)
      have h56 : (2 : Int) ^ 56 = 72057594037927936 := by decide
      rw [hs]
      generalize x / 2 ^ (8 * (k % 8)) % 256 = y at *
      generalize x % 2 ^ (8 * (k % 8)) = l at *
      have hm : y * 2 ^ (8 * (k % 8)) % 2 ^ (8 * (k % 8)) = 0 := Int.mul_emod_left _ _
      have hm0 : 0 ≤ y * 2 ^ (8 * (k % 8)) := Int.mul_nonneg hy.1 (by omega)
      have hm1 : y * 2 ^ (8 * (k % 8)) ≤ 255 * 72057594037927936 := Int.mul_le_mul (by omega) (by omega) (by omega) (by decide)
      have hwy : IntKind.u64.wrap y = y := by rw [IntKind.wrap_u64]; omega
      rw [hwy, IntKind.wrap_u64, Int.emod_eq_of_lt hm0 (by omega)]
      rw [or_join' _ l (8 * (k % 8)) hm0 (by omega) hm hlow.1 hlow.2 (by omega), Int.mul_comm]
    rw [hv]
    apply List.ext_getElem?
    intro i
    rw [List.getElem?_set]
    by_cases hik : k / 8 = i
    · subst hik
      rw [if_pos rfl, if_pos (by simp [part]; exact hi), part_get ws (k + 1) _ hi, show min (k + 1 - 8 * (k / 8)) 8 = k % 8 + 1 by omega]
    · rw [if_neg hik]
      by_cases h6 : i < 6
      · rw [part_get ws k i h6, part_get ws (k + 1) i h6, show min (k - 8 * i) 8 = min (k + 1 - 8 * i) 8 by omega]
      · rw [List.getElem?_eq_none (by simp [part]; omega), List.getElem?_eq_none (by simp [part]; omega)]
theorem back6 (a0 a1 a2 a3 a4 a5 : Int) (hb : ∀ z ∈ [a0, a1, a2, a3, a4, a5], 0 ≤ z ∧ z ≤ 18446744073709551615) : acc (str (bytesOf [a0, a1, a2, a3, a4, a5] 48)) 48 = [a0, a1, a2, a3, a4, a5] := by
  have g : ∀ i, 0 ≤ [a0, a1, a2, a3, a4, a5].getD i 0 := fun i => by
    match i with
    | 0 => exact (hb a0 (by simp)).1
    | 1 => exact (hb a1 (by simp)).1
    | 2 => exact (hb a2 (by simp)).1
    | 3 => exact (hb a3 (by simp)).1
    | 4 => exact (hb a4 (by simp)).1
    | 5 => exact (hb a5 (by simp)).1
    | n + 6 => simp
  rw [acc_part _ g 48 (Nat.le_refl _)]
  have m : ∀ a ∈ [a0, a1, a2, a3, a4, a5], a % 2 ^ 64 = a := fun a ha => Int.emod_eq_of_lt (hb a ha).1 (by have := (hb a ha).2; omega)
  have e0 := m a0 (by simp)
  have e1 := m a1 (by simp)
  have e2 := m a2 (by simp)
  have e3 := m a3 (by simp)
  have e4 := m a4 (by simp)
  have e5 := m a5 (by simp)
  unfold part
  simp only [List.range_succ, List.range_zero, List.nil_append, List.map_append, List.map_cons, List.map_nil, List.cons_append]
  show [a0 % 2 ^ 64, a1 % 2 ^ 64, a2 % 2 ^ 64, a3 % 2 ^ 64, a4 % 2 ^ 64, a5 % 2 ^ 64] = _
  rw [e0, e1, e2, e3, e4, e5]
end Go.Proofs.YtbbldcbilnkkdaaDoor.Byt
