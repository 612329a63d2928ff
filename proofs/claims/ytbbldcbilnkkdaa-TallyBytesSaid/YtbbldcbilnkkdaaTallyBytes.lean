/-
  TallyBytes: the forty-eight bytes of a sum, and the sum of a text: the program's answer is the document's. No condition.
-/
import Derived.Test.YtbbldcbilnkkdaaRows
import Derived.Test.YtbbldcbilnkkdaaK
import Derived.Test.YtbbldcbilnkkdaaKe
import Derived.ShutString
import Derived.Outline
import Derived.StillTailTactics
import Derived.OwnWalk
import Derived.Laws.BytesString
import Derived.ChangeOld
import Derived.SizedLaws
set_option linter.unusedVariables false
set_option linter.unusedSimpArgs false
namespace Go.Proofs.Ytbbldcbilnkkdaa.tallyBytes
open Go.ChangeShapes Go.WideShapes Go.ChangeAt Go.RowKit
open Go.ChangeMaps (open_string shut_string)

def byteAt (ws : List Int) (i : Nat) : Int := ws.getD (i / 8) 0 / 2 ^ (8 * (i % 8)) % 256
def bytesOf (ws : List Int) (n : Nat) : List Int := (List.range n).map (byteAt ws)
def str (zs : List Int) : ByteArray := zs.foldl (fun r n => r.push (UInt8.ofNat n.toNat)) ByteArray.empty
theorem bytesOf_succ (ws : List Int) (n : Nat) : bytesOf ws (n + 1) = bytesOf ws n ++ [byteAt ws n] := by
  unfold bytesOf; rw [List.range_succ, List.map_append]; rfl
theorem bytesOf_length (ws : List Int) (n : Nat) : (bytesOf ws n).length = n := by unfold bytesOf; simp

/-- The text of bytes that a slice owns. -/
theorem string_own {P : Program} {w : World} {base e src dst : Nat} {v : Value} {zs : List Int} (hs : P.underlying src = some (.slice e)) (he : P.underlying e = some (.int .u8)) (hd : P.underlying dst = some .string)
    (h : w.ownsRow base e 1 v zs.length (zs.map (Value.int .u8))) (hn : zs ≠ []) : (convert src dst v).run P w = .ok (.string (str zs)) w := by
  have h' := h
  obtain ⟨hlen, ⟨hv, h0⟩ | ⟨g, cap, cur, rfl, hbg, hblk, hnc, hcm, hsz, htk⟩⟩ := h
  · exact absurd (List.eq_nil_of_length_eq_zero h0) hn
  · have hl := run_loadCells_list (P := P) w ⟨g, 0, none⟩ (zs.map (Value.int .u8)) (h'.cells rfl)
    rw [List.length_map] at hl
    rw [run_convert_bytes_string w src dst e _ _ _ hs he hd, run_bytesToString w _ _ _ zs hl]
    rfl

theorem info8 : (Try.prog.info? 5).map (fun i => (i.zero, i.size, i.bytes)) = some (some (.int .u8 0), 1, 1) := by kernel_rfl

theorem cell_get {ws : List Int} {n : Nat} (h : n < ws.length) : ((ws.map (Value.int .u64)).toArray)[n]? = some (.int .u64 (ws.getD n 0)) := by simp [List.getD_eq_getElem?_getD, h]
theorem get_bound {ws : List Int} (h : ∀ z ∈ ws, 0 ≤ z ∧ z ≤ 18446744073709551615) {n : Nat} (hn : n < ws.length) : 0 ≤ ws.getD n 0 ∧ ws.getD n 0 ≤ 18446744073709551615 := h _ (by rw [List.getD_eq_getElem?_getD, List.getElem?_eq_getElem hn]; exact List.getElem_mem hn)

def RelRef (w : World) (ws : List Int) (s i : Value) (wr : World) : Prop :=
  ∃ k : Nat, k ≤ 48 ∧ i = .int .i64 k ∧ wr.ownsRow (w.heap.size + 1) 5 1 s (bytesOf ws k).length ((bytesOf ws k).map (Value.int .u8)) ∧ Below (w.heap.size + 1) (w.alloc (.cells (ws.map (Value.int .u64)).toArray 30)) wr
set_option maxRecDepth 100000 in
theorem refBytes (a0 a1 a2 a3 a4 a5 : Int) (hb : ∀ z ∈ [a0, a1, a2, a3, a4, a5], 0 ≤ z ∧ z ≤ 18446744073709551615) (w : World) :
    Calls Try.prog 12 #[.agg #[.int .u64 a0, .int .u64 a1, .int .u64 a2, .int .u64 a3, .int .u64 a4, .int .u64 a5]] w fun e w' => e = .returned (.string (str (bytesOf [a0, a1, a2, a3, a4, a5] 48))) ∧ Below w.heap.size w w' := by
  obtain ⟨i0, hi, hz0, hz1, hz2⟩ := info_parts info8
  obtain ⟨ws, hws⟩ : ∃ ws, ws = [a0, a1, a2, a3, a4, a5] := ⟨_, rfl⟩
  go_enter Try.func12, Try.ntmps12
  go_wp2
  go_loopw [3, 4] (fun s i wr => RelRef w ws s i wr) (fun _ i _ => 48 - (intOf i).toNat)
  case atStart => rw [hws]; exact ⟨0, Nat.zero_le _, rfl, World.ownsRow_nil _ _ _ _, Below.refl _ _⟩
  case round =>
    obtain ⟨k, hk, rfl, hown, hl⟩ := hrel
    rcases Nat.lt_or_ge k 48 with h48 | h48
    · have hl6 : ws.length = 6 := by rw [hws]; rfl
      have hx : wr.cell? ⟨w.heap.size, k / 8, none⟩ = some (.int .u64 (ws.getD (k / 8) 0)) := by
        rw [K.below_cell hl (by simp) _, K.row_cell (heap_alloc_new w _), cell_get (by omega)]
      have hxb := get_bound (ws := ws) (by rw [hws]; exact hb) (n := k / 8) (by omega)
      obtain ⟨x, hx'⟩ : ∃ x, x = ws.getD (k / 8) 0 := ⟨_, rfl⟩
      rw [← hx'] at hx hxb
      have HX := Lib.hid hx'
      have HW := Lib.hid hws
      have HL := Lib.hid hl6
      clear hx' hws hl6
      have hxs : w.heap.size < wr.heap.size := by have := hl.size; simp at this; omega
      have hbl := bytesOf_length ws k
      go_wp2_with (first
        | (at_builtin; refine wpList_append_own _ rfl _ _ 71 rfl (w.heap.size + 1) 5 i0 (.int .u8 0) 1 1 Try.underlying71 hi hz0 hz1 hz2 rfl (by decide) _ _ _ rfl (hown.alloc _) ⟨wr.heap.size, 0, none⟩ 1 1 [.int .u8 (x / 2 ^ (8 * (k % 8)) % 256)] rfl rfl ?c1 ?c2 ?c3 ?c4 ?c5 ?_)
        | go_in)
      case c1 =>
        intro j u hj
        match j, hj with
        | 0, hj => simp at hj; subst hj; simp [Addr.add]
      case c2 => intro u hu; simp at hu; subst hu; rfl
      case c3 => unfold maxLen; omega
      case c4 => omega
      case c5 => simp; omega
      intro v' w1 hown' hgrow _
      have ho : w1.ownsRow (w.heap.size + 1) 5 1 v' (bytesOf ws (k + 1)).length ((bytesOf ws (k + 1)).map (Value.int .u8)) := by
        have e : byteAt ws k = x / 2 ^ (8 * (k % 8)) % 256 := by unfold byteAt; rw [HX.out]
        rw [bytesOf_length, bytesOf_succ, e, List.map_append]
        exact hown'
      have hl' : Below (w.heap.size + 1) (w.alloc (.cells (ws.map (Value.int .u64)).toArray 30)) w1 :=
        (hl.alloc (by omega) _).grown hgrow (by simp; omega) (fun g hg => (hown.lt g hg).1)
      clear hown' hgrow hown hl hx hbl
      go_wp2
      go_roundw
      case rel => exact ⟨k + 1, by omega, by go_num, ho, hl'⟩
      case measure => simp [intOf]; omega
    · obtain rfl : k = 48 := by omega
      have hS := string_own (P := Try.prog) (src := 71) (dst := 9) Try.underlying71 Try.underlying5 Try.underlying9 hown (by intro h; have := bytesOf_length ws 48; rw [h] at this; simp at this)
      have hl' : Below w.heap.size w wr := ((Below.refl _ _).alloc (Nat.le_refl _) _).trans (hl.mono (by omega))
      have HW := Lib.hid hws
      clear hws hl hown
      go_wp2
      go_ret
      exact ⟨by rw [← HW.out]; rfl, hl'⟩

def RelOut (w : World) (ws : List Int) (s i : Value) (wr : World) : Prop :=
  ∃ k : Nat, k ≤ 6 ∧ i = .int .i64 k ∧ wr.ownsRow (w.heap.size + 1) 5 1 s (bytesOf ws (8 * k)).length ((bytesOf ws (8 * k)).map (Value.int .u8)) ∧ Below (w.heap.size + 1) (w.alloc (.cells (ws.map (Value.int .u64)).toArray 26)) wr
def RelIn (w : World) (ws : List Int) (k : Nat) (x : Int) (s y i : Value) (wr : World) : Prop :=
  ∃ j : Nat, j ≤ 8 ∧ i = .int .i64 j ∧ y = .int .u64 (x / 2 ^ (8 * j)) ∧ wr.ownsRow (w.heap.size + 1) 5 1 s (bytesOf ws (8 * k + j)).length ((bytesOf ws (8 * k + j)).map (Value.int .u8)) ∧ Below (w.heap.size + 1) (w.alloc (.cells (ws.map (Value.int .u64)).toArray 26)) wr
theorem down_bound {x : Int} (h : 0 ≤ x ∧ x ≤ 18446744073709551615) (n : Nat) : 0 ≤ x / 2 ^ n ∧ x / 2 ^ n ≤ 18446744073709551615 := by
  have h2 : (0 : Int) ≤ 2 ^ n := Int.le_of_lt (Int.pow_pos (by decide))
  exact ⟨Int.ediv_nonneg h.1 h2, Int.le_trans (Int.ediv_le_self _ h.1) h.2⟩
theorem down_step (x : Int) (j : Nat) : x / 2 ^ (8 * j) / 256 = x / 2 ^ (8 * (j + 1)) := by
  have h2 : (0 : Int) ≤ 2 ^ (8 * j) := Int.le_of_lt (Int.pow_pos (by decide))
  rw [Int.ediv_ediv_of_nonneg h2, Nat.mul_add, Int.pow_add]
  rfl
theorem index6 (a0 a1 a2 a3 a4 a5 : Int) (W : World) : ∀ k : Nat, k < 6 → (Instr.index 26 (.agg #[.int .u64 a0, .int .u64 a1, .int .u64 a2, .int .u64 a3, .int .u64 a4, .int .u64 a5]) (.int .i64 k)).run Try.prog W = .ok (.int .u64 ([a0, a1, a2, a3, a4, a5].getD k 0)) W
  | 0, _ => by kernel_rfl
  | 1, _ => by kernel_rfl
  | 2, _ => by kernel_rfl
  | 3, _ => by kernel_rfl
  | 4, _ => by kernel_rfl
  | 5, _ => by kernel_rfl
set_option maxRecDepth 100000 in
theorem ownBytes (a0 a1 a2 a3 a4 a5 : Int) (hb : ∀ z ∈ [a0, a1, a2, a3, a4, a5], 0 ≤ z ∧ z ≤ 18446744073709551615) (w : World) :
    Calls Try.prog 11 #[.agg #[.int .u64 a0, .int .u64 a1, .int .u64 a2, .int .u64 a3, .int .u64 a4, .int .u64 a5]] w fun e w' => e = .returned (.string (str (bytesOf [a0, a1, a2, a3, a4, a5] 48))) ∧ Below w.heap.size w w' := by
  obtain ⟨i0, hi, hz0, hz1, hz2⟩ := info_parts info8
  obtain ⟨ws, hws⟩ : ∃ ws, ws = [a0, a1, a2, a3, a4, a5] := ⟨_, rfl⟩
  go_enter Try.func11, Try.ntmps11
  go_wp2
  go_loopw [3, 7] (fun s i wr => RelOut w ws s i wr) (fun _ i _ => 6 - (intOf i).toNat)
  case atStart => rw [hws]; exact ⟨0, Nat.zero_le _, rfl, World.ownsRow_nil _ _ _ _, Below.refl _ _⟩
  case round =>
    obtain ⟨k, hk, rfl, hown, hl⟩ := hrel
    rcases Nat.lt_or_ge k 6 with h6 | h6
    · have hl6 : ws.length = 6 := by rw [hws]; rfl
      have hxb := get_bound (ws := ws) (by rw [hws]; exact hb) (n := k) (by omega)
      have hix : ∀ W, (Instr.index 26 (.agg #[.int .u64 a0, .int .u64 a1, .int .u64 a2, .int .u64 a3, .int .u64 a4, .int .u64 a5]) (.int .i64 k)).run Try.prog W = .ok (.int .u64 (ws.getD k 0)) W := by
        intro W; rw [hws]; exact index6 _ _ _ _ _ _ W k h6
      obtain ⟨x, hx'⟩ : ∃ x, x = ws.getD k 0 := ⟨_, rfl⟩
      rw [← hx'] at hix hxb
      have HX := Lib.hid hx'
      have HW := Lib.hid hws
      clear hx' hws hl6
      have hkb : decide ((k : Int) < 6) = true := by simp; omega
      go_wp2
      go_loopw [3, 5, 10] (fun s y i wr => RelIn w ws k x s y i wr) (fun _ _ i _ => 8 - (intOf i).toNat)
      case atStart => exact ⟨0, Nat.zero_le _, rfl, by simp, hown, hl⟩
      case round =>
        clear hown hl
        obtain ⟨j, hj, rfl, rfl, hown, hl⟩ := hrel
        have hs := hl.size
        simp at hs
        rcases Nat.lt_or_ge j 8 with h8 | h8
        · have hbl := bytesOf_length ws (8 * k + j)
          obtain ⟨z, hz⟩ : ∃ z, z = x / 2 ^ (8 * j) := ⟨_, rfl⟩
          have hzb := down_bound hxb (8 * j)
          rw [← hz] at hzb ⊢
          have HZ := Lib.hid hz
          clear hz
          go_wp2_with (first
            | (at_builtin; refine wpList_append_own _ rfl _ _ 71 rfl (w.heap.size + 1) 5 i0 (.int .u8 0) 1 1 Try.underlying71 hi hz0 hz1 hz2 rfl (by decide) _ _ _ rfl (hown.alloc _) ⟨wr.heap.size, 0, none⟩ 1 1 [.int .u8 (z % 256)] rfl rfl ?c1 ?c2 ?c3 ?c4 ?c5 ?_)
            | go_in)
          case c1 =>
            intro j u hj
            match j, hj with
            | 0, hj => simp at hj; subst hj; simp [Addr.add]
          case c2 => intro u hu; simp at hu; subst hu; rfl
          case c3 => unfold maxLen; omega
          case c4 => omega
          case c5 => simp; omega
          intro v' w1 hown' hgrow _
          have ho : w1.ownsRow (w.heap.size + 1) 5 1 v' (bytesOf ws (8 * k + (j + 1))).length ((bytesOf ws (8 * k + (j + 1))).map (Value.int .u8)) := by
            have e : byteAt ws (8 * k + j) = z % 256 := by
              unfold byteAt
              rw [show (8 * k + j) / 8 = k by omega, show (8 * k + j) % 8 = j by omega, ← HX.out, ← HZ.out]
            rw [bytesOf_length, ← Nat.add_assoc, bytesOf_succ, e, List.map_append]
            exact hown'
          have hl' : Below (w.heap.size + 1) (w.alloc (.cells (ws.map (Value.int .u64)).toArray 26)) w1 :=
            (hl.alloc (by omega) _).grown hgrow (by simp; omega) (fun g hg => (hown.lt g hg).1)
          clear hown' hgrow hown hl hbl
          go_wp2
          go_roundw
          case rel => exact ⟨j + 1, by omega, by go_num, by rw [HZ.out, down_step], ho, hl'⟩
          case measure => simp [intOf]; omega
        · obtain rfl : j = 8 := by omega
          go_wp2
          go_roundw
          case rel => exact ⟨k + 1, by omega, by go_num, by rw [Nat.mul_add]; exact hown, hl⟩
          case measure => simp [intOf]; omega
    · obtain rfl : k = 6 := by omega
      have hS := string_own (P := Try.prog) (src := 71) (dst := 9) Try.underlying71 Try.underlying5 Try.underlying9 hown (by intro h; have := bytesOf_length ws 48; rw [h] at this; simp at this)
      have hl' : Below w.heap.size w wr := ((Below.refl _ _).alloc (Nat.le_refl _) _).trans (hl.mono (by omega))
      have HW := Lib.hid hws
      clear hws hl hown
      go_wp2
      go_ret
      exact ⟨by rw [← HW.out]; rfl, hl'⟩


/-! ### FromBytes -/
theorem alloc_cell {w : World} {O : Obj} {b : Nat} (h : b < w.heap.size) (o : Nat) : (w.alloc O).cell? ⟨b, o, none⟩ = w.cell? ⟨b, o, none⟩ := World.cell?_alloc_lt w O ⟨b, o, none⟩ h
theorem frozen_row {w : World} {b : Nat} {cs : Array Value} {t : TypeId} (h : w.heap[b]? = some (.cells cs t (0, 0))) (o : Nat) : w.frozen? ⟨b, o, none⟩ = false := by simp [World.frozen?, h]
def byteOf (b : ByteArray) (k : Nat) : Int := if h : k < b.size then ((b[k]'h).toNat : Int) else 0
def val (x y : Int) (k : Nat) : Int := bits .or .u64 x (IntKind.u64.wrap (IntKind.u64.wrap y * 2 ^ (8 * (k % 8))))
def acc (b : ByteArray) : Nat → List Int
  | 0 => [0, 0, 0, 0, 0, 0]
  | k + 1 => (acc b k).set (k / 8) (val ((acc b k).getD (k / 8) 0) (byteOf b k) k)
theorem acc_length (b : ByteArray) : ∀ k, (acc b k).length = 6
  | 0 => rfl
  | k + 1 => by rw [acc, List.length_set, acc_length b k]
theorem acc_row (b : ByteArray) (k : Nat) (x V : Int) (hk : k < b.size) (hx : x = (acc b k).getD (k / 8) 0) (hV : V = val x ((b[k]'hk).toNat : Int) k) :
    (((acc b k).map (Value.int .u64)).toArray).setIfInBounds (k / 8) (.int .u64 V) = ((acc b (k + 1)).map (Value.int .u64)).toArray := by
  have e : byteOf b k = ((b[k]'hk).toNat : Int) := by unfold byteOf; rw [dif_pos hk]
  rw [acc, e, ← hx, ← hV, List.map_set]
  simp
def RelFrom (B : Nat) (T : TypeId) (w w0 : World) (b : ByteArray) (i : Value) (wr : World) : Prop :=
  ∃ k : Nat, k ≤ 48 ∧ i = .int .i64 k ∧ wr.heap[B]? = some (.cells ((acc b k).map (Value.int .u64)).toArray T (0, 0)) ∧ Below B w0 wr
set_option maxRecDepth 100000 in
theorem ownFrom (b : ByteArray) (hs : b.size = 48) (w : World) :
    Calls Try.prog 9 #[.string b] w fun e w' => ∃ a0 a1 a2 a3 a4 a5, acc b 48 = [a0, a1, a2, a3, a4, a5] ∧ e = .returned (.tuple #[.agg #[.int .u64 a0, .int .u64 a1, .int .u64 a2, .int .u64 a3, .int .u64 a4, .int .u64 a5], .int .i64 0]) ∧ Below w.heap.size w w' := by
  have hs1 : ((b.size : Int) == 48) = true := by rw [hs]; rfl
  have hs2 : ((b.size : Int) != 48) = false := by rw [hs]; rfl
  have HS := Lib.hid hs
  clear hs
  go_enter Try.func9, Try.ntmps9
  go_wp2
  go_loopw [10] (fun i wr => RelFrom (w.heap.size + 1) 26 w (w.alloc (.cells #[.int .u64 0, .int .u64 0, .int .u64 0, .int .u64 0, .int .u64 0, .int .u64 0] 26)) b i wr) (fun i _ => 48 - (intOf i).toNat)
  case atStart =>
    have h := heap_alloc_new (w.alloc (.cells #[.int .u64 0, .int .u64 0, .int .u64 0, .int .u64 0, .int .u64 0, .int .u64 0] 26)) (.cells #[.int .u64 0, .int .u64 0, .int .u64 0, .int .u64 0, .int .u64 0, .int .u64 0] 26)
    rw [World.size_alloc] at h
    exact ⟨0, Nat.zero_le _, rfl, h, (Below.refl _ _).alloc (by simp) _⟩
  case round =>
    obtain ⟨k, hk, rfl, hrow, hl⟩ := hrel
    rcases Nat.lt_or_ge k 48 with h48 | h48
    · have hx := K.row_cell hrow (k / 8)
      have hf := frozen_row hrow (k / 8)
      obtain ⟨x, hx'⟩ : ∃ x, x = (acc b k).getD (k / 8) 0 := ⟨_, rfl⟩
      rw [cell_get (by have := acc_length b k; omega), ← hx'] at hx
      have HX := Lib.hid hx'
      have HR := Lib.hid hrow
      have hkb : decide ((k : Int) < 48) = true := by simp; omega
      have hq1 : (0 : Int) ≤ (k : Int) / 8 := by omega
      have hq2 : (k : Int) / 8 < 6 := by omega
      have hq3 : k / 8 < 6 := by omega
      have hq4 : ((k : Int) / 8).toNat = k / 8 := by omega
      have hk1 : k < b.size := by have := HS.out; omega
      have hk2 : (k : Int) < (b.size : Int) := by omega
      clear hx' hrow
      go_wp2_with fail
      refine K.region_tail 14 (by kernel_rfl) (by kernel_rfl) ?_
      simp only [List.take_succ_cons, List.take_zero, List.drop_succ_cons, List.drop_zero]
      iterate 16 (first
        | (refine wpStill_step (fun KK hKK => ?_)
           first
             | (refine K.still_else ?_ (K.Puts.mk' _) ?_
                (first | rfl | (simp [Region.wanted, yielded]; done))
                refine hKK _ ?_)
             | (refine K.still_if ?_ ?_
                (first | rfl | (simp [Region.wanted, yielded]; done))
                apply K.still_val
                · go_simp; (try go_ints); exact K.Gives.mk' _ _
                · go_simp; exact K.Puts.mk' _
                refine hKK _ ?_)
           clear hKK KK)
        | skip)
      refine wpStill_nil ?_
      go_wp2
      go_roundw
      case rel =>
        refine ⟨k + 1, by omega, by go_num, ?_, (hl.setCell (by simp) _).drew⟩
        refine (heap_setCell_same wr (w.heap.size + 1) (k / 8) _ _ _ HR.out).trans ?_
        exact congrArg (fun c => some (Obj.cells c 26 (0, 0))) (acc_row b k x _ hk1 HX.out rfl)
      case measure => simp [intOf]; omega
    · obtain rfl : k = 48 := by omega
      obtain ⟨a0, a1, a2, a3, a4, a5, ha⟩ := K.len6 (acc_length b 48)
      rw [ha] at hrow
      have hx := fun o => K.row_cell hrow o
      have hr0 : wr.heap[w.heap.size]? = some (.cells #[.int .u64 0, .int .u64 0, .int .u64 0, .int .u64 0, .int .u64 0, .int .u64 0] 26 (0, 0)) := (hl.block w.heap.size (by omega)).trans (heap_alloc_new w _)
      have hy := fun o => K.row_cell hr0 o
      have hf := fun o => frozen_row hr0 o
      have hs0 : w.heap.size < wr.heap.size := by have := hl.size; simp at this; omega
      have hs1 : w.heap.size + 1 < wr.heap.size := by
        rcases Nat.lt_or_ge (w.heap.size + 1) wr.heap.size with h | h
        · exact h
        · rw [Array.getElem?_eq_none h] at hrow; cases hrow
      have HA := Lib.hid ha
      have hl' : Below w.heap.size w wr := ((Below.refl _ _).alloc (Nat.le_refl _) _).trans (hl.mono (by omega))
      have HR0 := Lib.hid hr0
      clear ha hrow hr0
      go_wp2
      obtain ⟨W6, h6⟩ : ∃ W6, W6 = ((((((wr.setCell ⟨w.heap.size, 0, none⟩ (.int .u64 a0)).setCell ⟨w.heap.size, 1, none⟩ (.int .u64 a1)).setCell ⟨w.heap.size, 2, none⟩ (.int .u64 a2)).setCell ⟨w.heap.size, 3, none⟩ (.int .u64 a3)).setCell ⟨w.heap.size, 4, none⟩ (.int .u64 a4)).setCell ⟨w.heap.size, 5, none⟩ (.int .u64 a5)) := ⟨_, rfl⟩
      rw [← h6]
      have r6 : W6.heap[w.heap.size]? = some (.cells #[.int .u64 a0, .int .u64 a1, .int .u64 a2, .int .u64 a3, .int .u64 a4, .int .u64 a5] 26 (0, 0)) := by
        rw [h6]
        exact heap_setCell_same _ _ 5 _ _ _ (heap_setCell_same _ _ 4 _ _ _ (heap_setCell_same _ _ 3 _ _ _ (heap_setCell_same _ _ 2 _ _ _ (heap_setCell_same _ _ 1 _ _ _ (heap_setCell_same _ _ 0 _ _ _ HR0.out)))))
      have x6 := fun o => K.row_cell r6 o
      have l6 : Below w.heap.size w W6 := by rw [h6]; exact (((((hl'.setCell (Nat.le_refl _) _).setCell (Nat.le_refl _) _).setCell (Nat.le_refl _) _).setCell (Nat.le_refl _) _).setCell (Nat.le_refl _) _).setCell (Nat.le_refl _) _
      have s6 : w.heap.size < W6.heap.size := by rw [h6]; simpa using hs0
      clear h6 r6
      refine bodyPost_ret (v := .tuple #[.agg #[.int .u64 a0, .int .u64 a1, .int .u64 a2, .int .u64 a3, .int .u64 a4, .int .u64 a5], .int .i64 0]) (by simp [results, Try.results9, go_sem, x6, s6]) rfl ⟨_, _, _, _, _, _, HA.out, rfl, l6⟩

set_option maxRecDepth 100000 in
theorem ownNone (b : ByteArray) (hs : b.size ≠ 48) (w : World) :
    Calls Try.prog 9 #[.string b] w fun e w' => e = .returned (.tuple #[.agg #[.int .u64 0, .int .u64 0, .int .u64 0, .int .u64 0, .int .u64 0, .int .u64 0], .int .i64 10]) ∧ Below w.heap.size w w' := by
  have hs1 : ((b.size : Int) == 48) = false := by simp; omega
  have hs2 : ((b.size : Int) != 48) = true := by simp; omega
  have HS := Lib.hid hs
  clear hs
  go_enter Try.func9, Try.ntmps9
  go_wp2
  refine bodyPost_ret (v := .tuple #[.agg #[.int .u64 0, .int .u64 0, .int .u64 0, .int .u64 0, .int .u64 0, .int .u64 0], .int .i64 10]) (by simp [results, Try.results9, go_sem]) rfl ⟨rfl, ?_⟩
  repeat (first | exact Below.refl _ _ | refine Below.drew ?_ | refine Below.setCell ?_ (by first | omega | (simp <;> omega)) _ | refine Below.alloc ?_ (by first | omega | (simp <;> omega)) _)

set_option maxRecDepth 100000 in
theorem refFrom (b : ByteArray) (hs : b.size = 48) (w : World) :
    Calls Try.prog 10 #[.string b] w fun e w' => ∃ a0 a1 a2 a3 a4 a5, acc b 48 = [a0, a1, a2, a3, a4, a5] ∧ e = .returned (.tuple #[.agg #[.int .u64 a0, .int .u64 a1, .int .u64 a2, .int .u64 a3, .int .u64 a4, .int .u64 a5], .int .i64 0]) ∧ Below w.heap.size w w' := by
  have hs1 : ((b.size : Int) == 48) = true := by rw [hs]; rfl
  have hs2 : ((b.size : Int) != 48) = false := by rw [hs]; rfl
  have HS := Lib.hid hs
  clear hs
  go_enter Try.func10, Try.ntmps10
  go_wp2
  go_loopw [5] (fun i wr => RelFrom (w.heap.size + 1) 30 w (w.alloc (.cells #[.int .u64 0, .int .u64 0, .int .u64 0, .int .u64 0, .int .u64 0, .int .u64 0] 30)) b i wr) (fun i _ => 48 - (intOf i).toNat)
  case atStart =>
    have h := heap_alloc_new (w.alloc (.cells #[.int .u64 0, .int .u64 0, .int .u64 0, .int .u64 0, .int .u64 0, .int .u64 0] 30)) (.cells #[.int .u64 0, .int .u64 0, .int .u64 0, .int .u64 0, .int .u64 0, .int .u64 0] 30)
    rw [World.size_alloc] at h
    exact ⟨0, Nat.zero_le _, rfl, h, (Below.refl _ _).alloc (by simp) _⟩
  case round =>
    obtain ⟨k, hk, rfl, hrow, hl⟩ := hrel
    rcases Nat.lt_or_ge k 48 with h48 | h48
    · have hx := K.row_cell hrow (k / 8)
      have hf := frozen_row hrow (k / 8)
      obtain ⟨x, hx'⟩ : ∃ x, x = (acc b k).getD (k / 8) 0 := ⟨_, rfl⟩
      rw [cell_get (by have := acc_length b k; omega), ← hx'] at hx
      have HX := Lib.hid hx'
      have HR := Lib.hid hrow
      have hkb : decide ((k : Int) < 48) = true := by simp; omega
      have hq1 : (0 : Int) ≤ (k : Int) / 8 := by omega
      have hq2 : (k : Int) / 8 < 6 := by omega
      have hq3 : k / 8 < 6 := by omega
      have hq4 : ((k : Int) / 8).toNat = k / 8 := by omega
      have hk1 : k < b.size := by have := HS.out; omega
      have hk2 : (k : Int) < (b.size : Int) := by omega
      clear hx' hrow
      go_wp2_with fail
      refine K.region_tail 17 (by kernel_rfl) (by kernel_rfl) ?_
      simp only [List.take_succ_cons, List.take_zero, List.drop_succ_cons, List.drop_zero]
      iterate 19 (first
        | (refine wpStill_step (fun KK hKK => ?_)
           first
             | (refine K.still_else ?_ (K.Puts.mk' _) ?_
                (first | rfl | (simp [Region.wanted, yielded]; done))
                refine hKK _ ?_)
             | (refine K.still_if ?_ ?_
                (first | rfl | (simp [Region.wanted, yielded]; done))
                apply K.still_val
                · go_simp; (try go_ints); exact K.Gives.mk' _ _
                · go_simp; exact K.Puts.mk' _
                refine hKK _ ?_)
           clear hKK KK)
        | skip)
      refine wpStill_nil ?_
      go_wp2
      go_roundw
      case rel =>
        refine ⟨k + 1, by omega, by go_num, ?_, (hl.setCell (by simp) _).drew⟩
        refine (heap_setCell_same wr (w.heap.size + 1) (k / 8) _ _ _ HR.out).trans ?_
        exact congrArg (fun c => some (Obj.cells c 30 (0, 0))) (acc_row b k x _ hk1 HX.out rfl)
      case measure => simp [intOf]; omega
    · obtain rfl : k = 48 := by omega
      obtain ⟨a0, a1, a2, a3, a4, a5, ha⟩ := K.len6 (acc_length b 48)
      rw [ha] at hrow
      have hx := fun o => K.row_cell hrow o
      have hr0 : wr.heap[w.heap.size]? = some (.cells #[.int .u64 0, .int .u64 0, .int .u64 0, .int .u64 0, .int .u64 0, .int .u64 0] 30 (0, 0)) := (hl.block w.heap.size (by omega)).trans (heap_alloc_new w _)
      have hy := fun o => K.row_cell hr0 o
      have hf := fun o => frozen_row hr0 o
      have hs0 : w.heap.size < wr.heap.size := by have := hl.size; simp at this; omega
      have hs1 : w.heap.size + 1 < wr.heap.size := by
        rcases Nat.lt_or_ge (w.heap.size + 1) wr.heap.size with h | h
        · exact h
        · rw [Array.getElem?_eq_none h] at hrow; cases hrow
      have HA := Lib.hid ha
      have hl' : Below w.heap.size w wr := ((Below.refl _ _).alloc (Nat.le_refl _) _).trans (hl.mono (by omega))
      have HR0 := Lib.hid hr0
      clear ha hrow hr0
      go_wp2
      obtain ⟨W6, h6⟩ : ∃ W6, W6 = ((((((wr.setCell ⟨w.heap.size, 0, none⟩ (.int .u64 a0)).setCell ⟨w.heap.size, 1, none⟩ (.int .u64 a1)).setCell ⟨w.heap.size, 2, none⟩ (.int .u64 a2)).setCell ⟨w.heap.size, 3, none⟩ (.int .u64 a3)).setCell ⟨w.heap.size, 4, none⟩ (.int .u64 a4)).setCell ⟨w.heap.size, 5, none⟩ (.int .u64 a5)) := ⟨_, rfl⟩
      rw [← h6]
      have r6 : W6.heap[w.heap.size]? = some (.cells #[.int .u64 a0, .int .u64 a1, .int .u64 a2, .int .u64 a3, .int .u64 a4, .int .u64 a5] 30 (0, 0)) := by
        rw [h6]
        exact heap_setCell_same _ _ 5 _ _ _ (heap_setCell_same _ _ 4 _ _ _ (heap_setCell_same _ _ 3 _ _ _ (heap_setCell_same _ _ 2 _ _ _ (heap_setCell_same _ _ 1 _ _ _ (heap_setCell_same _ _ 0 _ _ _ HR0.out)))))
      have x6 := fun o => K.row_cell r6 o
      have l6 : Below w.heap.size w W6 := by rw [h6]; exact (((((hl'.setCell (Nat.le_refl _) _).setCell (Nat.le_refl _) _).setCell (Nat.le_refl _) _).setCell (Nat.le_refl _) _).setCell (Nat.le_refl _) _).setCell (Nat.le_refl _) _
      have s6 : w.heap.size < W6.heap.size := by rw [h6]; simpa using hs0
      clear h6 r6
      refine bodyPost_ret (v := .tuple #[.agg #[.int .u64 a0, .int .u64 a1, .int .u64 a2, .int .u64 a3, .int .u64 a4, .int .u64 a5], .int .i64 0]) (by simp [results, Try.results10, go_sem, x6, s6]) rfl ⟨_, _, _, _, _, _, HA.out, rfl, l6⟩

set_option maxRecDepth 100000 in
theorem refNone (b : ByteArray) (hs : b.size ≠ 48) (w : World) :
    Calls Try.prog 10 #[.string b] w fun e w' => e = .returned (.tuple #[.agg #[.int .u64 0, .int .u64 0, .int .u64 0, .int .u64 0, .int .u64 0, .int .u64 0], .int .i64 10]) ∧ Below w.heap.size w w' := by
  have hs1 : ((b.size : Int) == 48) = false := by simp; omega
  have hs2 : ((b.size : Int) != 48) = true := by simp; omega
  have HS := Lib.hid hs
  clear hs
  go_enter Try.func10, Try.ntmps10
  go_wp2
  refine bodyPost_ret (v := .tuple #[.agg #[.int .u64 0, .int .u64 0, .int .u64 0, .int .u64 0, .int .u64 0, .int .u64 0], .int .i64 10]) (by simp [results, Try.results10, go_sem]) rfl ⟨rfl, ?_⟩
  repeat (first | exact Below.refl _ _ | refine Below.drew ?_ | refine Below.setCell ?_ (by first | omega | (simp <;> omega)) _ | refine Below.alloc ?_ (by first | omega | (simp <;> omega)) _)


theorem num (x : Int) (w : World) : Calls Try.prog 13 #[.int .i64 x] w fun e w' => e = .returned (.int .i64 x) ∧ Below w.heap.size w w' := by
  go_enter Try.func13, Try.ntmps13
  go_wp2
  go_ret
  exact ⟨rfl, Below.refl _ _⟩
/-- What both FromBytes tell. -/
theorem froms (b : ByteArray) : ∃ c0 c1 c2 c3 c4 c5 x,
    (∀ w, Calls Try.prog 9 #[.string b] w fun e w' => e = .returned (.tuple #[.agg #[.int .u64 c0, .int .u64 c1, .int .u64 c2, .int .u64 c3, .int .u64 c4, .int .u64 c5], .int .i64 x]) ∧ Below w.heap.size w w') ∧
    (∀ w, Calls Try.prog 10 #[.string b] w fun e w' => e = .returned (.tuple #[.agg #[.int .u64 c0, .int .u64 c1, .int .u64 c2, .int .u64 c3, .int .u64 c4, .int .u64 c5], .int .i64 x]) ∧ Below w.heap.size w w') := by
  by_cases h : b.size = 48
  · obtain ⟨c0, c1, c2, c3, c4, c5, hc⟩ := K.len6 (acc_length b 48)
    refine ⟨c0, c1, c2, c3, c4, c5, 0, fun w => (ownFrom b h w).mono ?_, fun w => (refFrom b h w).mono ?_⟩
    all_goals
      rintro e w' ⟨a0, a1, a2, a3, a4, a5, ha, he, hb⟩
      rw [hc] at ha
      injection ha with e0 ha
      injection ha with e1 ha
      injection ha with e2 ha
      injection ha with e3 ha
      injection ha with e4 ha
      injection ha with e5 ha
      subst e0 e1 e2 e3 e4 e5
      exact ⟨he, hb⟩
  · exact ⟨0, 0, 0, 0, 0, 0, 10, ownNone b h, refNone b h⟩

set_option maxRecDepth 100000 in
set_option maxHeartbeats 4000000 in
theorem walk (a0 a1 a2 a3 a4 a5 : Int) (hb : ∀ z ∈ [a0, a1, a2, a3, a4, a5], 0 ≤ z ∧ z ≤ 18446744073709551615) (b : ByteArray) (w : World) :
    Calls Try.prog 4 #[.agg #[.int .u64 a0, .int .u64 a1, .int .u64 a2, .int .u64 a3, .int .u64 a4, .int .u64 a5], .string b] w fun e w' => e = .returned (.bool true) ∧ Below w.heap.size w w' := by
  obtain ⟨c0, c1, c2, c3, c4, c5, x, s1, s2⟩ := froms b
  have hO := fun w => ownBytes a0 a1 a2 a3 a4 a5 hb w
  have hR := fun w => refBytes a0 a1 a2 a3 a4 a5 hb w
  obtain ⟨S, hS⟩ : ∃ S, S = str (bytesOf [a0, a1, a2, a3, a4, a5] 48) := ⟨_, rfl⟩
  rw [← hS] at hO hR
  clear hS hb
  go_enter Try.func4, Try.ntmps4
  go_wp2_with fail
  refine (s1 _).mono ?_
  rintro e w1 ⟨rfl, hw1⟩
  go_wp2_with fail
  refine (s2 _).mono ?_
  rintro e w2 ⟨rfl, hw2⟩
  have hz1 := hw1.size
  have hz2 := hw2.size
  simp at hz1 hz2
  obtain ⟨W2, hW2⟩ : ∃ W2, W2 = w2.alloc (Obj.cells #[Value.int IntKind.u64 c0, Value.int IntKind.u64 c1, Value.int IntKind.u64 c2, Value.int IntKind.u64 c3, Value.int IntKind.u64 c4, Value.int IntKind.u64 c5] 30) := ⟨_, rfl⟩
  have hl2 : Below w.heap.size w W2 := hW2 ▸ ((((((Below.refl _ _).alloc (Nat.le_refl _) _).trans (hw1.mono (by simp))).alloc (by omega) _).trans (hw2.mono (by simp; omega))).alloc (by omega) _)
  have hsz : W2.heap.size = w2.heap.size + 1 := by rw [hW2]; simp
  have H0 : ∀ o, W2.cell? ⟨w.heap.size, o, none⟩ = (#[Value.int .u64 a0, Value.int .u64 a1, Value.int .u64 a2, Value.int .u64 a3, Value.int .u64 a4, Value.int .u64 a5] : Array Value)[o]? := fun o => by
    rw [hW2]; exact (alloc_cell (by omega) o).trans ((K.below_cell hw2 (by simp; omega) o).trans ((alloc_cell (by omega) o).trans ((K.below_cell hw1 (by simp) o).trans (K.row_cell (heap_alloc_new w _) o))))
  have H1 : ∀ o, W2.cell? ⟨w1.heap.size, o, none⟩ = (#[Value.int .u64 c0, Value.int .u64 c1, Value.int .u64 c2, Value.int .u64 c3, Value.int .u64 c4, Value.int .u64 c5] : Array Value)[o]? := fun o => by
    rw [hW2]; exact (alloc_cell (by omega) o).trans ((K.below_cell hw2 (by simp) o).trans (K.row_cell (heap_alloc_new w1 _) o))
  have H2 : ∀ o, W2.cell? ⟨w2.heap.size, o, none⟩ = (#[Value.int .u64 c0, Value.int .u64 c1, Value.int .u64 c2, Value.int .u64 c3, Value.int .u64 c4, Value.int .u64 c5] : Array Value)[o]? := fun o => by
    rw [hW2]; exact K.row_cell (heap_alloc_new w2 _) o
  have HA : Hid (∀ w', Below W2.heap.size W2 w' → ∀ o, w'.cell? ⟨w.heap.size, o, none⟩ = (#[Value.int .u64 a0, Value.int .u64 a1, Value.int .u64 a2, Value.int .u64 a3, Value.int .u64 a4, Value.int .u64 a5] : Array Value)[o]?) := fun w' h o => (K.below_cell h (by omega) o).trans (H0 o)
  have HB : Hid (∀ w', Below W2.heap.size W2 w' → ∀ o, w'.cell? ⟨w1.heap.size, o, none⟩ = (#[Value.int .u64 c0, Value.int .u64 c1, Value.int .u64 c2, Value.int .u64 c3, Value.int .u64 c4, Value.int .u64 c5] : Array Value)[o]?) := fun w' h o => (K.below_cell h (by omega) o).trans (H1 o)
  have HC : Hid (∀ w', Below W2.heap.size W2 w' → ∀ o, w'.cell? ⟨w2.heap.size, o, none⟩ = (#[Value.int .u64 c0, Value.int .u64 c1, Value.int .u64 c2, Value.int .u64 c3, Value.int .u64 c4, Value.int .u64 c5] : Array Value)[o]?) := fun w' h o => (K.below_cell h (by omega) o).trans (H2 o)
  have hX : w.heap.size < W2.heap.size := by omega
  have hY : w1.heap.size < W2.heap.size := by omega
  have hZ : w2.heap.size < W2.heap.size := by omega
  have hg : Try.prog.eqGuardType Try.prog.depth 24 = false := by kernel_rfl
  have hq : ∀ w, (binOp .eql 24 (.agg #[.int .u64 c0, .int .u64 c1, .int .u64 c2, .int .u64 c3, .int .u64 c4, .int .u64 c5]) (.agg #[.int .u64 c0, .int .u64 c1, .int .u64 c2, .int .u64 c3, .int .u64 c4, .int .u64 c5])).run Try.prog w = .ok (.bool true) w := fun w => by
    have h := K.eql_ints (P := Try.prog) w (t := 24) (e := 23) (n := 6) (k := .u64) (by kernel_rfl) (by kernel_rfl) (by kernel_rfl) [c0, c1, c2, c3, c4, c5] [c0, c1, c2, c3, c4, c5] rfl rfl
    rw [beq_self_eq_true] at h
    exact h
  clear H0 H1 H2 hw1 hw2 s1 s2 hz1 hz2 hsz
  go_wp2_with fail
  rw [← hW2]
  clear hW2
  refine K.region_quiet (C := fun w' => Below W2.heap.size W2 w') (by kernel_rfl) (by kernel_rfl) (K.below_draw W2) ?_
  iterate 17 (first
    | (refine wpQuiet_step (fun KK hKK => ?_)
       first
         | (refine K.quiet_else ?_ (K.Puts.mk' _) ?_
            (first | rfl | (simp [Region.wanted, yielded]; done))
            refine hKK _ ?_)
         | (refine K.quiet_if ?_ ?_
            (first | rfl | (simp [Region.wanted, yielded]; done))
            first
              | (apply K.quiet_val
                 · intro w' hw'; have hx := HA.out w' hw'; have hy := HB.out w' hw'; have hz := HC.out w' hw'; have hxs := Nat.lt_of_lt_of_le hX hw'.size; have hys := Nat.lt_of_lt_of_le hY hw'.size; have hzs := Nat.lt_of_lt_of_le hZ hw'.size; go_simp; (try go_ints); exact K.Gives.mk' _ _
                 · go_simp; exact K.Puts.mk' _)
              | (apply K.quiet_call
                 · intro w' hw'; have hx := HA.out w' hw'; have hy := HB.out w' hw'; have hz := HC.out w' hw'; have hxs := Nat.lt_of_lt_of_le hX hw'.size; have hys := Nat.lt_of_lt_of_le hY hw'.size; have hzs := Nat.lt_of_lt_of_le hZ hw'.size; go_simp; (try go_ints); exact K.Enters.mk' _ _ _
                 · intro w' hw'; have hx := HA.out w' hw'; have hy := HB.out w' hw'; have hz := HC.out w' hw'; have hxs := Nat.lt_of_lt_of_le hX hw'.size; have hys := Nat.lt_of_lt_of_le hY hw'.size; have hzs := Nat.lt_of_lt_of_le hZ hw'.size; first
                   | exact K.calls_below hw' hw'.size (num _ _)
                   | exact K.calls_below hw' hw'.size (hO _)
                   | exact K.calls_below hw' hw'.size (hR _)
                 · go_simp; exact K.Puts.mk' _)
            refine hKK _ ?_)
       clear hKK KK)
    | skip)
  refine wpQuiet_nil ?_
  intro w3 hb3
  go_wp2
  go_ret
  exact ⟨rfl, hl2.trans (hb3.mono hl2.size)⟩

theorem own : ownKnob Try.prog.godebug = none := by kernel_rfl
set_option maxRecDepth 100000 in
theorem lifted (os : Os) (started : os.Started) (H : Type) (enc : TypeId × Value → H) :
    ReturnsInHanded {} Try.checked os 4 .any (Rows.tallyBytesSpec.pre6 enc Try.prog Try.f4 Rows.tallyBytesRow.domain false) (Rows.tallyBytesSpec.post enc Try.prog Try.f4 false true false false) := by
  refine returnsInHanded_of_change_sized (C := Try.checked) own started (by kernel_rfl) Try.func4
    (ChangeSpec.witness6 (enc := enc) (C := Try.checked) false ⟨#[], #[.agg #[.int .u64 0, .int .u64 0, .int .u64 0, .int .u64 0, .int .u64 0, .int .u64 0], .string ⟨#[]⟩], []⟩ 8 (by kernel_rfl) (by kernel_rfl) (by kernel_rfl) (by kernel_rfl)) ?_
  intro W base args ds gs before hval0 hW hcnd hsz0 _
  have hsz : (DataW.weightsEach Try.prog (Try.f4.params.toList ++ Rows.tallyBytesSpec.plain.varTypes Try.prog) (ds ++ gs)).all (· ≤ reachBytes) = true := hsz0
  have hval : ∀ (j : Nat) t v, Try.f4.params[j]? = some t → args[j]? = some v → Value.okWide Try.prog W .any base t v := hval0
  have hW' := hW
  obtain ⟨p, q, hA0, hV, rfl, hfz, hnd⟩ := hW
  have hA : DataW.TrodAll enc Try.prog W 0 (fun _ => true) true Try.f4.params.toList args.toList ds p := hA0
  rw [Try.params4] at hA hval hsz
  obtain ⟨v0, vs0, d0, ds0, p0, q0, hargs, rfl, rfl, h0, r0⟩ := trodAll_cons hA
  obtain ⟨v1, vs1, d1, ds1, p1, q1, rfl, rfl, rfl, h1, r1⟩ := trodAll_cons r0
  obtain ⟨rfl, rfl, rfl⟩ := trodAll_nil r1
  obtain rfl : args = #[v0, v1] := by cases args; simp_all
  obtain ⟨rfl, rfl⟩ := trodVars_none hV
  have k0 := h0
  obtain ⟨z0, l0, rfl, w0, rfl⟩ := K.open_array Try.underlying25 Try.underlying23 (by kernel_rfl) (by kernel_rfl) (hval 0 25 v0 rfl rfl) h0
  obtain ⟨a1, rfl, rfl, rfl, w1⟩ := open_string Try.underlying9 (hval 1 9 v1 rfl rfl) h1
  obtain ⟨a, b', c, d, e', f, rfl⟩ := K.len6 l0
  refine (walk _ _ _ _ _ _ (fun z hz => bounds_u64 (w0 z hz)) _ W).mono fun e W' ⟨he, bel⟩ => ?_
  subst he
  exact ⟨_, rfl, _, _, _, [], _, [], hW', trodAll_mk1 (shut_bool Try.underlying4 _), (trodAll_cons_mk (Below.trod (by kernel_rfl) (by kernel_rfl) (of_decide_eq_true (by kernel_rfl)) k0 bel (fun x hx => by cases hx)) (trodAll_cons_mk (shut_string Try.underlying9 w1) trodAll_mk0)), rfl, bel.frame _, fun h => by cases h⟩
theorem over : Rows.tallyBytesRow.holds Try.pinned (OpenSpec.ofChange Rows.tallyBytesSpec) :=
  OpenClaim.holds_of_wide 4 Try.f4 rfl rfl rfl rfl rfl rfl rfl ⟨rfl, rfl, rfl, rfl, rfl⟩ rfl rfl rfl rfl rfl (by kernel_rfl) Try.func4 (by kernel_rfl)
    (of_decide_eq_true (by kernel_rfl)) (by unfold Func.isWrapper; first | (rw [if_pos (by decide +kernel)]; kernel_rfl) | (rw [if_neg (by decide +kernel)]; exact ⟨rfl, rfl⟩))
    (fun os started H enc _ => lifted os started H enc)
theorem proved : Rows.TallyBytesSaid := over
#print axioms proved
end Go.Proofs.Ytbbldcbilnkkdaa.tallyBytes
