/-
  TallyMons: every monoid, at every place, one behind the other: the program's state is the document's. No condition.
-/
import Derived.Test.YtbbldcbilnkkdaaRows
import Derived.Test.YtbbldcbilnkkdaaMons5
import Derived.ChangeOld
import Derived.SizedLaws
set_option linter.unusedVariables false
set_option linter.unusedSimpArgs false
namespace Go.Proofs.Ytbbldcbilnkkdaa.tallyMons
open Go.ChangeShapes Go.WideShapes Go.ChangeAt Go.RowKit
open Num Tly Ref K Mons

theorem or_bound (x y : Int) (hx : 0 ≤ x ∧ x < 18446744073709551616) (hy : 0 ≤ y ∧ y < 18446744073709551616) : 0 ≤ bits .or .u64 x y ∧ bits .or .u64 x y < 18446744073709551616 := by
  rw [u64_or x y hx.1 hx.2 hy.1 hy.2]
  have := Nat.or_lt_two_pow (n := 64) (x := x.toNat) (y := y.toNat) (by omega) (by omega)
  omega
theorem and_bound (x y : Int) (hx : 0 ≤ x ∧ x < 18446744073709551616) (hy : 0 ≤ y ∧ y < 18446744073709551616) : 0 ≤ bits .and .u64 x y ∧ bits .and .u64 x y < 18446744073709551616 := by
  rw [u64_and x y hx.1 hx.2 hy.1 hy.2]
  have := Nat.and_lt_two_pow (n := 64) x.toNat (y := y.toNat) (by omega)
  omega
theorem nibs_bound (x y : Int) : ∀ k, k ≤ 16 → 0 ≤ nibs x y k ∧ nibs x y k < 18446744073709551616
  | 0, _ => by show (0 : Int) ≤ 0 ∧ (0 : Int) < 18446744073709551616; omega
  | k + 1, h => by
    have h1 := nibs_bound x y k (by omega)
    have h2 := nib_bound x k (by omega)
    have h3 := nib_bound y k (by omega)
    exact or_bound _ _ h1 (by omega)
theorem gat_bound (m x y : Int) (hx : 0 ≤ x ∧ x < 18446744073709551616) (hy : 0 ≤ y ∧ y < 18446744073709551616) : 0 ≤ gat m x y ∧ gat m x y < 18446744073709551616 := by
  have hw : ∀ z, 0 ≤ IntKind.u64.wrap z ∧ IntKind.u64.wrap z < 18446744073709551616 := fun z => by rw [IntKind.wrap_u64]; omega
  have h8 := nibs_bound x y 16 (Nat.le_refl _)
  have h6 := and_bound x y hx hy
  have h7 := or_bound x y hx hy
  unfold gat
  by_cases c1 : m = 1
  · rw [if_pos c1]; omega
  rw [if_neg c1]
  by_cases c2 : m = 2
  · rw [if_pos c2]; omega
  rw [if_neg c2]
  by_cases c3 : m = 3
  · rw [if_pos c3]; exact hw _
  rw [if_neg c3]
  by_cases c4 : m = 4
  · rw [if_pos c4]; exact hw _
  rw [if_neg c4]
  by_cases c5 : m = 5
  · rw [if_pos c5]; exact hw _
  rw [if_neg c5]
  by_cases c6 : m = 6
  · rw [if_pos c6]; exact h6
  rw [if_neg c6]
  by_cases c7 : m = 7
  · rw [if_pos c7]; exact h7
  rw [if_neg c7]
  by_cases c8 : m = 8
  · rw [if_pos c8]; exact h8
  rw [if_neg c8]; exact hx
/-- A state of eight words. -/
def Is8 (S : List Int) : Prop := S.length = 8 ∧ ∀ x ∈ S, 0 ≤ x ∧ x < 18446744073709551616
def monT (k : Nat) (y : Int) (S : List Int) : List Int := S.take k ++ digs 18446744073709551616 (putv (val 18446744073709551616 ((S.drop k).take 6)) (y % 4294967296)) 6 ++ S.drop (k + 6)
def monA (m at' y : Int) (S : List Int) : List Int := if m = 9 ∧ 0 ≤ at' ∧ at' ≤ 2 then monT at'.toNat y S else monv m at' y S
theorem six_at {S : List Int} (h : Is8 S) {k : Nat} (hk : k ≤ 2) : wv (val 18446744073709551616 ((S.drop k).take 6)) = cv ((S.drop k).take 6) := by
  have hl : ((S.drop k).take 6).length = 6 := by simp [h.1]; omega
  have := digs_val (q := 18446744073709551616) (by decide) ((S.drop k).take 6) (fun x hx => h.2 x (List.mem_of_mem_drop (List.mem_of_mem_take hx)))
  rw [hl] at this
  unfold wv
  rw [this]
theorem monA_is8 {S : List Int} (h : Is8 S) (m at' y : Int) (hy : 0 ≤ y ∧ y < 18446744073709551616) : Is8 (monA m at' y S) := by
  unfold monA
  split
  · rename_i hc
    obtain ⟨k, rfl⟩ := Int.eq_ofNat_of_zero_le hc.2.1
    have hk : k ≤ 2 := by have := hc.2.2; omega
    show Is8 (monT k y S)
    unfold monT
    refine ⟨by simp [digs_length, h.1]; omega, fun x hx => ?_⟩
    rcases List.mem_append.1 hx with hx | hx
    · rcases List.mem_append.1 hx with hx | hx
      · exact h.2 x (List.mem_of_mem_take hx)
      · obtain ⟨i, -, rfl⟩ := List.mem_map.1 hx
        exact ⟨dig_nonneg q_pos _ _, dig_lt q_pos _ _⟩
    · exact h.2 x (List.mem_of_mem_drop hx)
  · unfold monv
    split
    · rename_i hc
      refine ⟨by rw [List.length_set]; exact h.1, fun x hx => ?_⟩
      rcases List.mem_or_eq_of_mem_set hx with hx | rfl
      · exact h.2 x hx
      · refine gat_bound _ _ _ ?_ hy
        have hl : at'.toNat < S.length := by rw [h.1]; omega
        rw [List.getD_eq_getElem?_getD, List.getElem?_eq_getElem hl]
        exact h.2 _ (List.getElem_mem hl)
    · exact h
theorem mon_any (m at' y : Int) (S : List Int) (h : Is8 S) (hy : 0 ≤ y ∧ y < 18446744073709551616) (w : World) :
    Calls Try.prog 22 #[.int .i64 m, .agg (cv S), .int .i64 at', .int .u64 y] w fun e w' => e = .returned (.agg (cv (monA m at' y S))) ∧ Below w.heap.size w w' := by
  by_cases hc : m = 9 ∧ 0 ≤ at' ∧ at' ≤ 2
  · have e : monA m at' y S = monT at'.toNat y S := if_pos hc
    rw [e]
    obtain ⟨rfl, h0, h2⟩ := hc
    have h8 := h.1
    match S, h8 with
    | [s0, s1, s2, s3, s4, s5, s6, s7], _ =>
      have hk : at' = 0 ∨ at' = 1 ∨ at' = 2 := by omega
      rcases hk with rfl | rfl | rfl
      · exact mon0 s0 s1 s2 s3 s4 s5 s6 s7 y _ (six_at h (k := 0) (by omega)) hy w
      · exact mon1 s0 s1 s2 s3 s4 s5 s6 s7 y _ (six_at h (k := 1) (by omega)) hy w
      · exact mon2 s0 s1 s2 s3 s4 s5 s6 s7 y _ (six_at h (k := 2) (by omega)) hy w
  · have e : monA m at' y S = monv m at' y S := if_neg hc
    rw [e]
    exact mon_plain m at' y S h.1 h.2 hy (by omega) w
theorem Mon_any (m at' y : Int) (S : List Int) (h : Is8 S) (hy : 0 ≤ y ∧ y < 18446744073709551616) (w : World) :
    Calls Try.prog 23 #[.int .i64 m, .agg (cv S), .int .i64 at', .int .u64 y] w fun e w' => e = .returned (.agg (cv (monA m at' y S))) ∧ Below w.heap.size w w' := by
  by_cases hc : m = 9 ∧ 0 ≤ at' ∧ at' ≤ 2
  · have e : monA m at' y S = monT at'.toNat y S := if_pos hc
    rw [e]
    obtain ⟨rfl, h0, h2⟩ := hc
    obtain ⟨k, rfl⟩ := Int.eq_ofNat_of_zero_le h0
    exact Mon_tally k (by omega) S h.1 y _ (six_at h (by omega)) hy w
  · have e : monA m at' y S = monv m at' y S := if_neg hc
    rw [e]
    exact Mon_plain m at' y S h.1 h.2 hy (by omega) w
theorem add_two (a : Addr) (i j : Nat) (hj : j ≠ 0) : (⟨(a.add i).block, (a.add i).off + j, none⟩ : Addr) = a.add (i + j) := by
  unfold Addr.add
  by_cases h : i = 0
  · subst h; simp [hj]
  · rw [if_neg h, if_neg (by omega)]; simp [Nat.add_assoc]
def LiesM (w : World) (B : Nat) (A : Option Addr) (n : Nat) (ms : Nat → Int × Int × Int) : Prop :=
  0 < n → ∃ ad, A = some ad ∧ ad.block < B ∧ ∀ i, i < n → w.cell? (ad.add (i * 3)) = some (.int .i64 (ms i).1) ∧ w.cell? (ad.add (i * 3 + 1)) = some (.int .i64 (ms i).2.1) ∧ w.cell? (ad.add (i * 3 + 2)) = some (.int .u64 (ms i).2.2)
def RelMons (B : Nat) (w : World) (n : Nat) (i : Value) (wr : World) : Prop :=
  ∃ k : Nat, k ≤ n ∧ i = .int .i64 k ∧ ∃ S : List Int, Is8 S ∧ Row wr B 50 (cv S) ∧ Row wr (B + 1) 50 (cv S) ∧ Below B w wr
set_option maxRecDepth 100000 in
set_option maxHeartbeats 2000000 in
theorem walk (S : List Int) (hS : Is8 S) (A : Option Addr) (n cap : Nat) (ms : Nat → Int × Int × Int) (hn : n ≤ 9223372036854775807) (hy : ∀ i, i < n → 0 ≤ (ms i).2.2 ∧ (ms i).2.2 < 18446744073709551616) (w : World) (hA : LiesM w w.heap.size A n ms) :
    Calls Try.prog 7 #[.agg (cv S), .slice A n cap] w fun e w' => e = .returned (.bool true) ∧ Below w.heap.size w w' := by
  have H8 := Lib.hid hS.1
  have H0 := Lib.hid (Row.new w 50 (cv S))
  have H1 := Lib.hid (Row.at (Row.new (w.alloc (.cells (cv S) 50)) 50 (cv [0, 0, 0, 0, 0, 0, 0, 0])) (b' := w.heap.size + 1) (by simp))
  have HB := Lib.hid (((Below.refl w.heap.size w).alloc (Nat.le_refl _) (.cells (cv S) 50)).alloc (by simp) (.cells (cv [0, 0, 0, 0, 0, 0, 0, 0]) 50))
  have HL := Lib.hid hA
  have HS := Lib.hid hS
  clear hA hS
  go_enter Try.func7, Try.ntmps7
  go_wp2_with (first | (refine wpList_load_row rfl 50 _ rfl (w.heap.size) rfl 50 _ (0, 0) _ H0.out Try.underlying50 rfl ?_ ?_; exact info8s _ H8.out) | (refine wpList_store_row rfl 50 _ _ rfl (w.heap.size + 1) _ rfl rfl 50 _ H1.out ?_ ?_ ?_ ?_; exact info8s _ H8.out; exact (cv_eight rfl).trans (cv_eight H8.out).symm; exact cv_one _))
  have HR := Lib.hid (show RelMons w.heap.size w n (.int .i64 0) _ from ⟨0, Nat.zero_le _, rfl, S, HS.out, (H0.out.alloc (.cells (cv [0, 0, 0, 0, 0, 0, 0, 0]) 50)).put_other (b' := w.heap.size + 1) (by omega) (cv S), H1.out.put (cv S), Row.put_below HB.out H1.out (by omega) (cv S)⟩)
  clear H0 H1 HB H8 HS
  go_loopw [6] (fun i wr => RelMons w.heap.size w n i wr) (fun i _ => n - (intOf i).toNat)
  case atStart => exact HR.out
  case round =>
    clear HR
    obtain ⟨k, hk, rfl, S, hS, ha, hb, hl⟩ := hrel
    rcases Nat.lt_or_ge k n with h6 | h6
    · obtain ⟨ad, rfl, hBB, hcell⟩ := HL.out (by omega)
      obtain ⟨c0, c1, c2⟩ := hcell k h6
      have hyb := hy k h6
      generalize (ms k).1 = m at *
      generalize (ms k).2.1 = p at *
      generalize (ms k).2.2 = y at *
      have x0 : wr.cell? (ad.add (k * 3)) = some (.int .i64 m) := (hl.cell (by rw [K.block_add]; exact hBB)).trans c0
      have x1 : wr.cell? ⟨(ad.add (k * 3)).block, (ad.add (k * 3)).off + 1, none⟩ = some (.int .i64 p) := by
        rw [show (⟨(ad.add (k * 3)).block, (ad.add (k * 3)).off + 1, none⟩ : Addr) = ad.add (k * 3 + 1) from add_two ad (k * 3) 1 (by decide)]
        exact (hl.cell (by rw [K.block_add]; exact hBB)).trans c1
      have x2 : wr.cell? ⟨(ad.add (k * 3)).block, (ad.add (k * 3)).off + 2, none⟩ = some (.int .u64 y) := by
        rw [show (⟨(ad.add (k * 3)).block, (ad.add (k * 3)).off + 2, none⟩ : Addr) = ad.add (k * 3 + 2) from add_two ad (k * 3) 2 (by decide)]
        exact (hl.cell (by rw [K.block_add]; exact hBB)).trans c2
      have hkb : decide ((k : Int) < (n : Int)) = true := by simp; omega
      have f0 : (0 : Int) ≤ (k : Int) := by omega
      have f1 : (k : Int) < (n : Int) := by omega
      have hlt := ha.lt
      have hlt1 := hb.lt
      have HA := Lib.hid ha
      have HB := Lib.hid hb
      have HS := Lib.hid hS
      clear ha hb hS hcell c0 c1 c2
      go_wp2_with fail
      refine K.region_tail 16 (by kernel_rfl) (by kernel_rfl) ?_
      simp only [List.take_succ_cons, List.take_zero, List.drop_succ_cons, List.drop_zero]
      iterate 17 (first
        | (refine wpStill_step (fun KK hKK => ?_)
           first
             | (refine K.still_else ?_ (K.Puts.mk' _) ?_
                (first | rfl | (simp [Region.wanted, yielded]; done))
                refine hKK _ ?_)
             | (refine K.still_if ?_ ?_
                (first | rfl | (simp [Region.wanted, yielded]; done))
                apply K.still_row 50 _ rfl (w.heap.size) rfl 50 _ (0, 0) _ HA.out.drew Try.underlying50 rfl (info8s _ HS.out.1)
                · go_simp; exact K.Puts.mk' _
                refine hKK _ ?_)
             | (refine K.still_if ?_ ?_
                (first | rfl | (simp [Region.wanted, yielded]; done))
                apply K.still_val
                · go_simp; (try go_ints); exact K.Gives.mk' _ _
                · go_simp; exact K.Puts.mk' _
                refine hKK _ ?_)
           clear hKK KK)
        | skip)
      refine wpStill_nil ?_
      go_wp2_with fail
      refine (mon_any m p y S HS.out hyb _).mono ?_
      rintro e w1 ⟨rfl, k1⟩
      have hS' := monA_is8 HS.out m p y hyb
      obtain ⟨S', hSe⟩ : ∃ S', S' = monA m p y S := ⟨_, rfl⟩
      rw [← hSe] at hS' ⊢
      have HS' := Lib.hid hS'
      have HSE := Lib.hid hSe
      have A1 := Lib.hid (HA.out.drew.below k1 hlt)
      have C1 := Lib.hid (HB.out.drew.below k1 hlt1)
      have K1 := Lib.hid (hl.drew.trans (k1.mono hl.size))
      have hb3 : ad.block < wr.drew.heap.size := Nat.lt_of_lt_of_le hBB hl.size
      have z0 : Hid (w1.cell? (ad.add (k * 3)) = some (.int .i64 m)) := (k1.cell (by rw [K.block_add]; exact hb3)).trans x0
      have z1 : Hid (w1.cell? ⟨(ad.add (k * 3)).block, (ad.add (k * 3)).off + 1, none⟩ = some (.int .i64 p)) := (k1.cell (by show (ad.add (k * 3)).block < _; rw [K.block_add]; exact hb3)).trans x1
      have z2 : Hid (w1.cell? ⟨(ad.add (k * 3)).block, (ad.add (k * 3)).off + 2, none⟩ = some (.int .u64 y)) := (k1.cell (by show (ad.add (k * 3)).block < _; rw [K.block_add]; exact hb3)).trans x2
      clear k1 x0 x1 x2 hS' hSe
      go_wp2_with (refine wpList_store_row rfl 50 _ _ rfl (w.heap.size) _ rfl rfl 50 _ A1.out ?_ ?_ ?_ ?_; exact info8s _ HS'.out.1; exact (cv_eight HS.out.1).trans (cv_eight HS'.out.1).symm; exact cv_one _)
      have A2 := Lib.hid (A1.out.put (cv S'))
      have C2 := Lib.hid (C1.out.put_other (b' := w.heap.size) (by omega) (cv S'))
      have K2 := Lib.hid (Row.put_below K1.out A1.out (Nat.le_refl _) (cv S'))
      have x0 := (cell_setRow_other w1 w.heap.size (cv S') (ad.add (k * 3)) (by rw [K.block_add]; omega)).trans z0.out
      have x1 := (cell_setRow_other w1 w.heap.size (cv S') ⟨(ad.add (k * 3)).block, (ad.add (k * 3)).off + 1, none⟩ (by show (ad.add (k * 3)).block ≠ _; rw [K.block_add]; omega)).trans z1.out
      have x2 := (cell_setRow_other w1 w.heap.size (cv S') ⟨(ad.add (k * 3)).block, (ad.add (k * 3)).off + 2, none⟩ (by show (ad.add (k * 3)).block ≠ _; rw [K.block_add]; omega)).trans z2.out
      clear A1 C1 K1 z0 z1 z2
      generalize w1.setRow w.heap.size (cv S') = w2 at *
      refine K.region_tail 16 (by kernel_rfl) (by kernel_rfl) ?_
      simp only [List.take_succ_cons, List.take_zero, List.drop_succ_cons, List.drop_zero]
      iterate 17 (first
        | (refine wpStill_step (fun KK hKK => ?_)
           first
             | (refine K.still_else ?_ (K.Puts.mk' _) ?_
                (first | rfl | (simp [Region.wanted, yielded]; done))
                refine hKK _ ?_)
             | (refine K.still_if ?_ ?_
                (first | rfl | (simp [Region.wanted, yielded]; done))
                apply K.still_row 50 _ rfl (w.heap.size + 1) rfl 50 _ (0, 0) _ C2.out.drew Try.underlying50 rfl (info8s _ HS.out.1)
                · go_simp; exact K.Puts.mk' _
                refine hKK _ ?_)
             | (refine K.still_if ?_ ?_
                (first | rfl | (simp [Region.wanted, yielded]; done))
                apply K.still_val
                · go_simp; (try go_ints); exact K.Gives.mk' _ _
                · go_simp; exact K.Puts.mk' _
                refine hKK _ ?_)
           clear hKK KK)
        | skip)
      refine wpStill_nil ?_
      go_wp2_with fail
      refine (Mon_any m p y S HS.out hyb _).mono ?_
      rintro e w3 ⟨rfl, k3⟩
      rw [← HSE.out]
      have A3 := Lib.hid (A2.out.drew.below k3 A2.out.lt)
      have C3 := Lib.hid (C2.out.drew.below k3 C2.out.lt)
      have K3 := Lib.hid (K2.out.drew.trans (k3.mono K2.out.size))
      clear k3 x0 x1 x2 A2 C2 K2
      have hq : ∀ (W : World), (binOp .neq 50 (.agg (cv S')) (.agg (cv S'))).run Try.prog W = .ok (.bool false) W := fun W => by
        have h := K.neq_ints (P := Try.prog) W (t := 50) (e := 23) (n := 8) (k := .u64) (by kernel_rfl) (by kernel_rfl) (by kernel_rfl) S' S' HS'.out.1 HS'.out.1
        rw [beq_self_eq_true] at h
        exact h
      go_wp2_with (first | (refine wpList_store_row rfl 50 _ _ rfl (w.heap.size + 1) _ rfl rfl 50 _ C3.out ?_ ?_ ?_ ?_; exact info8s _ HS'.out.1; exact (cv_eight HS.out.1).trans (cv_eight HS'.out.1).symm; exact cv_one _) | (refine wpList_load_row rfl 50 _ rfl (w.heap.size) rfl 50 _ (0, 0) _ (A3.out.put_other (by omega) _) Try.underlying50 rfl ?_ ?_; exact info8s _ HS'.out.1) | (refine wpList_load_row rfl 50 _ rfl (w.heap.size + 1) rfl 50 _ (0, 0) _ (C3.out.put _) Try.underlying50 rfl ?_ ?_; exact info8s _ HS'.out.1))
      go_roundw
      case rel => exact ⟨k + 1, by omega, by go_num, S', HS'.out, A3.out.put_other (by omega) _, C3.out.put _, Row.put_below K3.out C3.out (by omega) _⟩
      case measure => simp [intOf]; omega
    · obtain rfl : k = n := by omega
      have HA := Lib.hid ha
      have HB := Lib.hid hb
      have HS := Lib.hid hS
      clear ha hb hS
      go_wp2
      go_ret
      exact ⟨rfl, hl⟩
theorem cells3 {W : World} {base : Nat} {a : Addr} {i : Nat} {x y z : Value} (h : W.cells? base (a.add (i * 3)) 3 = some [x, y, z]) :
    W.cell? (a.add (i * 3)) = some x ∧ W.cell? (a.add (i * 3 + 1)) = some y ∧ W.cell? (a.add (i * 3 + 2)) = some z := by
  unfold World.cells? at h
  split at h
  · have e0 : (a.add (i * 3)).add 0 = a.add (i * 3) := rfl
    have e1 : (a.add (i * 3)).add 1 = a.add (i * 3 + 1) := add_two a (i * 3) 1 (by decide)
    have e2 : (a.add (i * 3)).add 2 = a.add (i * 3 + 2) := add_two a (i * 3) 2 (by decide)
    rw [show List.range 3 = [0, 1, 2] from rfl] at h
    simp only [List.mapM_cons, List.mapM_nil, e0, e1, e2] at h
    cases h1 : W.cell? (a.add (i * 3)) with
    | none => simp [h1] at h
    | some u =>
      cases h2 : W.cell? (a.add (i * 3 + 1)) with
      | none => simp [h1, h2] at h
      | some v =>
        cases h3 : W.cell? (a.add (i * 3 + 2)) with
        | none => simp [h1, h2, h3] at h
        | some t =>
          simp [h1, h2, h3] at h
          obtain ⟨rfl, rfl, rfl⟩ := h
          exact ⟨rfl, rfl, rfl⟩
  · cases h
/-- The rows of a list of gatherings that came in. -/
theorem open_mons {H : Type} {enc : TypeId × Value → H} {W : World} {base : Nat} {held : Bool} {r : Reach} {b0 : Nat} {v : Value} {d : DataW H} {ps : List MemPlace}
    (hval : Value.okWide Try.prog W r b0 51 v) (hd : DataW.Trod enc Try.prog W base (fun _ => true) held 51 v d ps) :
    ∃ (A : Option Addr) (n cap : Nat) (ms : Nat → Int × Int × Int), v = .slice A n cap ∧ n ≤ maxLen ∧ (∀ i, i < n → 0 ≤ (ms i).2.2 ∧ (ms i).2.2 < 18446744073709551616) ∧ LiesM W W.heap.size A n ms := by
  rcases K.open_flats (m := 3) (e := 55) (ks := [.int .i64, .int .i64, .int .u64]) (by kernel_rfl) (by kernel_rfl) hval hd with ⟨rfl, -⟩ | ⟨a, len, cap, D, rfl, hl, hc, -, hi⟩
  · exact ⟨none, 0, 0, fun _ => (0, 0, 0), rfl, Nat.zero_le _, fun i h => absurd h (by omega), fun h => absurd h (by omega)⟩
  · have key : ∀ i, ∃ x : Int × Int × Int, i < cap → (0 ≤ x.2.2 ∧ x.2.2 < 18446744073709551616) ∧ D i = [.int .i64 x.1, .int .i64 x.2.1, .int .u64 x.2.2] := by
      intro i
      by_cases h : i < cap
      · obtain ⟨m1, -⟩ := hi i h
        obtain ⟨z0, c0, e0, -, m2⟩ := K.matches_int m1
        obtain ⟨z1, c1, e1, -, m3⟩ := K.matches_int m2
        obtain ⟨z2, c2, e2, w2, m4⟩ := K.matches_int m3
        have e3 := K.matches_nil m4
        have := bounds_u64 w2
        exact ⟨(z0, z1, z2), fun _ => ⟨by show 0 ≤ z2 ∧ z2 < _; omega, by rw [e0, e1, e2, e3]⟩⟩
      · exact ⟨(0, 0, 0), fun h' => absurd h' h⟩
    refine ⟨some a, len, cap, fun i => (key i).choose, rfl, by omega, fun i h => ((key i).choose_spec (by omega)).1, fun hn => ⟨a, rfl, ?_, fun i h => ?_⟩⟩
    · have h0 := cells3 (((key 0).choose_spec (by omega)).2 ▸ (hi 0 (by omega)).2)
      have := block_lt_of_cell h0.1
      rwa [K.block_add] at this
    · have h0 := cells3 (((key i).choose_spec (by omega)).2 ▸ (hi i (by omega)).2)
      exact h0
theorem own : ownKnob Try.prog.godebug = none := by kernel_rfl
set_option maxRecDepth 100000 in
theorem lifted (os : Os) (started : os.Started) (H : Type) (enc : TypeId × Value → H) :
    ReturnsInHanded {} Try.checked os 7 .any (Rows.tallyMonsSpec.pre6 enc Try.prog Try.f7 Rows.tallyMonsRow.domain false) (Rows.tallyMonsSpec.post enc Try.prog Try.f7 false true false false) := by
  refine returnsInHanded_of_change_sized (C := Try.checked) own started (by kernel_rfl) Try.func7
    (ChangeSpec.witness6 (enc := enc) (C := Try.checked) false ⟨#[], #[.agg #[.int .u64 0, .int .u64 0, .int .u64 0, .int .u64 0, .int .u64 0, .int .u64 0, .int .u64 0, .int .u64 0], .slice none 0 0], []⟩ 8 (by kernel_rfl) (by kernel_rfl) (by kernel_rfl) (by kernel_rfl)) ?_
  intro W base args ds gs before hval0 hW hcnd hsz0 _
  have hsz : (DataW.weightsEach Try.prog (Try.f7.params.toList ++ Rows.tallyMonsSpec.plain.varTypes Try.prog) (ds ++ gs)).all (· ≤ reachBytes) = true := hsz0
  have hval : ∀ (j : Nat) t v, Try.f7.params[j]? = some t → args[j]? = some v → Value.okWide Try.prog W .any base t v := hval0
  have hW' := hW
  obtain ⟨p, q, hA0, hV, rfl, hfz, hnd⟩ := hW
  have hA : DataW.TrodAll enc Try.prog W 0 (fun _ => true) true Try.f7.params.toList args.toList ds p := hA0
  rw [Try.params7] at hA hval hsz
  obtain ⟨v0, vs0, d0, ds0, p0, q0, hargs, rfl, rfl, h0, r0⟩ := trodAll_cons hA
  obtain ⟨v1, vs1, d1, ds1, p1, q1, rfl, rfl, rfl, h1, r1⟩ := trodAll_cons r0
  obtain ⟨rfl, rfl, rfl⟩ := trodAll_nil r1
  obtain rfl : args = #[v0, v1] := by cases args; simp_all
  obtain ⟨rfl, rfl⟩ := trodVars_none hV
  have hlt : ∀ x ∈ p0 ++ p1, x.block < W.heap.size := fun x hx => hW'.lt x (by simpa using hx)
  have k0 := h0
  obtain ⟨z0, l0, rfl, w0, rfl⟩ := K.open_array Try.underlying50 Try.underlying23 (by kernel_rfl) (by kernel_rfl) (hval 0 50 v0 rfl rfl) h0
  have k1 := h1
  obtain ⟨A, n, cap, ms, rfl, hn, hms, hlies⟩ := open_mons (hval 1 51 v1 rfl rfl) h1
  refine (walk _ ⟨by simpa using l0, fun x hx => by have := bounds_u64 (w0 x hx); omega⟩ A n cap ms (by unfold maxLen at hn; omega) hms W hlies).mono fun e W' ⟨he, bel⟩ => ?_
  subst he
  exact ⟨_, rfl, _, _, _, [], _, [], hW', trodAll_mk1 (shut_bool Try.underlying4 _), (trodAll_cons_mk (Below.trod (by kernel_rfl) (by kernel_rfl) (of_decide_eq_true (by kernel_rfl)) k0 bel (fun x hx => by cases hx)) (trodAll_cons_mk (Below.trod (by kernel_rfl) (by kernel_rfl) (of_decide_eq_true (by kernel_rfl)) k1 bel (fun x hx => hlt x (by simp [hx]))) trodAll_mk0)), rfl, bel.frame _, fun h => by cases h⟩
theorem over : Rows.tallyMonsRow.holds Try.pinned (OpenSpec.ofChange Rows.tallyMonsSpec) :=
  OpenClaim.holds_of_wide 7 Try.f7 rfl rfl rfl rfl rfl rfl rfl ⟨rfl, rfl, rfl, rfl, rfl⟩ rfl rfl rfl rfl rfl (by kernel_rfl) Try.func7 (by kernel_rfl)
    (of_decide_eq_true (by kernel_rfl)) (by unfold Func.isWrapper; first | (rw [if_pos (by decide +kernel)]; kernel_rfl) | (rw [if_neg (by decide +kernel)]; exact ⟨rfl, rfl⟩))
    (fun os started H enc _ => lifted os started H enc)
theorem proved : Rows.TallyMonsSaid := over
#print axioms proved
end Go.Proofs.Ytbbldcbilnkkdaa.tallyMons
