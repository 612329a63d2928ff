/-
  TallyPuts: whatever numbers are put, one behind the other, the program's sum is the document's. No condition.
-/
import Derived.Test.YtbbldcbilnkkdaaRows
import Derived.Test.YtbbldcbilnkkdaaRef4
import Derived.Test.YtbbldcbilnkkdaaK3
import Derived.ChangeOld
import Derived.SizedLaws
set_option linter.unusedVariables false
set_option linter.unusedSimpArgs false
namespace Go.Proofs.Ytbbldcbilnkkdaa.tallyPuts
open Go.ChangeShapes Go.WideShapes Go.ChangeAt Go.RowKit
open Num Tly Ref K

def RelPuts (B : Nat) (w : World) (n : Nat) (i : Value) (wr : World) : Prop :=
  ∃ k : Nat, k ≤ n ∧ i = .int .i64 k ∧ ∃ y : Int, Row wr (B + 1) 26 (wv y) ∧ Row wr (B + 2) 30 (wv y) ∧ Below B w wr
set_option maxRecDepth 100000 in
set_option maxHeartbeats 1000000 in
theorem walk (z : Int) (A : Option Addr) (n cap : Nat) (us : List Int) (hn : n ≤ 9223372036854775807) (hu : ∀ u ∈ us, 0 ≤ u ∧ u < 4294967296) (w : World) (hA : Lies w w.heap.size A n (us.map (Value.int .u32))) :
    Calls Try.prog 5 #[.agg (wv z), .slice A n cap] w fun e w' => e = .returned (.bool true) ∧ Below w.heap.size w w' := by
  have H0 := Lib.hid (Row.new w 25 (wv z))
  have H1 := Lib.hid (Row.at (Row.new (w.alloc (.cells (wv z) 25)) 26 (cv [0, 0, 0, 0, 0, 0])) (b' := w.heap.size + 1) (by simp))
  have H2 := Lib.hid ((H0.out.alloc (.cells (cv [0, 0, 0, 0, 0, 0]) 26)).put_other (b' := w.heap.size + 1) (by omega) (wv z))
  have H3 := Lib.hid (Row.at (Row.new (((w.alloc (.cells (wv z) 25)).alloc (.cells (cv [0, 0, 0, 0, 0, 0]) 26)).setRow (w.heap.size + 1) (wv z)) 30 (cv [0, 0, 0, 0, 0, 0])) (b' := w.heap.size + 2) (by simp))
  have HL := Lib.hid hA
  clear hA
  go_enter Try.func5, Try.ntmps5
  go_wp2_with (first | (refine wpList_load_row rfl 25 _ rfl (w.heap.size) rfl 25 _ (0, 0) _ H0.out Try.underlying25 rfl (by kernel_rfl) ?_) | (refine wpList_store_row rfl 26 _ _ rfl (w.heap.size + 1) _ rfl rfl 26 _ H1.out (by kernel_rfl) (by kernel_rfl) (by first | exact cv_one _ | kernel_rfl) ?_) | (refine wpList_load_row rfl 25 _ rfl (w.heap.size) rfl 25 _ (0, 0) _ H2.out Try.underlying25 rfl (by kernel_rfl) ?_) | (refine wpList_store_row rfl 30 _ _ rfl (w.heap.size + 2) _ rfl rfl 30 _ H3.out (by kernel_rfl) (by kernel_rfl) (by first | exact cv_one _ | kernel_rfl) ?_))
  have HS := Lib.hid (show RelPuts w.heap.size w n (.int .i64 0) _ from ⟨0, Nat.zero_le _, rfl, z, (H1.out.put (wv z)).alloc (.cells (cv [0, 0, 0, 0, 0, 0]) 30) |>.put_other (b' := w.heap.size + 2) (by omega) (wv z), H3.out.put (wv z),
    Row.put_below ((Row.put_below (((Below.refl w.heap.size w).alloc (Nat.le_refl _) (.cells (wv z) 25)).alloc (by simp) (.cells (cv [0, 0, 0, 0, 0, 0]) 26)) H1.out (by omega) (wv z)).alloc (by simp; omega) (.cells (cv [0, 0, 0, 0, 0, 0]) 30)) H3.out (by omega) (wv z)⟩)
  clear H0 H1 H2 H3
  go_loopw [7] (fun i wr => RelPuts w.heap.size w n i wr) (fun i _ => n - (intOf i).toNat)
  case atStart => exact HS.out
  case round =>
    clear HS
    obtain ⟨k, hk, rfl, y, ha, hb, hl⟩ := hrel
    rcases Nat.lt_or_ge k n with h6 | h6
    · have hus : us.length = n := by simpa using HL.out.1
      obtain ⟨u, hu'⟩ : ∃ u, us[k]? = some u := ⟨_, List.getElem?_eq_getElem (by omega)⟩
      obtain ⟨ad, rfl, hB, hcell⟩ := (HL.out.below hl).at_ h6
      have hx := hcell _ (show (us.map (Value.int .u32))[k]? = some (.int .u32 u) by simp [hu'])
      have hub := hu u (List.mem_of_getElem? hu')
      have hkb : decide ((k : Int) < (n : Int)) = true := by simp; omega
      have hlt := ha.lt
      have hlt1 := hb.lt
      have HA := Lib.hid ha
      have HB := Lib.hid hb
      have HU := Lib.hid hus
      clear ha hb hu' hcell hus
      go_wp2_with fail
      refine K.region_tail 5 (by kernel_rfl) (by kernel_rfl) ?_
      simp only [List.take_succ_cons, List.take_zero, List.drop_succ_cons, List.drop_zero]
      iterate 6 (first
        | (refine wpStill_step (fun KK hKK => ?_)
           first
             | (refine K.still_else ?_ (K.Puts.mk' _) ?_
                (first | rfl | (simp [Region.wanted, yielded]; done))
                refine hKK _ ?_)
             | (refine K.still_if ?_ ?_
                (first | rfl | (simp [Region.wanted, yielded]; done))
                apply K.still_row 26 _ rfl (w.heap.size + 1) rfl 26 _ (0, 0) _ HA.out.drew Try.underlying26 rfl (by kernel_rfl)
                · go_simp; exact K.Puts.mk' _
                refine hKK _ ?_)
             | (refine K.still_if ?_ ?_
                (first | rfl | (simp [Region.wanted, yielded]; done))
                apply K.still_val
                · go_simp; (try go_ints); exact K.Gives.mk' _ _
                · go_simp; exact K.Puts.mk' _
                refine hKK _ ?_)
           clear hKK KK)
        | skip)
      refine wpStill_nil ?_
      go_wp2_with fail
      refine (put_any y u hub.1 hub.2 _).mono ?_
      rintro e w1 ⟨rfl, k1⟩
      have hx1 := (k1.cell (p := ad.add k) (by rw [K.block_add]; have := hl.size; simp; omega)).trans hx
      have A1 := Lib.hid (HA.out.drew.below k1 hlt)
      have B1 := Lib.hid (HB.out.drew.below k1 hlt1)
      have K1 := Lib.hid (hl.drew.trans (k1.mono hl.size))
      clear k1 hx
      go_wp2_with (refine wpList_store_row rfl 26 _ _ rfl (w.heap.size + 1) _ rfl rfl 26 _ A1.out (by kernel_rfl) (by kernel_rfl) (by first | exact cv_one _ | kernel_rfl) ?_)
      have A2 := Lib.hid (A1.out.put (wv (putv y u)))
      have B2 := Lib.hid (B1.out.put_other (b' := w.heap.size + 1) (by omega) (wv (putv y u)))
      have K2 := Lib.hid (Row.put_below K1.out A1.out (by omega) (wv (putv y u)))
      have hx2 := (cell_setRow_other w1 (w.heap.size + 1) (wv (putv y u)) (ad.add k) (by rw [K.block_add]; omega)).trans hx1
      clear A1 B1 K1 hx1
      generalize w1.setRow (w.heap.size + 1) (wv (putv y u)) = w2 at *
      refine K.region_tail 5 (by kernel_rfl) (by kernel_rfl) ?_
      simp only [List.take_succ_cons, List.take_zero, List.drop_succ_cons, List.drop_zero]
      iterate 6 (first
        | (refine wpStill_step (fun KK hKK => ?_)
           first
             | (refine K.still_else ?_ (K.Puts.mk' _) ?_
                (first | rfl | (simp [Region.wanted, yielded]; done))
                refine hKK _ ?_)
             | (refine K.still_if ?_ ?_
                (first | rfl | (simp [Region.wanted, yielded]; done))
                apply K.still_row 30 _ rfl (w.heap.size + 2) rfl 30 _ (0, 0) _ B2.out.drew Try.underlying30 rfl (by kernel_rfl)
                · go_simp; exact K.Puts.mk' _
                refine hKK _ ?_)
             | (refine K.still_if ?_ ?_
                (first | rfl | (simp [Region.wanted, yielded]; done))
                apply K.still_val
                · go_simp; (try go_ints); exact K.Gives.mk' _ _
                · go_simp; exact K.Puts.mk' _
                refine hKK _ ?_)
           clear hKK KK)
        | skip)
      refine wpStill_nil ?_
      go_wp2_with fail
      refine (Put_any y u hub.1 hub.2 _).mono ?_
      rintro e w3 ⟨rfl, k3⟩
      have A3 := Lib.hid (A2.out.drew.below k3 A2.out.lt)
      have B3 := Lib.hid (B2.out.drew.below k3 B2.out.lt)
      have K3 := Lib.hid (K2.out.drew.trans (k3.mono K2.out.size))
      clear k3 hx2 A2 B2 K2
      have hq : ∀ (W : World), (binOp .neq 24 (.agg (wv (putv y u))) (.agg (wv (putv y u)))).run Try.prog W = .ok (.bool false) W := fun W => by
        have h := K.neq_ints (P := Try.prog) W (t := 24) (e := 23) (n := 6) (k := .u64) (by kernel_rfl) (by kernel_rfl) (by kernel_rfl) (digs 18446744073709551616 (putv y u) 6) (digs 18446744073709551616 (putv y u) 6) (digs_length _ _ _) (digs_length _ _ _)
        rw [beq_self_eq_true] at h
        exact h
      go_wp2_with (first | (refine wpList_store_row rfl 30 _ _ rfl (w.heap.size + 2) _ rfl rfl 30 _ B3.out (by kernel_rfl) (by kernel_rfl) (by first | exact cv_one _ | kernel_rfl) ?_) | (refine wpList_load_row rfl 26 _ rfl (w.heap.size + 1) rfl 26 _ (0, 0) _ (A3.out.put_other (by omega) _) Try.underlying26 rfl (by kernel_rfl) ?_) | (refine wpList_load_row rfl 30 _ rfl (w.heap.size + 2) rfl 30 _ (0, 0) _ (B3.out.put _) Try.underlying30 rfl (by kernel_rfl) ?_))
      go_roundw
      case rel => exact ⟨k + 1, by omega, by go_num, _, A3.out.put_other (by omega) _, B3.out.put _, Row.put_below K3.out B3.out (by omega) _⟩
      case measure => simp [intOf]; omega
    · obtain rfl : k = n := by omega
      have HA := Lib.hid ha
      have HB := Lib.hid hb
      clear ha hb
      go_wp2
      go_ret
      exact ⟨rfl, hl⟩

theorem own : ownKnob Try.prog.godebug = none := by kernel_rfl
set_option maxRecDepth 100000 in
theorem lifted (os : Os) (started : os.Started) (H : Type) (enc : TypeId × Value → H) :
    ReturnsInHanded {} Try.checked os 5 .any (Rows.tallyPutsSpec.pre6 enc Try.prog Try.f5 Rows.tallyPutsRow.domain false) (Rows.tallyPutsSpec.post enc Try.prog Try.f5 false true false false) := by
  refine returnsInHanded_of_change_sized (C := Try.checked) own started (by kernel_rfl) Try.func5
    (ChangeSpec.witness6 (enc := enc) (C := Try.checked) false ⟨#[], #[.agg #[.int .u64 0, .int .u64 0, .int .u64 0, .int .u64 0, .int .u64 0, .int .u64 0], .slice none 0 0], []⟩ 8 (by kernel_rfl) (by kernel_rfl) (by kernel_rfl) (by kernel_rfl)) ?_
  intro W base args ds gs before hval0 hW hcnd hsz0 _
  have hsz : (DataW.weightsEach Try.prog (Try.f5.params.toList ++ Rows.tallyPutsSpec.plain.varTypes Try.prog) (ds ++ gs)).all (· ≤ reachBytes) = true := hsz0
  have hval : ∀ (j : Nat) t v, Try.f5.params[j]? = some t → args[j]? = some v → Value.okWide Try.prog W .any base t v := hval0
  have hW' := hW
  obtain ⟨p, q, hA0, hV, rfl, hfz, hnd⟩ := hW
  have hA : DataW.TrodAll enc Try.prog W 0 (fun _ => true) true Try.f5.params.toList args.toList ds p := hA0
  rw [Try.params5] at hA hval hsz
  obtain ⟨v0, vs0, d0, ds0, p0, q0, hargs, rfl, rfl, h0, r0⟩ := trodAll_cons hA
  obtain ⟨v1, vs1, d1, ds1, p1, q1, rfl, rfl, rfl, h1, r1⟩ := trodAll_cons r0
  obtain ⟨rfl, rfl, rfl⟩ := trodAll_nil r1
  obtain rfl : args = #[v0, v1] := by cases args; simp_all
  obtain ⟨rfl, rfl⟩ := trodVars_none hV
  have hlt : ∀ x ∈ p0 ++ p1, x.block < W.heap.size := fun x hx => hW'.lt x (by simpa using hx)
  have k0 := h0
  obtain ⟨z0, l0, rfl, w0, rfl⟩ := K.open_array Try.underlying25 Try.underlying23 (by kernel_rfl) (by kernel_rfl) (hval 0 25 v0 rfl rfl) h0
  have k1 := h1
  obtain ⟨y, rfl, -, -⟩ := words_are z0 l0 (fun z hz => bounds_u64 (w0 z hz))
  obtain ⟨A, n, cap, us, rfl, hus, hn, hcap, hwf, hlies, -⟩ := K.open_nums (k := .u32) Try.underlying37 Try.underlying39 (by kernel_rfl) (hval 1 37 v1 rfl rfl) h1
  refine (walk _ _ _ _ _ (by unfold maxLen at hcap; omega) (fun u hu => by have := bounds_u32 (hwf u hu); omega) W hlies).mono fun e W' ⟨he, bel⟩ => ?_
  subst he
  exact ⟨_, rfl, _, _, _, [], _, [], hW', trodAll_mk1 (shut_bool Try.underlying4 _), (trodAll_cons_mk (Below.trod (by kernel_rfl) (by kernel_rfl) (of_decide_eq_true (by kernel_rfl)) k0 bel (fun x hx => by cases hx)) (trodAll_cons_mk (Below.trod (by kernel_rfl) (by kernel_rfl) (of_decide_eq_true (by kernel_rfl)) k1 bel (fun x hx => hlt x (by simp [hx]))) trodAll_mk0)), rfl, bel.frame _, fun h => by cases h⟩
theorem over : Rows.tallyPutsRow.holds Try.pinned (OpenSpec.ofChange Rows.tallyPutsSpec) :=
  OpenClaim.holds_of_wide 5 Try.f5 rfl rfl rfl rfl rfl rfl rfl ⟨rfl, rfl, rfl, rfl, rfl⟩ rfl rfl rfl rfl rfl (by kernel_rfl) Try.func5 (by kernel_rfl)
    (of_decide_eq_true (by kernel_rfl)) (by unfold Func.isWrapper; first | (rw [if_pos (by decide +kernel)]; kernel_rfl) | (rw [if_neg (by decide +kernel)]; exact ⟨rfl, rfl⟩))
    (fun os started H enc _ => lifted os started H enc)
theorem proved : Rows.TallyPutsSaid := over
#print axioms proved
end Go.Proofs.Ytbbldcbilnkkdaa.tallyPuts
