/-
  TallyReckons: Merge, Neg, Times, Shift, Sign and Compare of every two sums and every number are the document's. No condition.
-/
import Derived.Test.YtbbldcbilnkkdaaRows
import Derived.Test.YtbbldcbilnkkdaaRShift
import Derived.Test.YtbbldcbilnkkdaaReck5
import Derived.ChangeOld
import Derived.SizedLaws
set_option linter.unusedVariables false
set_option linter.unusedSimpArgs false
namespace Go.Proofs.Ytbbldcbilnkkdaa.tallyReckons
open Go.ChangeShapes Go.WideShapes Go.ChangeAt Go.RowKit
open Num Tly Ref K Reck

theorem num (x : Int) (w : World) : Calls Try.prog 13 #[.int .i64 x] w fun e w' => e = .returned (.int .i64 x) ∧ w = w' := by
  go_enter Try.func13, Try.ntmps13
  go_wp2
  go_ret
  exact ⟨rfl, rfl⟩
set_option maxRecDepth 100000 in
set_option maxHeartbeats 4000000 in
theorem walk (z t n k : Int) (h0 : -half ≤ z) (h1 : z < half) (g0 : -half ≤ t) (g1 : t < half) (hn0 : -9223372036854775808 ≤ n) (hn1 : n ≤ 9223372036854775807) (hk0 : -9223372036854775808 ≤ k) (hk1 : k ≤ 9223372036854775807) (w : World) :
    Calls Try.prog 8 #[.agg (wv z), .agg (wv t), .int .i64 n, .int .i64 k] w fun e w' => e = .returned (.bool true) ∧ Below w.heap.size w w' := by
  obtain ⟨a0, a1, a2, a3, a4, a5, hz⟩ := lit6 z
  obtain ⟨b0, b1, b2, b3, b4, b5, ht⟩ := lit6 t
  have hmg := fun W => merge z t W
  have hMg := fun W => refMerge z t W
  have hng := fun W => neg z W
  have hNg := fun W => Neg z W
  have htm := fun W => times z n hn0 hn1 W
  have hTm := fun W => refTimes z n hn0 hn1 W
  have hsg := fun W => sign z h0 h1 W
  have hSg := fun W => Sign z h0 h1 W
  have hcp := fun W => compare z t h0 h1 g0 g1 W
  have hCp := fun W => Compare z t h0 h1 g0 g1 W
  have hcz := fun W => compare z z h0 h1 h0 h1 W
  rw [Int.sub_self, sgn_null] at hcz
  have hsh := fun W => shift z k h0 h1 hk0 hk1 W
  have hSh := fun W => Shift z k h0 h1 hk0 hk1 W
  obtain ⟨s, hs⟩ : ∃ s, s = sgn z := ⟨_, rfl⟩
  obtain ⟨c, hc⟩ : ∃ c, c = sgn (z - t) := ⟨_, rfl⟩
  obtain ⟨V, hV⟩ : ∃ V, V = opV (shR z k) := ⟨_, rfl⟩
  obtain ⟨E, hE⟩ : ∃ E, E = opE (shR z k) := ⟨_, rfl⟩
  rw [← hs] at hsg hSg
  rw [← hc] at hcp hCp
  rw [← hV, ← hE] at hsh hSh
  clear hs hc hV hE
  obtain ⟨x1, hx1⟩ : ∃ x, x = z + t := ⟨_, rfl⟩
  obtain ⟨x2, hx2⟩ : ∃ x, x = -z := ⟨_, rfl⟩
  obtain ⟨x3, hx3⟩ : ∃ x, x = z * n := ⟨_, rfl⟩
  rw [← hx1] at hmg hMg
  rw [← hx2] at hng hNg
  rw [← hx3] at htm hTm
  clear hx1 hx2 hx3
  rw [hz, ht] at hmg hMg hcp hCp
  obtain ⟨c0, c1, c2, c3, c4, c5, hv⟩ := lit6 V
  rw [hz] at hng hNg htm hTm hsg hSg hcz hsh hSh
  rw [hv] at hsh hSh
  have HSH := Lib.hid hsh
  have HSh := Lib.hid hSh
  clear hsh hSh
  have HMG := Lib.hid hmg
  have HMg := Lib.hid hMg
  have HNG := Lib.hid hng
  have HNg := Lib.hid hNg
  have HTM := Lib.hid htm
  have HTm := Lib.hid hTm
  have HSG := Lib.hid hsg
  have HSg := Lib.hid hSg
  have HCP := Lib.hid hcp
  have HCp := Lib.hid hCp
  have HCZ := Lib.hid hcz
  clear hmg hMg hng hNg htm hTm hsg hSg hcp hCp hcz h0 h1 g0 g1 hn0 hn1 hk0 hk1
  have hq : ∀ (x : Int) (W : World), (binOp .neq 24 (.agg (wv x)) (.agg (wv x))).run Try.prog W = .ok (.bool false) W := fun x W => by
    have h := K.neq_ints (P := Try.prog) W (t := 24) (e := 23) (n := 6) (k := .u64) (by kernel_rfl) (by kernel_rfl) (by kernel_rfl) (digs 18446744073709551616 x 6) (digs 18446744073709551616 x 6) (digs_length _ _ _) (digs_length _ _ _)
    rw [beq_self_eq_true] at h
    exact h
  have hqv := hq V
  rw [hv] at hqv
  clear hv
  go_enter Try.func8, Try.ntmps8
  go_wp2
  obtain ⟨W0, hW0⟩ : ∃ W0, W0 = ((((((w.alloc (.cells #[Value.int .u64 a0, Value.int .u64 a1, Value.int .u64 a2, Value.int .u64 a3, Value.int .u64 a4, Value.int .u64 a5] 25)).alloc (.cells #[Value.int .u64 b0, Value.int .u64 b1, Value.int .u64 b2, Value.int .u64 b3, Value.int .u64 b4, Value.int .u64 b5] 25)).alloc (.cells #[Value.int .u64 a0, Value.int .u64 a1, Value.int .u64 a2, Value.int .u64 a3, Value.int .u64 a4, Value.int .u64 a5] 26)).alloc (.cells #[Value.int .u64 b0, Value.int .u64 b1, Value.int .u64 b2, Value.int .u64 b3, Value.int .u64 b4, Value.int .u64 b5] 26)).alloc (.cells #[Value.int .u64 a0, Value.int .u64 a1, Value.int .u64 a2, Value.int .u64 a3, Value.int .u64 a4, Value.int .u64 a5] 30)).alloc (.cells #[Value.int .u64 b0, Value.int .u64 b1, Value.int .u64 b2, Value.int .u64 b3, Value.int .u64 b4, Value.int .u64 b5] 30)) := ⟨_, rfl⟩
  have r9 : Row W0 (w.heap.size + 1 + 1) 26 #[Value.int .u64 a0, Value.int .u64 a1, Value.int .u64 a2, Value.int .u64 a3, Value.int .u64 a4, Value.int .u64 a5] := by rw [hW0]; exact (((Row.at (Row.new ((w.alloc _).alloc _) _ _) (by simp)).alloc _).alloc _).alloc _
  have r10 : Row W0 (w.heap.size + 1 + 1 + 1) 26 #[Value.int .u64 b0, Value.int .u64 b1, Value.int .u64 b2, Value.int .u64 b3, Value.int .u64 b4, Value.int .u64 b5] := by rw [hW0]; exact ((Row.at (Row.new (((w.alloc _).alloc _).alloc _) _ _) (by simp)).alloc _).alloc _
  have r11 : Row W0 (w.heap.size + 1 + 1 + 1 + 1) 30 #[Value.int .u64 a0, Value.int .u64 a1, Value.int .u64 a2, Value.int .u64 a3, Value.int .u64 a4, Value.int .u64 a5] := by rw [hW0]; exact (Row.at (Row.new ((((w.alloc _).alloc _).alloc _).alloc _) _ _) (by simp)).alloc _
  have r12 : Row W0 (w.heap.size + 1 + 1 + 1 + 1 + 1) 30 #[Value.int .u64 b0, Value.int .u64 b1, Value.int .u64 b2, Value.int .u64 b3, Value.int .u64 b4, Value.int .u64 b5] := by rw [hW0]; exact Row.at (Row.new (((((w.alloc _).alloc _).alloc _).alloc _).alloc _) _ _) (by simp)
  have bl : Below w.heap.size w W0 := by rw [hW0]; exact ((((((Below.refl _ _).alloc (Nat.le_refl _) _).alloc (by simp) _).alloc (by simp; omega) _).alloc (by simp; omega) _).alloc (by simp; omega) _).alloc (by simp; omega) _
  rw [← hW0]
  clear hW0
  have HC : Hid (∀ w', Below W0.heap.size W0 w' → (∀ o, w'.cell? ⟨w.heap.size + 1 + 1, o, none⟩ = (#[Value.int .u64 a0, Value.int .u64 a1, Value.int .u64 a2, Value.int .u64 a3, Value.int .u64 a4, Value.int .u64 a5] : Array Value)[o]?) ∧ (∀ o, w'.cell? ⟨w.heap.size + 1 + 1 + 1, o, none⟩ = (#[Value.int .u64 b0, Value.int .u64 b1, Value.int .u64 b2, Value.int .u64 b3, Value.int .u64 b4, Value.int .u64 b5] : Array Value)[o]?) ∧
      (∀ o, w'.cell? ⟨w.heap.size + 1 + 1 + 1 + 1, o, none⟩ = (#[Value.int .u64 a0, Value.int .u64 a1, Value.int .u64 a2, Value.int .u64 a3, Value.int .u64 a4, Value.int .u64 a5] : Array Value)[o]?) ∧ (∀ o, w'.cell? ⟨w.heap.size + 1 + 1 + 1 + 1 + 1, o, none⟩ = (#[Value.int .u64 b0, Value.int .u64 b1, Value.int .u64 b2, Value.int .u64 b3, Value.int .u64 b4, Value.int .u64 b5] : Array Value)[o]?)) :=
    Lib.hid (fun w' h => ⟨fun o => row_below h r9.lt r9 o, fun o => row_below h r10.lt r10 o, fun o => row_below h r11.lt r11 o, fun o => row_below h r12.lt r12 o⟩)
  have R9 := Lib.hid r9
  have R10 := Lib.hid r10
  have R11 := Lib.hid r11
  have R12 := Lib.hid r12
  have BL := Lib.hid bl
  clear r9 r10 r11 r12 bl
  refine K.region_quiet (C := Below W0.heap.size W0) (by kernel_rfl) (by kernel_rfl) (K.below_draw _) ?_
  iterate 23 (first
    | ((with_reducible refine wpQuiet_step (fun KK hKK => ?_))
       first
         | ((with_reducible refine K.quiet_else ?_ (K.Puts.mk' _) ?_)
            (first | rfl | (simp [Region.wanted, yielded]; done))
            (with_reducible refine hKK _ ?_))
         | ((with_reducible refine K.quiet_if ?_ ?_)
            (first | rfl | (simp [Region.wanted, yielded]; done))
            first
              | (apply K.quiet_val
                 · intro w' hw'; obtain ⟨c9, c10, c11, c12⟩ := HC.out w' hw'; go_simp; (try go_ints); exact K.Gives.mk' _ _
                 · go_simp; exact K.Puts.mk' _)
              | (apply K.quiet_call
                 · intro w' hw'; obtain ⟨c9, c10, c11, c12⟩ := HC.out w' hw'; go_simp; (try go_ints); exact K.Enters.mk' _ _ _
                 · intro w' hw'; obtain ⟨c9, c10, c11, c12⟩ := HC.out w' hw'; first
                   | with_reducible exact K.calls_below hw' hw'.size (HMG.out _)
                   | with_reducible exact K.calls_below hw' hw'.size (HMg.out _)
                   | with_reducible exact K.calls_below hw' hw'.size (HNG.out _)
                   | with_reducible exact K.calls_below hw' hw'.size (HNg.out _)
                   | with_reducible exact K.calls_below hw' hw'.size (HTM.out _)
                   | with_reducible exact K.calls_below hw' hw'.size (HTm.out _)
                   | exact K.calls_below hw' hw'.size (HMG.out _)
                   | exact K.calls_below hw' hw'.size (HMg.out _)
                   | exact K.calls_below hw' hw'.size (HNG.out _)
                   | exact K.calls_below hw' hw'.size (HNg.out _)
                   | exact K.calls_below hw' hw'.size (HTM.out _)
                   | exact K.calls_below hw' hw'.size (HTm.out _)
                 · go_simp; exact K.Puts.mk' _)
            (with_reducible refine hKK _ ?_))
       clear hKK KK)
    | skip)
  refine wpQuiet_nil ?_
  intro w1 hb1
  obtain ⟨c9, c10, c11, c12⟩ := HC.out w1 hb1
  have hs1 := hb1.size
  have l12 := R12.out.lt
  clear hq
  go_wp2_with fail
  refine (HSH.out _).mono ?_
  rintro e w2 ⟨rfl, k2⟩
  have hb2 := hb1.trans (k2.mono hs1)
  have hs2 := hb2.size
  clear c9 c10 c11 c12 k2
  obtain ⟨c9, c10, c11, c12⟩ := HC.out w2 hb2
  have m9 : w.heap.size + 1 + 1 < w2.heap.size := by omega
  have m10 : w.heap.size + 1 + 1 + 1 < w2.heap.size := by omega
  have m11 : w.heap.size + 1 + 1 + 1 + 1 < w2.heap.size := by omega
  go_wp2_with fail
  refine (HSh.out _).mono ?_
  rintro e w3 ⟨rfl, k3⟩
  have hb3 := (hb2.alloc hs2 _).trans (k3.mono (by simp; omega))
  have c13 := row_cell ((Row.new w2 26 #[Value.int .u64 c0, Value.int .u64 c1, Value.int .u64 c2, Value.int .u64 c3, Value.int .u64 c4, Value.int .u64 c5]).below k3 (by simp))
  have l13 := ((Row.new w2 26 #[Value.int .u64 c0, Value.int .u64 c1, Value.int .u64 c2, Value.int .u64 c3, Value.int .u64 c4, Value.int .u64 c5]).below k3 (by simp)).lt
  have hs3 := hb3.size
  clear c9 c10 c11 c12 k3
  go_wp2_with (go_at_call 13; refine (num _ _).mono ?_; rintro e w' ⟨rfl, rfl⟩)
  obtain ⟨W4, hW4⟩ : ∃ W4, W4 = w3.alloc (.cells #[Value.int .u64 c0, Value.int .u64 c1, Value.int .u64 c2, Value.int .u64 c3, Value.int .u64 c4, Value.int .u64 c5] 30) := ⟨_, rfl⟩
  have hb4 : Below W0.heap.size W0 W4 := by rw [hW4]; exact hb3.alloc hs3 _
  rw [← hW4]
  clear hW4 c13 l13 hb2 hb3 hqv
  refine K.region_quiet (C := Below W0.heap.size W0) (by kernel_rfl) (by kernel_rfl) hb4.drew ?_
  iterate 21 (first
    | ((with_reducible refine wpQuiet_step (fun KK hKK => ?_))
       first
         | ((with_reducible refine K.quiet_else ?_ (K.Puts.mk' _) ?_)
            (first | rfl | (simp [Region.wanted, yielded]; done))
            (with_reducible refine hKK _ ?_))
         | ((with_reducible refine K.quiet_if ?_ ?_)
            (first | rfl | (simp [Region.wanted, yielded]; done))
            first
              | (apply K.quiet_val
                 · intro w' hw'; obtain ⟨c9, c10, c11, c12⟩ := HC.out w' hw'; go_simp; (try go_ints); exact K.Gives.mk' _ _
                 · go_simp; exact K.Puts.mk' _)
              | (apply K.quiet_call
                 · intro w' hw'; obtain ⟨c9, c10, c11, c12⟩ := HC.out w' hw'; go_simp; (try go_ints); exact K.Enters.mk' _ _ _
                 · intro w' hw'; obtain ⟨c9, c10, c11, c12⟩ := HC.out w' hw'; first
                   | with_reducible exact K.calls_below hw' hw'.size (HSG.out _)
                   | with_reducible exact K.calls_below hw' hw'.size (HSg.out _)
                   | with_reducible exact K.calls_below hw' hw'.size (HCP.out _)
                   | with_reducible exact K.calls_below hw' hw'.size (HCp.out _)
                   | with_reducible exact K.calls_below hw' hw'.size (HCZ.out _)
                   | exact K.calls_below hw' hw'.size (HSG.out _)
                   | exact K.calls_below hw' hw'.size (HSg.out _)
                   | exact K.calls_below hw' hw'.size (HCP.out _)
                   | exact K.calls_below hw' hw'.size (HCp.out _)
                   | exact K.calls_below hw' hw'.size (HCZ.out _)
                 · go_simp; exact K.Puts.mk' _)
            (with_reducible refine hKK _ ?_))
       clear hKK KK)
    | skip)
  refine wpQuiet_nil ?_
  intro w5 hb5
  go_wp2
  go_ret
  exact ⟨rfl, BL.out.trans (hb5.mono BL.out.size)⟩
theorem own : ownKnob Try.prog.godebug = none := by kernel_rfl
set_option maxRecDepth 100000 in
theorem lifted (os : Os) (started : os.Started) (H : Type) (enc : TypeId × Value → H) :
    ReturnsInHanded {} Try.checked os 8 .any (Rows.tallyReckonsSpec.pre6 enc Try.prog Try.f8 Rows.tallyReckonsRow.domain false) (Rows.tallyReckonsSpec.post enc Try.prog Try.f8 false true false false) := by
  refine returnsInHanded_of_change_sized (C := Try.checked) own started (by kernel_rfl) Try.func8
    (ChangeSpec.witness6 (enc := enc) (C := Try.checked) false ⟨#[], #[.agg #[.int .u64 0, .int .u64 0, .int .u64 0, .int .u64 0, .int .u64 0, .int .u64 0], .agg #[.int .u64 0, .int .u64 0, .int .u64 0, .int .u64 0, .int .u64 0, .int .u64 0], .int .i64 0, .int .i64 0], []⟩ 8 (by kernel_rfl) (by kernel_rfl) (by kernel_rfl) (by kernel_rfl)) ?_
  intro W base args ds gs before hval0 hW hcnd hsz0 _
  have hsz : (DataW.weightsEach Try.prog (Try.f8.params.toList ++ Rows.tallyReckonsSpec.plain.varTypes Try.prog) (ds ++ gs)).all (· ≤ reachBytes) = true := hsz0
  have hval : ∀ (j : Nat) t v, Try.f8.params[j]? = some t → args[j]? = some v → Value.okWide Try.prog W .any base t v := hval0
  have hW' := hW
  obtain ⟨p, q, hA0, hV, rfl, hfz, hnd⟩ := hW
  have hA : DataW.TrodAll enc Try.prog W 0 (fun _ => true) true Try.f8.params.toList args.toList ds p := hA0
  rw [Try.params8] at hA hval hsz
  obtain ⟨v0, vs0, d0, ds0, p0, q0, hargs, rfl, rfl, h0, r0⟩ := trodAll_cons hA
  obtain ⟨v1, vs1, d1, ds1, p1, q1, rfl, rfl, rfl, h1, r1⟩ := trodAll_cons r0
  obtain ⟨v2, vs2, d2, ds2, p2, q2, rfl, rfl, rfl, h2, r2⟩ := trodAll_cons r1
  obtain ⟨v3, vs3, d3, ds3, p3, q3, rfl, rfl, rfl, h3, r3⟩ := trodAll_cons r2
  obtain ⟨rfl, rfl, rfl⟩ := trodAll_nil r3
  obtain rfl : args = #[v0, v1, v2, v3] := by cases args; simp_all
  obtain ⟨rfl, rfl⟩ := trodVars_none hV
  have k0 := h0
  obtain ⟨z0, l0, rfl, w0, rfl⟩ := K.open_array Try.underlying25 Try.underlying23 (by kernel_rfl) (by kernel_rfl) (hval 0 25 v0 rfl rfl) h0
  have k1 := h1
  obtain ⟨z1, l1, rfl, w1, rfl⟩ := K.open_array Try.underlying25 Try.underlying23 (by kernel_rfl) (by kernel_rfl) (hval 1 25 v1 rfl rfl) h1
  obtain ⟨a2, rfl, rfl, rfl, w2⟩ := open_int Try.underlying2 (hval 2 2 v2 rfl rfl) h2
  obtain ⟨a3, rfl, rfl, rfl, w3⟩ := open_int Try.underlying3 (hval 3 3 v3 rfl rfl) h3
  obtain ⟨y0, rfl, a0, b0⟩ := words_are z0 l0 (fun z hz => bounds_u64 (w0 z hz))
  obtain ⟨y1, rfl, a1, b1⟩ := words_are z1 l1 (fun z hz => bounds_u64 (w1 z hz))
  refine (walk y0 y1 _ _ a0 b0 a1 b1 (by have := bounds_i64 w2; omega) (by have := bounds_i64 w2; omega) (by have := bounds_i64 w3; omega) (by have := bounds_i64 w3; omega) W).mono fun e W' ⟨he, bel⟩ => ?_
  subst he
  exact ⟨_, rfl, _, _, _, [], _, [], hW', trodAll_mk1 (shut_bool Try.underlying4 _), (trodAll_cons_mk (Below.trod (by kernel_rfl) (by kernel_rfl) (of_decide_eq_true (by kernel_rfl)) k0 bel (fun x hx => by cases hx)) (trodAll_cons_mk (Below.trod (by kernel_rfl) (by kernel_rfl) (of_decide_eq_true (by kernel_rfl)) k1 bel (fun x hx => by cases hx)) (trodAll_cons_mk (shut_int Try.underlying2 w2) (trodAll_cons_mk (shut_int Try.underlying3 w3) trodAll_mk0)))), rfl, bel.frame _, fun h => by cases h⟩
theorem over : Rows.tallyReckonsRow.holds Try.pinned (OpenSpec.ofChange Rows.tallyReckonsSpec) :=
  OpenClaim.holds_of_wide 8 Try.f8 rfl rfl rfl rfl rfl rfl rfl ⟨rfl, rfl, rfl, rfl, rfl⟩ rfl rfl rfl rfl rfl (by kernel_rfl) Try.func8 (by kernel_rfl)
    (of_decide_eq_true (by kernel_rfl)) (by unfold Func.isWrapper; first | (rw [if_pos (by decide +kernel)]; kernel_rfl) | (rw [if_neg (by decide +kernel)]; exact ⟨rfl, rfl⟩))
    (fun os started H enc _ => lifted os started H enc)
theorem proved : Rows.TallyReckonsSaid := over
#print axioms proved
end Go.Proofs.Ytbbldcbilnkkdaa.tallyReckons
