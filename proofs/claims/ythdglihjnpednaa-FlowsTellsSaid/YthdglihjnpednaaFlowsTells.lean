/-
  FlowsTells: what is told of every state (levels, labels, distances) is what the document says. No condition.
-/
import Derived.Test.YthdglihjnpednaaRows
import Derived.Test.YthdglihjnpednaaK
import Derived.ShutString
import Derived.ChangeOld
import Derived.SizedLaws
set_option linter.unusedVariables false
set_option linter.unusedSimpArgs false
namespace Go.Proofs.Ythdglihjnpednaa.flowsTells
open Go.ChangeShapes Go.WideShapes Go.ChangeAt Go.RowKit
open Go.ChangeMaps (open_string shut_string)

section
variable (s0 s1 s2 s3 s4 s5 s6 s7 : Int)
theorem vertexLow (x : Int) (h0 : 0 ≤ x) (h : x ≤ 4294967295) (w : World) :
    Calls Try.prog 49 #[.int .u64 x] w fun e w' => e = .returned (.tuple #[.int .u32 x, .bool true]) ∧ Below w.heap.size w w' := by
  go_enter Try.func49, Try.ntmps49
  go_wp2
  go_ret2
  exact ⟨rfl, Below.refl _ _⟩
theorem vertexHigh (x : Int) (h : 4294967295 < x) (w : World) :
    Calls Try.prog 49 #[.int .u64 x] w fun e w' => e = .returned (.tuple #[.int .u32 0, .bool false]) ∧ Below w.heap.size w w' := by
  go_enter Try.func49, Try.ntmps49
  go_wp2
  go_ret2
  exact ⟨rfl, Below.refl _ _⟩
theorem hopsYes (h1 : 0 ≤ s1) (h : s1 ≤ 4294967295) (h0 : (s0 == 18446744073709551615) = false) (w : World) :
    Calls Try.prog 19 #[.agg #[.int .u64 s0, .int .u64 s1, .int .u64 s2, .int .u64 s3, .int .u64 s4, .int .u64 s5, .int .u64 s6, .int .u64 s7]] w fun e w' => e = .returned (.tuple #[.int .u64 s0, .int .u32 s1, .bool true]) ∧ Below w.heap.size w w' := by
  go_enter Try.func19, Try.ntmps19
  go_wp2
  go_ret3
  exact ⟨rfl, (Below.refl _ _).alloc (Nat.le_refl _) _⟩
theorem hopsNo (h1 : 4294967295 < s1) (w : World) :
    Calls Try.prog 19 #[.agg #[.int .u64 s0, .int .u64 s1, .int .u64 s2, .int .u64 s3, .int .u64 s4, .int .u64 s5, .int .u64 s6, .int .u64 s7]] w fun e w' => e = .returned (.tuple #[.int .u64 0, .int .u32 0, .bool false]) ∧ Below w.heap.size w w' := by
  go_enter Try.func19, Try.ntmps19
  go_wp2
  go_ret3
  exact ⟨rfl, (Below.refl _ _).alloc (Nat.le_refl _) _⟩
theorem hopsNot (h1 : 0 ≤ s1) (h : s1 ≤ 4294967295) (h0 : (s0 == 18446744073709551615) = true) (w : World) :
    Calls Try.prog 19 #[.agg #[.int .u64 s0, .int .u64 s1, .int .u64 s2, .int .u64 s3, .int .u64 s4, .int .u64 s5, .int .u64 s6, .int .u64 s7]] w fun e w' => e = .returned (.tuple #[.int .u64 0, .int .u32 0, .bool false]) ∧ Below w.heap.size w w' := by
  go_enter Try.func19, Try.ntmps19
  go_wp2
  go_ret3
  exact ⟨rfl, (Below.refl _ _).alloc (Nat.le_refl _) _⟩
theorem labelYes (h1 : 0 ≤ s0) (h : s0 ≤ 4294967295) (w : World) :
    Calls Try.prog 20 #[.agg #[.int .u64 s0, .int .u64 s1, .int .u64 s2, .int .u64 s3, .int .u64 s4, .int .u64 s5, .int .u64 s6, .int .u64 s7]] w fun e w' => e = .returned (.tuple #[.int .u32 s0, .bool true]) ∧ Below w.heap.size w w' := by
  go_enter Try.func20, Try.ntmps20
  go_wp2
  go_ret2
  exact ⟨rfl, (Below.refl _ _).alloc (Nat.le_refl _) _⟩
theorem labelNo (h : 4294967295 < s0) (w : World) :
    Calls Try.prog 20 #[.agg #[.int .u64 s0, .int .u64 s1, .int .u64 s2, .int .u64 s3, .int .u64 s4, .int .u64 s5, .int .u64 s6, .int .u64 s7]] w fun e w' => e = .returned (.tuple #[.int .u32 0, .bool false]) ∧ Below w.heap.size w w' := by
  go_enter Try.func20, Try.ntmps20
  go_wp2
  go_ret2
  exact ⟨rfl, (Below.refl _ _).alloc (Nat.le_refl _) _⟩
theorem distYes (h1 : (s1 == 0) = true) (h : (s0 == 9223372036854775807) = false) (w : World) :
    Calls Try.prog 21 #[.agg #[.int .u64 s0, .int .u64 s1, .int .u64 s2, .int .u64 s3, .int .u64 s4, .int .u64 s5, .int .u64 s6, .int .u64 s7]] w fun e w' => e = .returned (.tuple #[.int .i64 (wrap64 s0), .bool true]) ∧ Below w.heap.size w w' := by
  have h2 : (s1 != 0) = false := by simp [bne, h1]
  go_enter Try.func21, Try.ntmps21
  go_wp2
  go_ret2
  exact ⟨rfl, (Below.refl _ _).alloc (Nat.le_refl _) _⟩
theorem distNo (h1 : (s1 == 0) = false) (w : World) :
    Calls Try.prog 21 #[.agg #[.int .u64 s0, .int .u64 s1, .int .u64 s2, .int .u64 s3, .int .u64 s4, .int .u64 s5, .int .u64 s6, .int .u64 s7]] w fun e w' => e = .returned (.tuple #[.int .i64 0, .bool false]) ∧ Below w.heap.size w w' := by
  have h2 : (s1 != 0) = true := by simp [bne, h1]
  go_enter Try.func21, Try.ntmps21
  go_wp2
  go_ret2
  exact ⟨rfl, (Below.refl _ _).alloc (Nat.le_refl _) _⟩
theorem distNot (h1 : (s1 == 0) = true) (h : (s0 == 9223372036854775807) = true) (w : World) :
    Calls Try.prog 21 #[.agg #[.int .u64 s0, .int .u64 s1, .int .u64 s2, .int .u64 s3, .int .u64 s4, .int .u64 s5, .int .u64 s6, .int .u64 s7]] w fun e w' => e = .returned (.tuple #[.int .i64 0, .bool false]) ∧ Below w.heap.size w w' := by
  have h2 : (s1 != 0) = false := by simp [bne, h1]
  go_enter Try.func21, Try.ntmps21
  go_wp2
  go_ret2
  exact ⟨rfl, (Below.refl _ _).alloc (Nat.le_refl _) _⟩
theorem negative  (w : World) :
    Calls Try.prog 22 #[.agg #[.int .u64 s0, .int .u64 s1, .int .u64 s2, .int .u64 s3, .int .u64 s4, .int .u64 s5, .int .u64 s6, .int .u64 s7]] w fun e w' => e = .returned (.bool (s1 == 1)) ∧ Below w.heap.size w w' := by
  go_enter Try.func22, Try.ntmps22
  go_wp2
  go_ret
  exact ⟨rfl, (Below.refl _ _).alloc (Nat.le_refl _) _⟩

set_option maxHeartbeats 8000000 in
theorem walk (b0 : 0 ≤ s0) (b1 : 0 ≤ s1) (w : World) :
    Calls Try.prog 7 #[.agg #[.int .u64 s0, .int .u64 s1, .int .u64 s2, .int .u64 s3, .int .u64 s4, .int .u64 s5, .int .u64 s6, .int .u64 s7]] w fun e w' => e = .returned (.bool true) ∧ Below w.heap.size w w' := by
  have hA : ∃ (h : Bool) (x y : Int), (∀ w, Calls Try.prog 19 #[.agg #[.int .u64 s0, .int .u64 s1, .int .u64 s2, .int .u64 s3, .int .u64 s4, .int .u64 s5, .int .u64 s6, .int .u64 s7]] w fun e w' => e = .returned (.tuple #[.int .u64 x, .int .u32 y, .bool h]) ∧ Below w.heap.size w w') ∧
      ((h = true ∧ (s0 == 18446744073709551615) = false ∧ s1 ≤ 4294967295 ∧ s0 = x ∧ s1 = y) ∨ (h = false ∧ 0 = x ∧ 0 = y ∧ ((s0 == 18446744073709551615) = true ∨ (s0 == 18446744073709551615) = false ∧ 4294967295 < s1))) := by
    by_cases h : s1 ≤ 4294967295
    · cases h0 : (s0 == 18446744073709551615) with
      | false => exact ⟨true, s0, s1, fun w => hopsYes s0 s1 s2 s3 s4 s5 s6 s7 b1 h h0 w, .inl ⟨rfl, rfl, h, rfl, rfl⟩⟩
      | true => exact ⟨false, 0, 0, fun w => hopsNot s0 s1 s2 s3 s4 s5 s6 s7 b1 h h0 w, .inr ⟨rfl, rfl, rfl, .inl rfl⟩⟩
    · refine ⟨false, 0, 0, fun w => hopsNo s0 s1 s2 s3 s4 s5 s6 s7 (by omega) w, .inr ⟨rfl, rfl, rfl, ?_⟩⟩
      cases h0 : (s0 == 18446744073709551615) with
      | false => exact .inr ⟨rfl, by omega⟩
      | true => exact .inl rfl
  have hB : ∃ (h : Bool) (x : Int), (∀ w, Calls Try.prog 20 #[.agg #[.int .u64 s0, .int .u64 s1, .int .u64 s2, .int .u64 s3, .int .u64 s4, .int .u64 s5, .int .u64 s6, .int .u64 s7]] w fun e w' => e = .returned (.tuple #[.int .u32 x, .bool h]) ∧ Below w.heap.size w w') ∧
      ((h = true ∧ s0 ≤ 4294967295 ∧ s0 = x) ∨ (h = false ∧ 0 = x ∧ 4294967295 < s0)) := by
    by_cases h : s0 ≤ 4294967295
    · exact ⟨true, s0, fun w => labelYes s0 s1 s2 s3 s4 s5 s6 s7 b0 h w, .inl ⟨rfl, h, rfl⟩⟩
    · exact ⟨false, 0, fun w => labelNo s0 s1 s2 s3 s4 s5 s6 s7 (by omega) w, .inr ⟨rfl, rfl, by omega⟩⟩
  have hC : ∃ (h : Bool) (x : Int), (∀ w, Calls Try.prog 21 #[.agg #[.int .u64 s0, .int .u64 s1, .int .u64 s2, .int .u64 s3, .int .u64 s4, .int .u64 s5, .int .u64 s6, .int .u64 s7]] w fun e w' => e = .returned (.tuple #[.int .i64 x, .bool h]) ∧ Below w.heap.size w w') ∧
      ((h = true ∧ (s1 == 0) = true ∧ (s0 == 9223372036854775807) = false ∧ wrap64 s0 = x) ∨ (h = false ∧ 0 = x ∧ ((s1 == 0) = false ∨ (s1 == 0) = true ∧ (s0 == 9223372036854775807) = true))) := by
    cases h : (s1 == 0) with
    | false => exact ⟨false, 0, fun w => distNo s0 s1 s2 s3 s4 s5 s6 s7 h w, .inr ⟨rfl, rfl, .inl rfl⟩⟩
    | true =>
      cases h0 : (s0 == 9223372036854775807) with
      | false => exact ⟨true, _, fun w => distYes s0 s1 s2 s3 s4 s5 s6 s7 h h0 w, .inl ⟨rfl, rfl, rfl, rfl⟩⟩
      | true => exact ⟨false, 0, fun w => distNot s0 s1 s2 s3 s4 s5 s6 s7 h h0 w, .inr ⟨rfl, rfl, .inr ⟨rfl, rfl⟩⟩⟩
  obtain ⟨ha, xa, ya, cA, eA⟩ := hA
  obtain ⟨hb, xb, cB, eB⟩ := hB
  obtain ⟨hc, xc, cC, eC⟩ := hC
  have CA := Lib.hid cA; clear cA
  have CB := Lib.hid cB; clear cB
  have CC := Lib.hid cC; clear cC
  rcases eA with ⟨rfl, a1, a2, rfl, rfl⟩ | ⟨rfl, rfl, rfl, a1 | ⟨a1, a2⟩⟩ <;> rcases eB with ⟨rfl, e1, rfl⟩ | ⟨rfl, rfl, e1⟩ <;> rcases eC with ⟨rfl, f1, f2, rfl⟩ | ⟨rfl, rfl, f1 | ⟨f1, f2⟩⟩
  all_goals
    have n1 : (s0 != 18446744073709551615) = !(s0 == 18446744073709551615) := rfl
    have n2 : (s0 != 9223372036854775807) = !(s0 == 9223372036854775807) := rfl
    simp only [a1] at n1
    try (have ew : wrap64 s0 = s0 := (by unfold wrap64; omega))
    try simp only [f1, f2, Bool.not_true, Bool.not_false] at n2
    try simp only [Bool.not_true, Bool.not_false] at n1
    go_enter Try.func7, Try.ntmps7
    go_wp2_with fail
    refine (CA.out _).mono ?_
    rintro e w1 ⟨rfl, hw1⟩
    have hx1 : ∀ o, w1.cell? ⟨w.heap.size, o, none⟩ = (#[.int .u64 s0, .int .u64 s1, .int .u64 s2, .int .u64 s3, .int .u64 s4, .int .u64 s5, .int .u64 s6, .int .u64 s7] : Array Value)[o]? := fun o => K.row_below hw1 (by simp) (heap_alloc_new w _) o
    have hs1 : w.heap.size < w1.heap.size := by have := hw1.size; simp at this; omega
    have hl1 : Below w.heap.size w w1 := ((Below.refl _ _).alloc (Nat.le_refl _) _).trans (hw1.mono (by simp))
    clear hw1
    go_wp2_with fail
    refine (CB.out _).mono ?_
    rintro e w2 ⟨rfl, hw2⟩
    have hx2 : ∀ o, w2.cell? ⟨w.heap.size, o, none⟩ = (#[.int .u64 s0, .int .u64 s1, .int .u64 s2, .int .u64 s3, .int .u64 s4, .int .u64 s5, .int .u64 s6, .int .u64 s7] : Array Value)[o]? := fun o => (K.below_cell hw2 hs1 o).trans (hx1 o)
    have hs2 : w.heap.size < w2.heap.size := Nat.lt_of_lt_of_le hs1 hw2.size
    have hl2 : Below w.heap.size w w2 := hl1.trans (hw2.mono (by omega))
    clear hw2 hx1 hs1 hl1
    go_wp2_with fail
    refine (CC.out _).mono ?_
    rintro e w3 ⟨rfl, hw3⟩
    have hx3 : ∀ o, w3.cell? ⟨w.heap.size, o, none⟩ = (#[.int .u64 s0, .int .u64 s1, .int .u64 s2, .int .u64 s3, .int .u64 s4, .int .u64 s5, .int .u64 s6, .int .u64 s7] : Array Value)[o]? := fun o => (K.below_cell hw3 hs2 o).trans (hx2 o)
    have hs3 : w.heap.size < w3.heap.size := Nat.lt_of_lt_of_le hs2 hw3.size
    have hl3 : Below w.heap.size w w3 := hl2.trans (hw3.mono (by omega))
    clear hw3 hx2 hs2 hl2
    go_wp2_with fail
    refine K.region_quiet (C := fun w' => Below w3.heap.size w3 w') (by kernel_rfl) (by kernel_rfl) (K.below_draw w3) ?_
    have HC : Hid (∀ w', Below w3.heap.size w3 w' → ∀ o, w'.cell? ⟨w.heap.size, o, none⟩ = (#[.int .u64 s0, .int .u64 s1, .int .u64 s2, .int .u64 s3, .int .u64 s4, .int .u64 s5, .int .u64 s6, .int .u64 s7] : Array Value)[o]?) := fun w' h o => (K.below_cell h hs3 o).trans (hx3 o)
    clear hx3
    iterate 8 (first
      | (refine wpQuiet_step (fun KK hKK => ?_)
         first
           | (refine K.quiet_else ?_ (K.Puts.mk' _) ?_
              (first | rfl | (simp [Region.wanted, yielded]; done))
              refine hKK _ ?_)
           | (refine K.quiet_if ?_ ?_
              (first | rfl | (simp [Region.wanted, yielded]; done))
              first
                | (apply K.quiet_val
                   · intro w' hw'; have hx := HC.out w' hw'; go_simp; exact K.Gives.mk' _ _
                   · go_simp; exact K.Puts.mk' _)
                | (apply K.quiet_call
                   · intro w' hw'; have hx := HC.out w' hw'; go_simp; exact K.Enters.mk' _ _ _
                   · intro w' hw'; have hx := HC.out w' hw'; first
                     | exact K.calls_below hw' hw'.size (negative _ _ _ _ _ _ _ _ _)
                   · go_simp; exact K.Puts.mk' _)
              refine hKK _ ?_)
         clear hKK KK)
      | skip)
    refine wpQuiet_nil ?_
    intro w4 hb4
    go_wp2
    go_ret
    exact ⟨rfl, hl3.trans (hb4.mono (by omega))⟩
end

theorem own : ownKnob Try.prog.godebug = none := by kernel_rfl
set_option maxRecDepth 100000 in
theorem lifted (os : Os) (started : os.Started) (H : Type) (enc : TypeId × Value → H) :
    ReturnsInHanded {} Try.checked os 7 .any (Rows.flowsTellsSpec.pre6 enc Try.prog Try.f7 Rows.flowsTellsRow.domain false) (Rows.flowsTellsSpec.post enc Try.prog Try.f7 false true false false) := by
  refine returnsInHanded_of_change_sized (C := Try.checked) own started (by kernel_rfl) Try.func7
    (ChangeSpec.witness6 (enc := enc) (C := Try.checked) false ⟨#[], #[.agg #[.int .u64 0, .int .u64 0, .int .u64 0, .int .u64 0, .int .u64 0, .int .u64 0, .int .u64 0, .int .u64 0]], []⟩ 8 (by kernel_rfl) (by kernel_rfl) (by kernel_rfl) (by kernel_rfl)) ?_
  intro W base args ds gs before hval0 hW hcnd hsz0 _
  have hsz : (DataW.weightsEach Try.prog (Try.f7.params.toList ++ Rows.flowsTellsSpec.plain.varTypes Try.prog) (ds ++ gs)).all (· ≤ reachBytes) = true := hsz0
  have hval : ∀ (j : Nat) t v, Try.f7.params[j]? = some t → args[j]? = some v → Value.okWide Try.prog W .any base t v := hval0
  have hW' := hW
  obtain ⟨p, q, hA0, hV, rfl, hfz, hnd⟩ := hW
  have hA : DataW.TrodAll enc Try.prog W 0 (fun _ => true) true Try.f7.params.toList args.toList ds p := hA0
  rw [Try.params7] at hA hval hsz
  obtain ⟨v0, vs0, d0, ds0, p0, q0, hargs, rfl, rfl, h0, r0⟩ := trodAll_cons hA
  obtain ⟨rfl, rfl, rfl⟩ := trodAll_nil r0
  obtain rfl : args = #[v0] := by cases args; simp_all
  obtain ⟨rfl, rfl⟩ := trodVars_none hV
  have k0 := h0
  obtain ⟨z0, l0, rfl, w0, rfl⟩ := K.open_array Try.underlying27 Try.underlying25 (by kernel_rfl) (by kernel_rfl) (hval 0 27 v0 rfl rfl) h0
  obtain ⟨a, b, c, d, e, f, g, i, rfl⟩ := K.len8 l0
  refine (walk _ _ _ _ _ _ _ _ (K.u64_of (w0 a (by simp))).1 (K.u64_of (w0 b (by simp))).1 W).mono fun e W' ⟨he, bel⟩ => ?_
  subst he
  exact ⟨_, rfl, _, _, _, [], _, [], hW', trodAll_mk1 (shut_bool Try.underlying4 _), (trodAll_cons_mk (Below.trod (by kernel_rfl) (by kernel_rfl) (of_decide_eq_true (by kernel_rfl)) k0 bel (fun x hx => by cases hx)) trodAll_mk0), rfl, bel.frame _, fun h => by cases h⟩
theorem over : Rows.flowsTellsRow.holds Try.pinned (OpenSpec.ofChange Rows.flowsTellsSpec) :=
  OpenClaim.holds_of_wide 7 Try.f7 rfl rfl rfl rfl rfl rfl rfl ⟨rfl, rfl, rfl, rfl, rfl⟩ rfl rfl rfl rfl rfl (by kernel_rfl) Try.func7 (by kernel_rfl)
    (of_decide_eq_true (by kernel_rfl)) (by unfold Func.isWrapper; first | (rw [if_pos (by decide +kernel)]; kernel_rfl) | (rw [if_neg (by decide +kernel)]; exact ⟨rfl, rfl⟩))
    (fun os started H enc _ => lifted os started H enc)
theorem proved : Rows.FlowsTellsSaid := over
#print axioms proved
end Go.Proofs.Ythdglihjnpednaa.flowsTells
