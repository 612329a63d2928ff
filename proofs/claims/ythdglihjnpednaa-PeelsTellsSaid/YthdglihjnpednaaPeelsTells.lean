/-
  PeelsTells: what is told of every state is what the document says. No condition.
-/
import Derived.Test.YthdglihjnpednaaRows
import Derived.Test.YthdglihjnpednaaK
import Derived.ShutString
import Derived.ChangeOld
import Derived.SizedLaws
set_option linter.unusedVariables false
set_option linter.unusedSimpArgs false
namespace Go.Proofs.Ythdglihjnpednaa.peelsTells
open Go.ChangeShapes Go.WideShapes Go.ChangeAt Go.RowKit
open Go.ChangeMaps (open_string shut_string)

def st (s0 s1 s2 s3 s4 s5 s6 s7 : Int) : Array Value := #[.int .u64 s0, .int .u64 s1, .int .u64 s2, .int .u64 s3, .int .u64 s4, .int .u64 s5, .int .u64 s6, .int .u64 s7]
theorem inSet (s0 s1 s2 s3 s4 s5 s6 s7 : Int) (w : World) :
    Calls Try.prog 16 #[.agg (st s0 s1 s2 s3 s4 s5 s6 s7)] w fun e w' => e = .returned (.bool (s0 == 1)) ∧ Below w.heap.size w w' := by
  unfold st
  go_enter Try.func16, Try.ntmps16
  go_wp2
  go_ret
  exact ⟨rfl, (Below.refl _ _).alloc (Nat.le_refl _) _⟩
theorem colourOf (s0 s1 s2 s3 s4 s5 s6 s7 : Int) (h0 : 0 ≤ s0) (w : World) :
    Calls Try.prog 17 #[.agg (st s0 s1 s2 s3 s4 s5 s6 s7)] w fun e w' => e = .returned (.int .i64 (s0 % 64)) ∧ Below w.heap.size w w' := by
  unfold st
  go_enter Try.func17, Try.ntmps17
  go_wp2
  go_ret
  exact ⟨rfl, (Below.refl _ _).alloc (Nat.le_refl _) _⟩
theorem coreOf (s0 s1 s2 s3 s4 s5 s6 s7 : Int) (w : World) :
    Calls Try.prog 18 #[.agg (st s0 s1 s2 s3 s4 s5 s6 s7)] w fun e w' => e = .returned (.int .u64 s0) ∧ Below w.heap.size w w' := by
  unfold st
  go_enter Try.func18, Try.ntmps18
  go_wp2
  go_ret
  exact ⟨rfl, (Below.refl _ _).alloc (Nat.le_refl _) _⟩
theorem wrapped (s : Int) (h0 : 0 ≤ s) : (s % 64 == IntKind.i64.wrap (s.tmod 64)) = true := by
  have h : IntKind.i64.wrap (s.tmod 64) = s % 64 := by
    rw [Int.tmod_eq_emod_of_nonneg h0]
    exact IntWalk.i64_in _ (by omega)
  rw [h]; simp
theorem walk (s0 s1 s2 s3 s4 s5 s6 s7 : Int) (h0 : 0 ≤ s0) (w : World) :
    Calls Try.prog 6 #[.agg (st s0 s1 s2 s3 s4 s5 s6 s7)] w fun e w' => e = .returned (.bool true) ∧ Below w.heap.size w w' := by
  have hg := wrapped s0 h0
  unfold st
  go_enter Try.func6, Try.ntmps6
  go_wp2
  generalize hw1 : w.alloc _ = w1
  have hsz : w1.heap.size = w.heap.size + 1 := by rw [← hw1]; exact Array.size_push _
  have hblk : w1.heap[w.heap.size]? = some (Obj.cells (st s0 s1 s2 s3 s4 s5 s6 s7) 27) := by rw [← hw1]; exact heap_alloc_new w _
  have hb1 : Below w.heap.size w w1 := by rw [← hw1]; exact (Below.refl _ _).alloc (Nat.le_refl _) _
  clear hw1
  refine K.region_quiet (C := fun w' => Below w1.heap.size w1 w') (by kernel_rfl) (by kernel_rfl) (K.below_draw w1) ?_
  have HC : Hid (∀ w', Below w1.heap.size w1 w' → ∀ o, w'.cell? ⟨w.heap.size, o, none⟩ = (st s0 s1 s2 s3 s4 s5 s6 s7)[o]?) := fun w' h o => K.row_below h (by omega) hblk o
  clear hblk
  unfold st at HC
  iterate 30 (first
    | (refine wpQuiet_step (fun KK hKK => ?_)
       first
         | (refine K.quiet_else ?_ (K.Puts.mk' _) ?_
            (first | rfl | (simp [Region.wanted, yielded]; done))
            refine hKK _ ?_)
         | (refine K.quiet_if ?_ ?_
            (first | rfl | (simp [Region.wanted, yielded]; done))
            first
              | (apply K.quiet_val
                 · intro w' hw'; have hx := HC.out w' hw'; go_simp; exact K.Gives.mk' _ _
                 · go_simp; exact K.Puts.mk' _)
              | (apply K.quiet_call
                 · intro w' hw'; have hx := HC.out w' hw'; go_simp; exact K.Enters.mk' _ _ _
                 · intro w' hw'; have hx := HC.out w' hw'; first
                   | exact K.calls_below hw' hw'.size (inSet _ _ _ _ _ _ _ _ _)
                   | exact K.calls_below hw' hw'.size (colourOf _ _ _ _ _ _ _ _ h0 _)
                   | exact K.calls_below hw' hw'.size (coreOf _ _ _ _ _ _ _ _ _)
                 · go_simp; exact K.Puts.mk' _)
            refine hKK _ ?_)
       clear hKK KK)
    | skip)
  refine wpQuiet_nil ?_
  intro w2 hb2
  go_wp2
  go_ret
  exact ⟨rfl, hb1.trans (hb2.mono (by omega))⟩

theorem own : ownKnob Try.prog.godebug = none := by kernel_rfl
set_option maxRecDepth 100000 in
theorem lifted (os : Os) (started : os.Started) (H : Type) (enc : TypeId × Value → H) :
    ReturnsInHanded {} Try.checked os 6 .any (Rows.peelsTellsSpec.pre6 enc Try.prog Try.f6 Rows.peelsTellsRow.domain false) (Rows.peelsTellsSpec.post enc Try.prog Try.f6 false true false false) := by
  refine returnsInHanded_of_change_sized (C := Try.checked) own started (by kernel_rfl) Try.func6
    (ChangeSpec.witness6 (enc := enc) (C := Try.checked) false ⟨#[], #[.agg #[.int .u64 0, .int .u64 0, .int .u64 0, .int .u64 0, .int .u64 0, .int .u64 0, .int .u64 0, .int .u64 0]], []⟩ 8 (by kernel_rfl) (by kernel_rfl) (by kernel_rfl) (by kernel_rfl)) ?_
  intro W base args ds gs before hval0 hW hcnd hsz0 _
  have hsz : (DataW.weightsEach Try.prog (Try.f6.params.toList ++ Rows.peelsTellsSpec.plain.varTypes Try.prog) (ds ++ gs)).all (· ≤ reachBytes) = true := hsz0
  have hval : ∀ (j : Nat) t v, Try.f6.params[j]? = some t → args[j]? = some v → Value.okWide Try.prog W .any base t v := hval0
  have hW' := hW
  obtain ⟨p, q, hA0, hV, rfl, hfz, hnd⟩ := hW
  have hA : DataW.TrodAll enc Try.prog W 0 (fun _ => true) true Try.f6.params.toList args.toList ds p := hA0
  rw [Try.params6] at hA hval hsz
  obtain ⟨v0, vs0, d0, ds0, p0, q0, hargs, rfl, rfl, h0, r0⟩ := trodAll_cons hA
  obtain ⟨rfl, rfl, rfl⟩ := trodAll_nil r0
  obtain rfl : args = #[v0] := by cases args; simp_all
  obtain ⟨rfl, rfl⟩ := trodVars_none hV
  have k0 := h0
  obtain ⟨z0, l0, rfl, w0, rfl⟩ := K.open_array Try.underlying27 Try.underlying25 (by kernel_rfl) (by kernel_rfl) (hval 0 27 v0 rfl rfl) h0
  obtain ⟨a, b, c, d, e, f, g, i, rfl⟩ := K.len8 l0
  refine (walk _ _ _ _ _ _ _ _ (K.u64_of (w0 a (by simp))).1 W).mono fun e W' ⟨he, bel⟩ => ?_
  subst he
  exact ⟨_, rfl, _, _, _, [], _, [], hW', trodAll_mk1 (shut_bool Try.underlying4 _), (trodAll_cons_mk (Below.trod (by kernel_rfl) (by kernel_rfl) (of_decide_eq_true (by kernel_rfl)) k0 bel (fun x hx => by cases hx)) trodAll_mk0), rfl, bel.frame _, fun h => by cases h⟩
theorem over : Rows.peelsTellsRow.holds Try.pinned (OpenSpec.ofChange Rows.peelsTellsSpec) :=
  OpenClaim.holds_of_wide 6 Try.f6 rfl rfl rfl rfl rfl rfl rfl ⟨rfl, rfl, rfl, rfl, rfl⟩ rfl rfl rfl rfl rfl (by kernel_rfl) Try.func6 (by kernel_rfl)
    (of_decide_eq_true (by kernel_rfl)) (by unfold Func.isWrapper; first | (rw [if_pos (by decide +kernel)]; kernel_rfl) | (rw [if_neg (by decide +kernel)]; exact ⟨rfl, rfl⟩))
    (fun os started H enc _ => lifted os started H enc)
theorem proved : Rows.PeelsTellsSaid := over
#print axioms proved
end Go.Proofs.Ythdglihjnpednaa.peelsTells
