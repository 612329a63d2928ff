/-
  FlowsNil: what is asked of no program: nothing, or ErrNil. No condition.
-/
import Derived.Test.YthdglihjnpednaaRows
import Derived.Test.YthdglihjnpednaaK
import Derived.Test.YthdglihjnpednaaKe
import Derived.ShutString
import Derived.ChangeOld
import Derived.SizedLaws
set_option linter.unusedVariables false
set_option linter.unusedSimpArgs false
namespace Go.Proofs.Ythdglihjnpednaa.flowsNil
open Go.ChangeShapes Go.WideShapes Go.ChangeAt Go.RowKit
open Go.ChangeMaps (open_string shut_string)

theorem alloc_cell {w : World} {O : Obj} {b : Nat} (h : b < w.heap.size) (o : Nat) : (w.alloc O).cell? ⟨b, o, none⟩ = w.cell? ⟨b, o, none⟩ := World.cell?_alloc_lt w O ⟨b, o, none⟩ h
theorem start (v : Int) (w : World) :
    Calls Try.prog 37 #[.pointer none, (.int .u32 v), .agg #[.int .u64 0, .int .u64 0]] w fun e w' => e = .returned (.tuple #[.agg #[.int .u64 0, .int .u64 0, .int .u64 0, .int .u64 0, .int .u64 0, .int .u64 0, .int .u64 0, .int .u64 0], .int .i64 1]) ∧ Below w.heap.size w w' := by
  go_enter Try.func37, Try.ntmps37
  go_wp2
  refine bodyPost_ret (v := .tuple #[.agg #[.int .u64 0, .int .u64 0, .int .u64 0, .int .u64 0, .int .u64 0, .int .u64 0, .int .u64 0, .int .u64 0], .int .i64 1]) (by simp [results, Try.results37, go_sem]) rfl ⟨rfl, ?_⟩
  repeat (first | exact Below.refl _ _ | refine Below.alloc ?_ (by first | omega | (simp <;> omega)) _)
theorem scatter (s0 s1 s2 s3 s4 s5 s6 s7 c0 c1 c2 c3 x0 x1 x2 : Int) (w : World) :
    Calls Try.prog 38 #[.pointer none, .agg #[.int .u64 c0, .int .u64 c1, .int .u64 c2, .int .u64 c3], .agg #[.int .u64 s0, .int .u64 s1, .int .u64 s2, .int .u64 s3, .int .u64 s4, .int .u64 s5, .int .u64 s6, .int .u64 s7], .agg #[.int .u32 x0, .int .u32 x1, .int .u32 x2], .bool true] w fun e w' => e = .returned (.tuple #[.int .u64 0, .int .u64 0, .bool false, .int .i64 1]) ∧ Below w.heap.size w w' := by
  go_enter Try.func38, Try.ntmps38
  go_wp2
  refine bodyPost_ret (v := .tuple #[.int .u64 0, .int .u64 0, .bool false, .int .i64 1]) (by simp [results, Try.results38, go_sem]) rfl ⟨rfl, ?_⟩
  repeat (first | exact Below.refl _ _ | refine Below.alloc ?_ (by first | omega | (simp <;> omega)) _)
theorem apply (s0 s1 s2 s3 s4 s5 s6 s7 c0 c1 c2 c3 v : Int) (w : World) :
    Calls Try.prog 39 #[.pointer none, .agg #[.int .u64 c0, .int .u64 c1, .int .u64 c2, .int .u64 c3], .agg #[.int .u64 s0, .int .u64 s1, .int .u64 s2, .int .u64 s3, .int .u64 s4, .int .u64 s5, .int .u64 s6, .int .u64 s7], (.int .u32 v), .agg #[.int .u64 s0, .int .u64 s1, .int .u64 s2, .int .u64 s3, .int .u64 s4, .int .u64 s5, .int .u64 s6, .int .u64 s7]] w fun e w' => e = .returned (.tuple #[.agg #[.int .u64 0, .int .u64 0, .int .u64 0, .int .u64 0, .int .u64 0, .int .u64 0, .int .u64 0, .int .u64 0], .bool false, .int .i64 1]) ∧ Below w.heap.size w w' := by
  go_enter Try.func39, Try.ntmps39
  go_wp2
  refine bodyPost_ret (v := .tuple #[.agg #[.int .u64 0, .int .u64 0, .int .u64 0, .int .u64 0, .int .u64 0, .int .u64 0, .int .u64 0, .int .u64 0], .bool false, .int .i64 1]) (by simp [results, Try.results39, go_sem]) rfl ⟨rfl, ?_⟩
  repeat (first | exact Below.refl _ _ | refine Below.alloc ?_ (by first | omega | (simp <;> omega)) _)
theorem fold (s0 s1 s2 s3 s4 s5 s6 s7 c0 c1 c2 c3 v : Int) (w : World) :
    Calls Try.prog 40 #[.pointer none, .agg #[.int .u64 c0, .int .u64 c1, .int .u64 c2, .int .u64 c3], .agg #[.int .u64 s0, .int .u64 s1, .int .u64 s2, .int .u64 s3, .int .u64 s4, .int .u64 s5, .int .u64 s6, .int .u64 s7], (.int .u32 v), .agg #[.int .u64 s0, .int .u64 s1, .int .u64 s2, .int .u64 s3, .int .u64 s4, .int .u64 s5, .int .u64 s6, .int .u64 s7]] w fun e w' => e = .returned (.tuple #[.agg #[.int .u64 0, .int .u64 0, .int .u64 0, .int .u64 0, .int .u64 0, .int .u64 0, .int .u64 0, .int .u64 0], .int .i64 1]) ∧ Below w.heap.size w w' := by
  go_enter Try.func40, Try.ntmps40
  go_wp2
  refine bodyPost_ret (v := .tuple #[.agg #[.int .u64 0, .int .u64 0, .int .u64 0, .int .u64 0, .int .u64 0, .int .u64 0, .int .u64 0, .int .u64 0], .int .i64 1]) (by simp [results, Try.results40, go_sem]) rfl ⟨rfl, ?_⟩
  repeat (first | exact Below.refl _ _ | refine Below.alloc ?_ (by first | omega | (simp <;> omega)) _)
theorem turn (s0 s1 s2 s3 s4 s5 s6 s7 c0 c1 c2 c3 : Int) (w : World) :
    Calls Try.prog 41 #[.pointer none, .agg #[.int .u64 c0, .int .u64 c1, .int .u64 c2, .int .u64 c3], .agg #[.int .u64 s0, .int .u64 s1, .int .u64 s2, .int .u64 s3, .int .u64 s4, .int .u64 s5, .int .u64 s6, .int .u64 s7], .int .u64 1, .int .i64 1] w fun e w' => e = .returned (.tuple #[.agg #[.int .u64 0, .int .u64 0, .int .u64 0, .int .u64 0], .bool false, .int .i64 1]) ∧ Below w.heap.size w w' := by
  go_enter Try.func41, Try.ntmps41
  go_wp2
  refine bodyPost_ret (v := .tuple #[.agg #[.int .u64 0, .int .u64 0, .int .u64 0, .int .u64 0], .bool false, .int .i64 1]) (by simp [results, Try.results41, go_sem]) rfl ⟨rfl, ?_⟩
  repeat (first | exact Below.refl _ _ | refine Below.alloc ?_ (by first | omega | (simp <;> omega)) _)
theorem words (w : World) :
    Calls Try.prog 42 #[.pointer none] w fun e w' => e = .returned (.int .i64 0) ∧ Below w.heap.size w w' := by
  go_enter Try.func42, Try.ntmps42
  go_wp2
  refine bodyPost_ret (v := .int .i64 0) (by simp [results, Try.results42, go_sem]) rfl ⟨rfl, ?_⟩
  repeat (first | exact Below.refl _ _ | refine Below.alloc ?_ (by first | omega | (simp <;> omega)) _)
theorem both (w : World) :
    Calls Try.prog 43 #[.pointer none] w fun e w' => e = .returned (.bool false) ∧ Below w.heap.size w w' := by
  go_enter Try.func43, Try.ntmps43
  go_wp2
  refine bodyPost_ret (v := .bool false) (by simp [results, Try.results43, go_sem]) rfl ⟨rfl, ?_⟩
  repeat (first | exact Below.refl _ _ | refine Below.alloc ?_ (by first | omega | (simp <;> omega)) _)
theorem sink (w : World) :
    Calls Try.prog 44 #[.pointer none] w fun e w' => e = .returned (.agg #[.int .i64 0, .int .i64 0, .int .i64 0, .int .i64 0]) ∧ Below w.heap.size w w' := by
  go_enter Try.func44, Try.ntmps44
  go_wp2
  refine bodyPost_ret (v := .agg #[.int .i64 0, .int .i64 0, .int .i64 0, .int .i64 0]) (by simp [results, Try.results44, go_sem]) rfl ⟨rfl, ?_⟩
  repeat (first | exact Below.refl _ _ | refine Below.alloc ?_ (by first | omega | (simp <;> omega)) _)

set_option maxRecDepth 100000 in
set_option maxHeartbeats 2000000 in
theorem walk (s0 s1 s2 s3 s4 s5 s6 s7 c0 c1 c2 c3 x0 x1 x2 v : Int) (w : World) :
    Calls Try.prog 11 #[.agg #[.int .u64 s0, .int .u64 s1, .int .u64 s2, .int .u64 s3, .int .u64 s4, .int .u64 s5, .int .u64 s6, .int .u64 s7], .agg #[.int .u64 c0, .int .u64 c1, .int .u64 c2, .int .u64 c3], .agg #[.int .u32 x0, .int .u32 x1, .int .u32 x2], .int .u32 v] w
      fun e w' => e = .returned (.bool true) ∧ Below w.heap.size w w' := by
  have q8 : ∀ w : World, (binOp .eql 27 (.agg #[.int .u64 0, .int .u64 0, .int .u64 0, .int .u64 0, .int .u64 0, .int .u64 0, .int .u64 0, .int .u64 0]) (.agg #[.int .u64 0, .int .u64 0, .int .u64 0, .int .u64 0, .int .u64 0, .int .u64 0, .int .u64 0, .int .u64 0])).run Try.prog w = .ok (.bool true) w :=
    fun w => K.eql_ints w (e := 25) (n := 8) (by kernel_rfl) (by kernel_rfl) (by kernel_rfl) [0, 0, 0, 0, 0, 0, 0, 0] [0, 0, 0, 0, 0, 0, 0, 0] rfl rfl
  have q4 : ∀ w : World, (binOp .eql 65 (.agg #[.int .u64 0, .int .u64 0, .int .u64 0, .int .u64 0]) (.agg #[.int .u64 0, .int .u64 0, .int .u64 0, .int .u64 0])).run Try.prog w = .ok (.bool true) w :=
    fun w => K.eql_ints w (e := 25) (n := 4) (by kernel_rfl) (by kernel_rfl) (by kernel_rfl) [0, 0, 0, 0] [0, 0, 0, 0] rfl rfl
  have g8 : Try.prog.eqGuardType Try.prog.depth 27 = false := by kernel_rfl
  have g4 : Try.prog.eqGuardType Try.prog.depth 65 = false := by kernel_rfl
  go_enter Try.func11, Try.ntmps11
  go_wp2_with fail
  refine (start _ _).mono ?_
  rintro e w1 ⟨rfl, hw1⟩
  have hs1 : w.heap.size + 3 ≤ w1.heap.size := by have := hw1.size; first | omega | (simp at this; omega)
  have hl1 : Below w.heap.size w w1 := ((((Below.refl _ _).alloc (Nat.le_refl _) _).alloc (by simp) _).alloc (by first | omega | (simp <;> omega)) _).trans (hw1.mono (by first | omega | (simp <;> omega)))
  have hx1_0 : ∀ o, w1.cell? ⟨w.heap.size, o, none⟩ = (#[Value.int .u64 s0, Value.int .u64 s1, Value.int .u64 s2, Value.int .u64 s3, Value.int .u64 s4, Value.int .u64 s5, Value.int .u64 s6, Value.int .u64 s7] : Array Value)[o]? := fun o => (K.below_cell hw1 (by first | omega | (simp <;> omega)) o).trans ((alloc_cell (by first | omega | (simp <;> omega)) o).trans ((alloc_cell (by first | omega | (simp <;> omega)) o).trans (K.row_cell (heap_alloc_new w _) o)))
  have hn1_0 : w.heap.size < w1.heap.size := by omega
  have hx1_1 : ∀ o, w1.cell? ⟨w.heap.size + 1, o, none⟩ = (#[Value.int .u64 c0, Value.int .u64 c1, Value.int .u64 c2, Value.int .u64 c3] : Array Value)[o]? := fun o => (K.below_cell hw1 (by first | omega | (simp <;> omega)) o).trans ((alloc_cell (by simp) o).trans (K.row_cell (by have := heap_alloc_new (w.alloc (Obj.cells #[Value.int .u64 s0, Value.int .u64 s1, Value.int .u64 s2, Value.int .u64 s3, Value.int .u64 s4, Value.int .u64 s5, Value.int .u64 s6, Value.int .u64 s7] 27)) (Obj.cells #[Value.int .u64 c0, Value.int .u64 c1, Value.int .u64 c2, Value.int .u64 c3] 65); simpa using this) o))
  have hn1_1 : w.heap.size + 1 < w1.heap.size := by omega
  have hx1_2 : ∀ o, w1.cell? ⟨w.heap.size + 1 + 1, o, none⟩ = (#[Value.int .u32 x0, Value.int .u32 x1, Value.int .u32 x2] : Array Value)[o]? := fun o => (K.below_cell hw1 (by first | omega | (simp <;> omega)) o).trans (K.row_cell (by have := heap_alloc_new ((w.alloc (Obj.cells #[Value.int .u64 s0, Value.int .u64 s1, Value.int .u64 s2, Value.int .u64 s3, Value.int .u64 s4, Value.int .u64 s5, Value.int .u64 s6, Value.int .u64 s7] 27)).alloc (Obj.cells #[Value.int .u64 c0, Value.int .u64 c1, Value.int .u64 c2, Value.int .u64 c3] 65)) (Obj.cells #[Value.int .u32 x0, Value.int .u32 x1, Value.int .u32 x2] 67); simpa using this) o)
  have hn1_2 : w.heap.size + 1 + 1 < w1.heap.size := by omega
  clear hw1
  go_wp2_with fail
  refine (scatter _ _ _ _ _ _ _ _ _ _ _ _ _ _ _ _).mono ?_
  rintro e w2 ⟨rfl, hw2⟩
  have hs2 : w1.heap.size + 1 ≤ w2.heap.size := by have := hw2.size; first | omega | (simp at this; omega)
  have hl2 : Below w.heap.size w w2 := (hl1.alloc (by omega) _).trans (hw2.mono (by first | omega | (simp <;> omega)))
  have hx2_0 : ∀ o, w2.cell? ⟨w.heap.size, o, none⟩ = (#[Value.int .u64 s0, Value.int .u64 s1, Value.int .u64 s2, Value.int .u64 s3, Value.int .u64 s4, Value.int .u64 s5, Value.int .u64 s6, Value.int .u64 s7] : Array Value)[o]? := fun o => (K.below_cell hw2 (by first | omega | (simp <;> omega)) o).trans ((alloc_cell (by first | omega | (simp <;> omega)) o).trans (hx1_0 o))
  have hn2_0 : w.heap.size < w2.heap.size := by omega
  have hx2_1 : ∀ o, w2.cell? ⟨w.heap.size + 1, o, none⟩ = (#[Value.int .u64 c0, Value.int .u64 c1, Value.int .u64 c2, Value.int .u64 c3] : Array Value)[o]? := fun o => (K.below_cell hw2 (by first | omega | (simp <;> omega)) o).trans ((alloc_cell (by first | omega | (simp <;> omega)) o).trans (hx1_1 o))
  have hn2_1 : w.heap.size + 1 < w2.heap.size := by omega
  have hx2_2 : ∀ o, w2.cell? ⟨w.heap.size + 1 + 1, o, none⟩ = (#[Value.int .u32 x0, Value.int .u32 x1, Value.int .u32 x2] : Array Value)[o]? := fun o => (K.below_cell hw2 (by first | omega | (simp <;> omega)) o).trans ((alloc_cell (by first | omega | (simp <;> omega)) o).trans (hx1_2 o))
  have hn2_2 : w.heap.size + 1 + 1 < w2.heap.size := by omega
  have hx2_3 : ∀ o, w2.cell? ⟨w1.heap.size, o, none⟩ = (#[Value.int .u64 0, Value.int .u64 0, Value.int .u64 0, Value.int .u64 0, Value.int .u64 0, Value.int .u64 0, Value.int .u64 0, Value.int .u64 0] : Array Value)[o]? := fun o => (K.below_cell hw2 (by first | omega | (simp <;> omega)) o).trans (K.row_cell (heap_alloc_new w1 _) o)
  have hn2_3 : w1.heap.size < w2.heap.size := by omega
  clear hw2 hx1_0 hx1_1 hx1_2 hn1_0 hn1_1 hn1_2
  go_wp2_with fail
  refine (apply _ _ _ _ _ _ _ _ _ _ _ _ _ _).mono ?_
  rintro e w3 ⟨rfl, hw3⟩
  have hs3 : w2.heap.size ≤ w3.heap.size := by have := hw3.size; first | omega | (simp at this; omega)
  have hl3 : Below w.heap.size w w3 := hl2.trans (hw3.mono (by first | omega | (simp <;> omega)))
  have hx3_0 : ∀ o, w3.cell? ⟨w.heap.size, o, none⟩ = (#[Value.int .u64 s0, Value.int .u64 s1, Value.int .u64 s2, Value.int .u64 s3, Value.int .u64 s4, Value.int .u64 s5, Value.int .u64 s6, Value.int .u64 s7] : Array Value)[o]? := fun o => (K.below_cell hw3 (by first | omega | (simp <;> omega)) o).trans (hx2_0 o)
  have hn3_0 : w.heap.size < w3.heap.size := by omega
  have hx3_1 : ∀ o, w3.cell? ⟨w.heap.size + 1, o, none⟩ = (#[Value.int .u64 c0, Value.int .u64 c1, Value.int .u64 c2, Value.int .u64 c3] : Array Value)[o]? := fun o => (K.below_cell hw3 (by first | omega | (simp <;> omega)) o).trans (hx2_1 o)
  have hn3_1 : w.heap.size + 1 < w3.heap.size := by omega
  have hx3_2 : ∀ o, w3.cell? ⟨w.heap.size + 1 + 1, o, none⟩ = (#[Value.int .u32 x0, Value.int .u32 x1, Value.int .u32 x2] : Array Value)[o]? := fun o => (K.below_cell hw3 (by first | omega | (simp <;> omega)) o).trans (hx2_2 o)
  have hn3_2 : w.heap.size + 1 + 1 < w3.heap.size := by omega
  have hx3_3 : ∀ o, w3.cell? ⟨w1.heap.size, o, none⟩ = (#[Value.int .u64 0, Value.int .u64 0, Value.int .u64 0, Value.int .u64 0, Value.int .u64 0, Value.int .u64 0, Value.int .u64 0, Value.int .u64 0] : Array Value)[o]? := fun o => (K.below_cell hw3 (by first | omega | (simp <;> omega)) o).trans (hx2_3 o)
  have hn3_3 : w1.heap.size < w3.heap.size := by omega
  clear hw3 hx2_0 hx2_1 hx2_2 hx2_3 hn2_0 hn2_1 hn2_2 hn2_3
  go_wp2_with fail
  refine (fold _ _ _ _ _ _ _ _ _ _ _ _ _ _).mono ?_
  rintro e w4 ⟨rfl, hw4⟩
  have hs4 : w3.heap.size + 1 ≤ w4.heap.size := by have := hw4.size; first | omega | (simp at this; omega)
  have hl4 : Below w.heap.size w w4 := (hl3.alloc (by omega) _).trans (hw4.mono (by first | omega | (simp <;> omega)))
  have hx4_0 : ∀ o, w4.cell? ⟨w.heap.size, o, none⟩ = (#[Value.int .u64 s0, Value.int .u64 s1, Value.int .u64 s2, Value.int .u64 s3, Value.int .u64 s4, Value.int .u64 s5, Value.int .u64 s6, Value.int .u64 s7] : Array Value)[o]? := fun o => (K.below_cell hw4 (by first | omega | (simp <;> omega)) o).trans ((alloc_cell (by first | omega | (simp <;> omega)) o).trans (hx3_0 o))
  have hn4_0 : w.heap.size < w4.heap.size := by omega
  have hx4_1 : ∀ o, w4.cell? ⟨w.heap.size + 1, o, none⟩ = (#[Value.int .u64 c0, Value.int .u64 c1, Value.int .u64 c2, Value.int .u64 c3] : Array Value)[o]? := fun o => (K.below_cell hw4 (by first | omega | (simp <;> omega)) o).trans ((alloc_cell (by first | omega | (simp <;> omega)) o).trans (hx3_1 o))
  have hn4_1 : w.heap.size + 1 < w4.heap.size := by omega
  have hx4_2 : ∀ o, w4.cell? ⟨w.heap.size + 1 + 1, o, none⟩ = (#[Value.int .u32 x0, Value.int .u32 x1, Value.int .u32 x2] : Array Value)[o]? := fun o => (K.below_cell hw4 (by first | omega | (simp <;> omega)) o).trans ((alloc_cell (by first | omega | (simp <;> omega)) o).trans (hx3_2 o))
  have hn4_2 : w.heap.size + 1 + 1 < w4.heap.size := by omega
  have hx4_3 : ∀ o, w4.cell? ⟨w1.heap.size, o, none⟩ = (#[Value.int .u64 0, Value.int .u64 0, Value.int .u64 0, Value.int .u64 0, Value.int .u64 0, Value.int .u64 0, Value.int .u64 0, Value.int .u64 0] : Array Value)[o]? := fun o => (K.below_cell hw4 (by first | omega | (simp <;> omega)) o).trans ((alloc_cell (by first | omega | (simp <;> omega)) o).trans (hx3_3 o))
  have hn4_3 : w1.heap.size < w4.heap.size := by omega
  have hx4_4 : ∀ o, w4.cell? ⟨w3.heap.size, o, none⟩ = (#[Value.int .u64 0, Value.int .u64 0, Value.int .u64 0, Value.int .u64 0, Value.int .u64 0, Value.int .u64 0, Value.int .u64 0, Value.int .u64 0] : Array Value)[o]? := fun o => (K.below_cell hw4 (by first | omega | (simp <;> omega)) o).trans (K.row_cell (heap_alloc_new w3 _) o)
  have hn4_4 : w3.heap.size < w4.heap.size := by omega
  clear hw4 hx3_0 hx3_1 hx3_2 hx3_3 hn3_0 hn3_1 hn3_2 hn3_3
  go_wp2_with fail
  refine (turn _ _ _ _ _ _ _ _ _ _ _ _ _).mono ?_
  rintro e w5 ⟨rfl, hw5⟩
  have hs5 : w4.heap.size + 1 ≤ w5.heap.size := by have := hw5.size; first | omega | (simp at this; omega)
  have hl5 : Below w.heap.size w w5 := (hl4.alloc (by omega) _).trans (hw5.mono (by first | omega | (simp <;> omega)))
  have hx5_0 : ∀ o, w5.cell? ⟨w.heap.size, o, none⟩ = (#[Value.int .u64 s0, Value.int .u64 s1, Value.int .u64 s2, Value.int .u64 s3, Value.int .u64 s4, Value.int .u64 s5, Value.int .u64 s6, Value.int .u64 s7] : Array Value)[o]? := fun o => (K.below_cell hw5 (by first | omega | (simp <;> omega)) o).trans ((alloc_cell (by first | omega | (simp <;> omega)) o).trans (hx4_0 o))
  have hn5_0 : w.heap.size < w5.heap.size := by omega
  have hx5_1 : ∀ o, w5.cell? ⟨w.heap.size + 1, o, none⟩ = (#[Value.int .u64 c0, Value.int .u64 c1, Value.int .u64 c2, Value.int .u64 c3] : Array Value)[o]? := fun o => (K.below_cell hw5 (by first | omega | (simp <;> omega)) o).trans ((alloc_cell (by first | omega | (simp <;> omega)) o).trans (hx4_1 o))
  have hn5_1 : w.heap.size + 1 < w5.heap.size := by omega
  have hx5_2 : ∀ o, w5.cell? ⟨w.heap.size + 1 + 1, o, none⟩ = (#[Value.int .u32 x0, Value.int .u32 x1, Value.int .u32 x2] : Array Value)[o]? := fun o => (K.below_cell hw5 (by first | omega | (simp <;> omega)) o).trans ((alloc_cell (by first | omega | (simp <;> omega)) o).trans (hx4_2 o))
  have hn5_2 : w.heap.size + 1 + 1 < w5.heap.size := by omega
  have hx5_3 : ∀ o, w5.cell? ⟨w1.heap.size, o, none⟩ = (#[Value.int .u64 0, Value.int .u64 0, Value.int .u64 0, Value.int .u64 0, Value.int .u64 0, Value.int .u64 0, Value.int .u64 0, Value.int .u64 0] : Array Value)[o]? := fun o => (K.below_cell hw5 (by first | omega | (simp <;> omega)) o).trans ((alloc_cell (by first | omega | (simp <;> omega)) o).trans (hx4_3 o))
  have hn5_3 : w1.heap.size < w5.heap.size := by omega
  have hx5_4 : ∀ o, w5.cell? ⟨w3.heap.size, o, none⟩ = (#[Value.int .u64 0, Value.int .u64 0, Value.int .u64 0, Value.int .u64 0, Value.int .u64 0, Value.int .u64 0, Value.int .u64 0, Value.int .u64 0] : Array Value)[o]? := fun o => (K.below_cell hw5 (by first | omega | (simp <;> omega)) o).trans ((alloc_cell (by first | omega | (simp <;> omega)) o).trans (hx4_4 o))
  have hn5_4 : w3.heap.size < w5.heap.size := by omega
  have hx5_5 : ∀ o, w5.cell? ⟨w4.heap.size, o, none⟩ = (#[Value.int .u64 0, Value.int .u64 0, Value.int .u64 0, Value.int .u64 0, Value.int .u64 0, Value.int .u64 0, Value.int .u64 0, Value.int .u64 0] : Array Value)[o]? := fun o => (K.below_cell hw5 (by first | omega | (simp <;> omega)) o).trans (K.row_cell (heap_alloc_new w4 _) o)
  have hn5_5 : w4.heap.size < w5.heap.size := by omega
  clear hw5 hx4_0 hx4_1 hx4_2 hx4_3 hx4_4 hn4_0 hn4_1 hn4_2 hn4_3 hn4_4
  go_wp2_with (first | (go_at_call 42; refine (words _).mono ?_; rintro e w6 ⟨rfl, hw6⟩) | (go_at_call 43; refine (both _).mono ?_; rintro e w7 ⟨rfl, hw7⟩) | (go_at_call 44; refine (sink _).mono ?_; rintro e w8 ⟨rfl, hw8⟩) | go_in)
  go_ret
  refine ⟨rfl, ?_⟩
  have h6 := hw6.size
  have h7 := hw7.size
  simp at h6 h7
  refine ((((hl5.alloc (by omega) _).alloc (by simp; omega) _).trans (hw6.mono (by simp; omega))).trans (hw7.mono (by omega))).trans (hw8.mono (by omega))

theorem own : ownKnob Try.prog.godebug = none := by kernel_rfl
set_option maxRecDepth 100000 in
theorem lifted (os : Os) (started : os.Started) (H : Type) (enc : TypeId × Value → H) :
    ReturnsInHanded {} Try.checked os 11 .any (Rows.flowsNilSpec.pre6 enc Try.prog Try.f11 Rows.flowsNilRow.domain false) (Rows.flowsNilSpec.post enc Try.prog Try.f11 false true false false) := by
  refine returnsInHanded_of_change_sized (C := Try.checked) own started (by kernel_rfl) Try.func11
    (ChangeSpec.witness6 (enc := enc) (C := Try.checked) false ⟨#[], #[.agg #[.int .u64 0, .int .u64 0, .int .u64 0, .int .u64 0, .int .u64 0, .int .u64 0, .int .u64 0, .int .u64 0], .agg #[.int .u64 0, .int .u64 0, .int .u64 0, .int .u64 0], .agg #[.int .u32 0, .int .u32 0, .int .u32 0], .int .u32 0], []⟩ 8 (by kernel_rfl) (by kernel_rfl) (by kernel_rfl) (by kernel_rfl)) ?_
  intro W base args ds gs before hval0 hW hcnd hsz0 _
  have hsz : (DataW.weightsEach Try.prog (Try.f11.params.toList ++ Rows.flowsNilSpec.plain.varTypes Try.prog) (ds ++ gs)).all (· ≤ reachBytes) = true := hsz0
  have hval : ∀ (j : Nat) t v, Try.f11.params[j]? = some t → args[j]? = some v → Value.okWide Try.prog W .any base t v := hval0
  have hW' := hW
  obtain ⟨p, q, hA0, hV, rfl, hfz, hnd⟩ := hW
  have hA : DataW.TrodAll enc Try.prog W 0 (fun _ => true) true Try.f11.params.toList args.toList ds p := hA0
  rw [Try.params11] at hA hval hsz
  obtain ⟨v0, vs0, d0, ds0, p0, q0, hargs, rfl, rfl, h0, r0⟩ := trodAll_cons hA
  obtain ⟨v1, vs1, d1, ds1, p1, q1, rfl, rfl, rfl, h1, r1⟩ := trodAll_cons r0
  obtain ⟨v2, vs2, d2, ds2, p2, q2, rfl, rfl, rfl, h2, r2⟩ := trodAll_cons r1
  obtain ⟨v3, vs3, d3, ds3, p3, q3, rfl, rfl, rfl, h3, r3⟩ := trodAll_cons r2
  obtain ⟨rfl, rfl, rfl⟩ := trodAll_nil r3
  obtain rfl : args = #[v0, v1, v2, v3] := by cases args; simp_all
  obtain ⟨rfl, rfl⟩ := trodVars_none hV
  have k0 := h0
  obtain ⟨z0, l0, rfl, w0, rfl⟩ := K.open_array Try.underlying27 Try.underlying25 (by kernel_rfl) (by kernel_rfl) (hval 0 27 v0 rfl rfl) h0
  have k1 := h1
  obtain ⟨z1, l1, rfl, w1, rfl⟩ := K.open_array Try.underlying65 Try.underlying25 (by kernel_rfl) (by kernel_rfl) (hval 1 65 v1 rfl rfl) h1
  have k2 := h2
  obtain ⟨cs2, rfl, m2, rfl⟩ := K.open_flat (m := 8) (ks := _) (by kernel_rfl) (by kernel_rfl) (hval 2 67 v2 rfl rfl) h2
  obtain ⟨a3, rfl, rfl, rfl, w3⟩ := open_int Try.underlying31 (hval 3 31 v3 rfl rfl) h3
  obtain ⟨a, b, c, d, e, f, g, i, rfl⟩ := K.len8 l0
  obtain ⟨a', b', c', d', rfl⟩ := K.len4 l1
  obtain ⟨x0, _, rfl, -, m⟩ := K.matches_int m2
  obtain ⟨x1, _, rfl, -, m⟩ := K.matches_int m
  obtain ⟨x2, _, rfl, -, m⟩ := K.matches_int m
  obtain rfl := K.matches_nil m
  refine (walk _ _ _ _ _ _ _ _ _ _ _ _ _ _ _ _ W).mono fun e W' ⟨he, bel⟩ => ?_
  subst he
  exact ⟨_, rfl, _, _, _, [], _, [], hW', trodAll_mk1 (shut_bool Try.underlying4 _), (trodAll_cons_mk (Below.trod (by kernel_rfl) (by kernel_rfl) (of_decide_eq_true (by kernel_rfl)) k0 bel (fun x hx => by cases hx)) (trodAll_cons_mk (Below.trod (by kernel_rfl) (by kernel_rfl) (of_decide_eq_true (by kernel_rfl)) k1 bel (fun x hx => by cases hx)) (trodAll_cons_mk (Below.trod (by kernel_rfl) (by kernel_rfl) (of_decide_eq_true (by kernel_rfl)) k2 bel (fun x hx => by cases hx)) (trodAll_cons_mk (shut_int Try.underlying31 w3) trodAll_mk0)))), rfl, bel.frame _, fun h => by cases h⟩
theorem over : Rows.flowsNilRow.holds Try.pinned (OpenSpec.ofChange Rows.flowsNilSpec) :=
  OpenClaim.holds_of_wide 11 Try.f11 rfl rfl rfl rfl rfl rfl rfl ⟨rfl, rfl, rfl, rfl, rfl⟩ rfl rfl rfl rfl rfl (by kernel_rfl) Try.func11 (by kernel_rfl)
    (of_decide_eq_true (by kernel_rfl)) (by unfold Func.isWrapper; first | (rw [if_pos (by decide +kernel)]; kernel_rfl) | (rw [if_neg (by decide +kernel)]; exact ⟨rfl, rfl⟩))
    (fun os started H enc _ => lifted os started H enc)
theorem proved : Rows.FlowsNilSaid := over
#print axioms proved
end Go.Proofs.Ythdglihjnpednaa.flowsNil
