/-
  PurseCosts: what so many elements cost, of each of the nine kinds: the program's answer is the document's. No condition.
-/
import Derived.Test.YtikeilfljjggbaaRows
import Derived.Test.YtikeilfljjggbaaK
import Derived.ShutString
import Derived.Outline
import Derived.WalkLawsBesides
import Derived.ChangeOld
import Derived.SizedLaws
set_option linter.unusedVariables false
set_option linter.unusedSimpArgs false
namespace Go.Proofs.Ytikeilfljjggbaa.purseCosts
open Go.ChangeShapes Go.WideShapes Go.ChangeAt Go.RowKit

def size (k : Int) : Int := if k = 0 then 1 else if k = 1 ∨ k = 2 then 4 else if k = 6 then 12 else if k = 7 then 20 else if k = 8 then 64 else 8
def words (k n : Int) : Int := if n < 0 ∨ 4194304 < n then 0 else (n * size k + 7) / 8
def code (n : Int) : Int := if n < 0 ∨ 4194304 < n then 42 else 0

set_option maxRecDepth 100000 in
theorem bytes0 (w : World) : Calls Try.prog 125 #[] w fun e w' => e = .returned (.int .i64 1) ∧ Below w.heap.size w w' := by
  have h_uint8 : ∀ W, (Instr.typeAssert (.iface 5 (.int .u8 0)) 20 5 true).run Try.prog W = .ok (.tuple #[.int .u8 0, .bool true]) W := fun W => by kernel_rfl
  have h_uint32 : ∀ W, (Instr.typeAssert (.iface 5 (.int .u8 0)) 20 94 true).run Try.prog W = .ok (.tuple #[.int .u32 0, .bool false]) W := fun W => by kernel_rfl
  have h_int32 : ∀ W, (Instr.typeAssert (.iface 5 (.int .u8 0)) 20 21 true).run Try.prog W = .ok (.tuple #[.int .i32 0, .bool false]) W := fun W => by kernel_rfl
  have h_Edge : ∀ W, (Instr.typeAssert (.iface 5 (.int .u8 0)) 20 130 true).run Try.prog W = .ok (.tuple #[.agg #[.int .u32 0, .int .u32 0, .int .u32 0], .bool false]) W := fun W => by kernel_rfl
  have h_Update : ∀ W, (Instr.typeAssert (.iface 5 (.int .u8 0)) 20 132 true).run Try.prog W = .ok (.tuple #[.agg #[.int .u32 0, .int .u64 0, .int .u64 0], .bool false]) W := fun W => by kernel_rfl
  have h_State : ∀ W, (Instr.typeAssert (.iface 5 (.int .u8 0)) 20 134 true).run Try.prog W = .ok (.tuple #[.agg #[.int .u64 0, .int .u64 0, .int .u64 0, .int .u64 0, .int .u64 0, .int .u64 0, .int .u64 0, .int .u64 0], .bool false]) W := fun W => by kernel_rfl
  go_enter Try.func125, Try.ntmps125
  go_wp2
  go_ret
  refine ⟨rfl, ?_⟩
  repeat (first | exact Below.refl _ _ | refine Below.drew ?_ | refine Below.alloc ?_ (by first | omega | (simp <;> omega)) _)

set_option maxRecDepth 100000 in
theorem bytes1 (w : World) : Calls Try.prog 126 #[] w fun e w' => e = .returned (.int .i64 4) ∧ Below w.heap.size w w' := by
  have h_uint8 : ∀ W, (Instr.typeAssert (.iface 94 (.int .u32 0)) 20 5 true).run Try.prog W = .ok (.tuple #[.int .u8 0, .bool false]) W := fun W => by kernel_rfl
  have h_uint32 : ∀ W, (Instr.typeAssert (.iface 94 (.int .u32 0)) 20 94 true).run Try.prog W = .ok (.tuple #[.int .u32 0, .bool true]) W := fun W => by kernel_rfl
  have h_int32 : ∀ W, (Instr.typeAssert (.iface 94 (.int .u32 0)) 20 21 true).run Try.prog W = .ok (.tuple #[.int .i32 0, .bool false]) W := fun W => by kernel_rfl
  have h_Edge : ∀ W, (Instr.typeAssert (.iface 94 (.int .u32 0)) 20 130 true).run Try.prog W = .ok (.tuple #[.agg #[.int .u32 0, .int .u32 0, .int .u32 0], .bool false]) W := fun W => by kernel_rfl
  have h_Update : ∀ W, (Instr.typeAssert (.iface 94 (.int .u32 0)) 20 132 true).run Try.prog W = .ok (.tuple #[.agg #[.int .u32 0, .int .u64 0, .int .u64 0], .bool false]) W := fun W => by kernel_rfl
  have h_State : ∀ W, (Instr.typeAssert (.iface 94 (.int .u32 0)) 20 134 true).run Try.prog W = .ok (.tuple #[.agg #[.int .u64 0, .int .u64 0, .int .u64 0, .int .u64 0, .int .u64 0, .int .u64 0, .int .u64 0, .int .u64 0], .bool false]) W := fun W => by kernel_rfl
  go_enter Try.func126, Try.ntmps126
  go_wp2
  go_ret
  refine ⟨rfl, ?_⟩
  repeat (first | exact Below.refl _ _ | refine Below.drew ?_ | refine Below.alloc ?_ (by first | omega | (simp <;> omega)) _)

set_option maxRecDepth 100000 in
theorem bytes2 (w : World) : Calls Try.prog 127 #[] w fun e w' => e = .returned (.int .i64 4) ∧ Below w.heap.size w w' := by
  have h_uint8 : ∀ W, (Instr.typeAssert (.iface 21 (.int .i32 0)) 20 5 true).run Try.prog W = .ok (.tuple #[.int .u8 0, .bool false]) W := fun W => by kernel_rfl
  have h_uint32 : ∀ W, (Instr.typeAssert (.iface 21 (.int .i32 0)) 20 94 true).run Try.prog W = .ok (.tuple #[.int .u32 0, .bool false]) W := fun W => by kernel_rfl
  have h_int32 : ∀ W, (Instr.typeAssert (.iface 21 (.int .i32 0)) 20 21 true).run Try.prog W = .ok (.tuple #[.int .i32 0, .bool true]) W := fun W => by kernel_rfl
  have h_Edge : ∀ W, (Instr.typeAssert (.iface 21 (.int .i32 0)) 20 130 true).run Try.prog W = .ok (.tuple #[.agg #[.int .u32 0, .int .u32 0, .int .u32 0], .bool false]) W := fun W => by kernel_rfl
  have h_Update : ∀ W, (Instr.typeAssert (.iface 21 (.int .i32 0)) 20 132 true).run Try.prog W = .ok (.tuple #[.agg #[.int .u32 0, .int .u64 0, .int .u64 0], .bool false]) W := fun W => by kernel_rfl
  have h_State : ∀ W, (Instr.typeAssert (.iface 21 (.int .i32 0)) 20 134 true).run Try.prog W = .ok (.tuple #[.agg #[.int .u64 0, .int .u64 0, .int .u64 0, .int .u64 0, .int .u64 0, .int .u64 0, .int .u64 0, .int .u64 0], .bool false]) W := fun W => by kernel_rfl
  go_enter Try.func127, Try.ntmps127
  go_wp2
  go_ret
  refine ⟨rfl, ?_⟩
  repeat (first | exact Below.refl _ _ | refine Below.drew ?_ | refine Below.alloc ?_ (by first | omega | (simp <;> omega)) _)

set_option maxRecDepth 100000 in
theorem bytes3 (w : World) : Calls Try.prog 128 #[] w fun e w' => e = .returned (.int .i64 8) ∧ Below w.heap.size w w' := by
  have h_uint8 : ∀ W, (Instr.typeAssert (.iface 2 (.int .i64 0)) 20 5 true).run Try.prog W = .ok (.tuple #[.int .u8 0, .bool false]) W := fun W => by kernel_rfl
  have h_uint32 : ∀ W, (Instr.typeAssert (.iface 2 (.int .i64 0)) 20 94 true).run Try.prog W = .ok (.tuple #[.int .u32 0, .bool false]) W := fun W => by kernel_rfl
  have h_int32 : ∀ W, (Instr.typeAssert (.iface 2 (.int .i64 0)) 20 21 true).run Try.prog W = .ok (.tuple #[.int .i32 0, .bool false]) W := fun W => by kernel_rfl
  have h_Edge : ∀ W, (Instr.typeAssert (.iface 2 (.int .i64 0)) 20 130 true).run Try.prog W = .ok (.tuple #[.agg #[.int .u32 0, .int .u32 0, .int .u32 0], .bool false]) W := fun W => by kernel_rfl
  have h_Update : ∀ W, (Instr.typeAssert (.iface 2 (.int .i64 0)) 20 132 true).run Try.prog W = .ok (.tuple #[.agg #[.int .u32 0, .int .u64 0, .int .u64 0], .bool false]) W := fun W => by kernel_rfl
  have h_State : ∀ W, (Instr.typeAssert (.iface 2 (.int .i64 0)) 20 134 true).run Try.prog W = .ok (.tuple #[.agg #[.int .u64 0, .int .u64 0, .int .u64 0, .int .u64 0, .int .u64 0, .int .u64 0, .int .u64 0, .int .u64 0], .bool false]) W := fun W => by kernel_rfl
  go_enter Try.func128, Try.ntmps128
  go_wp2
  go_ret
  refine ⟨rfl, ?_⟩
  repeat (first | exact Below.refl _ _ | refine Below.drew ?_ | refine Below.alloc ?_ (by first | omega | (simp <;> omega)) _)

set_option maxRecDepth 100000 in
theorem bytes4 (w : World) : Calls Try.prog 129 #[] w fun e w' => e = .returned (.int .i64 8) ∧ Below w.heap.size w w' := by
  have h_uint8 : ∀ W, (Instr.typeAssert (.iface 128 (.int .u64 0)) 20 5 true).run Try.prog W = .ok (.tuple #[.int .u8 0, .bool false]) W := fun W => by kernel_rfl
  have h_uint32 : ∀ W, (Instr.typeAssert (.iface 128 (.int .u64 0)) 20 94 true).run Try.prog W = .ok (.tuple #[.int .u32 0, .bool false]) W := fun W => by kernel_rfl
  have h_int32 : ∀ W, (Instr.typeAssert (.iface 128 (.int .u64 0)) 20 21 true).run Try.prog W = .ok (.tuple #[.int .i32 0, .bool false]) W := fun W => by kernel_rfl
  have h_Edge : ∀ W, (Instr.typeAssert (.iface 128 (.int .u64 0)) 20 130 true).run Try.prog W = .ok (.tuple #[.agg #[.int .u32 0, .int .u32 0, .int .u32 0], .bool false]) W := fun W => by kernel_rfl
  have h_Update : ∀ W, (Instr.typeAssert (.iface 128 (.int .u64 0)) 20 132 true).run Try.prog W = .ok (.tuple #[.agg #[.int .u32 0, .int .u64 0, .int .u64 0], .bool false]) W := fun W => by kernel_rfl
  have h_State : ∀ W, (Instr.typeAssert (.iface 128 (.int .u64 0)) 20 134 true).run Try.prog W = .ok (.tuple #[.agg #[.int .u64 0, .int .u64 0, .int .u64 0, .int .u64 0, .int .u64 0, .int .u64 0, .int .u64 0, .int .u64 0], .bool false]) W := fun W => by kernel_rfl
  go_enter Try.func129, Try.ntmps129
  go_wp2
  go_ret
  refine ⟨rfl, ?_⟩
  repeat (first | exact Below.refl _ _ | refine Below.drew ?_ | refine Below.alloc ?_ (by first | omega | (simp <;> omega)) _)

set_option maxRecDepth 100000 in
theorem bytes5 (w : World) : Calls Try.prog 130 #[] w fun e w' => e = .returned (.int .i64 8) ∧ Below w.heap.size w w' := by
  have h_uint8 : ∀ W, (Instr.typeAssert (.iface 3 (.int .i64 0)) 20 5 true).run Try.prog W = .ok (.tuple #[.int .u8 0, .bool false]) W := fun W => by kernel_rfl
  have h_uint32 : ∀ W, (Instr.typeAssert (.iface 3 (.int .i64 0)) 20 94 true).run Try.prog W = .ok (.tuple #[.int .u32 0, .bool false]) W := fun W => by kernel_rfl
  have h_int32 : ∀ W, (Instr.typeAssert (.iface 3 (.int .i64 0)) 20 21 true).run Try.prog W = .ok (.tuple #[.int .i32 0, .bool false]) W := fun W => by kernel_rfl
  have h_Edge : ∀ W, (Instr.typeAssert (.iface 3 (.int .i64 0)) 20 130 true).run Try.prog W = .ok (.tuple #[.agg #[.int .u32 0, .int .u32 0, .int .u32 0], .bool false]) W := fun W => by kernel_rfl
  have h_Update : ∀ W, (Instr.typeAssert (.iface 3 (.int .i64 0)) 20 132 true).run Try.prog W = .ok (.tuple #[.agg #[.int .u32 0, .int .u64 0, .int .u64 0], .bool false]) W := fun W => by kernel_rfl
  have h_State : ∀ W, (Instr.typeAssert (.iface 3 (.int .i64 0)) 20 134 true).run Try.prog W = .ok (.tuple #[.agg #[.int .u64 0, .int .u64 0, .int .u64 0, .int .u64 0, .int .u64 0, .int .u64 0, .int .u64 0, .int .u64 0], .bool false]) W := fun W => by kernel_rfl
  go_enter Try.func130, Try.ntmps130
  go_wp2
  go_ret
  refine ⟨rfl, ?_⟩
  repeat (first | exact Below.refl _ _ | refine Below.drew ?_ | refine Below.alloc ?_ (by first | omega | (simp <;> omega)) _)

set_option maxRecDepth 100000 in
theorem bytes6 (w : World) : Calls Try.prog 131 #[] w fun e w' => e = .returned (.int .i64 12) ∧ Below w.heap.size w w' := by
  have h_uint8 : ∀ W, (Instr.typeAssert (.iface 130 (.agg #[.int .u32 0, .int .u32 0, .int .u32 0])) 20 5 true).run Try.prog W = .ok (.tuple #[.int .u8 0, .bool false]) W := fun W => by kernel_rfl
  have h_uint32 : ∀ W, (Instr.typeAssert (.iface 130 (.agg #[.int .u32 0, .int .u32 0, .int .u32 0])) 20 94 true).run Try.prog W = .ok (.tuple #[.int .u32 0, .bool false]) W := fun W => by kernel_rfl
  have h_int32 : ∀ W, (Instr.typeAssert (.iface 130 (.agg #[.int .u32 0, .int .u32 0, .int .u32 0])) 20 21 true).run Try.prog W = .ok (.tuple #[.int .i32 0, .bool false]) W := fun W => by kernel_rfl
  have h_Edge : ∀ W, (Instr.typeAssert (.iface 130 (.agg #[.int .u32 0, .int .u32 0, .int .u32 0])) 20 130 true).run Try.prog W = .ok (.tuple #[.agg #[.int .u32 0, .int .u32 0, .int .u32 0], .bool true]) W := fun W => by kernel_rfl
  have h_Update : ∀ W, (Instr.typeAssert (.iface 130 (.agg #[.int .u32 0, .int .u32 0, .int .u32 0])) 20 132 true).run Try.prog W = .ok (.tuple #[.agg #[.int .u32 0, .int .u64 0, .int .u64 0], .bool false]) W := fun W => by kernel_rfl
  have h_State : ∀ W, (Instr.typeAssert (.iface 130 (.agg #[.int .u32 0, .int .u32 0, .int .u32 0])) 20 134 true).run Try.prog W = .ok (.tuple #[.agg #[.int .u64 0, .int .u64 0, .int .u64 0, .int .u64 0, .int .u64 0, .int .u64 0, .int .u64 0, .int .u64 0], .bool false]) W := fun W => by kernel_rfl
  go_enter Try.func131, Try.ntmps131
  go_wp2
  go_ret
  refine ⟨rfl, ?_⟩
  repeat (first | exact Below.refl _ _ | refine Below.drew ?_ | refine Below.alloc ?_ (by first | omega | (simp <;> omega)) _)

set_option maxRecDepth 100000 in
theorem bytes7 (w : World) : Calls Try.prog 132 #[] w fun e w' => e = .returned (.int .i64 20) ∧ Below w.heap.size w w' := by
  have h_uint8 : ∀ W, (Instr.typeAssert (.iface 132 (.agg #[.int .u32 0, .int .u64 0, .int .u64 0])) 20 5 true).run Try.prog W = .ok (.tuple #[.int .u8 0, .bool false]) W := fun W => by kernel_rfl
  have h_uint32 : ∀ W, (Instr.typeAssert (.iface 132 (.agg #[.int .u32 0, .int .u64 0, .int .u64 0])) 20 94 true).run Try.prog W = .ok (.tuple #[.int .u32 0, .bool false]) W := fun W => by kernel_rfl
  have h_int32 : ∀ W, (Instr.typeAssert (.iface 132 (.agg #[.int .u32 0, .int .u64 0, .int .u64 0])) 20 21 true).run Try.prog W = .ok (.tuple #[.int .i32 0, .bool false]) W := fun W => by kernel_rfl
  have h_Edge : ∀ W, (Instr.typeAssert (.iface 132 (.agg #[.int .u32 0, .int .u64 0, .int .u64 0])) 20 130 true).run Try.prog W = .ok (.tuple #[.agg #[.int .u32 0, .int .u32 0, .int .u32 0], .bool false]) W := fun W => by kernel_rfl
  have h_Update : ∀ W, (Instr.typeAssert (.iface 132 (.agg #[.int .u32 0, .int .u64 0, .int .u64 0])) 20 132 true).run Try.prog W = .ok (.tuple #[.agg #[.int .u32 0, .int .u64 0, .int .u64 0], .bool true]) W := fun W => by kernel_rfl
  have h_State : ∀ W, (Instr.typeAssert (.iface 132 (.agg #[.int .u32 0, .int .u64 0, .int .u64 0])) 20 134 true).run Try.prog W = .ok (.tuple #[.agg #[.int .u64 0, .int .u64 0, .int .u64 0, .int .u64 0, .int .u64 0, .int .u64 0, .int .u64 0, .int .u64 0], .bool false]) W := fun W => by kernel_rfl
  go_enter Try.func132, Try.ntmps132
  go_wp2
  go_ret
  refine ⟨rfl, ?_⟩
  repeat (first | exact Below.refl _ _ | refine Below.drew ?_ | refine Below.alloc ?_ (by first | omega | (simp <;> omega)) _)

set_option maxRecDepth 100000 in
theorem bytes8 (w : World) : Calls Try.prog 133 #[] w fun e w' => e = .returned (.int .i64 64) ∧ Below w.heap.size w w' := by
  have h_uint8 : ∀ W, (Instr.typeAssert (.iface 134 (.agg #[.int .u64 0, .int .u64 0, .int .u64 0, .int .u64 0, .int .u64 0, .int .u64 0, .int .u64 0, .int .u64 0])) 20 5 true).run Try.prog W = .ok (.tuple #[.int .u8 0, .bool false]) W := fun W => by kernel_rfl
  have h_uint32 : ∀ W, (Instr.typeAssert (.iface 134 (.agg #[.int .u64 0, .int .u64 0, .int .u64 0, .int .u64 0, .int .u64 0, .int .u64 0, .int .u64 0, .int .u64 0])) 20 94 true).run Try.prog W = .ok (.tuple #[.int .u32 0, .bool false]) W := fun W => by kernel_rfl
  have h_int32 : ∀ W, (Instr.typeAssert (.iface 134 (.agg #[.int .u64 0, .int .u64 0, .int .u64 0, .int .u64 0, .int .u64 0, .int .u64 0, .int .u64 0, .int .u64 0])) 20 21 true).run Try.prog W = .ok (.tuple #[.int .i32 0, .bool false]) W := fun W => by kernel_rfl
  have h_Edge : ∀ W, (Instr.typeAssert (.iface 134 (.agg #[.int .u64 0, .int .u64 0, .int .u64 0, .int .u64 0, .int .u64 0, .int .u64 0, .int .u64 0, .int .u64 0])) 20 130 true).run Try.prog W = .ok (.tuple #[.agg #[.int .u32 0, .int .u32 0, .int .u32 0], .bool false]) W := fun W => by kernel_rfl
  have h_Update : ∀ W, (Instr.typeAssert (.iface 134 (.agg #[.int .u64 0, .int .u64 0, .int .u64 0, .int .u64 0, .int .u64 0, .int .u64 0, .int .u64 0, .int .u64 0])) 20 132 true).run Try.prog W = .ok (.tuple #[.agg #[.int .u32 0, .int .u64 0, .int .u64 0], .bool false]) W := fun W => by kernel_rfl
  have h_State : ∀ W, (Instr.typeAssert (.iface 134 (.agg #[.int .u64 0, .int .u64 0, .int .u64 0, .int .u64 0, .int .u64 0, .int .u64 0, .int .u64 0, .int .u64 0])) 20 134 true).run Try.prog W = .ok (.tuple #[.agg #[.int .u64 0, .int .u64 0, .int .u64 0, .int .u64 0, .int .u64 0, .int .u64 0, .int .u64 0, .int .u64 0], .bool true]) W := fun W => by kernel_rfl
  go_enter Try.func133, Try.ntmps133
  go_wp2
  go_ret
  refine ⟨rfl, ?_⟩
  repeat (first | exact Below.refl _ _ | refine Below.drew ?_ | refine Below.alloc ?_ (by first | omega | (simp <;> omega)) _)

theorem cost0 (n : Int) (w : World) : Calls Try.prog 67 #[.int .i64 n] w fun e w' => e = .returned (.tuple #[.int .i64 (words 0 n), .int .i64 (code n)]) ∧ Below w.heap.size w w' := by
  unfold words code
  by_cases h1 : n < 0
  · rw [if_pos (Or.inl h1), if_pos (Or.inl h1)]
    go_enter Try.func67, Try.ntmps67
    go_wp2
    go_ret2
    exact ⟨rfl, Below.refl _ _⟩
  by_cases h2 : 4194304 < n
  · rw [if_pos (Or.inr h2), if_pos (Or.inr h2)]
    go_enter Try.func67, Try.ntmps67
    go_wp2
    go_ret2
    exact ⟨rfl, Below.refl _ _⟩
  rw [if_neg (by omega), if_neg (by omega)]
  have hs : size 0 = 1 := rfl
  rw [hs]; rw [Int.mul_one]
  clear hs
  go_enter Try.func67, Try.ntmps67
  go_wp2_with fail
  refine (bytes0 _).mono ?_
  rintro e w1 ⟨rfl, hw1⟩
  go_wp2
  go_ret2
  exact ⟨rfl, hw1⟩

theorem cost1 (n : Int) (w : World) : Calls Try.prog 68 #[.int .i64 n] w fun e w' => e = .returned (.tuple #[.int .i64 (words 1 n), .int .i64 (code n)]) ∧ Below w.heap.size w w' := by
  unfold words code
  by_cases h1 : n < 0
  · rw [if_pos (Or.inl h1), if_pos (Or.inl h1)]
    go_enter Try.func68, Try.ntmps68
    go_wp2
    go_ret2
    exact ⟨rfl, Below.refl _ _⟩
  by_cases h2 : 4194304 < n
  · rw [if_pos (Or.inr h2), if_pos (Or.inr h2)]
    go_enter Try.func68, Try.ntmps68
    go_wp2
    go_ret2
    exact ⟨rfl, Below.refl _ _⟩
  rw [if_neg (by omega), if_neg (by omega)]
  have hs : size 1 = 4 := rfl
  rw [hs]
  clear hs
  go_enter Try.func68, Try.ntmps68
  go_wp2_with fail
  refine (bytes1 _).mono ?_
  rintro e w1 ⟨rfl, hw1⟩
  go_wp2
  go_ret2
  exact ⟨rfl, hw1⟩

theorem cost2 (n : Int) (w : World) : Calls Try.prog 69 #[.int .i64 n] w fun e w' => e = .returned (.tuple #[.int .i64 (words 2 n), .int .i64 (code n)]) ∧ Below w.heap.size w w' := by
  unfold words code
  by_cases h1 : n < 0
  · rw [if_pos (Or.inl h1), if_pos (Or.inl h1)]
    go_enter Try.func69, Try.ntmps69
    go_wp2
    go_ret2
    exact ⟨rfl, Below.refl _ _⟩
  by_cases h2 : 4194304 < n
  · rw [if_pos (Or.inr h2), if_pos (Or.inr h2)]
    go_enter Try.func69, Try.ntmps69
    go_wp2
    go_ret2
    exact ⟨rfl, Below.refl _ _⟩
  rw [if_neg (by omega), if_neg (by omega)]
  have hs : size 2 = 4 := rfl
  rw [hs]
  clear hs
  go_enter Try.func69, Try.ntmps69
  go_wp2_with fail
  refine (bytes2 _).mono ?_
  rintro e w1 ⟨rfl, hw1⟩
  go_wp2
  go_ret2
  exact ⟨rfl, hw1⟩

theorem cost3 (n : Int) (w : World) : Calls Try.prog 70 #[.int .i64 n] w fun e w' => e = .returned (.tuple #[.int .i64 (words 3 n), .int .i64 (code n)]) ∧ Below w.heap.size w w' := by
  unfold words code
  by_cases h1 : n < 0
  · rw [if_pos (Or.inl h1), if_pos (Or.inl h1)]
    go_enter Try.func70, Try.ntmps70
    go_wp2
    go_ret2
    exact ⟨rfl, Below.refl _ _⟩
  by_cases h2 : 4194304 < n
  · rw [if_pos (Or.inr h2), if_pos (Or.inr h2)]
    go_enter Try.func70, Try.ntmps70
    go_wp2
    go_ret2
    exact ⟨rfl, Below.refl _ _⟩
  rw [if_neg (by omega), if_neg (by omega)]
  have hs : size 3 = 8 := rfl
  rw [hs]
  clear hs
  go_enter Try.func70, Try.ntmps70
  go_wp2_with fail
  refine (bytes3 _).mono ?_
  rintro e w1 ⟨rfl, hw1⟩
  go_wp2
  go_ret2
  exact ⟨rfl, hw1⟩

theorem cost4 (n : Int) (w : World) : Calls Try.prog 71 #[.int .i64 n] w fun e w' => e = .returned (.tuple #[.int .i64 (words 4 n), .int .i64 (code n)]) ∧ Below w.heap.size w w' := by
  unfold words code
  by_cases h1 : n < 0
  · rw [if_pos (Or.inl h1), if_pos (Or.inl h1)]
    go_enter Try.func71, Try.ntmps71
    go_wp2
    go_ret2
    exact ⟨rfl, Below.refl _ _⟩
  by_cases h2 : 4194304 < n
  · rw [if_pos (Or.inr h2), if_pos (Or.inr h2)]
    go_enter Try.func71, Try.ntmps71
    go_wp2
    go_ret2
    exact ⟨rfl, Below.refl _ _⟩
  rw [if_neg (by omega), if_neg (by omega)]
  have hs : size 4 = 8 := rfl
  rw [hs]
  clear hs
  go_enter Try.func71, Try.ntmps71
  go_wp2_with fail
  refine (bytes4 _).mono ?_
  rintro e w1 ⟨rfl, hw1⟩
  go_wp2
  go_ret2
  exact ⟨rfl, hw1⟩

theorem cost5 (n : Int) (w : World) : Calls Try.prog 72 #[.int .i64 n] w fun e w' => e = .returned (.tuple #[.int .i64 (words 5 n), .int .i64 (code n)]) ∧ Below w.heap.size w w' := by
  unfold words code
  by_cases h1 : n < 0
  · rw [if_pos (Or.inl h1), if_pos (Or.inl h1)]
    go_enter Try.func72, Try.ntmps72
    go_wp2
    go_ret2
    exact ⟨rfl, Below.refl _ _⟩
  by_cases h2 : 4194304 < n
  · rw [if_pos (Or.inr h2), if_pos (Or.inr h2)]
    go_enter Try.func72, Try.ntmps72
    go_wp2
    go_ret2
    exact ⟨rfl, Below.refl _ _⟩
  rw [if_neg (by omega), if_neg (by omega)]
  have hs : size 5 = 8 := rfl
  rw [hs]
  clear hs
  go_enter Try.func72, Try.ntmps72
  go_wp2_with fail
  refine (bytes5 _).mono ?_
  rintro e w1 ⟨rfl, hw1⟩
  go_wp2
  go_ret2
  exact ⟨rfl, hw1⟩

theorem cost6 (n : Int) (w : World) : Calls Try.prog 73 #[.int .i64 n] w fun e w' => e = .returned (.tuple #[.int .i64 (words 6 n), .int .i64 (code n)]) ∧ Below w.heap.size w w' := by
  unfold words code
  by_cases h1 : n < 0
  · rw [if_pos (Or.inl h1), if_pos (Or.inl h1)]
    go_enter Try.func73, Try.ntmps73
    go_wp2
    go_ret2
    exact ⟨rfl, Below.refl _ _⟩
  by_cases h2 : 4194304 < n
  · rw [if_pos (Or.inr h2), if_pos (Or.inr h2)]
    go_enter Try.func73, Try.ntmps73
    go_wp2
    go_ret2
    exact ⟨rfl, Below.refl _ _⟩
  rw [if_neg (by omega), if_neg (by omega)]
  have hs : size 6 = 12 := rfl
  rw [hs]
  clear hs
  go_enter Try.func73, Try.ntmps73
  go_wp2_with fail
  refine (bytes6 _).mono ?_
  rintro e w1 ⟨rfl, hw1⟩
  go_wp2
  go_ret2
  exact ⟨rfl, hw1⟩

theorem cost7 (n : Int) (w : World) : Calls Try.prog 74 #[.int .i64 n] w fun e w' => e = .returned (.tuple #[.int .i64 (words 7 n), .int .i64 (code n)]) ∧ Below w.heap.size w w' := by
  unfold words code
  by_cases h1 : n < 0
  · rw [if_pos (Or.inl h1), if_pos (Or.inl h1)]
    go_enter Try.func74, Try.ntmps74
    go_wp2
    go_ret2
    exact ⟨rfl, Below.refl _ _⟩
  by_cases h2 : 4194304 < n
  · rw [if_pos (Or.inr h2), if_pos (Or.inr h2)]
    go_enter Try.func74, Try.ntmps74
    go_wp2
    go_ret2
    exact ⟨rfl, Below.refl _ _⟩
  rw [if_neg (by omega), if_neg (by omega)]
  have hs : size 7 = 20 := rfl
  rw [hs]
  clear hs
  go_enter Try.func74, Try.ntmps74
  go_wp2_with fail
  refine (bytes7 _).mono ?_
  rintro e w1 ⟨rfl, hw1⟩
  go_wp2
  go_ret2
  exact ⟨rfl, hw1⟩

theorem cost8 (n : Int) (w : World) : Calls Try.prog 75 #[.int .i64 n] w fun e w' => e = .returned (.tuple #[.int .i64 (words 8 n), .int .i64 (code n)]) ∧ Below w.heap.size w w' := by
  unfold words code
  by_cases h1 : n < 0
  · rw [if_pos (Or.inl h1), if_pos (Or.inl h1)]
    go_enter Try.func75, Try.ntmps75
    go_wp2
    go_ret2
    exact ⟨rfl, Below.refl _ _⟩
  by_cases h2 : 4194304 < n
  · rw [if_pos (Or.inr h2), if_pos (Or.inr h2)]
    go_enter Try.func75, Try.ntmps75
    go_wp2
    go_ret2
    exact ⟨rfl, Below.refl _ _⟩
  rw [if_neg (by omega), if_neg (by omega)]
  have hs : size 8 = 64 := rfl
  rw [hs]
  clear hs
  go_enter Try.func75, Try.ntmps75
  go_wp2_with fail
  refine (bytes8 _).mono ?_
  rintro e w1 ⟨rfl, hw1⟩
  go_wp2
  go_ret2
  exact ⟨rfl, hw1⟩

theorem num (x : Int) (w : World) : Calls Try.prog 76 #[.int .i64 x] w fun e w' => e = .returned (.int .i64 x) ∧ Below w.heap.size w w' := by
  go_enter Try.func76, Try.ntmps76
  go_wp2
  go_ret
  exact ⟨rfl, Below.refl _ _⟩

set_option maxRecDepth 100000 in
theorem pick0 (n : Int) (w : World) : Calls Try.prog 14 #[.int .i64 0, .int .i64 n] w fun e w' => e = .returned (.tuple #[.int .i64 (words 0 n), .int .i64 (code n)]) ∧ Below w.heap.size w w' := by
  go_enter Try.func14, Try.ntmps14
  go_wp2_with fail
  refine (cost0 _ _).mono ?_
  rintro e w1 ⟨rfl, hw1⟩
  go_wp2_with fail
  refine (num _ _).mono ?_
  rintro e w2 ⟨rfl, hw2⟩
  go_wp2
  go_ret2
  exact ⟨rfl, hw1.trans (hw2.mono hw1.size)⟩

set_option maxRecDepth 100000 in
theorem pick1 (n : Int) (w : World) : Calls Try.prog 14 #[.int .i64 1, .int .i64 n] w fun e w' => e = .returned (.tuple #[.int .i64 (words 1 n), .int .i64 (code n)]) ∧ Below w.heap.size w w' := by
  go_enter Try.func14, Try.ntmps14
  go_wp2_with fail
  refine (cost1 _ _).mono ?_
  rintro e w1 ⟨rfl, hw1⟩
  go_wp2_with fail
  refine (num _ _).mono ?_
  rintro e w2 ⟨rfl, hw2⟩
  go_wp2
  go_ret2
  exact ⟨rfl, hw1.trans (hw2.mono hw1.size)⟩

set_option maxRecDepth 100000 in
theorem pick2 (n : Int) (w : World) : Calls Try.prog 14 #[.int .i64 2, .int .i64 n] w fun e w' => e = .returned (.tuple #[.int .i64 (words 2 n), .int .i64 (code n)]) ∧ Below w.heap.size w w' := by
  go_enter Try.func14, Try.ntmps14
  go_wp2_with fail
  refine (cost2 _ _).mono ?_
  rintro e w1 ⟨rfl, hw1⟩
  go_wp2_with fail
  refine (num _ _).mono ?_
  rintro e w2 ⟨rfl, hw2⟩
  go_wp2
  go_ret2
  exact ⟨rfl, hw1.trans (hw2.mono hw1.size)⟩

set_option maxRecDepth 100000 in
theorem pick3 (n : Int) (w : World) : Calls Try.prog 14 #[.int .i64 3, .int .i64 n] w fun e w' => e = .returned (.tuple #[.int .i64 (words 3 n), .int .i64 (code n)]) ∧ Below w.heap.size w w' := by
  go_enter Try.func14, Try.ntmps14
  go_wp2_with fail
  refine (cost3 _ _).mono ?_
  rintro e w1 ⟨rfl, hw1⟩
  go_wp2_with fail
  refine (num _ _).mono ?_
  rintro e w2 ⟨rfl, hw2⟩
  go_wp2
  go_ret2
  exact ⟨rfl, hw1.trans (hw2.mono hw1.size)⟩

set_option maxRecDepth 100000 in
theorem pick4 (n : Int) (w : World) : Calls Try.prog 14 #[.int .i64 4, .int .i64 n] w fun e w' => e = .returned (.tuple #[.int .i64 (words 4 n), .int .i64 (code n)]) ∧ Below w.heap.size w w' := by
  go_enter Try.func14, Try.ntmps14
  go_wp2_with fail
  refine (cost4 _ _).mono ?_
  rintro e w1 ⟨rfl, hw1⟩
  go_wp2_with fail
  refine (num _ _).mono ?_
  rintro e w2 ⟨rfl, hw2⟩
  go_wp2
  go_ret2
  exact ⟨rfl, hw1.trans (hw2.mono hw1.size)⟩

set_option maxRecDepth 100000 in
theorem pick5 (n : Int) (w : World) : Calls Try.prog 14 #[.int .i64 5, .int .i64 n] w fun e w' => e = .returned (.tuple #[.int .i64 (words 5 n), .int .i64 (code n)]) ∧ Below w.heap.size w w' := by
  go_enter Try.func14, Try.ntmps14
  go_wp2_with fail
  refine (cost5 _ _).mono ?_
  rintro e w1 ⟨rfl, hw1⟩
  go_wp2_with fail
  refine (num _ _).mono ?_
  rintro e w2 ⟨rfl, hw2⟩
  go_wp2
  go_ret2
  exact ⟨rfl, hw1.trans (hw2.mono hw1.size)⟩

set_option maxRecDepth 100000 in
theorem pick6 (n : Int) (w : World) : Calls Try.prog 14 #[.int .i64 6, .int .i64 n] w fun e w' => e = .returned (.tuple #[.int .i64 (words 6 n), .int .i64 (code n)]) ∧ Below w.heap.size w w' := by
  go_enter Try.func14, Try.ntmps14
  go_wp2_with fail
  refine (cost6 _ _).mono ?_
  rintro e w1 ⟨rfl, hw1⟩
  go_wp2_with fail
  refine (num _ _).mono ?_
  rintro e w2 ⟨rfl, hw2⟩
  go_wp2
  go_ret2
  exact ⟨rfl, hw1.trans (hw2.mono hw1.size)⟩

set_option maxRecDepth 100000 in
theorem pick7 (n : Int) (w : World) : Calls Try.prog 14 #[.int .i64 7, .int .i64 n] w fun e w' => e = .returned (.tuple #[.int .i64 (words 7 n), .int .i64 (code n)]) ∧ Below w.heap.size w w' := by
  go_enter Try.func14, Try.ntmps14
  go_wp2_with fail
  refine (cost7 _ _).mono ?_
  rintro e w1 ⟨rfl, hw1⟩
  go_wp2_with fail
  refine (num _ _).mono ?_
  rintro e w2 ⟨rfl, hw2⟩
  go_wp2
  go_ret2
  exact ⟨rfl, hw1.trans (hw2.mono hw1.size)⟩

set_option maxRecDepth 100000 in
theorem pick8 (n : Int) (w : World) : Calls Try.prog 14 #[.int .i64 8, .int .i64 n] w fun e w' => e = .returned (.tuple #[.int .i64 (words 8 n), .int .i64 (code n)]) ∧ Below w.heap.size w w' := by
  go_enter Try.func14, Try.ntmps14
  go_wp2_with fail
  refine (cost8 _ _).mono ?_
  rintro e w1 ⟨rfl, hw1⟩
  go_wp2_with fail
  refine (num _ _).mono ?_
  rintro e w2 ⟨rfl, hw2⟩
  go_wp2
  go_ret2
  exact ⟨rfl, hw1.trans (hw2.mono hw1.size)⟩

theorem sizes (k : Int) (h0 : 0 ≤ k) (h1 : k < 9) (w : World) : Calls Try.prog 77 #[.int .i64 k] w fun e w' => e = .returned (.int .i64 (size k)) ∧ Below w.heap.size w w' := by
  have h : k = 0 ∨ k = 1 ∨ k = 2 ∨ k = 3 ∨ k = 4 ∨ k = 5 ∨ k = 6 ∨ k = 7 ∨ k = 8 := by omega
  clear h0 h1
  rcases h with rfl | rfl | rfl | rfl | rfl | rfl | rfl | rfl | rfl
  all_goals
    go_enter Try.func77, Try.ntmps77
    go_wp2
    go_ret
    exact ⟨rfl, Below.refl _ _⟩
theorem size_is (k : Int) : size k = 1 ∨ size k = 4 ∨ size k = 8 ∨ size k = 12 ∨ size k = 20 ∨ size k = 64 := by
  unfold size
  (repeat' split) <;> omega
theorem refCost (k n : Int) (h0 : 0 ≤ k) (h1 : k < 9) (hn : -9223372036854775808 ≤ n ∧ n ≤ 9223372036854775807) (w : World) :
    Calls Try.prog 15 #[.int .i64 k, .int .i64 n] w fun e w' => e = .returned (.tuple #[.int .i64 (words k n), .int .i64 (code n)]) ∧ Below w.heap.size w w' := by
  unfold words code
  by_cases g1 : n < 0
  · rw [if_pos (Or.inl g1), if_pos (Or.inl g1)]
    go_enter Try.func15, Try.ntmps15
    go_wp2
    go_ret2
    exact ⟨rfl, Below.refl _ _⟩
  by_cases g2 : 4194304 < n
  · rw [if_pos (Or.inr g2), if_pos (Or.inr g2)]
    go_enter Try.func15, Try.ntmps15
    go_wp2
    go_ret2
    exact ⟨rfl, Below.refl _ _⟩
  rw [if_neg (by omega), if_neg (by omega)]
  have hz := size_is k
  have hC := fun w => sizes k h0 h1 w
  obtain ⟨s, hs⟩ : ∃ s, s = size k := ⟨_, rfl⟩
  rw [← hs] at hC hz ⊢
  clear hs
  have key : ∃ b, b = n * s ∧ 0 ≤ b ∧ b ≤ 268435456 := by
    rcases hz with rfl | rfl | rfl | rfl | rfl | rfl <;> exact ⟨_, rfl, by omega, by omega⟩
  obtain ⟨b, hb, b0, b1⟩ := key
  clear hz
  have hm : (binOp .mul 3 (.int .i64 n) (.int .i64 s)) = (binOp .mul 3 (.int .i64 n) (.int .i64 s)) := rfl
  clear hm
  have HM : Hid (n * s = b) := hb.symm
  rw [← hb]
  clear hb
  rcases Int.lt_or_le 0 (b % 8) with c | c
  · have e : (b + 7) / 8 = b / 8 + 1 := by omega
    rw [e]
    clear e
    go_enter Try.func15, Try.ntmps15
    go_wp2_with fail
    refine (hC _).mono ?_
    rintro e w1 ⟨rfl, hw1⟩
    have hx := HM.out
    go_wp2
    go_ret2
    exact ⟨rfl, hw1⟩
  · have e : (b + 7) / 8 = b / 8 := by omega
    rw [e]
    clear e
    go_enter Try.func15, Try.ntmps15
    go_wp2_with fail
    refine (hC _).mono ?_
    rintro e w1 ⟨rfl, hw1⟩
    have hx := HM.out
    go_wp2
    go_ret2
    exact ⟨rfl, hw1⟩
theorem pick (k n : Int) (h0 : 0 ≤ k) (h1 : k < 9) (w : World) : Calls Try.prog 14 #[.int .i64 k, .int .i64 n] w fun e w' => e = .returned (.tuple #[.int .i64 (words k n), .int .i64 (code n)]) ∧ Below w.heap.size w w' := by
  have h : k = 0 ∨ k = 1 ∨ k = 2 ∨ k = 3 ∨ k = 4 ∨ k = 5 ∨ k = 6 ∨ k = 7 ∨ k = 8 := by omega
  rcases h with rfl | rfl | rfl | rfl | rfl | rfl | rfl | rfl | rfl
  · exact pick0 n w
  · exact pick1 n w
  · exact pick2 n w
  · exact pick3 n w
  · exact pick4 n w
  · exact pick5 n w
  · exact pick6 n w
  · exact pick7 n w
  · exact pick8 n w
def Rel (w : World) (i : Value) (wr : World) : Prop := ∃ k : Nat, k ≤ 9 ∧ i = .int .i64 k ∧ Below w.heap.size w wr
theorem walk (n : Int) (hn : -9223372036854775808 ≤ n ∧ n ≤ 9223372036854775807) (w : World) :
    Calls Try.prog 4 #[.int .i64 n] w fun e w' => e = .returned (.bool true) ∧ Below w.heap.size w w' := by
  have hP := fun k h0 h1 w => pick k n h0 h1 w
  have hR := fun k h0 h1 w => refCost k n h0 h1 hn w
  go_enter Try.func4, Try.ntmps4
  go_wp2
  go_loopw [3] (fun i wr => Rel w i wr) (fun i _ => 9 - (intOf i).toNat)
  case atStart => exact ⟨0, Nat.zero_le _, rfl, Below.refl _ _⟩
  case round =>
    obtain ⟨k, hk, rfl, hl⟩ := hrel
    go_wp2_with fail
    · refine (hP _ (by omega) (by omega) _).mono ?_
      rintro e w1 ⟨rfl, hw1⟩
      go_wp2_with fail
      refine (hR _ (by omega) (by omega) _).mono ?_
      rintro e w2 ⟨rfl, hw2⟩
      go_wp2
      go_roundw
      case rel => exact ⟨k + 1, by omega, by go_num, (hl.trans (hw1.mono hl.size)).trans (hw2.mono (Nat.le_trans hl.size hw1.size))⟩
      case measure => simp [intOf]; omega
    · go_wp2
      go_ret
      exact ⟨rfl, hl⟩

theorem own : ownKnob Try.prog.godebug = none := by kernel_rfl
set_option maxRecDepth 100000 in
theorem lifted (os : Os) (started : os.Started) (H : Type) (enc : TypeId × Value → H) :
    ReturnsInHanded {} Try.checked os 4 .any (Rows.purseCostsSpec.pre6 enc Try.prog Try.f4 Rows.purseCostsRow.domain false) (Rows.purseCostsSpec.post enc Try.prog Try.f4 false true false false) := by
  refine returnsInHanded_of_change_sized (C := Try.checked) own started (by kernel_rfl) Try.func4
    (ChangeSpec.witness6 (enc := enc) (C := Try.checked) false ⟨#[], #[.int .i64 0], []⟩ 8 (by kernel_rfl) (by kernel_rfl) (by kernel_rfl) (by kernel_rfl)) ?_
  intro W base args ds gs before hval0 hW hcnd hsz0 _
  have hsz : (DataW.weightsEach Try.prog (Try.f4.params.toList ++ Rows.purseCostsSpec.plain.varTypes Try.prog) (ds ++ gs)).all (· ≤ reachBytes) = true := hsz0
  have hval : ∀ (j : Nat) t v, Try.f4.params[j]? = some t → args[j]? = some v → Value.okWide Try.prog W .any base t v := hval0
  have hW' := hW
  obtain ⟨p, q, hA0, hV, rfl, hfz, hnd⟩ := hW
  have hA : DataW.TrodAll enc Try.prog W 0 (fun _ => true) true Try.f4.params.toList args.toList ds p := hA0
  rw [Try.params4] at hA hval hsz
  obtain ⟨v0, vs0, d0, ds0, p0, q0, hargs, rfl, rfl, h0, r0⟩ := trodAll_cons hA
  obtain ⟨rfl, rfl, rfl⟩ := trodAll_nil r0
  obtain rfl : args = #[v0] := by cases args; simp_all
  obtain ⟨rfl, rfl⟩ := trodVars_none hV
  obtain ⟨a0, rfl, rfl, rfl, w0⟩ := open_int Try.underlying3 (hval 0 3 v0 rfl rfl) h0
  refine (walk _ (bounds_i64 w0) W).mono fun e W' ⟨he, bel⟩ => ?_
  subst he
  exact ⟨_, rfl, _, _, _, [], _, [], hW', trodAll_mk1 (shut_bool Try.underlying4 _), (trodAll_cons_mk (shut_int Try.underlying3 w0) trodAll_mk0), rfl, bel.frame _, fun h => by cases h⟩
theorem over : Rows.purseCostsRow.holds Try.pinned (OpenSpec.ofChange Rows.purseCostsSpec) :=
  OpenClaim.holds_of_wide 4 Try.f4 rfl rfl rfl rfl rfl rfl rfl ⟨rfl, rfl, rfl, rfl, rfl⟩ rfl rfl rfl rfl rfl (by kernel_rfl) Try.func4 (by kernel_rfl)
    (of_decide_eq_true (by kernel_rfl)) (by unfold Func.isWrapper; first | (rw [if_pos (by decide +kernel)]; kernel_rfl) | (rw [if_neg (by decide +kernel)]; exact ⟨rfl, rfl⟩))
    (fun os started H enc _ => lifted os started H enc)
theorem proved : Rows.PurseCostsSaid := over
#print axioms proved
end Go.Proofs.Ytikeilfljjggbaa.purseCosts