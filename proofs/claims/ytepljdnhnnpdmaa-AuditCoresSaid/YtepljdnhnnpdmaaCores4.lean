/-
  What the desk holds of core numbers, against the document's words. No condition.
-/
import Derived.Test.YtepljdnhnnpdmaaCores3
import Derived.Test.YtepljdnhnnpdmaaCoreNum
set_option linter.unusedVariables false
set_option linter.unusedSimpArgs false
namespace Go.Proofs.Ytepljdnhnnpdmaa.Cores
open Go.RowKit Go.Shelf K Feed Desk Forest Case Peel Labels Faults CoreNum

def truthC (C : List Nat) : List Int := (pre1 C).map fun (v : Nat) => (v : Int)
theorem truthC_get (C : List Nat) {v : Nat} (h : v < C.length) : (truthC C).getD v 0 = ((C.getD v 0 - 1 : Nat) : Int) := by
  simp [truthC, pre1, List.getD_eq_getElem?_getD, h]
theorem truthC_fc (C : List Nat) : (fc (pre1 C) ++ []).toArray = ((truthC C).map (Value.int .u64)).toArray := by simp [fc, truthC, Function.comp_def]
theorem notes_foundC (C : List Nat) (l : List S8) (n : Nat) (hC : C.length = n) : ∀ i, i ≤ n → FoundIs (notes (fun v => C.getD v 0 - 1) l i) (wordN l (truthC C) 0 i) := by
  intro i
  induction i with
  | zero => exact fun _ => found_zero.iff fun v r => ⟨fun h => h.elim, fun h => absurd h.1 (Nat.not_lt_zero _)⟩
  | succ i ih =>
    intro hi
    rw [notes]
    have h := (ih (by omega)).note i 1 (by decide) ((l.getD i zero8).at 0 != ((C.getD i 0 - 1 : Nat) : Int))
    refine h.iff fun v r => ?_
    rw [← truthC_get C (show i < C.length by omega)]
    exact wordN_next l (truthC C) 0 i v r
end Go.Proofs.Ytepljdnhnnpdmaa.Cores
