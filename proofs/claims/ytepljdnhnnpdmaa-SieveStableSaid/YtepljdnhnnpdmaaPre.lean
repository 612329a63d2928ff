/-
  A block whose first cells are known. No condition.
-/
import Derived.Test.YtepljdnhnnpdmaaDesk
set_option linter.unusedVariables false
set_option linter.unusedSimpArgs false
namespace Go.Proofs.Ytepljdnhnnpdmaa.K
open Go.RowKit Go.ChangeShapes Go.WideShapes

/-- Block g of cap cells begins with xs. -/
def Pre (W : World) (g : Nat) (T : TypeId) (cap : Nat) (xs : List Value) : Prop := ∃ cur : Array Value, Row W g T cur ∧ cur.size = cap ∧ xs.length ≤ cap ∧ cur.toList.take xs.length = xs
section
variable {W W' : World} {g : Nat} {T : TypeId} {cap : Nat} {xs : List Value}
theorem Pre.lt (h : Pre W g T cap xs) : g < W.heap.size := let ⟨_, h, _⟩ := h; h.lt
theorem Pre.get (h : Pre W g T cap xs) {i : Nat} {v : Value} (hv : xs[i]? = some v) : W.cell? ⟨g, i, none⟩ = some v := by
  obtain ⟨cur, hr, hs, hl, ht⟩ := h
  refine hr.get ?_
  rw [← ht, List.getElem?_take] at hv
  split at hv
  · simpa using hv
  · cases hv
theorem Pre.free (h : Pre W g T cap xs) (i : Nat) : W.frozen? ⟨g, i, none⟩ = false := let ⟨_, h, _⟩ := h; h.free i
theorem Pre.set (h : Pre W g T cap xs) {i : Nat} (v : Value) : Pre (W.setCell ⟨g, i, none⟩ v) g T cap (xs.set i v) := by
  obtain ⟨cur, hr, hs, hl, ht⟩ := h
  refine ⟨_, hr.set i v, by simpa using hs, by simpa using hl, ?_⟩
  rw [List.length_set, Array.toList_setIfInBounds, List.take_set, ht]
theorem Pre.other (h : Pre W g T cap xs) {a : Addr} (ha : g ≠ a.block) (v : Value) : Pre (W.setCell a v) g T cap xs := let ⟨c, h, r⟩ := h; ⟨c, h.other ha v, r⟩
theorem Pre.below (h : Pre W g T cap xs) {B : Nat} (hb : Below B W W') (hB : g < B) : Pre W' g T cap xs := let ⟨c, h, r⟩ := h; ⟨c, h.below hb hB, r⟩
theorem Pre.drew (h : Pre W g T cap xs) : Pre W.drew g T cap xs := h
theorem Pre.alloc (h : Pre W g T cap xs) (o : Obj) : Pre (W.alloc o) g T cap xs := let ⟨c, h, r⟩ := h; ⟨c, h.alloc o, r⟩
theorem Pre.put_other (h : Pre W g T cap xs) {b : Nat} (hb : g ≠ b) (cs : Array Value) : Pre (W.setRow b cs) g T cap xs := let ⟨c, h, r⟩ := h; ⟨c, h.put_other hb cs, r⟩
theorem Pre.grown (h : Pre W g T cap xs) {row : Option Nat} (hg : W.grownBy W' row) (hne : some g ≠ row) : Pre W' g T cap xs :=
  let ⟨c, h, r⟩ := h; ⟨c, (hg.block g h.lt hne).trans h, r⟩
end
theorem Pre.same {W W' : World} {g : Nat} {T : TypeId} {cap : Nat} {xs : List Value} (h : Pre W g T cap xs) (e : W'.heap[g]? = W.heap[g]?) : Pre W' g T cap xs := let ⟨c, h, r⟩ := h; ⟨c, e.trans h, r⟩
theorem Pre.short {W : World} {g : Nat} {T : TypeId} {cap : Nat} {xs ys : List Value} (h : Pre W g T cap (xs ++ ys)) : Pre W g T cap xs := by
  obtain ⟨c, h1, h2, h3, h4⟩ := h
  refine ⟨c, h1, h2, by simp at h3; omega, ?_⟩
  have := congrArg (List.take xs.length) h4
  rwa [List.take_take, List.take_left, Nat.min_eq_left (by simp)] at this
/-- Of a slice that owns its cells: the block. -/
theorem pre_of_own {w : World} {base : Nat} {e : TypeId} {v : Value} {n size : Nat} {xs : List Value} (h : w.ownsRow base e size v n xs) (hn : 0 < n) :
    ∃ g cap, v = .slice (some ⟨g, 0, none⟩) n cap ∧ base ≤ g ∧ n ≤ cap ∧ cap ≤ maxLen ∧ Pre w g e (cap * size) xs := by
  obtain ⟨h1, ⟨_, h2⟩ | ⟨g, cap, cur, hv, hg, hh, hc, hm, hs, ht⟩⟩ := h
  · omega
  · refine ⟨g, cap, hv, hg, hc, hm, cur, hh, hs, ?_, ?_⟩
    · rw [h1]; exact Nat.mul_le_mul_right _ hc
    · rw [h1]; exact ht
/-- What lies at a block's head. -/
theorem Pre.lay {W : World} {g : Nat} {T : TypeId} {cap : Nat} {xs : List Value} (h : Pre W g T cap xs) : Lay W (g + 1) (some ⟨g, 0, none⟩) xs := fun _ =>
  ⟨g, 0, rfl, by omega, fun j u hu => by rw [Nat.zero_add]; exact h.get hu⟩
theorem turns_anew {S S' : Nat → Prop} {A B : World} (h : Desk.Turns S' A B) (hs : ∀ k, S' k → S k ∨ A.heap.size ≤ k) : Desk.Turns S A B :=
  ⟨h.os, h.b, fun k hk hn => h.block k hk fun g => (hs k g).elim hn (by omega)⟩
end Go.Proofs.Ytepljdnhnnpdmaa.K
