/-
  Small laws of this seat's own: a block whose first cells are known; what a slice owns, behind calls that only make new blocks. No condition.
-/
import Derived.Test.YtbbldcbilnkkdaaDoorSum
import Derived.Test.YtbbldcbilnkkdaaDoorK3
set_option linter.unusedVariables false
set_option linter.unusedSimpArgs false
namespace Go.Proofs.YtbbldcbilnkkdaaDoor.K
open Go.RowKit Go.ChangeShapes Go.WideShapes Tly

/-- Block g of cap cells begins with xs. -/
def Pre (W : World) (g : Nat) (T : TypeId) (cap : Nat) (xs : List Value) : Prop := ∃ cur : Array Value, Row W g T cur ∧ cur.size = cap ∧ xs.length ≤ cap ∧ cur.toList.take xs.length = xs
section
variable {W W' : World} {g : Nat} {T : TypeId} {cap : Nat} {xs : List Value}
theorem _root_.Go.Proofs.YtbbldcbilnkkdaaDoor.Tly.Row.grown {b : Nat} {cs : Array Value} (h : Row W b T cs) {row : Option Nat} (hg : W.grownBy W' row) (hne : some b ≠ row) : Row W' b T cs := (hg.block b h.lt hne).trans h
theorem Pre.lt (h : Pre W g T cap xs) : g < W.heap.size := let ⟨_, h, _⟩ := h; h.lt
theorem Pre.get (h : Pre W g T cap xs) {i : Nat} {v : Value} (hv : xs[i]? = some v) : W.cell? ⟨g, i, none⟩ = some v := by
  obtain ⟨cur, hr, hs, hl, ht⟩ := h
  refine hr.get ?_
  rw [← ht, List.getElem?_take] at hv
  split at hv
  · simpa using hv
  · cases hv
theorem Pre.free (h : Pre W g T cap xs) (i : Nat) : W.frozen? ⟨g, i, none⟩ = false := let ⟨_, h, _⟩ := h; h.free i
theorem Pre.set (h : Pre W g T cap xs) {i : Nat} (v : Value) : Pre (W.setCell ⟨g, i, none⟩ v) g T cap (xs.set i v) := by
  obtain ⟨cur, hr, hs, hl, ht⟩ := h
  refine ⟨_, hr.set i v, by simpa using hs, by simpa using hl, ?_⟩
  rw [List.length_set, Array.toList_setIfInBounds, List.take_set, ht]
theorem Pre.other (h : Pre W g T cap xs) {a : Addr} (ha : g ≠ a.block) (v : Value) : Pre (W.setCell a v) g T cap xs := let ⟨c, h, r⟩ := h; ⟨c, h.other ha v, r⟩
theorem Pre.below (h : Pre W g T cap xs) {B : Nat} (hb : Below B W W') (hB : g < B) : Pre W' g T cap xs := let ⟨c, h, r⟩ := h; ⟨c, h.below hb hB, r⟩
theorem Pre.drew (h : Pre W g T cap xs) : Pre W.drew g T cap xs := h
theorem Pre.alloc (h : Pre W g T cap xs) (o : Obj) : Pre (W.alloc o) g T cap xs := let ⟨c, h, r⟩ := h; ⟨c, h.alloc o, r⟩
theorem Pre.put_other (h : Pre W g T cap xs) {b : Nat} (hb : g ≠ b) (cs : Array Value) : Pre (W.setRow b cs) g T cap xs := let ⟨c, h, r⟩ := h; ⟨c, h.put_other hb cs, r⟩
theorem Pre.grown (h : Pre W g T cap xs) {row : Option Nat} (hg : W.grownBy W' row) (hne : some g ≠ row) : Pre W' g T cap xs :=
  let ⟨c, h, r⟩ := h; ⟨c, (hg.block g h.lt hne).trans h, r⟩
theorem Pre.lies (h : Pre W g T cap xs) {B n : Nat} (hB : g < B) (hn : n ≤ xs.length) : Lies W B (some ⟨g, 0, none⟩) n (xs.take n) := by
  refine ⟨by simp; omega, fun _ => ⟨_, rfl, hB, fun j u hu => ?_⟩⟩
  rw [List.getElem?_take] at hu
  split at hu
  · have := h.get hu
    have e : (⟨g, 0, none⟩ : Addr).add j = ⟨g, j, none⟩ := by unfold Addr.add; split <;> simp_all
    rw [e]; exact this
  · cases hu
theorem Pre.own (h : Pre W g T cap xs) {base : Nat} (hb : base ≤ g) (hm : cap ≤ maxLen) : W.ownsRow base T 1 (.slice (some ⟨g, 0, none⟩) xs.length cap) xs.length xs := by
  obtain ⟨cur, hr, hs, hl, ht⟩ := h
  exact ⟨by simp, .inr ⟨g, cap, cur, rfl, hb, hr, hl, hm, by simpa using hs, by simpa using ht⟩⟩
end
section
variable {w w' : World} {base : Nat} {e : TypeId} {v : Value} {n : Nat} {xs : List Value}
theorem pre_of_own (h : w.ownsRow base e 1 v n xs) (hn : 0 < n) : ∃ g cap, v = .slice (some ⟨g, 0, none⟩) n cap ∧ base ≤ g ∧ n ≤ cap ∧ cap ≤ maxLen ∧ Pre w g e cap xs := by
  obtain ⟨h1, ⟨_, h2⟩ | ⟨g, cap, cur, hv, hg, hh, hc, hm, hs, ht⟩⟩ := h
  · omega
  · have h1' : xs.length = n := by simpa using h1
    exact ⟨g, cap, hv, hg, hc, hm, cur, hh, by simpa using hs, by omega, by rw [h1']; simpa using ht⟩
theorem own_below {size : Nat} (h : w.ownsRow base e size v n xs) (hb : Below w.heap.size w w') : w'.ownsRow base e size v n xs := by
  obtain ⟨h1, h2 | ⟨g, cap, cur, hv, hg, hh, r⟩⟩ := h
  · exact ⟨h1, .inl h2⟩
  · exact ⟨h1, .inr ⟨g, cap, cur, hv, hg, Row.below (cs := cur) hh hb (Row.lt hh), r⟩⟩
theorem own_put {size b : Nat} (h : w.ownsRow base e size v n xs) (hb : b < base) (cs : Array Value) : (w.setRow b cs).ownsRow base e size v n xs := by
  obtain ⟨h1, h2 | ⟨g, cap, cur, hv, hg, hh, r⟩⟩ := h
  · exact ⟨h1, .inl h2⟩
  · exact ⟨h1, .inr ⟨g, cap, cur, hv, hg, Row.put_other (cs := cur) hh (by omega) cs, r⟩⟩
/-- Of a slice that owns its cells: where they lie. -/
theorem lies_own {A : Option Addr} {cap : Nat} (h : w.ownsRow base e 1 (.slice A n cap) n xs) : Lies w w.heap.size A n xs := by
  have h' := h
  obtain ⟨h1, ⟨hv, rfl⟩ | ⟨g, cap, cur, hv, hg, hh, hc, hm, hs, ht⟩⟩ := h
  · exact ⟨by simpa using h1, fun h => absurd h (by omega)⟩
  · have h1' : xs.length = n := by simpa using h1
    obtain ⟨rfl, -, rfl⟩ := Value.slice.inj hv
    exact ⟨h1', fun hn => ⟨_, rfl, Row.lt hh, fun j u hu => h'.cells (g := g) rfl j u hu⟩⟩
theorem own_shape (h : w.ownsRow base e 1 v n xs) : ∃ A cap, v = .slice A n cap := by
  obtain ⟨h1, ⟨rfl, rfl⟩ | ⟨g, cap, cur, rfl, hg, hh, hc, hm, hs, ht⟩⟩ := h
  · exact ⟨_, _, rfl⟩
  · exact ⟨_, _, rfl⟩
/-- Of a slice that owns its cells: where they lie. -/
theorem lies_of_own (h : w.ownsRow base e 1 v n xs) : ∃ A cap, v = .slice A n cap ∧ n ≤ cap ∧ Lies w w.heap.size A n xs := by
  have h' := h
  obtain ⟨h1, ⟨rfl, rfl⟩ | ⟨g, cap, cur, rfl, hg, hh, hc, hm, hs, ht⟩⟩ := h
  · exact ⟨none, 0, rfl, Nat.le_refl _, by simpa using h1, fun h => absurd h (by omega)⟩
  · have h1' : xs.length = n := by simpa using h1
    refine ⟨_, cap, rfl, hc, h1', fun hn => ⟨_, rfl, Row.lt hh, fun j u hu => ?_⟩⟩
    have := h'.cells (g := g) rfl j u hu
    exact this
end
/-- Six cells of a block written one behind the other. -/
def set6 (W : World) (b : Nat) (x0 x1 x2 x3 x4 x5 : Value) : World :=
  (((((W.setCell ⟨b, 0, none⟩ x0).setCell ⟨b, 1, none⟩ x1).setCell ⟨b, 2, none⟩ x2).setCell ⟨b, 3, none⟩ x3).setCell ⟨b, 4, none⟩ x4).setCell ⟨b, 5, none⟩ x5
section
variable {W : World} {b g : Nat} {T : TypeId} {x0 x1 x2 x3 x4 x5 : Value}
theorem row_set6 {cs : Array Value} (h : Row W b T cs) (hs : cs.size = 6) : Row (set6 W b x0 x1 x2 x3 x4 x5) b T #[x0, x1, x2, x3, x4, x5] := by
  obtain ⟨l⟩ := cs
  match l, hs with
  | [_, _, _, _, _, _], _ => exact (((((h.set 0 x0).set 1 x1).set 2 x2).set 3 x3).set 4 x4).set 5 x5
theorem row_set6_other {cs : Array Value} (h : Row W g T cs) (hb : g ≠ b) : Row (set6 W b x0 x1 x2 x3 x4 x5) g T cs := (((((h.other hb x0).other hb x1).other hb x2).other hb x3).other hb x4).other hb x5
theorem pre_set6 {cap : Nat} {xs : List Value} (h : Pre W g T cap xs) (hb : g ≠ b) : Pre (set6 W b x0 x1 x2 x3 x4 x5) g T cap xs := (((((h.other hb x0).other hb x1).other hb x2).other hb x3).other hb x4).other hb x5
theorem below_set6 {B : Nat} {w : World} (h : Below B w W) (hb : B ≤ b) : Below B w (set6 W b x0 x1 x2 x3 x4 x5) := (((((h.setCell hb x0).setCell hb x1).setCell hb x2).setCell hb x3).setCell hb x4).setCell hb x5
theorem set6_size : (set6 W b x0 x1 x2 x3 x4 x5).heap.size = W.heap.size := by simp [set6]
end
/-- The six words of a sum, written out. -/
theorem lit6 (z : Int) : ∃ a b c d e f : Int, wv z = #[.int .u64 a, .int .u64 b, .int .u64 c, .int .u64 d, .int .u64 e, .int .u64 f] := ⟨_, _, _, _, _, _, rfl⟩
end Go.Proofs.YtbbldcbilnkkdaaDoor.K
