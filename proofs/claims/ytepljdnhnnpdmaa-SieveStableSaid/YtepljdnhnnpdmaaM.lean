/-
  Small laws of this seat's own: blocks known whole; where a slice's cells lie; what a call leaves as it was. No condition.
-/
import Derived.Test.YtepljdnhnnpdmaaK
import Derived.Test.YtepljdnhnnpdmaaKe
import Derived.Outline
import Derived.BigRegion
import Derived.RegionTactic
import Derived.StillTailTactics
import Derived.WalkLawsBesides
import Derived.OwnWalk
import Derived.ChangeSlices
import Derived.Laws.OwnMore
import Derived.Deep.WholeRow
import Derived.Deep.Slices
import Derived.RangeFuncNested
import Derived.Sort.QuietIn
import Derived.OwnWalkIn
set_option linter.unusedVariables false
set_option linter.unusedSimpArgs false
namespace Go.Proofs.Ytepljdnhnnpdmaa.K
open Go.RowKit Go.ChangeShapes Go.WideShapes

/-! ### blocks known whole -/
def Row (W : World) (b : Nat) (T : TypeId) (cs : Array Value) : Prop := W.heap[b]? = some (.cells cs T (0, 0))
section
variable {W W' : World} {b b' B : Nat} {T : TypeId} {cs : Array Value}
theorem Row.lt (h : Row W b T cs) : b < W.heap.size := by
  rcases Nat.lt_or_ge b W.heap.size with g | g
  · exact g
  · unfold Row at h; rw [Array.getElem?_eq_none g] at h; cases h
theorem Row.get (h : Row W b T cs) {i : Nat} {v : Value} (hv : cs[i]? = some v) : W.cell? ⟨b, i, none⟩ = some v := (K.row_cell h i).trans hv
theorem Row.free (h : Row W b T cs) (i : Nat) : W.frozen? ⟨b, i, none⟩ = false := by unfold Row at h; simp [World.frozen?, h]
theorem Row.set (h : Row W b T cs) (i : Nat) (v : Value) : Row (W.setCell ⟨b, i, none⟩ v) b T (cs.setIfInBounds i v) := heap_setCell_same W b i cs T v h
theorem Row.other (h : Row W b T cs) {a : Addr} (ha : b ≠ a.block) (v : Value) : Row (W.setCell a v) b T cs := (heap_setCell_other W a b v ha).trans h
theorem Row.below (h : Row W b T cs) (hb : Below B W W') (hB : b < B) : Row W' b T cs := (hb.block b hB).trans h
theorem Row.drew (h : Row W b T cs) : Row W.drew b T cs := h
theorem Row.alloc (h : Row W b T cs) (o : Obj) : Row (W.alloc o) b T cs := (Below.heap_alloc W o b h.lt).trans h
theorem Row.new (W : World) (T : TypeId) (cs : Array Value) : Row (W.alloc (.cells cs T)) W.heap.size T cs := heap_alloc_new W _
theorem Row.at (h : Row W b T cs) (e : b = b') : Row W b' T cs := e ▸ h
theorem Row.put (h : Row W b T cs) (cs' : Array Value) : Row (W.setRow b cs') b T cs' := setRow_heap W b cs cs' T (0, 0) h
theorem Row.put_other (h : Row W b T cs) (hb : b ≠ b') (cs' : Array Value) : Row (W.setRow b' cs') b T cs := (setRow_other W b' b cs' hb).trans h
theorem Row.put_below {w : World} (hl : Below B w W) (h : Row W b T cs) (hb : B ≤ b) (cs' : Array Value) : Below B w (W.setRow b cs') :=
  hl.trans ⟨rfl, rfl, rfl, by simp, fun k hk => setRow_other W b k cs' (by omega)⟩
theorem Row.grown (h : Row W b T cs) {row : Option Nat} (hg : W.grownBy W' row) (hne : some b ≠ row) : Row W' b T cs := (hg.block b h.lt hne).trans h
theorem Row.cells (h : Row W b T cs) : ∀ k o, some b = some k → W.heap[k]? = some o → o.isCells = true := by
  intro k o e ho
  cases e
  rw [show W.heap[b]? = _ from h] at ho; cases ho; rfl
end

/-! ### what a call leaves as it was: what lay below B; and whatever is no cells -/
structure Tame (B : Nat) (W W' : World) : Prop where
  below : Below B W W'
  keeps : KeepsOthers W W'
section
variable {A B C W W' : World} {n m : Nat}
theorem Tame.refl (n : Nat) (W : World) : Tame n W W := ⟨Below.refl _ _, KeepsOthers.refl _⟩
theorem Tame.trans (h : Tame n A B) (k : Tame n B C) : Tame n A C := ⟨h.below.trans k.below, h.keeps.trans k.keeps⟩
theorem Tame.mono (h : Tame m A B) (hn : n ≤ m) : Tame n A B := ⟨h.below.mono hn, h.keeps⟩
theorem Tame.alloc (h : Tame n A B) (hn : n ≤ B.heap.size) (o : Obj) : Tame n A (B.alloc o) := ⟨h.below.alloc hn o, h.keeps.trans (KeepsOthers.alloc _ _)⟩
theorem Tame.setCell (h : Tame n A B) {p : Addr} (hp : n ≤ p.block) (v : Value) : Tame n A (B.setCell p v) := ⟨h.below.setCell hp v, h.keeps.trans (KeepsOthers.setCell _ _ _)⟩
theorem Tame.drew (h : Tame n A B) : Tame n A B.drew := ⟨h.below.drew, h.keeps.trans (KeepsOthers.drew _)⟩
theorem Tame.size (h : Tame n A B) : A.heap.size ≤ B.heap.size := h.keeps.size
theorem Tame.next (h : Tame n A B) (k : Tame B.heap.size B C) (hn : n ≤ B.heap.size) : Tame n A C := h.trans (k.mono hn)
theorem Tame.grown (h : Tame n A B) {row : Option Nat} (hg : B.grownBy C row) (hn : n ≤ B.heap.size) (hr : ∀ k, row = some k → n ≤ k) (hc : ∀ k o, row = some k → B.heap[k]? = some o → o.isCells = true) : Tame n A C :=
  ⟨h.below.grown hg hn hr, h.keeps.trans (KeepsOthers.of_grownBy hg hc)⟩
end

/-! ### where a slice's cells lie -/
theorem block_add (a : Addr) (n : Nat) : (a.add n).block = a.block := by unfold Addr.add; split <;> rfl
def Lay (W : World) (B : Nat) (A : Option Addr) (cs : List Value) : Prop := cs ≠ [] → ∃ b off, A = some ⟨b, off, none⟩ ∧ b < B ∧ ∀ j u, cs[j]? = some u → W.cell? ⟨b, off + j, none⟩ = some u
section
variable {W W' : World} {B B' : Nat} {A : Option Addr} {cs : List Value}
theorem Lay.below (h : Lay W B A cs) (hb : Below B W W') : Lay W' B A cs := fun hn => by
  obtain ⟨b, off, e, hB, hc⟩ := h hn
  exact ⟨b, off, e, hB, fun j u hu => (hb.cell (p := ⟨b, off + j, none⟩) hB).trans (hc j u hu)⟩
theorem Lay.more (h : Lay W B A cs) (hB : B ≤ B') : Lay W B' A cs := fun hn => by
  obtain ⟨b, off, e, hb, hc⟩ := h hn
  exact ⟨b, off, e, by omega, hc⟩
theorem Lay.nil (W : World) (B : Nat) (A : Option Addr) : Lay W B A [] := fun h => absurd rfl h
end
section
variable {w : World} {base : Nat} {e : TypeId} {v : Value} {n size : Nat} {xs : List Value}
/-- Of a slice that owns its cells: where they lie. -/
theorem lay_of_own (h : w.ownsRow base e size v n xs) : ∃ A cap, v = .slice A n cap ∧ n ≤ cap ∧ (A = none → n = 0 ∧ cap = 0) ∧ Lay w w.heap.size A xs := by
  have h' := h
  obtain ⟨h1, ⟨rfl, rfl⟩ | ⟨g, cap, cur, rfl, hg, hh, hc, hm, hs, ht⟩⟩ := h
  · exact ⟨none, 0, rfl, Nat.le_refl _, fun _ => ⟨rfl, rfl⟩, fun hx => by simp at h1; exact absurd h1 hx⟩
  · exact ⟨_, cap, rfl, hc, fun h => (by cases h), fun _ => ⟨g, 0, rfl, (Array.getElem?_eq_some_iff.1 hh).1, fun j u hu => by have := h'.cells (g := g) rfl j u hu; rwa [Go.WideShapes.add_plain] at this⟩⟩
theorem own_cells (h : w.ownsRow base e size v n xs) : ∀ k o, v.ownBlock = some k → w.heap[k]? = some o → o.isCells = true := by
  intro k o hk ho
  obtain ⟨h1, ⟨rfl, rfl⟩ | ⟨g, cap, cur, rfl, hg, hh, hc, hm, hs, ht⟩⟩ := h
  · simp [Value.ownBlock] at hk
  · simp [Value.ownBlock] at hk; subst hk; rw [hh] at ho; cases ho; rfl
theorem own_below {w' : World} (h : w.ownsRow base e size v n xs) (hb : Below w.heap.size w w') : w'.ownsRow base e size v n xs := by
  obtain ⟨h1, h2 | ⟨g, cap, cur, hv, hg, hh, r⟩⟩ := h
  · exact ⟨h1, .inl h2⟩
  · exact ⟨h1, .inr ⟨g, cap, cur, hv, hg, Row.below (cs := cur) hh hb (Row.lt hh), r⟩⟩
end
section
variable {P : Program} {w : World} {base : Nat} {t ty e : TypeId} {i : TypeInfo} {z : Value} {size bytes : Nat} {v : Value} {k m c B : Nat} {xs cs : List Value} {A : Option Addr}
/-- 'append(v, src..)', v the call's own (or nil), src a slice that lies somewhere, nil or not. -/
theorem run_append_lay (ht : P.underlying t = some (.slice e)) (hi : P.info? e = some i) (hz : i.zero = some z) (hsize : i.size = size) (hby : i.bytes = bytes) (hzs : z.cells.size = size) (hsz : 0 < size)
    (hown : w.ownsRow base e size v k xs) (hA : A = none → m = 0 ∧ c = 0) (hl : cs.length = m * size) (hlay : Lay w B A cs) (h1 : ∀ u ∈ cs, u.oneCell' = true) (h63 : k + m ≤ maxLen) (hbytes : (k + m) * bytes ≤ 140737488355328) (hbase : base ≤ w.heap.size) :
    ∃ v' w', (Builtin.append_ #[t, t] ty #[v, .slice A m c]).run P w = .ok v' w' ∧ w'.ownsRow base e size v' (k + m) (xs ++ cs) ∧ w.grownBy w' v.ownBlock ∧ (v' = .slice none 0 0 ↔ v = .slice none 0 0 ∧ m = 0) := by
  cases A with
  | none =>
    obtain ⟨rfl, rfl⟩ := hA rfl
    have hcs : cs = [] := List.eq_nil_of_length_eq_zero (by simpa using hl)
    subst hcs
    exact ⟨v, w, run_append_owned_none (P := P) (w := w) base t ty e i size ht hi v k xs hown, by simpa using hown, World.grownBy.refl w _, by simp⟩
  | some ad =>
    refine run_append_own w base t ty e i z size bytes ht hi hz hsize hby hzs hsz v k xs hown ad m c cs hl (fun j u hu => ?_) h1 h63 hbytes hbase
    have hne : cs ≠ [] := by intro h; rw [h] at hu; simp at hu
    obtain ⟨b, off, e', hb, hc⟩ := hlay hne
    cases e'
    rw [Go.WideShapes.add_plain]
    exact hc j u hu
theorem append_lay {ops : Array Oper} {rest : List Oper} {o : Oper} {a : Act} {Q : Exit → Act → World → Prop} (hgd : o.guard = none) (s x : Operand) (t : TypeId)
    (ho : o.op = .call { callee := .builtin .append, args := #[s, x], argTypes := #[t, t] }) (base : Nat) (e : TypeId) (i : TypeInfo) (z : Value) (size bytes : Nat)
    (ht : P.underlying t = some (.slice e)) (hi : P.info? e = some i) (hz : i.zero = some z) (hsize : i.size = size) (hby : i.bytes = bytes) (hzs : z.cells.size = size) (hsz : 0 < size)
    (v : Value) (k : Nat) (xs : List Value) (hs : a.eval s = v) (hown : w.ownsRow base e size v k xs) (A : Option Addr) (m c : Nat) (cs : List Value) (hx : a.eval x = .slice A m c) (hA : A = none → m = 0 ∧ c = 0) (hl : cs.length = m * size) (B : Nat) (hlay : Lay w B A cs) (h1 : ∀ u ∈ cs, u.oneCell' = true) (h63 : k + m ≤ maxLen) (hbytes : (k + m) * bytes ≤ 140737488355328) (hbase : base ≤ w.heap.size)
    (h : ∀ v' w', w'.ownsRow base e size v' (k + m) (xs ++ cs) → w.grownBy w' v.ownBlock → (v' = .slice none 0 0 ↔ v = .slice none 0 0 ∧ m = 0) → wpList P ops Q rest (a.put o.dst v') w') : wpList P ops Q (o :: rest) a w := by
  refine wpList_plain hgd fun K hK => ?_
  obtain ⟨v', w', hrun, r1, r2, r3⟩ := run_append_lay (P := P) (ty := o.type) ht hi hz hsize hby hzs hsz hown hA hl hlay h1 h63 hbytes hbase
  unfold Oper.wp
  simp [execOp, ho, resolve, invoke, builtin, hs, hx, hrun, Result.andThen]
  exact hK _ _ (h v' w' r1 r2 r3)
theorem append_layIn {F : Fence} {n : Nat} {ops : Array Oper} {rest : List Oper} {o : Oper} {a : Act} {Q : Exit → Act → World → Prop} (hgd : o.guard = none) (s x : Operand) (t : TypeId)
    (ho : o.op = .call { callee := .builtin .append, args := #[s, x], argTypes := #[t, t] }) (base : Nat) (e : TypeId) (i : TypeInfo) (z : Value) (size bytes : Nat)
    (ht : P.underlying t = some (.slice e)) (hi : P.info? e = some i) (hz : i.zero = some z) (hsize : i.size = size) (hby : i.bytes = bytes) (hzs : z.cells.size = size) (hsz : 0 < size)
    (v : Value) (k : Nat) (xs : List Value) (hs : a.eval s = v) (hown : w.ownsRow base e size v k xs) (A : Option Addr) (m c : Nat) (cs : List Value) (hx : a.eval x = .slice A m c) (hA : A = none → m = 0 ∧ c = 0) (hl : cs.length = m * size) (B : Nat) (hlay : Lay w B A cs) (h1 : ∀ u ∈ cs, u.oneCell' = true) (h63 : k + m ≤ maxLen) (hbytes : (k + m) * bytes ≤ 140737488355328) (hbase : base ≤ w.heap.size)
    (h : ∀ v' w', w'.ownsRow base e size v' (k + m) (xs ++ cs) → w.grownBy w' v.ownBlock → (v' = .slice none 0 0 ↔ v = .slice none 0 0 ∧ m = 0) → wpListIn F n P ops Q rest (a.put o.dst v') w') : wpListIn F n P ops Q (o :: rest) a w := by
  refine wpListIn_plain hgd fun K hK => ?_
  obtain ⟨v', w', hrun, r1, r2, r3⟩ := run_append_lay (P := P) (ty := o.type) ht hi hz hsize hby hzs hsz hown hA hl hlay h1 h63 hbytes hbase
  unfold Oper.wpIn
  refine ⟨?_, ?_⟩
  · simp [Oper.about, ho, resolve, Target.leads, Sem.run_pure]
  · rw [Oper.semAt_plain F _ _ (by rw [ho]; intro c hc'; cases hc')]
    simp [execOp, ho, resolve, invoke, builtin, hs, hx, hrun, Result.andThen]
    exact hK _ _ (h v' w' r1 r2 r3)
end
/-- The cells of a list of things of m cells each. -/
theorem flat_get {α : Type} {enc : α → List Value} {m : Nat} (hm : ∀ x, (enc x).length = m) : ∀ {l : List α} {k f : Nat} {x : α} {v : Value}, l[k]? = some x → (enc x)[f]? = some v → (l.flatMap enc)[k * m + f]? = some v
  | [], k, f, x, v, h, _ => by simp at h
  | y :: l, 0, f, x, v, h, hv => by
    simp only [List.getElem?_cons_zero, Option.some.injEq] at h
    subst h
    rw [Nat.zero_mul, Nat.zero_add, List.flatMap_cons, List.getElem?_append_left (by rcases Nat.lt_or_ge f (enc y).length with g | g; exact g; rw [List.getElem?_eq_none g] at hv; cases hv)]
    exact hv
  | y :: l, k + 1, f, x, v, h, hv => by
    simp only [List.getElem?_cons_succ] at h
    rw [List.flatMap_cons, List.getElem?_append_right (by rw [hm, Nat.succ_mul]; omega), hm, show (k + 1) * m + f - m = k * m + f by rw [Nat.succ_mul]; omega]
    exact flat_get hm h hv
theorem flat_length {α : Type} {enc : α → List Value} {m : Nat} (hm : ∀ x, (enc x).length = m) (l : List α) : (l.flatMap enc).length = l.length * m := by
  induction l with
  | nil => simp
  | cons y l ih => rw [List.flatMap_cons, List.length_append, ih, hm, List.length_cons, Nat.succ_mul]; omega
/-- An edge's three cells. -/
structure E3 where
  s : Int
  d : Int
  x : Int
  sb : 0 ≤ s ∧ s < 4294967296
  db : 0 ≤ d ∧ d < 4294967296
  xb : 0 ≤ x ∧ x < 4294967296
def E3.zero : E3 := ⟨0, 0, 0, by decide, by decide, by decide⟩
def ev (x : E3) : List Value := [.int .u32 x.s, .int .u32 x.d, .int .u32 x.x]
def evs (l : List E3) : List Value := l.flatMap ev
theorem ev_length (x : E3) : (ev x).length = 3 := rfl
theorem evs_length (l : List E3) : (evs l).length = l.length * 3 := flat_length ev_length l
theorem evs_one (l : List E3) : ∀ u ∈ evs l, u.oneCell' = true := by
  intro u hu
  obtain ⟨x, -, hx⟩ := List.mem_flatMap.1 hu
  simp only [ev, List.mem_cons, List.not_mem_nil, or_false] at hx
  rcases hx with rfl | rfl | rfl <;> rfl
/-- An edge in a list that lies somewhere. -/
theorem Lay.edge {W : World} {B : Nat} {A : Option Addr} {l : List E3} (h : Lay W B A (evs l)) {k : Nat} {x : E3} (hx : l[k]? = some x) :
    ∃ b off, A = some ⟨b, off, none⟩ ∧ b < B ∧ W.cell? ⟨b, off + k * 3, none⟩ = some (.int .u32 x.s) ∧ W.cell? ⟨b, off + k * 3 + 1, none⟩ = some (.int .u32 x.d) ∧ W.cell? ⟨b, off + k * 3 + 2, none⟩ = some (.int .u32 x.x) := by
  obtain ⟨b, off, e, hB, hc⟩ := h (by
    intro h0
    have h1 := evs_length l
    rw [h0] at h1
    have : k < l.length := (List.getElem?_eq_some_iff.1 hx).1
    simp only [List.length_nil] at h1
    omega)
  exact ⟨b, off, e, hB, hc _ _ (flat_get (f := 0) ev_length hx rfl), hc _ _ (flat_get (f := 1) ev_length hx rfl), hc _ _ (flat_get (f := 2) ev_length hx rfl)⟩

/-! ### a slice of flat things, opened -/
theorem flat_get_inv {α : Type} {enc : α → List Value} {m : Nat} (hm : ∀ x, (enc x).length = m) (h0 : 0 < m) {l : List α} {j : Nat} {u : Value} (h : (l.flatMap enc)[j]? = some u) :
    ∃ x, l[j / m]? = some x ∧ (enc x)[j % m]? = some u := by
  have hj : j < l.length * m := by
    have := (List.getElem?_eq_some_iff.1 h).1
    rwa [flat_length hm] at this
  have hd : j / m < l.length := (Nat.div_lt_iff_lt_mul h0).2 hj
  have hr := Nat.mod_lt j h0
  refine ⟨l[j / m], List.getElem?_eq_getElem hd, ?_⟩
  have h1 := flat_get hm (k := j / m) (f := j % m) (List.getElem?_eq_getElem hd) (List.getElem?_eq_getElem (by rw [hm]; exact hr))
  rw [Nat.div_add_mod' j m, h] at h1
  rw [List.getElem?_eq_getElem (by rw [hm]; exact hr)]
  exact h1.symm
section
variable {H : Type} {enc : TypeId × Value → H} {P : Program} {w : World} {base : Nat} {held : Bool}
theorem open_list {α : Type} [Inhabited α] (encf : α → List Value) {m f : Nat} (hm : ∀ x, (encf x).length = m) (h0 : 0 < m) {ks : List Leaf} (hks : ∀ cs, Matches ks cs → ∃ x, cs = encf x) {t e : TypeId} {fuel : Nat} {cs : List Value} {x : DataW H × List MemPlace}
    (ht : P.underlying t = some (.slice e)) (hk : flat P f e = some ks) (hkm : ks.length = m) (h : DataW.trod enc P w base (fun _ => true) held fuel t cs = some x) :
    ∃ (A : Option Addr) (l : List α) (cap : Nat), cs = [.slice A l.length cap] ∧ (A = none → l.length = 0 ∧ cap = 0) ∧ l.length ≤ cap ∧ Lay w w.heap.size A (l.flatMap encf) ∧ (x.1 = .nil ∧ cap = 0 ∨ ∃ xs ys, x.1 = .slice xs ys ∧ xs.length + ys.length = cap) := by
  rcases Deep.open_slice ht h with ⟨h1, rfl⟩ | ⟨a, len, cap, m', n, D, Pl, rfl, hb, hl, hcap, hm', rfl, hi⟩
  · exact ⟨none, [], 0, h1, fun _ => ⟨rfl, rfl⟩, Nat.le_refl _, Lay.nil _ _ _, .inl ⟨rfl, rfl⟩⟩
  · simp only [if_true] at hm'
    subst hm'
    have hce : P.cellsOf e = m := by rw [flat_cells hk, hkm]
    rw [hce] at hi
    obtain ⟨g, hg⟩ := Deep.choose_lt (α := α) (n := m') (p := fun i y => w.cells? base (a.add (i * m)) m = some (encf y)) (fun i hin => by
      obtain ⟨cs', h1, h2⟩ := hi i hin
      obtain ⟨h3, -⟩ := flat_trod f hk h2
      obtain ⟨y, rfl⟩ := hks cs' h3
      exact ⟨y, h1⟩)
    refine ⟨some a, (List.range len).map g, m', by simp, fun h => (by cases h), by simpa using hl, ?_, .inr ⟨_, _, rfl, by simp; omega⟩⟩
    intro hne
    have hlen : 0 < len := by
      rcases Nat.eq_zero_or_pos len with h | h
      · subst h; exact absurd rfl hne
      · exact h
    obtain ⟨_, hl0, hc0⟩ := World.cells?_some (hg 0 (by omega))
    have hc1 := hc0 0 h0
    rw [List.getElem?_eq_getElem (by omega)] at hc1
    have hblk := block_lt_of_cell hc1
    obtain ⟨b, off, spot⟩ := a
    have hspot : spot = none := by simpa [Addr.add] using World.cell?_spot hc1
    subst hspot
    refine ⟨b, off, rfl, by simpa [block_add] using hblk, fun j u hu => ?_⟩
    obtain ⟨y, hy, hyu⟩ := flat_get_inv hm h0 hu
    have hjl : j / m < len := by
      have := (List.getElem?_eq_some_iff.1 hy).1
      simpa using this
    obtain ⟨_, _, hc⟩ := World.cells?_some (hg (j / m) (by omega))
    have hc2 := hc (j % m) (Nat.mod_lt j h0)
    rw [add_plain, add_plain] at hc2
    rw [show off + j = off + j / m * m + j % m by rw [Nat.add_assoc, Nat.div_add_mod' j m]]
    rw [hc2]
    have : g (j / m) = y := by
      rw [List.getElem?_map, List.getElem?_range hjl] at hy
      simpa using hy
    rw [this]
    exact hyu
end
instance : Inhabited E3 := ⟨E3.zero⟩
theorem ev_of (cs : List Value) (h : Matches [.int .u32, .int .u32, .int .u32] cs) : ∃ x, cs = ev x := by
  obtain ⟨a, _, rfl, ha, h⟩ := matches_int h
  obtain ⟨b, _, rfl, hb, h⟩ := matches_int h
  obtain ⟨c, _, rfl, hc, h⟩ := matches_int h
  obtain rfl := matches_nil h
  have := bounds_u32 ha; have := bounds_u32 hb; have := bounds_u32 hc
  exact ⟨⟨a, b, c, by omega, by omega, by omega⟩, rfl⟩
/-- A slice of edges that came in. -/
theorem open_edges {H : Type} {enc : TypeId × Value → H} {w : World} {base : Nat} {held : Bool} {fuel : Nat} {cs : List Value} {x : DataW H × List MemPlace} (h : DataW.trod enc Try.prog w base (fun _ => true) held fuel 30 cs = some x) :
    ∃ (A : Option Addr) (l : List E3) (cap : Nat), cs = [.slice A l.length cap] ∧ (A = none → l.length = 0 ∧ cap = 0) ∧ l.length ≤ cap ∧ Lay w w.heap.size A (evs l) ∧ (x.1 = .nil ∧ cap = 0 ∨ ∃ xs ys, x.1 = .slice xs ys ∧ xs.length + ys.length = cap) :=
  open_list ev (f := 8) (ks := [.int .u32, .int .u32, .int .u32]) ev_length (by decide) ev_of Try.underlying30 (by kernel_rfl) rfl h

/-! ### a region that draws its order, within a round of a range over a function -/
section
variable {F : Fence} {P : Program} {o : Oper} {a : Act} {w : World} {K : Act → World → Prop} {Q : Exit → Act → World → Prop} {ops : Array Oper} {n : Nat}
theorem oper_round (l : Nat) (hro : F.round = none) (ho : ∀ c, o.op ≠ .defer c) (h : o.wpIn F n P a w K Q) : o.wpIn (F.inRound l) n P a w K Q := by
  refine ⟨h.1, ?_⟩
  have h2 := h.2
  rw [hro] at h2
  show o.uponIn (F.inRound l) n P a K Q ((o.semAt (some l) a.eval).run P w)
  rw [Oper.semAt_some l _ o ho]
  exact h2
theorem op_round (l : Nat) (hro : F.round = none) (hd : ∀ o ∈ ops, ∀ c, o.op ≠ .defer c) {i : Nat} (h : wpOpIn F n P ops Q i K a w) : wpOpIn (F.inRound l) n P ops Q i K a w := by
  unfold wpOpIn at h ⊢
  cases hi : ops[i]? with
  | none => rw [hi] at h; exact h
  | some o =>
    rw [hi] at h
    simp only at h ⊢
    by_cases hw : Region.wanted o (yielded ops a.tmps) = true
    · rw [if_pos hw] at h ⊢
      exact oper_round l hro (hd o (Array.mem_of_getElem? hi)) h
    · rw [if_neg hw] at h ⊢
      exact h
theorem any_round (l : Nat) (hro : F.round = none) (hd : ∀ o ∈ ops, ∀ c, o.op ≠ .defer c) {md : Region.Mode} : ∀ (fuel : Nat) (listed : Array Bool) (a : Act) (w : World), wpAnyIn F n P md ops Q fuel listed a w → wpAnyIn (F.inRound l) n P md ops Q fuel listed a w
  | 0, _, _, _, h => h
  | fuel + 1, listed, a, w, h => ⟨h.1, fun i hi => op_round l hro hd (wpOpIn_mono (fun a' w' h' => any_round l hro hd fuel _ a' w' h') (h.2 i hi))⟩
theorem quiet_wide {C : World → Prop} {Q : Act → Prop} : ∀ {l : List Oper} {a : Act}, wpQuiet P ops C Q l a → wpQuietIn Fence.wide n P ops C Q l a
  | [], _, h => h
  | o :: l, a, h => by
    refine ⟨fun _ _ _ _ => trivial, ?_⟩
    unfold wpQuiet at h
    by_cases hw : Region.wanted o (yielded ops a.tmps) = true
    · rw [if_pos hw] at h ⊢
      obtain ⟨v, h1, h2⟩ := h
      refine ⟨v, fun w hC => ?_, quiet_wide h2⟩
      have h3 := h1 w hC
      unfold Oper.quietAt at h3
      unfold Oper.quietAtIn
      revert h3
      generalize (execOp a.eval o).run P w = r
      intro h3
      unfold Oper.quietUpon at h3
      unfold Oper.quietUponIn
      split at h3
      · exact h3
      · exact h3
      · exact ⟨h3.1, (fun hd => absurd hd (by simp [Fence.wide])), (callsIn_wide (n := n - 1)).2 h3.2⟩
      · exact h3.elim
    · rw [if_neg hw] at h ⊢
      exact quiet_wide h
def noDefer (ops : Array Oper) : Bool := ops.all fun o => match o.op with | .defer _ => false | _ => true
theorem noDefer_spec (h : noDefer ops = true) : ∀ o ∈ ops, ∀ c, o.op ≠ .defer c := by
  intro o ho c e
  have := Array.all_eq_true_iff_forall_mem.1 h o ho
  rw [e] at this
  cases this
theorem region_quiet_round {C : World → Prop} {id l : Nat} {L : List Oper} (hm : P.follows .mixedOrders = true) (hB : Region.lexB .any L.toArray = true) (hd : noDefer L.toArray = true)
    (hC : C { w with drawn := w.drawn + 1 }) (h : wpQuiet P L.toArray C (fun a' => ∀ w', C w' → Q .normal a' w') L a) : (Code.region id L.toArray true).wpIn (Fence.wide.inRound l) n P Q a w := by
  simp only [Region.lexB, Bool.and_eq_true] at hB
  refine wpIn_region_any hm (any_round l rfl (noDefer_spec hd) _ _ _ _ (wpAnyIn_of_quiet (F := Fence.wide) (Q := fun a' => ∀ w', C w' → Q .normal a' w') rfl (fun _ w' hw' h => h w' hw') _ _ _ _ hC ?_))
  have := wpAnyQIn_lex (F := Fence.wide) (n := n) (C := C) (md := .any) hB.1 L.toArray.toList 0 (Array.replicate L.toArray.size false) a (by simp) (by simpa using hB.2) (quiet_wide (by simpa using h))
  simpa using this
theorem region_lit_round {id l : Nat} {L : List Oper} (hm : P.follows .mixedOrders = true) (hB : Region.lexB .any L.toArray = true) (hd : noDefer L.toArray = true)
    (h : wpQuiet P L.toArray (fun w' => ∃ n, w' = w.drewN n) (fun a' => ∀ w', (∃ n, w' = w.drewN n) → Q .normal a' w') L a) : (Code.region id L.toArray true).wpIn (Fence.wide.inRound l) n P Q a w :=
  region_quiet_round (C := fun w' => ∃ n, w' = w.drewN n) hm hB hd ⟨1, rfl⟩ h
end
end Go.Proofs.Ytepljdnhnnpdmaa.K
