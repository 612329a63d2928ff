/-
  SieveFeeds: the iterator over edges: gone over again, left early, and blind to what is done to the list behind it. No condition.
-/
import Derived.Test.YtepljdnhnnpdmaaRows
import Derived.Test.YtepljdnhnnpdmaaOver
import Derived.Laws.AppendOwnNone
import Derived.ChangeOld
import Derived.SizedLaws
set_option linter.unusedVariables false
set_option linter.unusedSimpArgs false
namespace Go.Proofs.Ytepljdnhnnpdmaa.sieveFeeds
open Go.RowKit Go.Shelf Go.ChangeShapes Go.WideShapes Go.ChangeAt K Feed Desk
attribute [local go_sem] Oper.semAt_some

def errOf (b : Int) : Int := if b < 0 then 0 else if 200 < b then 200 else b
theorem errOf_bounds (b : Int) : 0 ≤ errOf b ∧ errOf b ≤ 200 := by unfold errOf; (repeat' split) <;> omega
theorem feed_not_nil (b0 b1 : Nat) (W : World) : (binOp .eql 32 (feedVal b0 b1) .nilFunc).run Try.prog W = .ok (.bool false) W := by kernel_rfl
theorem feed_guard (b0 b1 : Nat) (x y : Operand) (W : World) : (eqGuard .eql 32 x y (feedVal b0 b1) .nilFunc).run Try.prog W = .ok () W := by kernel_rfl
/-- What stays while the list is spoilt and gone over. -/
structure Base (w : World) (A : Option Addr) (n cap : Nat) (stop e : Int) (lo hi : Nat) (w2 : World) (r : Bool) (W : World) : Prop where
  bel : Below w.heap.size w W
  r0 : Row W w.heap.size 30 #[.slice A n cap]
  r1 : Row W (w.heap.size + 1) 3 #[.int .i64 stop]
  r2 : Row W (w.heap.size + 1 + 1) 4 #[.bool r]
  r3 : Row W (w.heap.size + 1 + 1 + 1) 22 #[.int .i64 e]
  same : ∀ k, lo ≤ k → k < hi → W.heap[k]? = w2.heap[k]?
  big : hi ≤ W.heap.size
def Spoilt (v : Value) (n : Nat) (W : World) : Prop := ∀ g, v.ownBlock = some g → ∃ cur : Array Value, Row W g 36 cur ∧ n * 3 ≤ cur.size
theorem Base.store {w : World} {A : Option Addr} {n cap : Nat} {stop e : Int} {lo hi : Nat} {w2 : World} {r : Bool} {W : World} (h : Base w A n cap stop e lo hi w2 r W) {p : Addr} (h1 : w.heap.size + 1 + 1 + 1 + 1 ≤ p.block) (h2 : p.block < lo) (v : Value) : Base w A n cap stop e lo hi w2 r (W.setCell p v) :=
  ⟨h.bel.setCell (by omega) v, h.r0.other (by omega) v, h.r1.other (by omega) v, h.r2.other (by omega) v, h.r3.other (by omega) v, fun k h3 h4 => (heap_setCell_other W p k v (by omega)).trans (h.same k h3 h4), by simpa using h.big⟩
theorem Base.alloc {w : World} {A : Option Addr} {n cap : Nat} {stop e : Int} {lo hi : Nat} {w2 : World} {r : Bool} {W : World} (h : Base w A n cap stop e lo hi w2 r W) (o : Obj) : Base w A n cap stop e lo hi w2 r (W.alloc o) :=
  ⟨h.bel.alloc h.bel.size o, h.r0.alloc o, h.r1.alloc o, h.r2.alloc o, h.r3.alloc o, fun k h3 h4 => (Below.heap_alloc W o k (Nat.lt_of_lt_of_le h4 h.big)).trans (h.same k h3 h4), by have := h.big; simp; omega⟩
theorem spoilt_of_own {w : World} {base : Nat} {v : Value} {n : Nat} {xs : List Value} (h : w.ownsRow base 36 3 v n xs) : Spoilt v n w := by
  intro g hg
  obtain ⟨_, ⟨rfl, rfl⟩ | ⟨g', cap, cur, rfl, _, hr, hc, _, hs, _⟩⟩ := h
  · simp [Value.ownBlock] at hg
  · simp [Value.ownBlock] at hg
    subst hg
    exact ⟨cur, hr, by rw [hs]; exact Nat.mul_le_mul_right 3 hc⟩
def RelM (w : World) (A : Option Addr) (n cap : Nat) (stop e : Int) (lo hi : Nat) (w2 : World) (v : Value) (i : Value) (W : World) : Prop :=
  ∃ k : Nat, k ≤ n ∧ i = .int .i64 k ∧ Base w A n cap stop e lo hi w2 false W ∧ Spoilt v n W

/-! ### the three goings over -/
def mk (D : Nat) : Deferred := { target := .collected D, args := #[] }
def Marks (lo : Nat) (Ds : List Nat) (W : World) : Prop := Ds.Nodup ∧ ∀ D ∈ Ds, lo ≤ D ∧ W.heap[D]? = some (.deferred (some []))
theorem Marks.kept {lo : Nat} {Ds : List Nat} {W W' : World} (h : Marks lo Ds W) (hk : ∀ k, lo ≤ k → k < W.heap.size → (∃ o : Obj, W.heap[k]? = some o ∧ o.isCells = false) → W'.heap[k]? = W.heap[k]?) : Marks lo Ds W' :=
  ⟨h.1, fun D hD => ⟨(h.2 D hD).1, (hk D (h.2 D hD).1 (Array.getElem?_eq_some_iff.1 (h.2 D hD).2).1 ⟨_, (h.2 D hD).2, rfl⟩).trans (h.2 D hD).2⟩⟩
theorem Marks.alloc {lo : Nat} {Ds : List Nat} {W : World} (h : Marks lo Ds W) (o : Obj) : Marks lo Ds (W.alloc o) := h.kept fun k _ hk _ => Below.heap_alloc W o k hk
theorem leaves {F : Fence} {n : Nat} {P : Program} {fn : Func} {tmps : Array Value} {R : Ending → World → Prop} {lo : Nat} : ∀ (Ds : List Nat) (W : World), Marks lo Ds W → lo ≤ W.heap.size →
    (∀ W', Below lo W W' → (∀ b T cs, Row W b T cs → Row W' b T cs) → LeavesIn F n P fn tmps R [] .returning W') → LeavesInM F n P fn tmps R (Ds.map mk) .returning W
  | [], W, _, _, h => h W (Below.refl _ _) fun _ _ _ h => h
  | D :: Ds, W, hm, hlo, h => by
    obtain ⟨h1, h2⟩ := hm.2 D (by simp)
    obtain ⟨h3, h4⟩ := List.nodup_cons.1 hm.1
    refine ⟨by simp, .inl ⟨D, _, rfl, run_takeDeferred h2, ?_⟩⟩
    refine leaves Ds _ ⟨h4, fun D' hD' => ⟨(hm.2 D' (List.mem_cons_of_mem _ hD')).1, ?_⟩⟩ (by simpa using hlo) ?_
    · rw [World.putObj_heap_other (by intro e; subst e; exact h3 hD')]
      exact (hm.2 D' (List.mem_cons_of_mem _ hD')).2
    · intro W' hb hr
      refine h W' (((Below.refl lo W).grown (grownBy_putObj' W D (.deferred none)) hlo (fun k e => by cases e; exact h1)).trans hb) ?_
      intro b T cs hc
      refine hr b T cs (hc.grown (grownBy_putObj' W D (.deferred none)) ?_)
      intro e
      rw [← Option.some.inj e, show W.heap[b]? = _ from hc] at h2
      cases h2
def mu (a : Act) (W : World) : Nat := match a.tmps.getD 11 undef with
  | .pointer (some p) => 3 - (intOf ((W.cell? p).getD undef)).toNat
  | _ => 0
def Inv (w : World) (A : Option Addr) (n cap : Nat) (stop e : Int) (lo hi : Nat) (w2 : World) (b0 b1 : Nat) (a : Act) (W : World) : Prop :=
  ∃ (r : Nat) (Ds : List Nat) (B : Nat) (u : Nat → Value), r ≤ 3 ∧ a = { tmps := #[u 0, u 1, u 2, .pointer (some ⟨w.heap.size, 0, none⟩), u 4, .pointer (some ⟨w.heap.size + 1, 0, none⟩), .pointer (some ⟨w.heap.size + 1 + 1, 0, none⟩), .pointer (some ⟨w.heap.size + 1 + 1 + 1, 0, none⟩), u 8, feedVal b0 b1, u 10, .pointer (some ⟨B, 0, none⟩), u 12, u 13, u 14, u 15, u 16, u 17, u 18, u 19, u 20, u 21, u 22, u 23, u 24, u 25, u 26, u 27, u 28, u 29, u 30, u 31, u 32, u 33, u 34, u 35, u 36, u 37, u 38, u 39, u 40, u 41, u 42, u 43, u 44, u 45, u 46, u 47, u 48, u 49, u 50, u 51, u 52, u 53, u 54, u 55, u 56, u 57, u 58, u 59, u 60, u 61, u 62, u 63, u 64, u 65, u 66, u 67, u 68, u 69, u 70, u 71, u 72, u 73, u 74, u 75, u 76, u 77, u 78, u 79, u 80, u 81, u 82, u 83, u 84, u 85, u 86, u 87, u 88, u 89, u 90, u 91, u 92, u 93, u 94, u 95, u 96, u 97, u 98, u 99, u 100, u 101], defers := Ds.map mk } ∧ Marks hi Ds W ∧ hi ≤ B ∧ Row W B 3 #[.int .i64 r] ∧ Base w A n cap stop e lo hi w2 false W
theorem arr102 (t : Array Value) (h : t.size = 102) : t = ((List.range 102).map fun i => t.getD i undef).toArray := by
  apply Array.ext
  · simp [h]
  · intro i h1 h2
    simp [Array.getD, h1]
theorem Inv.mk' {w : World} {A : Option Addr} {n cap : Nat} {stop e : Int} {lo hi : Nat} {w2 : World} {b0 b1 : Nat} {a : Act} {W : World} (r : Nat) (Ds : List Nat) (B : Nat) (hs : a.tmps.size = 102) (hd : a.defers = Ds.map mk)
    (h3 : a.tmps.getD 3 undef = .pointer (some ⟨w.heap.size, 0, none⟩)) (h5 : a.tmps.getD 5 undef = .pointer (some ⟨w.heap.size + 1, 0, none⟩)) (h6 : a.tmps.getD 6 undef = .pointer (some ⟨w.heap.size + 1 + 1, 0, none⟩))
    (h7 : a.tmps.getD 7 undef = .pointer (some ⟨w.heap.size + 1 + 1 + 1, 0, none⟩)) (h9 : a.tmps.getD 9 undef = feedVal b0 b1) (h11 : a.tmps.getD 11 undef = .pointer (some ⟨B, 0, none⟩))
    (hr : r ≤ 3) (hm : Marks hi Ds W) (hB : hi ≤ B) (hrow : Row W B 3 #[.int .i64 r]) (hb : Base w A n cap stop e lo hi w2 false W) : Inv w A n cap stop e lo hi w2 b0 b1 a W := by
  refine ⟨r, Ds, B, fun i => a.tmps.getD i undef, hr, ?_, hm, hB, hrow, hb⟩
  obtain ⟨t, d⟩ := a
  simp only at hs hd h3 h5 h6 h7 h9 h11
  rw [← h3, ← h5, ← h6, ← h7, ← h9, ← h11, ← hd]
  exact congrArg (fun x => ({ tmps := x, defers := d } : Act)) (arr102 t hs)
theorem mu_of {a : Act} {W : World} {B r : Nat} (h : a.tmps.getD 11 undef = .pointer (some ⟨B, 0, none⟩)) (hr : Row W B 3 #[.int .i64 r]) : mu a W = 3 - r := by
  unfold mu
  rw [h]
  simp only
  rw [hr.get (i := 0) rfl]
  simp [intOf]
/-- Within a round: what came so far. -/
def InR (w : World) (A : Option Addr) (l : List E3) (cap : Nat) (stop e : Int) (lo hi : Nat) (w2 : World) (r : Nat) (Ds : List Nat) (B Bn Be : Nat) (pre : List Tick) (W : World) : Prop :=
  pre <+: told l e ∧ Marks hi Ds W ∧ Row W B 3 #[.int .i64 r] ∧ Row W Bn 3 #[.int .i64 pre.length] ∧ Row W Be 4 #[.bool (decide (l.length < pre.length))] ∧ Base w A l.length cap stop e lo hi w2 false W
def InX (w : World) (A : Option Addr) (l : List E3) (cap : Nat) (stop e : Int) (lo hi : Nat) (w2 : World) (r : Nat) (Ds : List Nat) (B Bn Be : Nat) (c : Code) (pre : List Tick) (W : World) : Prop :=
  (c = .exit 4 ∧ r = 1 ∧ InR w A l cap stop e lo hi w2 r Ds B Bn Be pre W) ∨ (c = .ret ∧ ¬ pre <+: told l e)
theorem InR.kept {w : World} {A : Option Addr} {l : List E3} {cap : Nat} {stop e : Int} {lo hi : Nat} {w2 : World} {r : Nat} {Ds : List Nat} {B Bn Be : Nat} {pre : List Tick} {W W' : World} (h : InR w A l cap stop e lo hi w2 r Ds B Bn Be pre W) {row : Option Nat}
    (hg : W.grownBy W' row) {S : Nat} (hS : hi ≤ S) (hlo : w.heap.size + 1 + 1 + 1 < lo) (hlh : lo ≤ hi) (hD : ∀ D ∈ Ds, D < S) (hr : ∀ k, row = some k → S ≤ k ∧ ∃ o : Obj, W.heap[k]? = some o ∧ o.isCells = false) : InR w A l cap stop e lo hi w2 r Ds B Bn Be pre W' := by
  obtain ⟨h1, h2, h3, h4, h5, h6⟩ := h
  have hne : ∀ {b : Nat} {T : TypeId} {cs : Array Value}, Row W b T cs → some b ≠ row := by
    intro b T cs hc e
    obtain ⟨_, o, ho, hn⟩ := hr b e.symm
    rw [show W.heap[b]? = _ from hc] at ho
    cases ho; cases hn
  refine ⟨h1, ⟨h2.1, fun D hD' => ⟨(h2.2 D hD').1, ?_⟩⟩, h3.grown hg (hne h3), h4.grown hg (hne h4), h5.grown hg (hne h5),
    ⟨h6.bel.grown hg (by have := h6.r0.lt; omega) (fun k e => by have := (hr k e).1; omega), h6.r0.grown hg (hne h6.r0), h6.r1.grown hg (hne h6.r1), h6.r2.grown hg (hne h6.r2), h6.r3.grown hg (hne h6.r3), fun k k1 k2 => ?_, Nat.le_trans h6.big hg.size⟩⟩
  · refine (hg.block D (Array.getElem?_eq_some_iff.1 (h2.2 D hD').2).1 (fun e => ?_)).trans (h2.2 D hD').2
    have := (hr D e.symm).1
    have := hD D hD'
    omega
  · refine (hg.block k (Nat.lt_of_lt_of_le k2 h6.big) (fun e => ?_)).trans (h6.same k k1 k2)
    have := (hr k e.symm).1
    omega
theorem keepsO {X Y : World} {q : Nat} (h : KeepsOthers (X.drewN q) Y) : KeepsOthers X Y := ⟨h.size, h.same⟩
theorem num (x : Int) (w : World) : Calls Try.prog 16 #[.int .i64 x] w fun e w' => e = .returned (.int .i64 x) ∧ w' = w := by
  go_enter Try.func16, Try.ntmps16
  go_wp2
  go_ret
  exact ⟨rfl, rfl⟩
theorem tick_ne {T : List Tick} {n : Nat} {x y : Tick} (h : T[n]? = some x) (h' : T[n]? = some y) : x = y := Option.some.inj (h.symm.trans h')
theorem told_at {l : List E3} {e : Int} {n : Nat} {y : E3} (h : l[n]? = some y) : (told l e)[n]? = some (y, 0) := by
  have hn := (List.getElem?_eq_some_iff.1 h).1
  unfold told
  rw [List.getElem?_append_left (by simpa using hn), List.getElem?_map, h]; rfl
theorem told_end {l : List E3} {e : Int} (h : e ≠ 0) : (told l e)[l.length]? = some (E3.zero, e) := by
  unfold told
  rw [List.getElem?_append_right (by simp)]
  simp [h]
theorem told_size (l : List E3) (e : Int) : (told l e).length = l.length + (if e = 0 then 0 else 1) := by unfold told; split <;> simp
theorem snoc_pre {T pre : List Tick} {y : Tick} (hp : pre <+: T) (h : T[pre.length]? = some y) : pre ++ [y] <+: T := by
  obtain ⟨s, rfl⟩ := hp
  rw [List.getElem?_append_right (Nat.le_refl _), Nat.sub_self] at h
  cases s with
  | nil => simp at h
  | cons a s => simp at h; subst h; exact ⟨s, by simp⟩
theorem pre_snoc {T pre : List Tick} {y : Tick} (hp : pre ++ [y] <+: T) : T[pre.length]? = some y := by
  obtain ⟨s, rfl⟩ := hp
  simp
section
variable {w : World} {A : Option Addr} {l : List E3} {cap : Nat} {stop e : Int} {lo hi : Nat} {w2 : World} {r : Nat} {Ds : List Nat} {B Bn Be : Nat} {pre : List Tick} {y : Tick} {X : World}
theorem Base.drewN {n : Nat} {b : Bool} (h : Base w A n cap stop e lo hi w2 b X) (q : Nat) : Base w A n cap stop e lo hi w2 b (X.drewN q) := ⟨below_drewN h.bel q, h.r0, h.r1, h.r2, h.r3, h.same, h.big⟩
theorem Base.put {n : Nat} {b : Bool} (h : Base w A n cap stop e lo hi w2 b X) {p : Addr} (hw : w.heap.size + 1 + 1 + 1 < lo) (hl : lo ≤ hi) (hp : hi ≤ p.block) (v : Value) : Base w A n cap stop e lo hi w2 b (X.setCell p v) :=
  ⟨h.bel.setCell (by omega) v, h.r0.other (by omega) v, h.r1.other (by omega) v, h.r2.other (by omega) v, h.r3.other (by omega) v, fun k h3 h4 => (heap_setCell_other X p k v (by omega)).trans (h.same k h3 h4), by simpa using h.big⟩
theorem Marks.put {W : World} (h : Marks hi Ds W) {b : Nat} {T : TypeId} {cs : Array Value} (hr : Row W b T cs) (i : Nat) (v : Value) : Marks hi Ds (W.setCell ⟨b, i, none⟩ v) :=
  h.kept fun k _ _ ho => heap_setCell_other W ⟨b, i, none⟩ k v (by
    intro e
    obtain ⟨o, h1, h2⟩ := ho
    rw [show k = b from e, show W.heap[b]? = _ from hr] at h1
    cases h1; cases h2)
theorem InR.drewN (h : InR w A l cap stop e lo hi w2 r Ds B Bn Be pre X) (q : Nat) : InR w A l cap stop e lo hi w2 r Ds B Bn Be pre (X.drewN q) := ⟨h.1, h.2.1, h.2.2.1, h.2.2.2.1, h.2.2.2.2.1, h.2.2.2.2.2.drewN q⟩
theorem InR.step (h : InR w A l cap stop e lo hi w2 r Ds B Bn Be pre X) (hw : w.heap.size + 1 + 1 + 1 < lo) (hl : lo ≤ hi) (hn : hi ≤ Bn) (h1 : B ≠ Bn) (h2 : Be ≠ Bn) (hy : pre ++ [y] <+: told l e) (hlt : pre.length < l.length) :
    InR w A l cap stop e lo hi w2 r Ds B Bn Be (pre ++ [y]) (X.setCell ⟨Bn, 0, none⟩ (.int .i64 ((pre.length : Int) + 1))) := by
  obtain ⟨g1, g2, g3, g4, g5, g6⟩ := h
  refine ⟨hy, g2.put g4 0 _, g3.other h1 _, ?_, ?_, g6.put hw hl hn _⟩
  · have := g4.set 0 (.int .i64 ((pre.length : Int) + 1))
    simpa using this
  · have := g5.other (a := ⟨Bn, 0, none⟩) h2 (.int .i64 ((pre.length : Int) + 1))
    rw [show decide (l.length < (pre ++ [y]).length) = decide (l.length < pre.length) by rw [List.length_append, List.length_singleton]; simp; omega]
    exact this
theorem InR.last (h : InR w A l cap stop e lo hi w2 r Ds B Bn Be pre X) (hw : w.heap.size + 1 + 1 + 1 < lo) (hl : lo ≤ hi) (hn : hi ≤ Bn) (hn' : hi ≤ Be) (h1 : B ≠ Bn) (h2 : Be ≠ Bn) (h3 : B ≠ Be) (hy : pre ++ [y] <+: told l e) (hlt : pre.length = l.length) :
    InR w A l cap stop e lo hi w2 r Ds B Bn Be (pre ++ [y]) ((X.setCell ⟨Be, 0, none⟩ (.bool true)).setCell ⟨Bn, 0, none⟩ (.int .i64 ((pre.length : Int) + 1))) := by
  obtain ⟨g1, g2, g3, g4, g5, g6⟩ := h
  have k4 := g4.other (a := ⟨Be, 0, none⟩) (fun e => h2 e.symm) (.bool true)
  refine ⟨hy, (g2.put g5 0 _).put k4 0 _, (g3.other h3 _).other h1 _, ?_, ?_, (g6.put hw hl hn' _).put hw hl hn _⟩
  · have := k4.set 0 (.int .i64 ((pre.length : Int) + 1))
    simpa using this
  · have := (g5.set 0 (.bool true)).other (a := ⟨Bn, 0, none⟩) h2 (.int .i64 ((pre.length : Int) + 1))
    rw [show decide (l.length < (pre ++ [y]).length) = true by rw [List.length_append, List.length_singleton]; simp; omega]
    exact this
end
set_option maxRecDepth 100000 in
set_option maxHeartbeats 8000000 in
theorem walk (A : Option Addr) (l : List E3) (cap : Nat) (behind stop : Int) (hb : -9223372036854775808 ≤ behind ∧ behind ≤ 9223372036854775807) (hr : l.length * 12 ≤ 140737488351232) (h0 : A = none → l.length = 0 ∧ cap = 0) (w : World) (hA : Lay w w.heap.size A (evs l)) :
    Calls Try.prog 6 #[.slice A l.length cap, .int .i64 behind, .int .i64 stop] w fun e w' => e = .returned (.bool true) ∧ Below w.heap.size w w' := by
  obtain ⟨m, hm1⟩ : ∃ m, (if behind < 0 then (0 : Int) else behind) = m := ⟨_, rfl⟩
  obtain ⟨e, hm2⟩ : ∃ e, (if (200 : Int) < m then 200 else m) = e := ⟨_, rfl⟩
  have hbd : 0 ≤ e ∧ e ≤ 200 := by rw [← hm2, ← hm1]; (repeat' split) <;> omega
  obtain ⟨i0, hi, hq0, hq1, hq2⟩ := info_parts infoE
  have T0 := Lib.hid (((((Tame.refl w.heap.size w).alloc (Nat.le_refl _) (.cells #[.slice A l.length cap] 30)).alloc (by simp) (.cells #[.int .i64 stop] 3)).alloc (by simp; omega) (.cells #[.bool false] 4)).alloc (by simp; omega) (.cells #[.int .i64 e] 22))
  have R0 := Lib.hid ((((Row.new w 30 #[.slice A l.length cap]).alloc (.cells #[.int .i64 stop] 3)).alloc (.cells #[.bool false] 4)).alloc (.cells #[.int .i64 e] 22))
  have R1 := Lib.hid (((Row.at (Row.new (w.alloc (.cells #[.slice A l.length cap] 30)) 3 #[.int .i64 stop]) (b' := w.heap.size + 1) (by simp)).alloc (.cells #[.bool false] 4)).alloc (.cells #[.int .i64 e] 22))
  have R2 := Lib.hid ((Row.at (Row.new ((w.alloc (.cells #[.slice A l.length cap] 30)).alloc (.cells #[.int .i64 stop] 3)) 4 #[.bool false]) (b' := w.heap.size + 1 + 1) (by simp)).alloc (.cells #[.int .i64 e] 22))
  have R3 := Lib.hid (Row.at (Row.new (((w.alloc (.cells #[.slice A l.length cap] 30)).alloc (.cells #[.int .i64 stop] 3)).alloc (.cells #[.bool false] 4)) 22 #[.int .i64 e]) (b' := w.heap.size + 1 + 1 + 1) (by simp))
  obtain ⟨W0, hW0⟩ : ∃ W0, W0 = (((w.alloc (.cells #[.slice A l.length cap] 30)).alloc (.cells #[.int .i64 stop] 3)).alloc (.cells #[.bool false] 4)).alloc (.cells #[.int .i64 e] 22) := ⟨_, rfl⟩
  have hz0 : W0.heap.size = w.heap.size + 1 + 1 + 1 + 1 := by rw [hW0]; simp
  rw [← hW0] at T0 R0 R1 R2 R3
  have hown := World.ownsRow_made (base := w.heap.size + 1 + 1 + 1 + 1) (e := 36) (size := 3) W0 #[] 0 (by omega) (Nat.zero_le _) rfl
  have HA := Lib.hid (((hA.below T0.out.below).below ((Below.refl w.heap.size W0).alloc (by omega) (.cells #[] 36))))
  have H0 := Lib.hid h0
  have HZ := Lib.hid hz0
  rw [hz0, hW0] at hown
  rw [hW0] at HA
  have HW := Lib.hid hW0
  have HA0 := Lib.hid hA
  clear hW0 h0 hA hz0
  refine callsIn_wide (n := 9) |>.1 (callsIn_of_wp_marks Try.func6 rfl trivial ?_ rfl); simp only [Try.ntmps6, List.size_toArray, List.length_cons, List.length_nil, Nat.reduceAdd, Nat.reduceSub, Array.replicate_succ, Array.replicate_zero, List.push_toArray, List.append_toArray, List.nil_append, List.cons_append]
  gi_wp2_with (gi_at_builtin; refine append_layIn rfl _ _ 30 rfl (w.heap.size + 1 + 1 + 1 + 1) 36 i0 (.agg #[.int .u32 0, .int .u32 0, .int .u32 0]) 3 12 Try.underlying30 hi hq0 hq1 hq2 rfl (by decide) _ _ _ rfl hown A l.length cap (evs l) rfl H0.out (evs_length l) w.heap.size HA.out (evs_one l) ?c4 ?c5 ?c6 ?_)
  case c4 => unfold maxLen; omega
  case c5 => omega
  case c6 => simp
  rw [← HW.out]
  intro v1 W1 ho1 hg1 hne1
  have Z0 := HZ.out
  have T1 := Lib.hid ((T0.out.alloc (by omega) (.cells #[] 36)).grown hg1 (by simp; omega) (fun k h => by simp [Value.ownBlock] at h; omega) (fun k o h => by rw [HW.out]; exact own_cells hown k o h))
  have S0 := Lib.hid ((R0.out.alloc (.cells #[] 36)).grown hg1 (by simp only [Value.ownBlock, ne_eq, Option.some.injEq]; omega))
  have S1 := Lib.hid ((R1.out.alloc (.cells #[] 36)).grown hg1 (by simp only [Value.ownBlock, ne_eq, Option.some.injEq]; omega))
  have S2 := Lib.hid ((R2.out.alloc (.cells #[] 36)).grown hg1 (by simp only [Value.ownBlock, ne_eq, Option.some.injEq]; omega))
  have S3 := Lib.hid ((R3.out.alloc (.cells #[] 36)).grown hg1 (by simp only [Value.ownBlock, ne_eq, Option.some.injEq]; omega))
  obtain ⟨A1, cap1, rfl, hc1, hn1, hl1⟩ := lay_of_own ho1
  have HO1 := Lib.hid ho1
  have HL1 := Lib.hid hl1
  have HN1 := Lib.hid hn1
  have x3 := S3.out.get (i := 0) rfl
  clear ho1 hl1 hg1 hne1 hn1 hown
  gi_wp2_with fail
  refine ⟨trivial, (callsIn_wide.2 (feed A1 l cap1 e hr HN1.out W1 HL1.out)).mono ?_⟩
  rintro ex w2 ⟨b0, b1, rfl, hF, hT2, hFF⟩
  have HF := Lib.hid hFF
  have HS2 := Lib.hid (show Spoilt (.slice A1 l.length cap1) l.length w2 from spoilt_of_own (own_below HO1.out hT2.below))
  have HB2 : Base w A l.length cap stop e W1.heap.size w2.heap.size w2 false w2 :=
    ⟨T1.out.below.trans (hT2.below.mono T1.out.size), S0.out.below hT2.below S0.out.lt, S1.out.below hT2.below S1.out.lt, S2.out.below hT2.below S2.out.lt, S3.out.below hT2.below S3.out.lt, fun _ _ _ => rfl, Nat.le_refl _⟩
  have B2 := Lib.hid HB2
  have hsz2 := hT2.size
  have hlow : w.heap.size + 1 + 1 + 1 < W1.heap.size := S3.out.lt
  clear hF hFF hT2 HB2 x3 S0 S1 S2 S3 R0 R1 R2 R3 T0
  have hnil := feed_not_nil b0 b1
  have hgd := feed_guard b0 b1
  gi_wp2
  clear hnil hgd
  gi_loopw [10] (fun i wr => RelM w A l.length cap stop e W1.heap.size w2.heap.size w2 (.slice A1 l.length cap1) i wr) (fun i _ => l.length - (intOf i).toNat)
  case atStart => exact ⟨0, Nat.zero_le _, rfl, B2.out, HS2.out⟩
  case round =>
    obtain ⟨k, hk, rfl, hB, hS⟩ := hrel
    rcases Nat.lt_or_ge k l.length with hlt | hge
    · obtain ⟨g, rfl⟩ : ∃ g, A1 = some ⟨g, 0, none⟩ := by
        obtain ⟨_, ⟨h1, h2⟩ | ⟨g, cap, cur, h1, _⟩⟩ := HO1.out
        · omega
        · exact ⟨g, (Value.slice.inj h1).1⟩
      obtain ⟨cur, hR, hcs⟩ := hS g rfl
      have hgl := HO1.out.lt g rfl
      have c0 : wr.cell? ⟨g, k * 3, none⟩ = some (cur.getD (k * 3) undef) := hR.get (by simp [Array.getD, show k * 3 < cur.size by omega])
      have c1 : wr.cell? ⟨g, k * 3 + 1, none⟩ = some (cur.getD (k * 3 + 1) undef) := hR.get (by simp [Array.getD, show k * 3 + 1 < cur.size by omega])
      have c2 : wr.cell? ⟨g, k * 3 + 2, none⟩ = some (cur.getD (k * 3 + 2) undef) := hR.get (by simp [Array.getD, show k * 3 + 2 < cur.size by omega])
      have f0 := hR.free (k * 3)
      have f1 := hR.free (k * 3 + 1)
      have f2 := hR.free (k * 3 + 2)
      have HR := Lib.hid hR
      have HBB := Lib.hid hB
      have hkb : decide ((k : Int) < (l.length : Int)) = true := by simp; omega
      clear hR hB hS
      gi_wp2
      go_roundw
      case rel =>
        have hn1' : w.heap.size + 1 + 1 + 1 + 1 ≤ g := hgl.1
        refine ⟨k + 1, by omega, by go_num, ?_, ?_⟩
        · exact ((HBB.out.store (p := ⟨g, k * 3, none⟩) hn1' hgl.2 _).store (p := ⟨g, k * 3 + 1, none⟩) hn1' hgl.2 _).store (p := ⟨g, k * 3 + 2, none⟩) hn1' hgl.2 _
        · intro g' hg'
          obtain rfl : g = g' := by simpa [Value.ownBlock] using hg'
          exact ⟨_, ((HR.out.set _ _).set _ _).set _ _, by simpa using hcs⟩
      case measure => simp [intOf]; omega
    · obtain rfl : k = l.length := by omega
      have hkb : decide ((l.length : Int) < (l.length : Int)) = false := by simp
      have HBB := Lib.hid hB
      clear hB hS
      gi_wp2
      refine wpIn_loop (Inv w A l.length cap stop e W1.heap.size w2.heap.size w2 b0 b1) mu ?h0 ?round
      case h0 =>
        exact Inv.mk' 0 [] wr.heap.size rfl rfl rfl rfl rfl rfl rfl rfl (by omega) ⟨by simp, by simp⟩ HBB.out.big (Row.new wr _ _) (HBB.out.alloc _)
      case round =>
        rintro a W ⟨r, Ds, B, u, hr3, rfl, hm, hB, hrr, hb⟩
        have x11 := hrr.get (i := 0) rfl
        rcases Nat.lt_or_ge r 3 with h3 | h3
        · have hI : InR w A l cap stop e W1.heap.size w2.heap.size w2 r Ds B W.heap.size (W.heap.size + 1) [] ((W.alloc (.cells #[.int .i64 0] 3)).alloc (.cells #[.bool false] 4)) :=
            ⟨List.nil_prefix, (hm.alloc _).alloc _, (hrr.alloc _).alloc _, (Row.new W _ _).alloc _, (Row.new (W.alloc (.cells #[.int .i64 0] 3)) _ _).at (by simp), (hb.alloc _).alloc _⟩
          have HI := Lib.hid hI
          have HB := Lib.hid hb
          have HM := Lib.hid hm
          have HRR := Lib.hid hrr
          have hBl := hrr.lt
          have hkb : decide ((r : Int) < 3) = true := by simp; omega
          clear hI hb hm hrr
          gi_wp2
          obtain ⟨Wc, hWc⟩ : ∃ Wc, Wc = ((W.alloc (.cells #[.int .i64 0] 3)).alloc (.cells #[.bool false] 4)) := ⟨_, rfl⟩
          have hsz : Wc.heap.size = W.heap.size + 2 := by rw [hWc]; simp
          rw [← hWc] at HI ⊢
          clear hWc
          have HRR' := HRR
          have HD := Lib.hid (fun D (hD : D ∈ Ds) => Nat.lt_of_lt_of_le (Array.getElem?_eq_some_iff.1 (HM.out.2 D hD).2).1 (show W.heap.size ≤ Wc.heap.size by omega))
          have hbig := HB.out.big
          refine wpIn_rangeFunc_ownH rfl (by decide) (gf := 63) (lb := #[.pointer (some ⟨b0, 0, none⟩), .pointer (some ⟨b1, 0, none⟩)]) rfl trivial (enters_of Try.func63 (by kernel_rfl) rfl)
            (feed_stops 8 (by decide) b0 b1 w2.heap.size l e hr Wc (HF.out Wc HI.out.2.2.2.2.2.same) (by omega)) belowK_t (belowK_b (by omega)) (Below.refl _ _) (fun _ => rfl)
            (InR w A l cap stop e W1.heap.size w2.heap.size w2 r Ds B W.heap.size (W.heap.size + 1)) (InX w A l cap stop e W1.heap.size w2.heap.size w2 r Ds B W.heap.size (W.heap.size + 1)) ?hI ?hIx HI.out
            (fun y a' W' => ∃ Bx, Wc.heap.size ≤ Bx ∧ Row W' Bx 36 #[.int .u32 y.1.s, .int .u32 y.1.d, .int .u32 y.1.x] ∧ a' = { tmps := #[u 0, u 1, u 2, .pointer (some ⟨w.heap.size, 0, none⟩), u 4, .pointer (some ⟨w.heap.size + 1, 0, none⟩), .pointer (some ⟨w.heap.size + 1 + 1, 0, none⟩), .pointer (some ⟨w.heap.size + 1 + 1 + 1, 0, none⟩), u 8, feedVal b0 b1, u 10, .pointer (some ⟨B, 0, none⟩), .pointer (some ⟨W.heap.size, 0, none⟩), .pointer (some ⟨W.heap.size + 1, 0, none⟩), .pointer (some ⟨Bx, 0, none⟩), .int .i64 y.2, u 16, u 17, u 18, u 19, u 20, u 21, u 22, u 23, u 24, u 25, u 26, u 27, u 28, u 29, u 30, u 31, u 32, u 33, u 34, u 35, u 36, .int .i64 r, .bool true, u 39, u 40, feedVal b0 b1, .agg #[.int .u32 y.1.s, .int .u32 y.1.d, .int .u32 y.1.x], .int .i64 y.2, u 44, u 45, u 46, u 47, u 48, u 49, u 50, u 51, u 52, u 53, u 54, u 55, u 56, u 57, u 58, u 59, u 60, u 61, u 62, u 63, u 64, u 65, u 66, u 67, u 68, u 69, u 70, u 71, u 72, u 73, u 74, u 75, u 76, u 77, u 78, u 79, u 80, u 81, u 82, u 83, u 84, u 85, u 86, u 87, u 88, u 89, u 90, u 91, u 92, u 93, u 94, u 95, u 96, u 97, u 98, u 99, u 100, u 101], defers := [] })
            ?hAx ?assign ?body ?done ?stop
          case hI => exact fun s X Y row hs hg hr' => hs.kept hg (S := Wc.heap.size) (by omega) hlow hsz2 HD.out hr'
          case hIx =>
            intro c s X Y row hs hg hr'
            rcases hs with ⟨h1, h2, hs⟩ | hs
            · exact .inl ⟨h1, h2, hs.kept hg (S := Wc.heap.size) (by omega) hlow hsz2 HD.out hr'⟩
            · exact .inr hs
          case hAx =>
            rintro y a' u' X Y row ⟨Bx, hBx, hx, rfl⟩ hg hr'
            exact ⟨Bx, hBx, hx.grown hg (fun e => by obtain ⟨_, o, ho, hc⟩ := hr' _ e.symm; rw [show X.heap[Bx]? = _ from hx] at ho; cases ho; cases hc), rfl⟩
          case assign =>
            intro lp pre y X K hi' hK
            have hs : Wc.heap.size ≤ X.heap.size := by have := hi'.2.2.2.2.1.lt; omega
            unfold encs
            gi_wp2
            refine hK _ _ ((KeepsOthers.alloc _ _).from _) ((Below.refl w2.heap.size X).alloc (by omega) _) (hi'.kept (World.grownBy_alloc X _ none) (S := Wc.heap.size) (by omega) hlow hsz2 HD.out (fun k e => by cases e)) ⟨X.heap.size, hs, Row.new X _ _, rfl⟩
          case body =>
            rintro lp pre ⟨z, f⟩ a2 X - - hi' ⟨Bx, hBx, hx, rfl⟩ hN
            have HII := Lib.hid hi'
            have hBx2 : W.heap.size + 2 ≤ Bx := by omega
            have HSZ := Lib.hid hsz
            clear hsz
            obtain ⟨hp, hm', hrr', hbn, hbe, hbs⟩ := hi'
            rw [told_size] at hN
            have hle : pre.length ≤ l.length := by split at hN <;> omega
            have hdec : decide (l.length < pre.length) = false := by simpa using hle
            rw [hdec] at hbe
            have x0 := hbn.get (i := 0) rfl
            have x0f := hbn.free 0
            have x1 := hbe.get (i := 0) rfl
            have x1f := hbe.free 0
            have x2 := hbs.r0.get (i := 0) rfl
            have x3 := hbs.r1.get (i := 0) rfl
            have x4 := hbs.r2.get (i := 0) rfl
            have x4f := hbs.r2.free 0
            have x5 := hbs.r3.get (i := 0) rfl
            have x6 := hrr'.get (i := 0) rfl
            have z0 := hx.get (i := 0) rfl
            have z1 := hx.get (i := 1) rfl
            have z2 := hx.get (i := 2) rfl
            have HP := Lib.hid hp
            have HX := Lib.hid (HA0.out.below hbs.bel)
            have d1 : decide ((l.length : Int) < (pre.length : Int)) = false := by simp; omega
            have bnd : pre.length * 12 ≤ 140737488351232 := by omega
            clear hp hm' hrr' hbn hbe hbs hx hdec x11
            have hnr : ∀ X' : World, KeepsOthers X X' → ¬ pre ++ [(z, f)] <+: told l e → ownPostG Wc.heap.size (Below w2.heap.size) (InR w A l cap stop e W1.heap.size w2.heap.size w2 r Ds B W.heap.size (W.heap.size + 1)) (InX w A l cap stop e W1.heap.size w2.heap.size w2 r Ds B W.heap.size (W.heap.size + 1)) (pre ++ [(z, f)]) X .ret { tmps := #[], defers := [] } X' := fun X' hk hn => ⟨hk.from _, .inr ⟨rfl, hn⟩⟩
            have HNR := Lib.hid hnr
            clear hnr
            rcases Nat.lt_or_ge pre.length l.length with hlt | hge
            · obtain ⟨y, hy⟩ : ∃ y, l[pre.length]? = some y := ⟨_, List.getElem?_eq_getElem hlt⟩
              obtain ⟨ba, off, rfl, hBA, a0, a1, a2⟩ := HX.out.edge hy
              have HT := Lib.hid (told_at (e := e) hy)
              have d2 : ((pre.length : Int) == (l.length : Int)) = false := by simp; omega
              have d3 : (0 : Int) ≤ (pre.length : Int) := by omega
              have d4 : (pre.length : Int) < (l.length : Int) := by omega
              have d5 : ((pre.length : Int)).toNat = pre.length := by omega
              clear hy
              by_cases hz : z = y
              · subst hz
                have hneq := fun W' => neq_edge z.s z.d z.x z.s z.d z.x W'
                simp only [beq_self_eq_true, Bool.and_self, Bool.not_true] at hneq
                by_cases hf : f = 0
                · subst hf
                  have HPS := Lib.hid (snoc_pre HP.out HT.out)
                  have HLT := Lib.hid hlt
                  by_cases hr1 : r = 1
                  · have g1 : ((r : Int) == 1) = true := by simp [hr1]
                    have HR1 := Lib.hid hr1
                    clear hr1
                    by_cases hst : (pre.length : Int) + 1 = stop
                    · have g2 : (((pre.length : Int) + 1) == stop) = true := by simpa using hst
                      have HST := Lib.hid hst
                      clear hst
                      gi_wp2
                      refine K.region_lit_round (by kernel_rfl) (by kernel_rfl) (by kernel_rfl) ?_
                      repeat (any_goals (first | go_big_quiet_step ((go_at_call 16; exact Calls.quiet_of_same (num _ _))) | quiet_step ((go_at_call 16; exact Calls.quiet_of_same (num _ _)))))
                      refine wpQuiet_nil ?_
                      intro _ hw'
                      obtain ⟨nq, rfl⟩ := hw'
                      gi_wp2
                      exact ⟨((KeepsOthers.setCell _ _ _ |> keepsO).from _), .inl ⟨rfl, HR1.out, (HII.out.drewN nq).step hlow hsz2 (by omega) (by omega) (by omega) HPS.out HLT.out⟩⟩
                    · have g2 : (((pre.length : Int) + 1) == stop) = false := by simpa using hst
                      have HST := Lib.hid hst
                      clear hst
                      gi_wp2
                      refine K.region_lit_round (by kernel_rfl) (by kernel_rfl) (by kernel_rfl) ?_
                      repeat (any_goals (first | go_big_quiet_step ((go_at_call 16; exact Calls.quiet_of_same (num _ _))) | quiet_step ((go_at_call 16; exact Calls.quiet_of_same (num _ _)))))
                      refine wpQuiet_nil ?_
                      intro _ hw'
                      obtain ⟨nq, rfl⟩ := hw'
                      gi_wp2
                      exact ⟨((KeepsOthers.setCell _ _ _ |> keepsO).from _), below_of_drewN ((Below.refl w2.heap.size (X.drewN nq)).setCell (p := ⟨W.heap.size, 0, none⟩) (by show w2.heap.size ≤ W.heap.size; omega) _), (HII.out.drewN nq).step hlow hsz2 (by omega) (by omega) (by omega) HPS.out HLT.out⟩
                  · have g1 : ((r : Int) == 1) = false := by simp; omega
                    clear hr1
                    gi_wp2
                    refine K.region_lit_round (by kernel_rfl) (by kernel_rfl) (by kernel_rfl) ?_
                    repeat (any_goals (first | go_big_quiet_step ((go_at_call 16; exact Calls.quiet_of_same (num _ _))) | quiet_step ((go_at_call 16; exact Calls.quiet_of_same (num _ _)))))
                    refine wpQuiet_nil ?_
                    intro _ hw'
                    obtain ⟨nq, rfl⟩ := hw'
                    gi_wp2
                    exact ⟨((KeepsOthers.setCell _ _ _ |> keepsO).from _), below_of_drewN ((Below.refl w2.heap.size (X.drewN nq)).setCell (p := ⟨W.heap.size, 0, none⟩) (by show w2.heap.size ≤ W.heap.size; omega) _), (HII.out.drewN nq).step hlow hsz2 (by omega) (by omega) (by omega) HPS.out HLT.out⟩
                · have g1 : (f != 0) = true := by simpa using hf
                  have g2 : (f == 0) = false := by simpa using hf
                  have HFF := Lib.hid hf
                  clear hf
                  gi_wp2
                  refine K.region_lit_round (by kernel_rfl) (by kernel_rfl) (by kernel_rfl) ?_
                  repeat (any_goals (first | go_big_quiet_step ((go_at_call 16; exact Calls.quiet_of_same (num _ _))) | quiet_step ((go_at_call 16; exact Calls.quiet_of_same (num _ _)))))
                  refine wpQuiet_nil ?_
                  intro _ hw'
                  obtain ⟨nq, rfl⟩ := hw'
                  gi_wp2
                  exact HNR.out _ (keepsO (KeepsOthers.setCell _ _ _)) (fun h => HFF.out (by have := tick_ne (pre_snoc h) HT.out; exact (Prod.mk.inj this).2))
              · have hb' : (!(z.s == y.s && (z.d == y.d && z.x == y.x))) = true := by
                  cases z; cases y; simp at hz ⊢; omega
                have hneq := fun W' => neq_edge z.s z.d z.x y.s y.d y.x W'
                rw [hb'] at hneq
                have HZ' := Lib.hid hz
                clear hb' hz
                gi_wp2
                refine K.region_lit_round (by kernel_rfl) (by kernel_rfl) (by kernel_rfl) ?_
                repeat (any_goals (first | go_big_quiet_step (fail) | quiet_step (fail)))
                refine wpQuiet_nil ?_
                intro _ hw'
                obtain ⟨nq, rfl⟩ := hw'
                gi_wp2
                exact HNR.out _ (keepsO (KeepsOthers.setCell _ _ _)) (fun h => HZ'.out (by have := tick_ne (pre_snoc h) HT.out; exact (Prod.mk.inj this).1))
            · have heq : pre.length = l.length := by omega
              have he0 : e ≠ 0 := by intro h; rw [if_pos h] at hN; omega
              have HT := Lib.hid (told_end (l := l) he0)
              have HEQ := Lib.hid heq
              have HE0 := Lib.hid he0
              have d2 : ((pre.length : Int) == (l.length : Int)) = true := by simp; omega
              rw [← heq] at HT
              clear heq he0 hN hge
              by_cases hf0 : f = 0
              · subst hf0
                gi_wp2
                exact HNR.out _ ((KeepsOthers.setCell _ _ _).trans (KeepsOthers.setCell _ _ _)) (fun h => HE0.out (by have := tick_ne (pre_snoc h) HT.out; exact (Prod.mk.inj this).2.symm))
              · have g3 : (f == 0) = false := by simpa using hf0
                clear hf0
                by_cases hfe : f = e
                · subst hfe
                  have g4 : (f != f) = false := by simp
                  by_cases hz : z = E3.zero
                  · subst hz
                    have hneq := fun W' => neq_edge 0 0 0 0 0 0 W'
                    simp only [beq_self_eq_true, Bool.and_self, Bool.not_true] at hneq
                    have e1 : E3.zero.s = 0 := rfl
                    have e2 : E3.zero.d = 0 := rfl
                    have e3 : E3.zero.x = 0 := rfl
                    rw [e1] at z0
                    rw [e2] at z1
                    rw [e3] at z2
                    have HPS := Lib.hid (snoc_pre HP.out HT.out)
                    by_cases hr1 : r = 1
                    · have g1 : ((r : Int) == 1) = true := by simp [hr1]
                      have HR1 := Lib.hid hr1
                      clear hr1
                      by_cases hst : (pre.length : Int) + 1 = stop
                      · have g2 : (((pre.length : Int) + 1) == stop) = true := by simpa using hst
                        have HST := Lib.hid hst
                        clear hst
                        gi_wp2
                        exact ⟨(((KeepsOthers.setCell _ _ _).trans (KeepsOthers.setCell _ _ _)).from _), .inl ⟨rfl, HR1.out, HII.out.last hlow hsz2 (by omega) (by omega) (by omega) (by omega) (by omega) HPS.out HEQ.out⟩⟩
                      · have g2 : (((pre.length : Int) + 1) == stop) = false := by simpa using hst
                        have HST := Lib.hid hst
                        clear hst
                        gi_wp2
                        exact ⟨(((KeepsOthers.setCell _ _ _).trans (KeepsOthers.setCell _ _ _)).from _), ((Below.refl w2.heap.size X).setCell (p := ⟨W.heap.size + 1, 0, none⟩) (by show w2.heap.size ≤ W.heap.size + 1; omega) _).setCell (p := ⟨W.heap.size, 0, none⟩) (by show w2.heap.size ≤ W.heap.size; omega) _, HII.out.last hlow hsz2 (by omega) (by omega) (by omega) (by omega) (by omega) HPS.out HEQ.out⟩
                    · have g1 : ((r : Int) == 1) = false := by simp; omega
                      clear hr1
                      gi_wp2
                      exact ⟨(((KeepsOthers.setCell _ _ _).trans (KeepsOthers.setCell _ _ _)).from _), ((Below.refl w2.heap.size X).setCell (p := ⟨W.heap.size + 1, 0, none⟩) (by show w2.heap.size ≤ W.heap.size + 1; omega) _).setCell (p := ⟨W.heap.size, 0, none⟩) (by show w2.heap.size ≤ W.heap.size; omega) _, HII.out.last hlow hsz2 (by omega) (by omega) (by omega) (by omega) (by omega) HPS.out HEQ.out⟩
                  · have hb' : (!(z.s == 0 && (z.d == 0 && z.x == 0))) = true := by
                      cases z; simp [E3.zero] at hz ⊢; omega
                    have hneq := fun W' => neq_edge z.s z.d z.x 0 0 0 W'
                    rw [hb'] at hneq
                    have HZ' := Lib.hid hz
                    clear hb' hz
                    gi_wp2
                    exact HNR.out _ ((KeepsOthers.setCell _ _ _).trans (KeepsOthers.setCell _ _ _)) (fun h => HZ'.out (by have := tick_ne (pre_snoc h) HT.out; exact (Prod.mk.inj this).1))
                · have g4 : (f != e) = true := by simpa using hfe
                  have HFE := Lib.hid hfe
                  clear hfe
                  gi_wp2
                  exact HNR.out _ ((KeepsOthers.setCell _ _ _).trans (KeepsOthers.setCell _ _ _)) (fun h => HFE.out (by have := tick_ne (pre_snoc h) HT.out; exact (Prod.mk.inj this).2))
          case done =>
            rintro Dd xs X hDd rfl ⟨-, hm', hrr', hbn, hbe, hbs⟩ hKd
            have x0 := hbn.get (i := 0) rfl
            have x1 := hbe.get (i := 0) rfl
            have x2 := hbs.r0.get (i := 0) rfl
            have x5 := hbs.r3.get (i := 0) rfl
            have x6 := hrr'.get (i := 0) rfl
            have HS' := Lib.hid (hbs.alloc (.cells #[.int .i64 ((r : Int) + 1)] 3))
            have HM' := Lib.hid ((show Marks w2.heap.size (Dd :: Ds) X from ⟨List.nodup_cons.2 ⟨fun h => by have := HD.out Dd h; omega, hm'.1⟩, fun D hD => by
              rcases List.mem_cons.1 hD with h | h
              · subst h; exact ⟨by omega, hKd⟩
              · exact hm'.2 D h⟩).alloc (.cells #[.int .i64 ((r : Int) + 1)] 3))
            have HRW := Lib.hid (show Row (X.alloc (.cells #[.int .i64 ((r : Int) + 1)] 3)) X.heap.size 3 #[.int .i64 ((r + 1 : Nat) : Int)] from by have := Row.new X 3 #[.int .i64 ((r : Int) + 1)]; simpa using this)
            have HX2 := Lib.hid (show w2.heap.size ≤ X.heap.size from hbs.big)
            have hrb : (r : Int) ≤ 2 := by omega
            have hts := told_size l e
            clear hm' hrr' hbn hbe hbs hKd hDd x11
            by_cases hr1 : r = 1
            · have g1 : ((r : Int) != 1) = false := by simp [hr1]
              clear hr1 hts
              gi_wp2
              refine ⟨Inv.mk' (r + 1) (Dd :: Ds) X.heap.size rfl rfl rfl rfl rfl rfl rfl rfl (by omega) HM'.out HX2.out HRW.out HS'.out, ?_⟩
              rw [mu_of rfl HRW.out, mu_of rfl HRR.out]
              omega
            · have g1 : ((r : Int) != 1) = true := by simp; omega
              have g2 : decide (((told l e).length : Int) < (l.length : Int)) = false := by simp; omega
              have g2' : l.length ≤ (told l e).length := by omega
              have g3 : ((e != 0) != decide (l.length < (told l e).length)) = false := by
                clear g2 g2'
                generalize (told l e).length = N at hts ⊢
                by_cases h : e = 0
                · rw [if_pos h] at hts; subst hts; simp [h]
                · rw [if_neg h] at hts; subst hts; simp [h]
              have g4 : (e != 0) = decide (l.length < (told l e).length) := by simpa using g3
              have HG := Lib.hid g4
              rw [← g4] at x1
              clear hr1 hts g3 g4
              gi_wp2
              refine ⟨Inv.mk' (r + 1) (Dd :: Ds) X.heap.size rfl rfl rfl rfl rfl rfl rfl rfl (by omega) HM'.out HX2.out HRW.out HS'.out, ?_⟩
              rw [mu_of rfl HRW.out, mu_of rfl HRR.out]
              omega
          case stop =>
            rintro Dd c pre X hDd hp hs hKd
            rcases hs with ⟨rfl, hr1, -, hm', hrr', hbn, hbe, hbs⟩ | ⟨-, hn⟩
            · have x0 := hbn.get (i := 0) rfl
              have x1 := hbe.get (i := 0) rfl
              have x2 := hbs.r0.get (i := 0) rfl
              have x5 := hbs.r3.get (i := 0) rfl
              have x6 := hrr'.get (i := 0) rfl
              have HS' := Lib.hid (hbs.alloc (.cells #[.int .i64 ((r : Int) + 1)] 3))
              have HM' := Lib.hid ((show Marks w2.heap.size (Dd :: Ds) X from ⟨List.nodup_cons.2 ⟨fun h => by have := HD.out Dd h; omega, hm'.1⟩, fun D hD => by
                rcases List.mem_cons.1 hD with h | h
                · subst h; exact ⟨by omega, hKd⟩
                · exact hm'.2 D h⟩).alloc (.cells #[.int .i64 ((r : Int) + 1)] 3))
              have HRW := Lib.hid (show Row (X.alloc (.cells #[.int .i64 ((r : Int) + 1)] 3)) X.heap.size 3 #[.int .i64 ((r + 1 : Nat) : Int)] from by have := Row.new X 3 #[.int .i64 ((r : Int) + 1)]; simpa using this)
              have HX2 := Lib.hid (show w2.heap.size ≤ X.heap.size from hbs.big)
              have hrb : (r : Int) ≤ 2 := by omega
              have g1 : ((r : Int) != 1) = false := by simp [hr1]
              clear hm' hrr' hbn hbe hbs hKd hDd hr1 hp x11
              gi_wp2
              refine ⟨Inv.mk' (r + 1) (Dd :: Ds) X.heap.size rfl rfl rfl rfl rfl rfl rfl rfl (by omega) HM'.out HX2.out HRW.out HS'.out, ?_⟩
              rw [mu_of rfl HRW.out, mu_of rfl HRR.out]
              omega
            · exact absurd hp hn
        · obtain rfl : r = 3 := by omega
          have hkb : decide (((3 : Nat) : Int) < 3) = false := rfl
          have q0 := hb.r2.get (i := 0) rfl
          have q1 := hb.r2.free 0
          have HB := Lib.hid hb
          have HM := Lib.hid hm
          clear hb hm hrr
          gi_wp2
          refine leaves (lo := w2.heap.size) Ds _ (HM.out.put HB.out.r2 0 (.bool true)) (by simpa using HB.out.big) ?_
          intro W' hb' hrw
          have hc5 := (hrw _ _ _ (HB.out.r2.set 0 (.bool true))).get (i := 0) rfl
          exact ⟨.bool true, by simp [results, Try.f6, go_sem, hc5], rfl, (HB.out.bel.setCell (p := ⟨w.heap.size + 1 + 1, 0, none⟩) (by show w.heap.size ≤ w.heap.size + 1 + 1; omega) _).trans (hb'.mono (by omega))⟩
theorem bytesE : Try.prog.bytesOf 36 = 12 := by kernel_rfl
theorem edges_reach {H : Type} {d0 d1 d2 : DataW H} {n cap : Nat}
    (hsz : (DataW.weightsEach Try.prog [30, 3, 3] [d0, d1, d2]).all (· ≤ reachBytes) = true) (hc : d0 = .nil ∧ cap = 0 ∨ ∃ xs ys, d0 = .slice xs ys ∧ xs.length + ys.length = cap) (hn : n ≤ cap) : n * 12 ≤ 140737488351232 := by
  rcases hc with ⟨rfl, h⟩ | ⟨xs, ys, rfl, h⟩
  · omega
  · have := sized_slice hsz (j := 0) (t := 30) (e := 36) rfl rfl Try.underlying30
    rw [bytesE] at this
    unfold reachBytes at this
    omega
theorem own : ownKnob Try.prog.godebug = none := by kernel_rfl
set_option maxRecDepth 100000 in
theorem lifted (os : Os) (started : os.Started) (H : Type) (enc : TypeId × Value → H) :
    ReturnsInHanded {} Try.checked os 6 .any (Rows.sieveFeedsSpec.pre6 enc Try.prog Try.f6 Rows.sieveFeedsRow.domain false) (Rows.sieveFeedsSpec.post enc Try.prog Try.f6 false true false false) := by
  refine returnsInHanded_of_change_sized (C := Try.checked) own started (by kernel_rfl) Try.func6
    (ChangeSpec.witness6 (enc := enc) (C := Try.checked) false ⟨#[], #[.slice none 0 0, .int .i64 0, .int .i64 0], []⟩ 8 (by kernel_rfl) (by kernel_rfl) (by kernel_rfl) (by kernel_rfl)) ?_
  intro W base args ds gs before hval0 hW hcnd hsz0 _
  have hsz : (DataW.weightsEach Try.prog (Try.f6.params.toList ++ Rows.sieveFeedsSpec.plain.varTypes Try.prog) (ds ++ gs)).all (· ≤ reachBytes) = true := hsz0
  have hval : ∀ (j : Nat) t v, Try.f6.params[j]? = some t → args[j]? = some v → Value.okWide Try.prog W .any base t v := hval0
  have hW' := hW
  obtain ⟨p, q, hA0, hV, rfl, hfz, hnd⟩ := hW
  have hA : DataW.TrodAll enc Try.prog W 0 (fun _ => true) true Try.f6.params.toList args.toList ds p := hA0
  rw [Try.params6] at hA hval hsz
  obtain ⟨v0, vs0, d0, ds0, p0, q0, hargs, rfl, rfl, h0, r0⟩ := trodAll_cons hA
  obtain ⟨v1, vs1, d1, ds1, p1, q1, rfl, rfl, rfl, h1, r1⟩ := trodAll_cons r0
  obtain ⟨v2, vs2, d2, ds2, p2, q2, rfl, rfl, rfl, h2, r2⟩ := trodAll_cons r1
  obtain ⟨rfl, rfl, rfl⟩ := trodAll_nil r2
  obtain rfl : args = #[v0, v1, v2] := by cases args; simp_all
  obtain ⟨rfl, rfl⟩ := trodVars_none hV
  have hlt : ∀ x ∈ p0 ++ p1 ++ p2, x.block < W.heap.size := fun x hx => hW'.lt x (by simpa using hx)
  have k0 := h0
  obtain ⟨a1, rfl, rfl, rfl, w1⟩ := open_int Try.underlying3 (hval 1 3 v1 rfl rfl) h1
  obtain ⟨a2, rfl, rfl, rfl, w2⟩ := open_int Try.underlying3 (hval 2 3 v2 rfl rfl) h2
  obtain ⟨fu, hfu⟩ := h0
  obtain ⟨A, l, cap, hcs, hnone, hn, hlies, hcase⟩ := K.open_edges hfu
  obtain ⟨a0', n0', c0', rfl⟩ := okWide_slice Try.underlying30 (hval 0 30 v0 rfl rfl)
  simp only [Value.cells, List.cons.injEq, and_true] at hcs
  obtain ⟨rfl, rfl, rfl⟩ := Value.slice.inj hcs
  refine (walk _ _ _ _ _ (bounds_i64 w1) (edges_reach hsz hcase hn) hnone W hlies).mono fun e W' ⟨he, bel⟩ => ?_
  subst he
  exact ⟨_, rfl, _, _, _, [], _, [], hW', trodAll_mk1 (shut_bool Try.underlying4 _), (trodAll_cons_mk (Below.trod (by kernel_rfl) (by kernel_rfl) (of_decide_eq_true (by kernel_rfl)) k0 bel (fun x hx => hlt x (by simp [hx]))) (trodAll_cons_mk (shut_int Try.underlying3 w1) (trodAll_cons_mk (shut_int Try.underlying3 w2) trodAll_mk0))), rfl, bel.frame _, fun h => by cases h⟩
theorem over : Rows.sieveFeedsRow.holds Try.pinned (OpenSpec.ofChange Rows.sieveFeedsSpec) :=
  OpenClaim.holds_of_wide 6 Try.f6 rfl rfl rfl rfl rfl rfl rfl ⟨rfl, rfl, rfl, rfl, rfl⟩ rfl rfl rfl rfl rfl (by kernel_rfl) Try.func6 (by kernel_rfl)
    (of_decide_eq_true (by kernel_rfl)) (by unfold Func.isWrapper; first | (rw [if_pos (by decide +kernel)]; kernel_rfl) | (rw [if_neg (by decide +kernel)]; exact ⟨rfl, rfl⟩))
    (fun os started H enc _ => lifted os started H enc)
theorem proved : Rows.SieveFeedsSaid := over
#print axioms proved
end Go.Proofs.Ytepljdnhnnpdmaa.sieveFeeds
