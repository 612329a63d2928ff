/-
  CrewNames: the numbers of layer 10's names, and calls with what may not be. No condition.
-/
import Derived.Test.YtikeilfljjggbaaRows
import Derived.Test.YtikeilfljjggbaaKe
import Derived.RangeFuncNested
import Derived.RangeFuncBound
import Derived.RangeFuncCalls
import Derived.RangeFuncLeaves
import Derived.Shelf.Abstract
import Derived.Shelf.RegionOpen
import Derived.OwnWalkIn
import Derived.TacticsInMore
import Derived.LoopNIn
import Derived.LoopIn
import Derived.ChangeOld
import Derived.SizedLaws
import Derived.Clock
import Derived.Leaving
import Derived.Conc.HoldsTime
set_option linter.unusedVariables false
set_option linter.unusedSimpArgs false
namespace Go.Proofs.Ytikeilfljjggbaa.crewNames
open Go.RowKit Go.Shelf Go.ChangeShapes Go.WideShapes Go.ChangeAt K
attribute [local go_sem] Oper.semAt_some

theorem ne_f163 (W : World) : (binOp .neq 163 .nilFunc .nilFunc).run Try.prog W = .ok (.bool false) W := by kernel_rfl
theorem gd_f163 (x y : Operand) (W : World) : (eqGuard .neq 163 x y .nilFunc .nilFunc).run Try.prog W = .ok () W := by kernel_rfl
theorem ne_f51 (W : World) : (binOp .neq 51 .nilFunc .nilFunc).run Try.prog W = .ok (.bool false) W := by kernel_rfl
theorem gd_f51 (x y : Operand) (W : World) : (eqGuard .neq 51 x y .nilFunc .nilFunc).run Try.prog W = .ok () W := by kernel_rfl
theorem ne_f166 (W : World) : (binOp .neq 166 .nilFunc .nilFunc).run Try.prog W = .ok (.bool false) W := by kernel_rfl
theorem gd_f166 (x y : Operand) (W : World) : (eqGuard .neq 166 x y .nilFunc .nilFunc).run Try.prog W = .ok () W := by kernel_rfl
theorem ne_f168 (W : World) : (binOp .neq 168 .nilFunc .nilFunc).run Try.prog W = .ok (.bool false) W := by kernel_rfl
theorem gd_f168 (x y : Operand) (W : World) : (eqGuard .neq 168 x y .nilFunc .nilFunc).run Try.prog W = .ok () W := by kernel_rfl
theorem ne_f125 (W : World) : (binOp .neq 125 .nilFunc .nilFunc).run Try.prog W = .ok (.bool false) W := by kernel_rfl
theorem gd_f125 (x y : Operand) (W : World) : (eqGuard .neq 125 x y .nilFunc .nilFunc).run Try.prog W = .ok () W := by kernel_rfl
set_option maxRecDepth 100000 in
theorem mapN (b : Nat) (w : World) : Calls Try.prog 63 #[.int .i64 0, .slice (some ⟨b, 0, none⟩) 1 1, .nilFunc] w fun e w' => e = .returned (.tuple #[.slice none 0 0, .int .i64 0, .int .i64 1]) ∧ Below w.heap.size w w' := by
  have n_f163 := ne_f163
  have g_f163 := gd_f163
  go_enter Try.func63, Try.ntmps63
  go_wp2
  refine bodyPost_ret (v := .tuple #[.slice none 0 0, .int .i64 0, .int .i64 1]) (by simp [results, Try.results63, go_sem]) rfl ⟨rfl, ?_⟩
  repeat (first | exact Below.refl _ _ | refine Below.alloc ?_ (by first | (simp; done) | (simp; omega)) _ | refine Below.setCell ?_ (by first | (simp; done) | (simp; omega)) _)
set_option maxRecDepth 100000 in
theorem reduceN (b : Nat) (w : World) : Calls Try.prog 64 #[.int .i64 2, .slice (some ⟨b, 0, none⟩) 1 1, .nilFunc] w fun e w' => e = .returned (.tuple #[.int .i64 0, .int .i64 1]) ∧ Below w.heap.size w w' := by
  have n_f163 := ne_f163
  have g_f163 := gd_f163
  go_enter Try.func64, Try.ntmps64
  go_wp2
  refine bodyPost_ret (v := .tuple #[.int .i64 0, .int .i64 1]) (by simp [results, Try.results64, go_sem]) rfl ⟨rfl, ?_⟩
  repeat (first | exact Below.refl _ _ | refine Below.alloc ?_ (by first | (simp; done) | (simp; omega)) _ | refine Below.setCell ?_ (by first | (simp; done) | (simp; omega)) _)
set_option maxRecDepth 100000 in
theorem spansN (w : World) : Calls Try.prog 24 #[.int .i64 99, .int .i64 5, .int .i64 1, .nilFunc] w fun e w' => e = .returned (.tuple #[.int .i64 0, .int .i64 1]) ∧ Below w.heap.size w w' := by
  have n_f51 := ne_f51
  have g_f51 := gd_f51
  go_enter Try.func24, Try.ntmps24
  go_wp2
  refine bodyPost_ret (v := .tuple #[.int .i64 0, .int .i64 1]) (by simp [results, Try.results24, go_sem]) rfl ⟨rfl, ?_⟩
  repeat (first | exact Below.refl _ _ | refine Below.alloc ?_ (by first | (simp; done) | (simp; omega)) _ | refine Below.setCell ?_ (by first | (simp; done) | (simp; omega)) _)
set_option maxRecDepth 100000 in
theorem pipeN (w : World) : Calls Try.prog 65 #[.int .i64 1, .int .i64 0, .nilFunc, .nilFunc, .nilFunc] w fun e w' => e = .returned (.tuple #[.int .i64 0, .int .i64 1]) ∧ Below w.heap.size w w' := by
  have n_f166 := ne_f166
  have g_f166 := gd_f166
  have n_f163 := ne_f163
  have g_f163 := gd_f163
  have n_f51 := ne_f51
  have g_f51 := gd_f51
  go_enter Try.func65, Try.ntmps65
  go_wp2
  refine bodyPost_ret (v := .tuple #[.int .i64 0, .int .i64 1]) (by simp [results, Try.results65, go_sem]) rfl ⟨rfl, ?_⟩
  repeat (first | exact Below.refl _ _ | refine Below.alloc ?_ (by first | (simp; done) | (simp; omega)) _ | refine Below.setCell ?_ (by first | (simp; done) | (simp; omega)) _)
theorem one (w : World) (T : TypeId) (v : Value) {b : Nat} (hb : b = w.heap.size) : (w.alloc (.cells #[v] T)).cell? ⟨b, 0, none⟩ = some v := by
  subst hb; exact K.row_cell (heap_alloc_new w _) 0
def overVal (b : Nat) : Value := .func (.func 121) #[] #[.pointer (some ⟨b + 1 + 1, 0, none⟩), .pointer (some ⟨b + 1 + 1 + 1, 0, none⟩), .pointer (some ⟨b, 0, none⟩), .pointer (some ⟨b + 1, 0, none⟩)]
structure OverAt (W : World) (b : Nat) : Prop where
  k : W.cell? ⟨b, 0, none⟩ = some (.int .i64 1)
  a : W.cell? ⟨b + 1, 0, none⟩ = some (.int .i64 1)
  i : W.cell? ⟨b + 1 + 1, 0, none⟩ = some .nilFunc
  d : W.cell? ⟨b + 1 + 1 + 1, 0, none⟩ = some .nilFunc
  s : b + 1 + 1 + 1 + 1 ≤ W.heap.size
set_option maxRecDepth 100000 in
theorem overN (w : World) : Calls Try.prog 66 #[.int .i64 1, .int .i64 1, .nilFunc, .nilFunc] w fun e w' => e = .returned (overVal w.heap.size) ∧ OverAt w' w.heap.size ∧ Below w.heap.size w w' := by
  go_enter Try.func66, Try.ntmps66
  go_wp2
  go_ret
  refine ⟨rfl, ⟨?_, ?_, ?_, ?_, by simp⟩, ?_⟩
  · rw [World.cell?_alloc_lt _ _ _ (by simp only [World.size_alloc]; omega), World.cell?_alloc_lt _ _ _ (by simp only [World.size_alloc]; omega), World.cell?_alloc_lt _ _ _ (by simp only [World.size_alloc]; omega)]; exact one _ _ _ (by simp)
  · rw [World.cell?_alloc_lt _ _ _ (by simp only [World.size_alloc]; omega), World.cell?_alloc_lt _ _ _ (by simp only [World.size_alloc]; omega)]; exact one _ _ _ (by simp)
  · rw [World.cell?_alloc_lt _ _ _ (by simp only [World.size_alloc]; omega)]; exact one _ _ _ (by simp)
  · exact one _ _ _ (by simp)
  repeat (first | exact Below.refl _ _ | refine Below.alloc ?_ (by first | (simp; done) | (simp; omega)) _)
theorem num (x : Int) (w : World) : Calls Try.prog 21 #[.int .i64 x] w fun e w' => e = .returned (.int .i64 x) ∧ w = w' := by
  go_enter Try.func21, Try.ntmps21
  go_wp2
  go_ret
  exact ⟨rfl, rfl⟩
theorem mayN (k : Int) (w : World) : Calls Try.prog 78 #[.bool false, .int .i64 k] w fun e w' => e = .returned (.int .i64 1) ∧ w = w' := by
  go_enter Try.func78, Try.ntmps78
  go_wp2
  go_ret
  exact ⟨rfl, rfl⟩
theorem over_not_nil (b : Nat) (W : World) : (binOp .eql 125 (overVal b) .nilFunc).run Try.prog W = .ok (.bool false) W := by kernel_rfl
theorem over_guard (b : Nat) (x y : Operand) (W : World) : (eqGuard .eql 125 x y (overVal b) .nilFunc).run Try.prog W = .ok () W := by kernel_rfl
def ticks (_ : Unit) : Array Value := #[.int .i64 0, .int .i64 1]
set_option maxRecDepth 100000 in
theorem over_stops (m : Nat) (hm : 1 ≤ m) (b n₀ : Nat) (w : World) (h : OverAt w b) : SeqStopsK Fence.wide m Try.prog 121 #[.pointer (some ⟨b + 1 + 1, 0, none⟩), .pointer (some ⟨b + 1 + 1 + 1, 0, none⟩), .pointer (some ⟨b, 0, none⟩), .pointer (some ⟨b + 1, 0, none⟩)] ticks (Below n₀) (fun ys => ys = [()]) (fun pre => pre = [()]) 1 w := by
  intro lp J Jx W hW hJ _ hY h0
  have n_f168 := ne_f168
  have g_f168 := gd_f168
  have c1 := (hW.cell (p := ⟨b, 0, none⟩) (by have := h.s; simp only; omega)).trans h.k
  have c2 := (hW.cell (p := ⟨b + 1, 0, none⟩) (by have := h.s; simp only; omega)).trans h.a
  have c3 := (hW.cell (p := ⟨b + 1 + 1, 0, none⟩) (by have := h.s; simp only; omega)).trans h.i
  have c4 := (hW.cell (p := ⟨b + 1 + 1 + 1, 0, none⟩) (by have := h.s; simp only; omega)).trans h.d
  have hsW := hW.size
  have hs := h.s
  have l1 : b < W.heap.size := by omega
  have l2 : b + 1 < W.heap.size := by omega
  have l3 : b + 1 + 1 < W.heap.size := by omega
  have l4 : b + 1 + 1 + 1 < W.heap.size := by omega
  have HY := Lib.hid hY
  have HJ := Lib.hid hJ
  have H0 := Lib.hid h0
  clear hY hJ h0 hW h
  refine callsIn_of_wp Try.func121 rfl trivial ?_ rfl; simp only [Try.ntmps121, List.size_toArray, List.length_cons, List.length_nil, Nat.reduceAdd, Nat.reduceSub, Array.replicate_succ, Array.replicate_zero, List.push_toArray, List.append_toArray, List.nil_append, List.cons_append]
  gi_wp2_with fail
  refine ⟨trivial, (callsIn_wide.2 (mayN _ _)).mono ?_⟩
  rintro e W1 ⟨rfl, rfl⟩
  obtain ⟨fn, tmps, assign, body, hy, hR⟩ := HY.out [] () _ (HJ.out [] _ _ none H0.out (World.grownBy_alloc W (.cells #[.func (.yield lp) #[] #[]] 169) none) (fun r e => by cases e)) (by simp)
  unfold ticks at hy
  gi_wp2
  refine hR.mono ?_
  rintro e W3 (⟨rfl, hJ3, hk3⟩ | ⟨rfl, hJx3⟩)
  · gi_wp2
    refine bodyPost_ret (results_none rfl _ _ _) rfl ?_
    exact ⟨⟨_, rfl⟩, .inl ⟨[()], rfl, hJ3⟩⟩
  · gi_wp2
    refine bodyPost_ret (results_none rfl _ _ _) rfl ?_
    exact ⟨⟨_, rfl⟩, .inr ⟨[()], rfl, hJx3⟩⟩
def Row1 (W : World) (b : Nat) (T : TypeId) (v : Value) : Prop := W.heap[b]? = some (.cells #[v] T (0, 0))
section
variable {W W' : World} {b : Nat} {T : TypeId} {v : Value}
theorem Row1.lt (h : Row1 W b T v) : b < W.heap.size := (Array.getElem?_eq_some_iff.1 h).1
theorem Row1.get (h : Row1 W b T v) : W.cell? ⟨b, 0, none⟩ = some v := K.row_cell h 0
theorem Row1.free (h : Row1 W b T v) : W.frozen? ⟨b, 0, none⟩ = false := by unfold Row1 at h; simp [World.frozen?, h]
theorem Row1.set (h : Row1 W b T v) (v' : Value) : Row1 (W.setCell ⟨b, 0, none⟩ v') b T v' := heap_setCell_same W b 0 #[v] T v' h
theorem Row1.other (h : Row1 W b T v) {a : Addr} (ha : b ≠ a.block) (v' : Value) : Row1 (W.setCell a v') b T v := (heap_setCell_other W a b v' ha).trans h
theorem Row1.below {B : Nat} (h : Row1 W b T v) (hb : Below B W W') (hB : b < B) : Row1 W' b T v := (hb.block b hB).trans h
theorem Row1.alloc (h : Row1 W b T v) (o : Obj) : Row1 (W.alloc o) b T v := (Below.heap_alloc W o b h.lt).trans h
theorem Row1.new (W : World) (T : TypeId) (v : Value) : Row1 (W.alloc (.cells #[v] T)) W.heap.size T v := heap_alloc_new W _
theorem Row1.kept (h : Row1 W b T v) {row : Option Nat} (hg : W.grownBy W' row) (hr : ∀ r, row = some r → ∃ o : Obj, W.heap[r]? = some o ∧ o.isCells = false) : Row1 W' b T v :=
  (hg.block b h.lt (fun e => by
    obtain ⟨o, ho, hc⟩ := hr b e.symm
    rw [show W.heap[b]? = _ from h] at ho
    cases ho; cases hc)).trans h
end
def Inv (w w4 : World) (pre : List Unit) (W : World) : Prop := (Row1 W w.heap.size 4 (.bool false) ∧ Row1 W w4.heap.size 3 (.int .i64 pre.length)) ∧ Below w.heap.size w W
set_option maxRecDepth 100000 in
set_option maxHeartbeats 2000000 in
theorem walk (w : World) : Calls Try.prog 13 #[] w fun e w' => e = .returned (.bool true) ∧ Below w.heap.size w w' := by
  refine callsIn_wide (n := 9) |>.1 (callsIn_of_wp_marks Try.func13 rfl trivial ?_ rfl); simp only [Try.ntmps13, List.size_toArray, List.length_cons, List.length_nil, Nat.reduceAdd, Nat.reduceSub, Array.replicate_succ, Array.replicate_zero, List.push_toArray, List.append_toArray, List.nil_append, List.cons_append]
  gi_wp2_with fail
  refine ⟨trivial, (callsIn_wide.2 (mapN _ _)).mono ?_⟩
  rintro e w1 ⟨rfl, hb1⟩
  gi_wp2_with fail
  refine ⟨trivial, (callsIn_wide.2 (reduceN _ _)).mono ?_⟩
  rintro e w2 ⟨rfl, hb2⟩
  gi_wp2_with fail
  refine ⟨trivial, (callsIn_wide.2 (spansN _)).mono ?_⟩
  rintro e w3 ⟨rfl, hb3⟩
  gi_wp2_with fail
  refine ⟨trivial, (callsIn_wide.2 (pipeN _)).mono ?_⟩
  rintro e w4 ⟨rfl, hb4⟩
  gi_wp2_with fail
  refine ⟨trivial, (callsIn_wide.2 (num _ _)).mono ?_⟩
  rintro e w5 ⟨rfl, rfl⟩
  gi_wp2_with fail
  refine ⟨trivial, (callsIn_wide.2 (num _ _)).mono ?_⟩
  rintro e w5 ⟨rfl, rfl⟩
  gi_wp2_with fail
  refine ⟨trivial, (callsIn_wide.2 (num _ _)).mono ?_⟩
  rintro e w5 ⟨rfl, rfl⟩
  gi_wp2_with fail
  refine ⟨trivial, (callsIn_wide.2 (num _ _)).mono ?_⟩
  rintro e w5 ⟨rfl, rfl⟩
  gi_wp2_with fail
  refine ⟨trivial, (callsIn_wide.2 (overN _)).mono ?_⟩
  rintro e w6 ⟨rfl, hO, hb6⟩
  have n_n := over_not_nil (w4.heap.size + 1)
  have g_n := over_guard (w4.heap.size + 1)
  have HO := Lib.hid hO
  have HB6 := Lib.hid hb6
  clear hO hb6
  have r1 := ((Row1.new w 4 (.bool false)).alloc (.cells #[.int .i64 1] 3)).below hb1 (by simp; omega)
  have r2 := (((r1.alloc (.cells #[.int .i64 1] 3)).below hb2 (by have := r1.lt; simp; omega)).below hb3 (by have := r1.lt; have := hb2.size; simp at this; omega)).below hb4 (by have := r1.lt; have := hb2.size; have := hb3.size; simp at *; omega)
  have B1 := (((Below.refl w.heap.size w).alloc (Nat.le_refl _) (.cells #[.bool false] 4)).alloc (by simp) (.cells #[.int .i64 1] 3)).trans (hb1.mono (by simp; omega))
  have B2 := (B1.alloc B1.size (.cells #[.int .i64 1] 3)).trans (hb2.mono (by have := B1.size; simp; omega))
  have B4 := (B2.trans (hb3.mono B2.size)).trans (hb4.mono (by have := B2.size; have := hb3.size; omega))
  have B6 := (B4.alloc B4.size (.cells #[.int .i64 0] 3)).trans (HB6.out.mono (by have := B4.size; simp; omega))
  have r6 := (r2.alloc (.cells #[.int .i64 0] 3)).below HB6.out (by have := r2.lt; simp; omega)
  have t6 := (Row1.new w4 3 (.int .i64 0)).below HB6.out (by simp)
  have hI0 : Inv w w4 [] w6 := ⟨⟨r6, t6⟩, B6⟩
  have hlt := r2.lt
  have hs6 := B6.size
  have HO' : OverAt w6 (w4.heap.size + 1) := by have := HO.out; simpa using this
  have HI0 := Lib.hid hI0
  have HOO := Lib.hid HO'
  clear r1 r2 B1 B2 B4 B6 r6 t6 hI0 HO' hb1 hb2 hb3 hb4
  simp only [World.size_alloc]
  gi_wp2_with fail
  clear n_n g_n
  refine wpIn_rangeFunc_ownF rfl (by decide) (gf := 121) (lb := #[.pointer (some ⟨w4.heap.size + 1 + 1 + 1, 0, none⟩), .pointer (some ⟨w4.heap.size + 1 + 1 + 1 + 1, 0, none⟩), .pointer (some ⟨w4.heap.size + 1, 0, none⟩), .pointer (some ⟨w4.heap.size + 1 + 1, 0, none⟩)]) rfl trivial (enters_of Try.func121 (by kernel_rfl) rfl)
    (over_stops 8 (by decide) (w4.heap.size + 1) w.heap.size w6 HOO.out) belowK_t (belowK_b hs6) (Below.refl _ _) (fun _ => rfl)
    (Inv w w4) (fun _ _ _ => False) ?hI ?hIx HI0.out ?a1 ?assign ?body ?done ?stop
  case assign =>
    intro lp x X K hK
    unfold ticks
    gi_wp2
    exact hK
  case hI =>
    exact OwnFrom.and (Own.from (fun s A B row hs hg hr => ⟨hs.1.kept hg hr, hs.2.kept hg hr⟩) _) (ownFrom_below (Nat.le_refl _) hs6)
  case hIx => exact fun c s A B row hs _ _ => hs
  case stop => exact fun _ _ _ _ _ _ h _ => h.elim
  case body =>
    rintro lp pre x X ⟨⟨hr, ht⟩, hB⟩ hN
    obtain rfl : pre = [] := List.eq_nil_of_length_eq_zero (by omega)
    have c0 := ht.get
    have f0 := ht.free
    have HT := Lib.hid (And.intro hr (And.intro ht hB))
    clear hr ht hB
    gi_wp2_with fail
    refine ⟨trivial, (CallsIn.inRound lp (callsIn_wide.2 (num _ _))).mono ?_⟩
    rintro e W3 ⟨rfl, rfl⟩
    gi_wp2
    exact ⟨KeepsOthers.setCell _ _ _, (Below.refl w.heap.size X).setCell (p := ⟨w4.heap.size, 0, none⟩) (by show w.heap.size ≤ w4.heap.size; omega) _, ⟨HT.out.1.other (by show w.heap.size ≠ w4.heap.size; omega) _, HT.out.2.1.set _⟩, HT.out.2.2.setCell (p := ⟨w4.heap.size, 0, none⟩) (by show w.heap.size ≤ w4.heap.size; omega) _⟩
  case done =>
    rintro D xs X hD rfl ⟨⟨hr, ht⟩, hB⟩ hK
    have c0 := ht.get
    have c1 := hr.get
    have f1 := hr.free
    have HT := Lib.hid (And.intro hr (And.intro ht hB))
    have HK := Lib.hid hK
    clear hr ht hB hK
    gi_wp2
    have hK2 := (KeepsOthers.setCell X ⟨w.heap.size, 0, none⟩ (.bool true)).same D _ HK.out rfl
    refine ⟨by simp, .inl ⟨_, _, rfl, run_takeDeferred hK2, ?_⟩⟩
    have hc := (HT.out.1.set (.bool true)).kept (grownBy_putObj' _ D (.deferred none)) (fun r e => by cases e; exact ⟨_, hK2, rfl⟩)
    have hc5 := hc.get
    have hB5 := (HT.out.2.2.setCell (p := ⟨w.heap.size, 0, none⟩) (Nat.le_refl _) (.bool true)).grown (grownBy_putObj' _ D (.deferred none)) (by have := HT.out.2.2.size; simpa using this) (fun k e => by cases e; omega)
    clear hc
    exact ⟨.bool true, by simp [results, Try.f13, go_sem, hc5], rfl, hB5⟩
/-- Who returns alone leaves nobody that does more than leave. -/
theorem leaving_of_handed {a : Assume} {C : Checked} {os : Os} {f : FuncId} {r : Reach} {Pre : World → Array Value → Prop} {Post : World → Array Value → Value → World → Prop} (h : ReturnsInHanded a C os f r Pre Post) : ReturnsInLeavingWide a C os f r Pre Post :=
  fun enter => ReturnsInOpen.mono (fun _ _ _ x => ⟨x.2.1, onlyLeaving_of_quiet x.1, x.2.2⟩) (fun _ x => x) (h enter)
theorem own : ownKnob Try.prog.godebug = none := by kernel_rfl
set_option maxRecDepth 100000 in
theorem lifted (os : Os) (started : os.Started) (H : Type) (enc : TypeId × Value → H) (F : Stop.Interp) :
    ReturnsInLeavingWide Rows.crewNamesRow.assume Try.checked os 13 .any (Rows.crewNamesRow.pre enc Try.prog Try.f13 (OpenSpec.ofChange Rows.crewNamesSpec)) ((OpenSpec.ofChange Rows.crewNamesSpec).postWith enc Try.prog Try.f13 F (outsideKept [.timePasses]) false true false) := by
  rw [Clock.pre_unlisted rfl]
  refine leaving_of_handed (Clock.returns_of_change (C := Try.checked) (X := fun _ _ => True) (fun _ _ _ _ h => h) own started (by kernel_rfl) Try.func13
    (Clock.witness (enc := enc) (C := Try.checked) ⟨#[], #[], []⟩ 8 (by kernel_rfl) (by kernel_rfl) (by kernel_rfl) (by kernel_rfl)) ?_)
  intro W base args ds gs before hval0 hW hcnd hsz0 _ _
  have hval : ∀ (j : Nat) t v, Try.f13.params[j]? = some t → args[j]? = some v → Value.okWide Try.prog W .any base t v := hval0
  have hW' := hW
  obtain ⟨p, q, hA0, hV, rfl, hfz, hnd⟩ := hW
  have hA : DataW.TrodAll enc Try.prog W 0 (fun _ => true) true Try.f13.params.toList args.toList ds p := hA0
  rw [Try.params13] at hA hval
  obtain ⟨rfl, rfl, rfl⟩ := trodAll_none hA
  obtain ⟨rfl, rfl⟩ := trodVars_none hV
  refine (walk W).mono fun e W' ⟨he, bel⟩ => ?_
  subst he
  have e0 : ({ W' with os := W.os } : World) = W' := by rw [← bel.os]
  refine ⟨_, rfl, ?_, by rw [bel.os]; exact Clock.Later.refl _⟩
  rw [e0]
  exact ⟨_, _, _, [], _, [], hW', trodAll_mk1 (shut_bool Try.underlying4 _), trodAll_mk0, rfl, bel.frame _, fun h => by cases h⟩
theorem over : Rows.crewNamesRow.holds Try.pinned (OpenSpec.ofChange Rows.crewNamesSpec) :=
  OpenClaim.holds_of_wide_leaving_time 13 Try.f13 rfl rfl rfl rfl rfl rfl rfl ⟨rfl, rfl, rfl, rfl, rfl⟩ rfl rfl rfl rfl rfl (by kernel_rfl) Try.func13 (by kernel_rfl)
    (of_decide_eq_true (by kernel_rfl)) (by unfold Func.isWrapper; first | (rw [if_pos (by decide +kernel)]; kernel_rfl) | (rw [if_neg (by decide +kernel)]; exact ⟨rfl, rfl⟩))
    (fun os started H enc _ F => lifted os started H enc F)
theorem proved : Rows.CrewNamesSaid := over
#print axioms proved
end Go.Proofs.Ytikeilfljjggbaa.crewNames
