/-
  Small laws of this seat's own: a region that draws its order and whose calls only make new blocks, walked once; arguments opened. No condition.
-/
import Derived.Test.YthdglihjnpednaaProg
import Derived.WalkKit
import Derived.ProofKit
import Derived.OpenShut
import Derived.Carry
import Derived.Laws.Rows
import Derived.Deep.QuietTactic
import Derived.BigQuiet
import Derived.Lib.Hide
set_option linter.unusedVariables false
namespace Go.Proofs.Ythdglihjnpednaa.K
open Go.RowKit Go.ChangeShapes Go.WideShapes

/-! ### A region that draws its order: every operation yields one value in every world of a class -/
structure Gives (r : Result Next) (w : World) (v : Value) : Prop where out : r = .ok (.value v) w
structure Enters (r : Result Next) (w : World) (f : FuncId) (args : Array Value) : Prop where out : r = .ok (.enter f args) w
structure Puts (a : Act) (a' : Act) : Prop where out : a = a'
theorem Gives.mk' (w : World) (v : Value) : Gives (.ok (.value v) w) w v := ⟨rfl⟩
theorem Enters.mk' (w : World) (f : FuncId) (args : Array Value) : Enters (.ok (.enter f args) w) w f args := ⟨rfl⟩
theorem Puts.mk' (a : Act) : Puts a a := ⟨rfl⟩
section
variable {P : Program} {o : Oper} {a : Act} {C : World → Prop} {next : Act → Prop} {a' : Act} {v : Value} {f : FuncId} {args : Array Value}
theorem quiet_if {ops : Array Oper} {K : Act → Prop} (hw : Region.wanted o (yielded ops a.tmps) = true) (h : o.quiet P a C K) :
    if Region.wanted o (yielded ops a.tmps) then o.quiet P a C K else K (a.put o.dst undef) := by rw [if_pos hw]; exact h
theorem quiet_else {ops : Array Oper} {K : Act → Prop} (hw : Region.wanted o (yielded ops a.tmps) = false) (he : Puts (a.put o.dst undef) a') (h : K a') :
    if Region.wanted o (yielded ops a.tmps) then o.quiet P a C K else K (a.put o.dst undef) := by rw [if_neg (by simp [hw]), he.out]; exact h
theorem quiet_val (h : ∀ w, C w → Gives ((execOp a.eval o).run P w) w v) (he : Puts (a.put o.dst v) a') (hn : next a') : o.quiet P a C next :=
  ⟨v, fun w hw => by unfold Oper.quietAt; rw [(h w hw).out]; exact ⟨rfl, rfl⟩, he.out ▸ hn⟩
theorem quiet_call (h : ∀ w, C w → Enters ((execOp a.eval o).run P w) w f args) (hc : ∀ w, C w → Calls P f args w fun e w' => e = .returned v ∧ C w')
    (he : Puts (a.put o.dst v) a') (hn : next a') : o.quiet P a C next :=
  ⟨v, fun w hw => by unfold Oper.quietAt; rw [(h w hw).out]; exact ⟨rfl, hc w hw⟩, he.out ▸ hn⟩
end
theorem region_quiet {P : Program} {C : World → Prop} {id : Nat} {Q : Exit → Act → World → Prop} {a : Act} {w : World} {l : List Oper} (hm : P.follows .mixedOrders = true) (hB : Region.lexB .any l.toArray = true)
    (hC : C { w with drawn := w.drawn + 1 }) (h : wpQuiet P l.toArray C (fun a' => ∀ w', C w' → Q .normal a' w') l a) : (Code.region id l.toArray true).wp P Q a w :=
  wp_region_quiet hm hB hC (by simpa using h)
/-- Behind a draw nothing below has turned. -/
theorem below_draw (w : World) : Below w.heap.size w { w with drawn := w.drawn + 1 } := ⟨rfl, rfl, rfl, Nat.le_refl _, fun _ _ => rfl⟩
theorem below_cell {B : Nat} {w w' : World} (h : Below B w w') {b : Nat} (hb : b < B) (o : Nat) : w'.cell? ⟨b, o, none⟩ = w.cell? ⟨b, o, none⟩ := h.cell (p := ⟨b, o, none⟩) hb
theorem row_cell {w : World} {b : Nat} {cs : Array Value} {t : TypeId} (h : w.heap[b]? = some (.cells cs t)) (o : Nat) : w.cell? ⟨b, o, none⟩ = cs[o]? := cell_of_row w b o cs t _ h
theorem row_below {B : Nat} {w w' : World} (h : Below B w w') {b : Nat} (hb : b < B) {cs : Array Value} {t : TypeId} (hr : w.heap[b]? = some (.cells cs t)) (o : Nat) : w'.cell? ⟨b, o, none⟩ = cs[o]? :=
  (below_cell h hb o).trans (row_cell hr o)
/-- A callee's contract, met within a class 'below B'. -/
theorem calls_below {P : Program} {f : FuncId} {args : Array Value} {B : Nat} {w w' : World} {v : Value} (hw : Below B w w') (hB : B ≤ w'.heap.size)
    (h : Calls P f args w' fun e w'' => e = .returned v ∧ Below w'.heap.size w' w'') : Calls P f args w' fun e w'' => e = .returned v ∧ Below B w w'' :=
  h.mono fun _ _ ⟨he, hb⟩ => ⟨he, hw.trans (hb.mono hB)⟩

/-! ### Arguments opened -/
section
variable {H : Type} {enc : TypeId × Value → H} {P : Program} {w : World} {base : Nat} {spare : Nat → Bool} {held : Bool}
/-- An array of whole numbers, by value. -/
theorem open_array {r : Reach} {b0 : Nat} {t e : TypeId} {n : Nat} {k : IntKind} {v : Value} {d : DataW H} {ps : List MemPlace} (ht : P.underlying t = some (.array n e)) (he : P.underlying e = some (.int k))
    (hc : P.cellsOf e = 1) (hct : P.cellsOf t = n) (hval : Value.okWide P w r b0 t v) (hd : DataW.Trod enc P w base spare held t v d ps) :
    ∃ zs : List Int, zs.length = n ∧ v = .agg (zs.map (Value.int k)).toArray ∧ (∀ z ∈ zs, (Lit.int k z).wf = true) ∧ ps = [] := by
  unfold Value.okWide at hval
  rw [ht] at hval
  obtain ⟨cs, rfl, hsz, -⟩ := hval
  obtain ⟨fuel, hf⟩ := hd
  obtain ⟨xs, m, -, hx, hl, hxl, hi⟩ := DataW.trod_array ht hf
  rw [hc] at hi
  have key : ∀ i, i < n → ∃ z, cs[i]? = some (.int k z) ∧ (Lit.int k z).wf = true ∧ ∃ y, xs[i]? = some (y, []) := by
    intro i hin
    have h1 := hi i hin
    rw [List.getElem?_eq_getElem (by omega)] at h1
    obtain ⟨z, hz, hy, hw⟩ := DataW.trod_int he h1
    refine ⟨z, ?_, hw, _, by rw [List.getElem?_eq_getElem (by omega), hy]⟩
    have h2 : ((Value.agg cs).cells.toList.drop (i * 1)).take 1 = [Value.int k z] := hz
    have h3 : cs.toList.drop i = cs.toList.drop (i * 1) := by simp
    have h4 : (cs.toList.drop i)[0]? = some (Value.int k z) := by
      have := congrArg (fun l => l[0]?) h2
      simpa [Value.cells] using this
    simpa using h4
  refine ⟨(List.range n).map fun i => intOf ((cs[i]?).getD undef), by simp, ?_, ?_, ?_⟩
  · congr 1
    apply Array.ext'
    apply List.ext_getElem?
    intro i
    by_cases hin : i < n
    · obtain ⟨z, hz, -, -⟩ := key i hin
      simp [hin, hz, intOf]
    · simp [hin]
      omega
  · intro z hz
    obtain ⟨i, hin, rfl⟩ := List.mem_map.1 hz
    obtain ⟨z, hz, hw, -⟩ := key i (by simpa using hin)
    simpa [hz, intOf] using hw
  · have hp : ps = xs.flatMap (·.2) := congrArg Prod.snd hx
    rw [hp, List.flatMap_eq_nil_iff]
    intro y hy
    obtain ⟨i, hil, rfl⟩ := List.getElem_of_mem hy
    obtain ⟨z, -, -, y, hxy⟩ := key i (by omega)
    rw [List.getElem?_eq_getElem hil] at hxy
    rw [Option.some.inj hxy]
theorem len8 {zs : List Int} (h : zs.length = 8) : ∃ a b c d e f g i : Int, zs = [a, b, c, d, e, f, g, i] := by
  match zs, h with
  | [a, b, c, d, e, f, g, i], _ => exact ⟨a, b, c, d, e, f, g, i, rfl⟩
theorem len6 {zs : List Int} (h : zs.length = 6) : ∃ a b c d e f : Int, zs = [a, b, c, d, e, f] := by
  match zs, h with
  | [a, b, c, d, e, f], _ => exact ⟨a, b, c, d, e, f, rfl⟩
theorem len4 {zs : List Int} (h : zs.length = 4) : ∃ a b c d : Int, zs = [a, b, c, d] := by
  match zs, h with
  | [a, b, c, d], _ => exact ⟨a, b, c, d, rfl⟩
end
theorem u64_of {z : Int} (h : (Lit.int .u64 z).wf = true) : 0 ≤ z ∧ z ≤ 18446744073709551615 := bounds_u64 h
end Go.Proofs.Ythdglihjnpednaa.K
