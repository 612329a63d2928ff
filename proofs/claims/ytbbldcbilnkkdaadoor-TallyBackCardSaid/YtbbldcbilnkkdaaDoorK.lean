/-
  Small laws of this seat's own: a region that draws its order and whose calls only make new blocks, walked once; arguments opened. No condition.
-/
import Derived.Test.YtbbldcbilnkkdaaDoorProg
import Derived.WalkKit
import Derived.ProofKit
import Derived.OpenShut
import Derived.Carry
import Derived.Laws.Rows
import Derived.Deep.QuietTactic
import Derived.BigQuiet
import Derived.Lib.Hide
import Derived.Deep.Slices
set_option linter.unusedVariables false
namespace Go.Proofs.YtbbldcbilnkkdaaDoor.K
open Go.RowKit Go.ChangeShapes Go.WideShapes

/-! ### A region that draws its order: every operation yields one value in every world of a class -/
structure Gives (r : Result Next) (w : World) (v : Value) : Prop where out : r = .ok (.value v) w
structure Enters (r : Result Next) (w : World) (f : FuncId) (args : Array Value) : Prop where out : r = .ok (.enter f args) w
structure Puts (a : Act) (a' : Act) : Prop where out : a = a'
theorem Gives.mk' (w : World) (v : Value) : Gives (.ok (.value v) w) w v := ⟨rfl⟩
theorem Enters.mk' (w : World) (f : FuncId) (args : Array Value) : Enters (.ok (.enter f args) w) w f args := ⟨rfl⟩
theorem Puts.mk' (a : Act) : Puts a a := ⟨rfl⟩
section
variable {P : Program} {o : Oper} {a : Act} {C : World → Prop} {next : Act → Prop} {a' : Act} {v : Value} {f : FuncId} {args : Array Value}
theorem quiet_if {ops : Array Oper} {K : Act → Prop} (hw : Region.wanted o (yielded ops a.tmps) = true) (h : o.quiet P a C K) :
    if Region.wanted o (yielded ops a.tmps) then o.quiet P a C K else K (a.put o.dst undef) := by rw [if_pos hw]; exact h
theorem quiet_else {ops : Array Oper} {K : Act → Prop} (hw : Region.wanted o (yielded ops a.tmps) = false) (he : Puts (a.put o.dst undef) a') (h : K a') :
    if Region.wanted o (yielded ops a.tmps) then o.quiet P a C K else K (a.put o.dst undef) := by rw [if_neg (by simp [hw]), he.out]; exact h
theorem quiet_val (h : ∀ w, C w → Gives ((execOp a.eval o).run P w) w v) (he : Puts (a.put o.dst v) a') (hn : next a') : o.quiet P a C next :=
  ⟨v, fun w hw => by unfold Oper.quietAt; rw [(h w hw).out]; exact ⟨rfl, rfl⟩, he.out ▸ hn⟩
theorem quiet_call (h : ∀ w, C w → Enters ((execOp a.eval o).run P w) w f args) (hc : ∀ w, C w → Calls P f args w fun e w' => e = .returned v ∧ C w')
    (he : Puts (a.put o.dst v) a') (hn : next a') : o.quiet P a C next :=
  ⟨v, fun w hw => by unfold Oper.quietAt; rw [(h w hw).out]; exact ⟨rfl, hc w hw⟩, he.out ▸ hn⟩
end
theorem region_quiet {P : Program} {C : World → Prop} {id : Nat} {Q : Exit → Act → World → Prop} {a : Act} {w : World} {l : List Oper} (hm : P.follows .mixedOrders = true) (hB : Region.lexB .any l.toArray = true)
    (hC : C { w with drawn := w.drawn + 1 }) (h : wpQuiet P l.toArray C (fun a' => ∀ w', C w' → Q .normal a' w') l a) : (Code.region id l.toArray true).wp P Q a w :=
  wp_region_quiet hm hB hC (by simpa using h)
/-- Behind a draw nothing below has turned. -/
theorem below_draw (w : World) : Below w.heap.size w { w with drawn := w.drawn + 1 } := ⟨rfl, rfl, rfl, Nat.le_refl _, fun _ _ => rfl⟩
theorem below_cell {B : Nat} {w w' : World} (h : Below B w w') {b : Nat} (hb : b < B) (o : Nat) : w'.cell? ⟨b, o, none⟩ = w.cell? ⟨b, o, none⟩ := h.cell (p := ⟨b, o, none⟩) hb
theorem row_cell {w : World} {b : Nat} {cs : Array Value} {t : TypeId} (h : w.heap[b]? = some (.cells cs t)) (o : Nat) : w.cell? ⟨b, o, none⟩ = cs[o]? := cell_of_row w b o cs t _ h
theorem row_below {B : Nat} {w w' : World} (h : Below B w w') {b : Nat} (hb : b < B) {cs : Array Value} {t : TypeId} (hr : w.heap[b]? = some (.cells cs t)) (o : Nat) : w'.cell? ⟨b, o, none⟩ = cs[o]? :=
  (below_cell h hb o).trans (row_cell hr o)
/-- A callee's contract, met within a class 'below B'. -/
theorem calls_below {P : Program} {f : FuncId} {args : Array Value} {B : Nat} {w w' : World} {v : Value} (hw : Below B w w') (hB : B ≤ w'.heap.size)
    (h : Calls P f args w' fun e w'' => e = .returned v ∧ Below w'.heap.size w' w'') : Calls P f args w' fun e w'' => e = .returned v ∧ Below B w w'' :=
  h.mono fun _ _ ⟨he, hb⟩ => ⟨he, hw.trans (hb.mono hB)⟩

/-! ### Arguments opened -/
section
variable {H : Type} {enc : TypeId × Value → H} {P : Program} {w : World} {base : Nat} {spare : Nat → Bool} {held : Bool}
/-- An array of whole numbers, by value. -/
theorem open_array {r : Reach} {b0 : Nat} {t e : TypeId} {n : Nat} {k : IntKind} {v : Value} {d : DataW H} {ps : List MemPlace} (ht : P.underlying t = some (.array n e)) (he : P.underlying e = some (.int k))
    (hc : P.cellsOf e = 1) (hct : P.cellsOf t = n) (hval : Value.okWide P w r b0 t v) (hd : DataW.Trod enc P w base spare held t v d ps) :
    ∃ zs : List Int, zs.length = n ∧ v = .agg (zs.map (Value.int k)).toArray ∧ (∀ z ∈ zs, (Lit.int k z).wf = true) ∧ ps = [] := by
  unfold Value.okWide at hval
  rw [ht] at hval
  obtain ⟨cs, rfl, hsz, -⟩ := hval
  obtain ⟨fuel, hf⟩ := hd
  obtain ⟨xs, m, -, hx, hl, hxl, hi⟩ := DataW.trod_array ht hf
  rw [hc] at hi
  have key : ∀ i, i < n → ∃ z, cs[i]? = some (.int k z) ∧ (Lit.int k z).wf = true ∧ ∃ y, xs[i]? = some (y, []) := by
    intro i hin
    have h1 := hi i hin
    rw [List.getElem?_eq_getElem (by omega)] at h1
    obtain ⟨z, hz, hy, hw⟩ := DataW.trod_int he h1
    refine ⟨z, ?_, hw, _, by rw [List.getElem?_eq_getElem (by omega), hy]⟩
    have h2 : ((Value.agg cs).cells.toList.drop (i * 1)).take 1 = [Value.int k z] := hz
    have h3 : cs.toList.drop i = cs.toList.drop (i * 1) := by simp
    have h4 : (cs.toList.drop i)[0]? = some (Value.int k z) := by
      have := congrArg (fun l => l[0]?) h2
      simpa [Value.cells] using this
    simpa using h4
  refine ⟨(List.range n).map fun i => intOf ((cs[i]?).getD undef), by simp, ?_, ?_, ?_⟩
  · congr 1
    apply Array.ext'
    apply List.ext_getElem?
    intro i
    by_cases hin : i < n
    · obtain ⟨z, hz, -, -⟩ := key i hin
      simp [hin, hz, intOf]
    · simp [hin]
      omega
  · intro z hz
    obtain ⟨i, hin, rfl⟩ := List.mem_map.1 hz
    obtain ⟨z, hz, hw, -⟩ := key i (by simpa using hin)
    simpa [hz, intOf] using hw
  · have hp : ps = xs.flatMap (·.2) := congrArg Prod.snd hx
    rw [hp, List.flatMap_eq_nil_iff]
    intro y hy
    obtain ⟨i, hil, rfl⟩ := List.getElem_of_mem hy
    obtain ⟨z, -, -, y, hxy⟩ := key i (by omega)
    rw [List.getElem?_eq_getElem hil] at hxy
    rw [Option.some.inj hxy]
theorem len8 {zs : List Int} (h : zs.length = 8) : ∃ a b c d e f g i : Int, zs = [a, b, c, d, e, f, g, i] := by
  match zs, h with
  | [a, b, c, d, e, f, g, i], _ => exact ⟨a, b, c, d, e, f, g, i, rfl⟩
theorem len6 {zs : List Int} (h : zs.length = 6) : ∃ a b c d e f : Int, zs = [a, b, c, d, e, f] := by
  match zs, h with
  | [a, b, c, d, e, f], _ => exact ⟨a, b, c, d, e, f, rfl⟩
theorem len4 {zs : List Int} (h : zs.length = 4) : ∃ a b c d : Int, zs = [a, b, c, d] := by
  match zs, h with
  | [a, b, c, d], _ => exact ⟨a, b, c, d, rfl⟩
end
/-! ### Flat data: structs and arrays of numbers, bools and strings, however nested -/
inductive Leaf where
  | int (k : IntKind)
  | bool
  | string
def Leaf.ok : Leaf → Value → Prop
  | .int k, .int k' n => k' = k ∧ (Lit.int k n).wf = true
  | .bool, .bool _ => True
  | .string, .string s => s.size ≤ maxLen
  | _, _ => False
def Matches : List Leaf → List Value → Prop
  | [], [] => True
  | k :: ks, v :: vs => k.ok v ∧ Matches ks vs
  | _, _ => False
def flatFields (fl : TypeId → Option (List Leaf)) : Nat → List Field → Option (List Leaf)
  | _, [] => some []
  | off, f :: fs => if f.offset = off then (fl f.type).bind fun l => (flatFields fl (off + l.length) fs).map fun r => l ++ r else none
def flat (P : Program) : Nat → TypeId → Option (List Leaf)
  | 0, _ => none
  | m + 1, t => ((match P.underlying t with
    | some .bool => some [Leaf.bool]
    | some (.int k) => some [Leaf.int k]
    | some .string => some [Leaf.string]
    | some (.struct fs) => flatFields (flat P m) 0 fs.toList
    | some (.array n e) => (flat P m e).map fun l => (List.replicate n l).flatten
    | _ => none).bind fun l => if P.cellsOf t = l.length then some l else none)
theorem Matches.length : ∀ {ks : List Leaf} {cs : List Value}, Matches ks cs → cs.length = ks.length
  | [], [], _ => rfl
  | _ :: _, _ :: _, h => by simpa using Matches.length h.2
  | [], _ :: _, h => h.elim
  | _ :: _, [], h => h.elim
theorem Matches.append : ∀ {ks : List Leaf} {cs : List Value} {ks' : List Leaf} {cs' : List Value}, Matches ks cs → Matches ks' cs' → Matches (ks ++ ks') (cs ++ cs')
  | [], [], _, _, _, h => h
  | _ :: _, _ :: _, _, _, h, h' => ⟨h.1, Matches.append h.2 h'⟩
  | [], _ :: _, _, _, h, _ => h.elim
  | _ :: _, [], _, _, h, _ => h.elim
theorem matches_int {k : IntKind} {ks : List Leaf} {cs : List Value} (h : Matches (.int k :: ks) cs) : ∃ z cs', cs = .int k z :: cs' ∧ (Lit.int k z).wf = true ∧ Matches ks cs' := by
  cases cs with
  | nil => exact h.elim
  | cons v vs =>
    obtain ⟨h1, h2⟩ := h
    cases v with
    | int k' n => obtain ⟨rfl, hw⟩ := h1; exact ⟨n, vs, rfl, hw, h2⟩
    | _ => exact h1.elim
theorem matches_bool {ks : List Leaf} {cs : List Value} (h : Matches (.bool :: ks) cs) : ∃ z cs', cs = .bool z :: cs' ∧ Matches ks cs' := by
  cases cs with
  | nil => exact h.elim
  | cons v vs =>
    obtain ⟨h1, h2⟩ := h
    cases v with
    | bool n => exact ⟨n, vs, rfl, h2⟩
    | _ => exact h1.elim
theorem matches_string {ks : List Leaf} {cs : List Value} (h : Matches (.string :: ks) cs) : ∃ z cs', cs = .string z :: cs' ∧ z.size ≤ maxLen ∧ Matches ks cs' := by
  cases cs with
  | nil => exact h.elim
  | cons v vs =>
    obtain ⟨h1, h2⟩ := h
    cases v with
    | string n => exact ⟨n, vs, rfl, h1, h2⟩
    | _ => exact h1.elim
theorem matches_nil {cs : List Value} (h : Matches [] cs) : cs = [] := by
  cases cs with
  | nil => rfl
  | cons v vs => exact h.elim
section
variable {H : Type} {enc : TypeId × Value → H} {P : Program} {w : World} {base : Nat} {spare : Nat → Bool} {held : Bool}
theorem flatFields_trod {m n : Nat} {cs : List Value}
    (ih : ∀ {fuel : Nat} {t : TypeId} {ks : List Leaf} {cs : List Value} {x : DataW H × List MemPlace}, flat P m t = some ks → DataW.trod enc P w base spare held fuel t cs = some x → Matches ks cs ∧ x.2 = [])
    (hlen : ∀ {t ks}, flat P m t = some ks → P.cellsOf t = ks.length) :
    ∀ (fs : List Field) (xs : List (DataW H × List MemPlace)) (off : Nat) (ks : List Leaf), flatFields (flat P m) off fs = some ks → xs.length = fs.length →
      (∀ (i : Nat) (f : Field), fs[i]? = some f → DataW.trod enc P w base spare held n f.type ((cs.drop f.offset).take (P.cellsOf f.type)) = xs[i]?) →
      Matches ks ((cs.drop off).take ks.length) ∧ xs.flatMap (·.2) = []
  | [], xs, off, ks, hf, hx, _ => by
    simp only [flatFields, Option.some.injEq] at hf
    subst hf
    have : xs = [] := by simpa using hx
    subst this
    exact ⟨by simp [Matches], rfl⟩
  | f :: fs, xs, off, ks, hf, hx, hi => by
    simp only [flatFields] at hf
    split at hf
    · rename_i hoff
      cases h1 : flat P m f.type with
      | none => simp [h1] at hf
      | some l =>
        cases h2 : flatFields (flat P m) (off + l.length) fs with
        | none => simp [h1, h2] at hf
        | some r =>
          simp only [h1, h2, Option.bind_some, Option.map_some, Option.some.injEq] at hf
          subst hf
          cases xs with
          | nil => simp at hx
          | cons x xs =>
            have h0 := hi 0 f rfl
            simp only [List.getElem?_cons_zero] at h0
            obtain ⟨m0, p0⟩ := ih h1 h0
            obtain ⟨m1, p1⟩ := flatFields_trod (cs := cs) ih hlen fs xs (off + l.length) r h2 (by simpa using hx) (fun i g hg => by simpa using hi (i + 1) g (by simpa using hg))
            rw [hlen h1, hoff] at m0
            refine ⟨?_, by simp [p0, p1]⟩
            have e : (cs.drop off).take (l ++ r).length = (cs.drop off).take l.length ++ (cs.drop (off + l.length)).take r.length := by
              rw [List.length_append, List.take_add, List.drop_drop]
            rw [e]
            exact m0.append m1
    · cases hf
theorem flat_cells {m : Nat} {t : TypeId} {ks : List Leaf} (h : flat P m t = some ks) : P.cellsOf t = ks.length := by
  cases m with
  | zero => cases h
  | succ m =>
    obtain ⟨l, -, h2⟩ := Option.bind_eq_some_iff.1 h
    split at h2
    · rename_i e; cases h2; exact e
    · cases h2
theorem flat_trod : ∀ (m : Nat) {fuel : Nat} {t : TypeId} {ks : List Leaf} {cs : List Value} {x : DataW H × List MemPlace}, flat P m t = some ks → DataW.trod enc P w base spare held fuel t cs = some x → Matches ks cs ∧ x.2 = []
  | 0, _, _, _, _, _, h, _ => by cases h
  | m + 1, fuel, t, ks, cs, x, h, hd => by
    have hcl := flat_cells h
    obtain ⟨l, h1, h2⟩ := Option.bind_eq_some_iff.1 h
    have hl : l = ks := by
      split at h2
      · cases h2; rfl
      · cases h2
    subst hl
    clear h h2
    cases hu : P.underlying t with
    | none => simp [hu] at h1
    | some d =>
      rw [hu] at h1
      cases d with
      | bool =>
        simp only [Option.some.injEq] at h1; subst h1
        cases fuel with
        | zero => simp [DataW.trod] at hd
        | succ fuel =>
          unfold DataW.trod at hd; rw [hu] at hd
          split at hd <;> simp_all [Matches, Leaf.ok]
          all_goals (subst hd; rfl)
      | int k =>
        simp only [Option.some.injEq] at h1; subst h1
        obtain ⟨z, rfl, rfl, hw⟩ := DataW.trod_int hu hd
        exact ⟨⟨⟨rfl, hw⟩, trivial⟩, rfl⟩
      | string =>
        simp only [Option.some.injEq] at h1; subst h1
        obtain ⟨s, rfl, rfl, hw⟩ := DataW.trod_string hu hd
        exact ⟨⟨hw, trivial⟩, rfl⟩
      | struct fs =>
        obtain ⟨xs, n, -, rfl, hl, hxl, hi⟩ := DataW.trod_struct hu hd
        obtain ⟨m1, p1⟩ := flatFields_trod (cs := cs) (flat_trod m) (fun h => flat_cells h) fs.toList xs 0 l h1 (by simpa using hxl) (fun i f hf => hi i f (by simpa using hf))
        refine ⟨?_, p1⟩
        rw [List.drop_zero, ← hcl, ← hl, List.take_length] at m1
        exact m1
      | array n e =>
        obtain ⟨le, h3, rfl⟩ := Option.map_eq_some_iff.1 h1
        obtain ⟨xs, n', -, rfl, hl, hxl, hi⟩ := DataW.trod_array hu hd
        rw [flat_cells h3] at hi
        have key : ∀ i, i ≤ n → Matches (List.replicate i le).flatten (cs.take (i * le.length)) := by
          intro i
          induction i with
          | zero => intro _; simp [Matches]
          | succ i ih =>
            intro hin
            have h4 := hi i (by omega)
            rw [List.getElem?_eq_getElem (by omega)] at h4
            obtain ⟨m1, -⟩ := flat_trod m h3 h4
            have := (ih (by omega)).append m1
            rw [List.replicate_succ', List.flatten_append, Nat.succ_mul, List.take_add]
            simpa using this
        refine ⟨?_, ?_⟩
        · have := key n (Nat.le_refl _)
          have e2 : n * le.length = cs.length := by rw [hl, hcl]; simp
          rw [e2, List.take_length] at this
          exact this
        · show xs.flatMap (·.2) = []
          rw [List.flatMap_eq_nil_iff]
          intro y hy
          obtain ⟨i, hil, rfl⟩ := List.getElem_of_mem hy
          have h4 := hi i (by omega)
          rw [List.getElem?_eq_getElem hil] at h4
          exact (flat_trod m h3 h4).2
      | _ => simp at h1
/-- A struct or array of flat data, by value. -/
theorem open_flat {m : Nat} {r : Reach} {b0 : Nat} {t : TypeId} {ks : List Leaf} {v : Value} {d : DataW H} {ps : List MemPlace} (hk : flat P m t = some ks) (hag : (match P.underlying t with | some (.struct _) | some (.array _ _) => true | _ => false) = true)
    (hval : Value.okWide P w r b0 t v) (hd : DataW.Trod enc P w base spare held t v d ps) : ∃ cs : List Value, v = .agg cs.toArray ∧ Matches ks cs ∧ ps = [] := by
  obtain ⟨fuel, hf⟩ := hd
  obtain ⟨m1, p1⟩ := flat_trod m hk hf
  have : ∃ cs, v = .agg cs := by
    unfold Value.okWide at hval
    cases hu : P.underlying t with
    | none => simp [hu] at hag
    | some d =>
      rw [hu] at hag hval
      cases d <;> simp at hag <;> exact ⟨hval.choose, hval.choose_spec.1⟩
  obtain ⟨cs, rfl⟩ := this
  exact ⟨cs.toList, rfl, m1, p1⟩
/-- A slice of flat data. -/
theorem open_flats {m : Nat} {r : Reach} {b0 : Nat} {t e : TypeId} {ks : List Leaf} {v : Value} {d : DataW H} {ps : List MemPlace} (ht : P.underlying t = some (.slice e)) (hk : flat P m e = some ks)
    (hval : Value.okWide P w r b0 t v) (hd : DataW.Trod enc P w base (fun _ => true) held t v d ps) :
    (v = .slice none 0 0 ∧ ps = []) ∨ ∃ (a : Addr) (len cap : Nat) (D : Nat → List Value), v = .slice (some a) len cap ∧ len ≤ cap ∧ cap ≤ maxLen ∧ ps = MemPlace.row a (cap * ks.length) ∧
      ∀ i, i < cap → Matches ks (D i) ∧ w.cells? base (a.add (i * ks.length)) ks.length = some (D i) := by
  obtain ⟨a0, len0, cap0, rfl⟩ := okWide_slice ht hval
  obtain ⟨fuel, hf⟩ := hd
  rcases Deep.open_slice ht hf with ⟨h1, h2⟩ | ⟨a, len, cap, m', n, D, Pl, h1, hb, hl, hm, hm', hx, hi⟩
  · left
    simp only [Value.cells, List.cons.injEq, and_true] at h1
    exact ⟨h1, (Prod.mk.inj h2).2⟩
  · right
    simp only [Value.cells, List.cons.injEq, and_true] at h1
    simp only [if_true] at hm'
    rw [hm'] at hi hx
    rw [flat_cells hk] at hi hx
    have hc : ∀ i, ∃ cs, i < cap → Matches ks cs ∧ w.cells? base (a.add (i * ks.length)) ks.length = some cs ∧ Pl i = [] := by
      intro i
      by_cases hin : i < cap
      · obtain ⟨cs, g1, g2⟩ := hi i hin
        obtain ⟨m1, p1⟩ := flat_trod m hk g2
        exact ⟨cs, fun _ => ⟨m1, g1, p1⟩⟩
      · exact ⟨[], fun h => absurd h hin⟩
    have hx2 := (Prod.mk.inj hx).2
    refine ⟨a, len, cap, fun i => (hc i).choose, h1, hl, hm, ?_, fun i hin => ⟨((hc i).choose_spec hin).1, ((hc i).choose_spec hin).2.1⟩⟩
    rw [hx2]
    have : (List.range cap).flatMap Pl = [] := by
      rw [List.flatMap_eq_nil_iff]
      intro i hin
      exact ((hc i).choose_spec (by simpa using hin)).2.2
    rw [this, List.append_nil]
end
theorem u64_of {z : Int} (h : (Lit.int .u64 z).wf = true) : 0 ≤ z ∧ z ≤ 18446744073709551615 := bounds_u64 h
end Go.Proofs.YtbbldcbilnkkdaaDoor.K
