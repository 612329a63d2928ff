/-
  Small laws of this seat's own: slices that read as lists; numbers in a slice that came in, opened; a whole row read inside a region. No condition.
-/
import Derived.Test.YtbbldcbilnkkdaaDoorK
import Derived.Test.YtbbldcbilnkkdaaDoorKe
import Derived.ChangeSlices
import Derived.Laws.OwnMore
set_option linter.unusedVariables false
set_option linter.unusedSimpArgs false
namespace Go.Proofs.YtbbldcbilnkkdaaDoor.K
open Go.RowKit Go.ChangeShapes Go.WideShapes

theorem block_add (a : Addr) (n : Nat) : (a.add n).block = a.block := by unfold Addr.add; split <;> rfl
/-- The slice at A of n one-celled elements reads as xs; it lies below block B. -/
def Lies (w : World) (B : Nat) (A : Option Addr) (n : Nat) (xs : List Value) : Prop :=
  xs.length = n ∧ (0 < n → ∃ ad, A = some ad ∧ ad.block < B ∧ ∀ j u, xs[j]? = some u → w.cell? (ad.add j) = some u)
section
variable {w w' : World} {B n : Nat} {A : Option Addr} {xs : List Value}
theorem Lies.at_ {k : Nat} (h : Lies w B A n xs) (hk : k < n) : ∃ ad, A = some ad ∧ ad.block < B ∧ ∀ u, xs[k]? = some u → w.cell? (ad.add k) = some u := by
  obtain ⟨ad, e, hb, hc⟩ := h.2 (by omega)
  exact ⟨ad, e, hb, hc k⟩
theorem Lies.below (h : Lies w B A n xs) (hb : Below B w w') : Lies w' B A n xs :=
  ⟨h.1, fun hn => by
    obtain ⟨ad, e, hB, hc⟩ := h.2 hn
    exact ⟨ad, e, hB, fun j u hu => (hb.cell (by rw [block_add]; exact hB)).trans (hc j u hu)⟩⟩
theorem Lies.more {B' : Nat} (h : Lies w B A n xs) (hB : B ≤ B') : Lies w B' A n xs :=
  ⟨h.1, fun hn => by
    obtain ⟨ad, e, hb, hc⟩ := h.2 hn
    exact ⟨ad, e, by omega, hc⟩⟩
end
section
variable {H : Type} {enc : TypeId × Value → H} {P : Program} {w : World} {base : Nat} {held : Bool}
/-- A slice of whole numbers. -/
theorem open_nums {r : Reach} {b0 : Nat} {t e : TypeId} {k : IntKind} {v : Value} {d : DataW H} {ps : List MemPlace} (ht : P.underlying t = some (.slice e)) (he : P.underlying e = some (.int k)) (hc : P.cellsOf e = 1)
    (hval : Value.okWide P w r b0 t v) (hd : DataW.Trod enc P w base (fun _ => true) held t v d ps) :
    ∃ (A : Option Addr) (n cap : Nat) (zs : List Int), v = .slice A n cap ∧ zs.length = n ∧ n ≤ cap ∧ cap ≤ maxLen ∧ (∀ z ∈ zs, (Lit.int k z).wf = true) ∧ Lies w w.heap.size A n (zs.map (Value.int k)) ∧
      ∃ (len' : Nat), d = .nil ∧ cap = 0 ∨ ∃ xs ys, d = .slice xs ys ∧ xs.length + ys.length = cap := by
  obtain ⟨a0, len0, cap0, rfl⟩ := okWide_slice ht hval
  obtain ⟨fuel, hf⟩ := hd
  rcases Go.ChangeShapes.open_ints ht he hc hf with ⟨h1, h2⟩ | ⟨a, len, cap, zs, h1, hb, hl, hm, hzl, hx, hcell, hwf⟩
  · simp only [Value.cells, List.cons.injEq, and_true] at h1
    obtain ⟨rfl, rfl, rfl⟩ := Value.slice.inj h1
    exact ⟨none, 0, 0, [], rfl, rfl, Nat.le_refl _, Nat.zero_le _, by simp, ⟨rfl, fun h => absurd h (by omega)⟩, 0, Or.inl ⟨congrArg Prod.fst h2, rfl⟩⟩
  · simp only [Value.cells, List.cons.injEq, and_true] at h1
    obtain ⟨rfl, rfl, rfl⟩ := Value.slice.inj h1
    simp only [if_true] at hzl
    refine ⟨some a, len0, cap0, zs.take len0, rfl, by simp; omega, hl, hm, fun z hz => hwf z (List.mem_of_mem_take hz), ⟨by simp; omega, fun hn => ⟨a, rfl, ?_, fun j u hu => ?_⟩⟩, 0, Or.inr ⟨_, _, congrArg Prod.fst hx, ?_⟩⟩
    · have := hcell 0 (by omega)
      have h2 := block_lt_of_cell this
      rwa [block_add] at h2
    · have hj : j < len0 := by
        rcases Nat.lt_or_ge j len0 with g | g
        · exact g
        · rw [List.getElem?_eq_none (by simp; omega)] at hu; cases hu
      have h2 := hcell j (by omega)
      rw [h2]
      simp only [List.getElem?_map, List.getElem?_take, if_pos hj] at hu
      rw [List.getD_eq_getElem?_getD]
      cases hz : zs[j]? with
      | none => rw [hz] at hu; cases hu
      | some z => rw [hz] at hu; simpa using hu
    · simp [lits]; omega
end
section
variable {P : Program} {o : Oper} {a : Act} {w : World} {next : Act → Prop} {a' : Act}
/-- A whole row read inside a region. -/
theorem still_row (ty : TypeId) (x : Operand) (ho : o.op = .load ty x) (g : Nat) (hx : a.eval x = .pointer (some ⟨g, 0, none⟩)) (t : TypeId) (cs : Array Value) (fr : Nat × Nat) (d : TypeDesc)
    (hg : w.heap[g]? = some (.cells cs t fr)) (hu : P.underlying ty = some d) (hd : (match d with | .struct _ | .array _ _ => true | _ => false) = true) (hi : (P.info? ty).map (·.size) = some cs.size)
    (he : Puts (a.put o.dst (.agg cs)) a') (hn : next a') : o.still P a w next := by
  have h : (execOp a.eval o).run P w = .ok (.value (.agg cs)) w := by
    unfold execOp
    simp only [ho, hx, Instr.loadAt, Instr.sureAddr, Sem.run_bind, Sem.run_pure, Result.andThen_ok, run_loadVar_row w g t ty cs fr d hg hu hd hi]
  unfold Oper.still
  rw [h, Oper.stillUpon_value, he.out]
  exact hn
end
end Go.Proofs.YtbbldcbilnkkdaaDoor.K
