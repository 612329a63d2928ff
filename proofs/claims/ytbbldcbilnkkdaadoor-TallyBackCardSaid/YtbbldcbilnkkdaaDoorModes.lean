/-
  What the table of modes holds when a law's call begins. No condition.
-/
import Derived.Test.YtbbldcbilnkkdaaDoorRows
import Derived.Test.YtbbldcbilnkkdaaDoorCards
import Derived.Test.YtbbldcbilnkkdaaDoorTie
import Derived.SevenTiedAt
import Derived.Test.YtbbldcbilnkkdaaDoorBit
import Derived.WalkLawsBesides
import Derived.ProofKit
import Derived.LaidMore
import Derived.OpenShut
import Derived.Stop.Joined
import Derived.ChangeOld
import Derived.SizedLaws
set_option linter.unusedVariables false
set_option linter.unusedSimpArgs false
namespace Go.Proofs.YtbbldcbilnkkdaaDoor.Laid
open Go.ChangeShapes Go.WideShapes Go.ChangeAt Go.RowKit Reck

theorem gModes : Tryd.prog.globalNamed "sluice/tally.modes" = some 3 := by kernel_rfl
theorem tModes : (Tryd.prog.globals[3]?).map (·.type) = some 140 := by kernel_rfl
theorem own : ownKnob Tryd.prog.godebug = none := by kernel_rfl
theorem list3 {α : Type} {l : List α} (h : l.length = 3) : ∃ a b c, l = [a, b, c] := by
  match l, h with
  | [a, b, c], _ => exact ⟨a, b, c, rfl⟩
theorem read_mode {H : Type} {enc : TypeId × Value → H} {W : World} {base : Nat} {sp : Nat → Bool} {held : Bool} {m : Nat} {cs : List Value} {x : DataW H × List MemPlace}
    (h : DataW.trod enc Tryd.prog W base sp held m 139 cs = some x) : ∃ a b c, cs = [.bool a, .bool b, .bool c] ∧ x.1 = .agg [.lit (.bool a), .lit (.bool b), .lit (.bool c)] := by
  obtain ⟨ys, n, -, rfl, hl, hxl, hi⟩ := DataW.trod_struct Tryd.underlying139 h
  have c4 : Tryd.prog.cellsOf 4 = 1 := by kernel_rfl
  have c3 : Tryd.prog.cellsOf 139 = 3 := by kernel_rfl
  rw [c3] at hl
  obtain ⟨v0, v1, v2, rfl⟩ := list3 hl
  obtain ⟨y0, y1, y2, rfl⟩ := list3 (show ys.length = 3 from hxl)
  have h0 := hi 0 _ rfl
  have h1 := hi 1 _ rfl
  have h2 := hi 2 _ rfl
  obtain ⟨a, ea, fa⟩ := DataW.trod_bool Tryd.underlying4 (show DataW.trod _ Tryd.prog W _ _ _ n 4 _ = some y0 from h0)
  obtain ⟨b, eb, fb⟩ := DataW.trod_bool Tryd.underlying4 (show DataW.trod _ Tryd.prog W _ _ _ n 4 _ = some y1 from h1)
  obtain ⟨c, ec, fc⟩ := DataW.trod_bool Tryd.underlying4 (show DataW.trod _ Tryd.prog W _ _ _ n 4 _ = some y2 from h2)
  replace ea : List.take (Tryd.prog.cellsOf 4) (List.drop 0 [v0, v1, v2]) = [.bool a] := ea
  replace eb : List.take (Tryd.prog.cellsOf 4) (List.drop 1 [v0, v1, v2]) = [.bool b] := eb
  replace ec : List.take (Tryd.prog.cellsOf 4) (List.drop 2 [v0, v1, v2]) = [.bool c] := ec
  rw [c4] at ea eb ec
  simp at ea eb ec
  exact ⟨a, b, c, by rw [ea, eb, ec], by simp [fa, fb, fc]⟩
set_option maxRecDepth 100000 in
theorem modes_of {W : World} (h : laidMetH Tryd.prog [("sluice/tally.modes", Rows.laid_sluice_tally_modes)] W) : Modes W := by
  rw [MakeChecks.laidMetH_plain _ _ _ (by kernel_rfl)] at h
  obtain ⟨ps, ⟨g0, t0, cs0, f0, p0, q0, hg0, ht0, hv0, hd0, _, _⟩, _, _⟩ := h
  obtain rfl := Option.some.inj (gModes.symm.trans hg0)
  obtain rfl := Option.some.inj (tModes.symm.trans ht0)
  obtain ⟨xs, m1, rfl, hx1, hlen, hn3, hel⟩ := DataW.trod_array Tryd.underlying140 hd0
  have c3 : Tryd.prog.cellsOf 139 = 3 := by kernel_rfl
  have h0 := hel 0 (by decide)
  have h1 := hel 1 (by decide)
  have h2 := hel 2 (by decide)
  have h3 := hel 3 (by decide)
  simp only [Prod.mk.injEq, DataW.agg.injEq] at hx1
  match xs, hn3, hx1, h0, h1, h2, h3 with
  | [x0, x1, x2, x3], _, hx1, h0, h1, h2, h3 =>
    simp only [Rows.laid_sluice_tally_modes, List.map_cons, List.map_nil, List.cons.injEq] at hx1
    obtain ⟨a0, b0, d0, e0, j0⟩ := read_mode (show DataW.trod _ Tryd.prog W _ _ _ m1 139 _ = some x0 from h0)
    obtain ⟨a1, b1, d1, e1, j1⟩ := read_mode (show DataW.trod _ Tryd.prog W _ _ _ m1 139 _ = some x1 from h1)
    obtain ⟨a2, b2, d2, e2, j2⟩ := read_mode (show DataW.trod _ Tryd.prog W _ _ _ m1 139 _ = some x2 from h2)
    obtain ⟨a3, b3, d3, e3, j3⟩ := read_mode (show DataW.trod _ Tryd.prog W _ _ _ m1 139 _ = some x3 from h3)
    rw [j0, j1, j2, j3] at hx1
    simp at hx1
    obtain ⟨⟨⟨rfl, rfl, rfl⟩, ⟨rfl, rfl, rfl⟩, ⟨rfl, rfl, rfl⟩, rfl, rfl, rfl⟩, -⟩ := hx1
    rw [c3] at e0 e1 e2 e3
    have get : ∀ (k i : Nat) (a b c : Value), (cs0.toList.drop (k * 3)).take 3 = [a, b, c] → cs0[k * 3 + 0]? = some a ∧ cs0[k * 3 + 1]? = some b ∧ cs0[k * 3 + 2]? = some c := by
      intro k i a b c h
      have h0 := congrArg (fun l => l[0]?) h
      have h1 := congrArg (fun l => l[1]?) h
      have h2 := congrArg (fun l => l[2]?) h
      simp at h0 h1 h2
      exact ⟨by simpa using h0, by simpa using h1, by simpa using h2⟩
    obtain ⟨q0, q1, q2⟩ := get 0 0 _ _ _ e0
    obtain ⟨q3, q4, q5⟩ := get 1 0 _ _ _ e1
    obtain ⟨q6, q7, q8⟩ := get 2 0 _ _ _ e2
    obtain ⟨q9, q10, q11⟩ := get 3 0 _ _ _ e3
    have hcell := fun i => World.var?_cell hg0 hv0 i
    refine ⟨?_, fun i b hb => ?_⟩
    · have := (hcell 0).trans q0
      exact block_lt_of_cell this
    · rw [hcell]
      match i, hb with
      | 0, hb => cases hb; exact q0
      | 1, hb => cases hb; exact q1
      | 2, hb => cases hb; exact q2
      | 3, hb => cases hb; exact q3
      | 4, hb => cases hb; exact q4
      | 5, hb => cases hb; exact q5
      | 6, hb => cases hb; exact q6
      | 7, hb => cases hb; exact q7
      | 8, hb => cases hb; exact q8
      | 9, hb => cases hb; exact q9
      | 10, hb => cases hb; exact q10
      | 11, hb => cases hb; exact q11
      | n + 12, hb => simp [modesL] at hb
end Go.Proofs.YtbbldcbilnkkdaaDoor.Laid
