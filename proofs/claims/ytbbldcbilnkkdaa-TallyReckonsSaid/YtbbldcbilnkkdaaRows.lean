/-
  No cell of these rows narrows 'for every input' (looked for: loops, veiled, ifaces, maps, wideKeys, modest, calm, conditions, laid).
  DERIVED. THE GIVEN ROWS OF THIS SEAT. 6 by the template 'for every input the law returns true; each argument reads behind the call as it read before'; 0 by the template 'total and deterministic' (their statements: YtbbldcbilnkkdaaTotals.lean).
  GIVEN WITH THE SEED: the statements are not yours to turn. If you find one false, say at which input.
  Laid BY PROGRAM, IN A SANDBOX (cutbox-rows.mjs): the forced cells as the released guide's own fill.sh prints them over the translation 4a83974ca051983d… (all of the seat's roots in one cut). By AI agents, Wed Nov 11 2026. No macro, syntax, notation, axiom, sorry.
-/
import Derived.Test.YtbbldcbilnkkdaaChecked
import GoSem.Claim
import GoSem.ClaimJoined
import GoSem.ClaimMapViews
import Derived.JoinedTies
import Derived.KernelRfl
namespace Go.Proofs.Ytbbldcbilnkkdaa
/- THE CELL 'sum', in the pinned program and in every row, IS THE sha256 OF THE DUMP (.gsa) THAT YtbbldcbilnkkdaaProg.lean LOADS. Nothing in Lean hashes anything: it is a label: what it is worth is what the hold of that sum in a sandbox is worth. -/
noncomputable def Try.pinned : Pinned := { name := "ytbbldcbilnkkdaa", sum := "4a83974ca051983da7a4c593a45deaf21bd3d8001ab382182a8898a9514e0f6f", checked := Try.checked }
namespace Rows
def none {H : Type} : Left H := { results := [], args := [] }

/-- 'sluicelaw02.TallyNames': WHATEVER THE INPUT: true; the input reads as it did. -/
def tallyNamesSpec : ChangeSpec := { name := "tallyNames", fn := fun _ => fun
  | [] => { results := [.lit (.bool true)], args := [] }
  | _ => none }
def tallyNamesRow : OpenClaim := { program := "ytbbldcbilnkkdaa", sum := "4a83974ca051983da7a4c593a45deaf21bd3d8001ab382182a8898a9514e0f6f", func := "sluice/sluicelaw02.TallyNames", spec := "tallyNames", apart := false }
def TallyNamesSaid : Prop := tallyNamesRow.holds Try.pinned (OpenSpec.ofChange tallyNamesSpec)

/-- ITS FALSE NEIGHBOUR: 'it returns false'. Refute it at one input. -/
def tallyNamesWrong : ChangeSpec := { name := "tallyNames", fn := fun _ => fun
  | [] => { results := [.lit (.bool false)], args := [] }
  | _ => none }
def TallyNamesWrongFalsely : Prop := tallyNamesRow.holds Try.pinned (OpenSpec.ofChange tallyNamesWrong)

/-- 'sluicelaw02.TallyBytes': WHATEVER THE INPUT: true; the input reads as it did. -/
def tallyBytesSpec : ChangeSpec := { name := "tallyBytes", fn := fun _ => fun
  | [d1, d2] => { results := [.lit (.bool true)], args := [d1, d2] }
  | _ => none }
def tallyBytesRow : OpenClaim := { program := "ytbbldcbilnkkdaa", sum := "4a83974ca051983da7a4c593a45deaf21bd3d8001ab382182a8898a9514e0f6f", func := "sluice/sluicelaw02.TallyBytes", spec := "tallyBytes", apart := false }
def TallyBytesSaid : Prop := tallyBytesRow.holds Try.pinned (OpenSpec.ofChange tallyBytesSpec)

/-- ITS FALSE NEIGHBOUR: 'it returns false'. Refute it at one input. -/
def tallyBytesWrong : ChangeSpec := { name := "tallyBytes", fn := fun _ => fun
  | [d1, d2] => { results := [.lit (.bool false)], args := [d1, d2] }
  | _ => none }
def TallyBytesWrongFalsely : Prop := tallyBytesRow.holds Try.pinned (OpenSpec.ofChange tallyBytesWrong)

/-- 'sluicelaw02.TallyPuts': WHATEVER THE INPUT: true; the input reads as it did. -/
def tallyPutsSpec : ChangeSpec := { name := "tallyPuts", fn := fun _ => fun
  | [d1, d2] => { results := [.lit (.bool true)], args := [d1, d2] }
  | _ => none }
def tallyPutsRow : OpenClaim := { program := "ytbbldcbilnkkdaa", sum := "4a83974ca051983da7a4c593a45deaf21bd3d8001ab382182a8898a9514e0f6f", func := "sluice/sluicelaw02.TallyPuts", spec := "tallyPuts", inPlace := ["math/bits.Sub64", "math/bits.Add64"], apart := false }
def TallyPutsSaid : Prop := tallyPutsRow.holds Try.pinned (OpenSpec.ofChange tallyPutsSpec)

/-- ITS FALSE NEIGHBOUR: 'it returns false'. Refute it at one input. -/
def tallyPutsWrong : ChangeSpec := { name := "tallyPuts", fn := fun _ => fun
  | [d1, d2] => { results := [.lit (.bool false)], args := [d1, d2] }
  | _ => none }
def TallyPutsWrongFalsely : Prop := tallyPutsRow.holds Try.pinned (OpenSpec.ofChange tallyPutsWrong)

/-- 'sluicelaw02.TallyAdds': WHATEVER THE INPUT: true; the input reads as it did. -/
def tallyAddsSpec : ChangeSpec := { name := "tallyAdds", fn := fun _ => fun
  | [d1, d2] => { results := [.lit (.bool true)], args := [d1, d2] }
  | _ => none }
def tallyAddsRow : OpenClaim := { program := "ytbbldcbilnkkdaa", sum := "4a83974ca051983da7a4c593a45deaf21bd3d8001ab382182a8898a9514e0f6f", func := "sluice/sluicelaw02.TallyAdds", spec := "tallyAdds", inPlace := ["math.Float32frombits", "math.Float32bits", "math/bits.Sub64", "math/bits.Add64"], apart := false }
def TallyAddsSaid : Prop := tallyAddsRow.holds Try.pinned (OpenSpec.ofChange tallyAddsSpec)

/-- ITS FALSE NEIGHBOUR: 'it returns false'. Refute it at one input. -/
def tallyAddsWrong : ChangeSpec := { name := "tallyAdds", fn := fun _ => fun
  | [d1, d2] => { results := [.lit (.bool false)], args := [d1, d2] }
  | _ => none }
def TallyAddsWrongFalsely : Prop := tallyAddsRow.holds Try.pinned (OpenSpec.ofChange tallyAddsWrong)

/-- 'sluicelaw02.TallyMons': WHATEVER THE INPUT: true; the input reads as it did. -/
def tallyMonsSpec : ChangeSpec := { name := "tallyMons", fn := fun _ => fun
  | [d1, d2] => { results := [.lit (.bool true)], args := [d1, d2] }
  | _ => none }
def tallyMonsRow : OpenClaim := { program := "ytbbldcbilnkkdaa", sum := "4a83974ca051983da7a4c593a45deaf21bd3d8001ab382182a8898a9514e0f6f", func := "sluice/sluicelaw02.TallyMons", spec := "tallyMons", inPlace := ["math/bits.Sub64", "math/bits.Add64"], apart := false }
def TallyMonsSaid : Prop := tallyMonsRow.holds Try.pinned (OpenSpec.ofChange tallyMonsSpec)

/-- ITS FALSE NEIGHBOUR: 'it returns false'. Refute it at one input. -/
def tallyMonsWrong : ChangeSpec := { name := "tallyMons", fn := fun _ => fun
  | [d1, d2] => { results := [.lit (.bool false)], args := [d1, d2] }
  | _ => none }
def TallyMonsWrongFalsely : Prop := tallyMonsRow.holds Try.pinned (OpenSpec.ofChange tallyMonsWrong)

/-- 'sluicelaw02.TallyReckons': WHATEVER THE INPUT: true; the input reads as it did. -/
def tallyReckonsSpec : ChangeSpec := { name := "tallyReckons", fn := fun _ => fun
  | [d1, d2, d3, d4] => { results := [.lit (.bool true)], args := [d1, d2, d3, d4] }
  | _ => none }
def tallyReckonsRow : OpenClaim := { program := "ytbbldcbilnkkdaa", sum := "4a83974ca051983da7a4c593a45deaf21bd3d8001ab382182a8898a9514e0f6f", func := "sluice/sluicelaw02.TallyReckons", spec := "tallyReckons", inPlace := ["math/bits.Add64", "math/bits.Sub64"], apart := false }
def TallyReckonsSaid : Prop := tallyReckonsRow.holds Try.pinned (OpenSpec.ofChange tallyReckonsSpec)

/-- ITS FALSE NEIGHBOUR: 'it returns false'. Refute it at one input. -/
def tallyReckonsWrong : ChangeSpec := { name := "tallyReckons", fn := fun _ => fun
  | [d1, d2, d3, d4] => { results := [.lit (.bool false)], args := [d1, d2, d3, d4] }
  | _ => none }
def TallyReckonsWrongFalsely : Prop := tallyReckonsRow.holds Try.pinned (OpenSpec.ofChange tallyReckonsWrong)

/- THE SECOND FORM. 'bulk': how many values and letters a reading holds, each counted each time it is reached (what is shared counts as often as it is met; a slice's spare places count too). A statement '..UptoSaid' is the law's where the arguments, and the package variables that the reading takes, are together of bulk at most 1048576: NARROWER than '..Said'. Prove '..Said' where nothing that the law and all that it calls make is longer than what came in: it says more and counts as full. Else prove '..UptoSaid'. A law counts once. -/
mutual
def uptoBulk {H : Type} : DataW H → Nat
  | .lit (.string bytes) => bytes.length + 1
  | .lit _ => 1
  | .nil => 1
  | .ptr d => uptoBulk d + 1
  | .slice elems spare => uptoBulkAll elems + uptoBulkAll spare + 1
  | .agg parts => uptoBulkAll parts + 1
  | .iface _ d => uptoBulk d + 1
  | .map entries => uptoBulkEntries entries + 1
  | .held _ => 1
def uptoBulkAll {H : Type} : List (DataW H) → Nat
  | [] => 0
  | d :: r => uptoBulk d + uptoBulkAll r
def uptoBulkEntries {H : Type} : List (Lit × DataW H) → Nat
  | [] => 0
  | x :: r => uptoBulkEntry x + uptoBulkEntries r
def uptoBulkEntry {H : Type} : Lit × DataW H → Nat
  | (.string bytes, d) => bytes.length + uptoBulk d + 1
  | (_, d) => uptoBulk d + 1
 end
def uptoSmall : (H : Type) → List (DataW H) → Bool := fun _ ds => decide (uptoBulkAll ds ≤ 1048576)
def OpenSpec.upto (s : _root_.Go.ChangeSpec) : _root_.Go.OpenSpec := { _root_.Go.OpenSpec.ofChange s with cond := some uptoSmall }

/-- 'sluicelaw02.TallyNames', WHERE WHAT IT READS IS OF BULK AT MOST 1048576: true; the input reads as it did. -/
def tallyNamesUptoRow : OpenClaim := { program := "ytbbldcbilnkkdaa", sum := "4a83974ca051983da7a4c593a45deaf21bd3d8001ab382182a8898a9514e0f6f", func := "sluice/sluicelaw02.TallyNames", spec := "tallyNames", apart := false, narrowed := true }
def TallyNamesUptoSaid : Prop := tallyNamesUptoRow.holds Try.pinned (OpenSpec.upto tallyNamesSpec)

/-- 'sluicelaw02.TallyBytes', WHERE WHAT IT READS IS OF BULK AT MOST 1048576: true; the input reads as it did. -/
def tallyBytesUptoRow : OpenClaim := { program := "ytbbldcbilnkkdaa", sum := "4a83974ca051983da7a4c593a45deaf21bd3d8001ab382182a8898a9514e0f6f", func := "sluice/sluicelaw02.TallyBytes", spec := "tallyBytes", apart := false, narrowed := true }
def TallyBytesUptoSaid : Prop := tallyBytesUptoRow.holds Try.pinned (OpenSpec.upto tallyBytesSpec)

/-- 'sluicelaw02.TallyPuts', WHERE WHAT IT READS IS OF BULK AT MOST 1048576: true; the input reads as it did. -/
def tallyPutsUptoRow : OpenClaim := { program := "ytbbldcbilnkkdaa", sum := "4a83974ca051983da7a4c593a45deaf21bd3d8001ab382182a8898a9514e0f6f", func := "sluice/sluicelaw02.TallyPuts", spec := "tallyPuts", inPlace := ["math/bits.Sub64", "math/bits.Add64"], apart := false, narrowed := true }
def TallyPutsUptoSaid : Prop := tallyPutsUptoRow.holds Try.pinned (OpenSpec.upto tallyPutsSpec)

/-- 'sluicelaw02.TallyAdds', WHERE WHAT IT READS IS OF BULK AT MOST 1048576: true; the input reads as it did. -/
def tallyAddsUptoRow : OpenClaim := { program := "ytbbldcbilnkkdaa", sum := "4a83974ca051983da7a4c593a45deaf21bd3d8001ab382182a8898a9514e0f6f", func := "sluice/sluicelaw02.TallyAdds", spec := "tallyAdds", inPlace := ["math.Float32frombits", "math.Float32bits", "math/bits.Sub64", "math/bits.Add64"], apart := false, narrowed := true }
def TallyAddsUptoSaid : Prop := tallyAddsUptoRow.holds Try.pinned (OpenSpec.upto tallyAddsSpec)

/-- 'sluicelaw02.TallyMons', WHERE WHAT IT READS IS OF BULK AT MOST 1048576: true; the input reads as it did. -/
def tallyMonsUptoRow : OpenClaim := { program := "ytbbldcbilnkkdaa", sum := "4a83974ca051983da7a4c593a45deaf21bd3d8001ab382182a8898a9514e0f6f", func := "sluice/sluicelaw02.TallyMons", spec := "tallyMons", inPlace := ["math/bits.Sub64", "math/bits.Add64"], apart := false, narrowed := true }
def TallyMonsUptoSaid : Prop := tallyMonsUptoRow.holds Try.pinned (OpenSpec.upto tallyMonsSpec)

/-- 'sluicelaw02.TallyReckons', WHERE WHAT IT READS IS OF BULK AT MOST 1048576: true; the input reads as it did. -/
def tallyReckonsUptoRow : OpenClaim := { program := "ytbbldcbilnkkdaa", sum := "4a83974ca051983da7a4c593a45deaf21bd3d8001ab382182a8898a9514e0f6f", func := "sluice/sluicelaw02.TallyReckons", spec := "tallyReckons", inPlace := ["math/bits.Add64", "math/bits.Sub64"], apart := false, narrowed := true }
def TallyReckonsUptoSaid : Prop := tallyReckonsUptoRow.holds Try.pinned (OpenSpec.upto tallyReckonsSpec)

end Rows
end Go.Proofs.Ytbbldcbilnkkdaa
