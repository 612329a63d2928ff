/-
  No cell of these rows narrows 'for every input' (looked for: loops, veiled, ifaces, maps, wideKeys, modest, calm, conditions, laid).
  DERIVED. THE GIVEN ROWS OF THIS SEAT. 10 by the template 'for every input the law returns true; each argument reads behind the call as it read before'; 0 by the template 'total and deterministic' (their statements: YthdglihjnpednaaTotals.lean).
  GIVEN WITH THE SEED: the statements are not yours to turn. If you find one false, say at which input.
  Laid BY PROGRAM, IN A SANDBOX (cutbox-rows.mjs): the forced cells as the released guide's own fill.sh prints them over the translation 4773290802e49296… (all of the seat's roots in one cut). By AI agents, Wed Nov 11 2026. No macro, syntax, notation, axiom, sorry.
-/
import Derived.Test.YthdglihjnpednaaChecked
import GoSem.Claim
import GoSem.ClaimJoined
import GoSem.ClaimMapViews
import Derived.JoinedTies
import Derived.KernelRfl
namespace Go.Proofs.Ythdglihjnpednaa
/- THE CELL 'sum', in the pinned program and in every row, IS THE sha256 OF THE DUMP (.gsa) THAT YthdglihjnpednaaProg.lean LOADS. Nothing in Lean hashes anything: it is a label: what it is worth is what the hold of that sum in a sandbox is worth. -/
noncomputable def Try.pinned : Pinned := { name := "ythdglihjnpednaa", sum := "4773290802e49296abfccfbe7b9d5c178174dcdffe2809e03c1aadaa3ebb6040", checked := Try.checked }
namespace Rows
def none {H : Type} : Left H := { results := [], args := [] }

/-- 'sluicelaw15.RanksNames': WHATEVER THE INPUT: true; the input reads as it did. -/
def ranksNamesSpec : ChangeSpec := { name := "ranksNames", fn := fun _ => fun
  | [] => { results := [.lit (.bool true)], args := [] }
  | _ => none }
def ranksNamesRow : OpenClaim := { program := "ythdglihjnpednaa", sum := "4773290802e49296abfccfbe7b9d5c178174dcdffe2809e03c1aadaa3ebb6040", func := "sluice/sluicelaw15.RanksNames", spec := "ranksNames", apart := false }
def RanksNamesSaid : Prop := ranksNamesRow.holds Try.pinned (OpenSpec.ofChange ranksNamesSpec)

/-- ITS FALSE NEIGHBOUR: 'it returns false'. Refute it at one input. -/
def ranksNamesWrong : ChangeSpec := { name := "ranksNames", fn := fun _ => fun
  | [] => { results := [.lit (.bool false)], args := [] }
  | _ => none }
def RanksNamesWrongFalsely : Prop := ranksNamesRow.holds Try.pinned (OpenSpec.ofChange ranksNamesWrong)

/-- 'sluicelaw13.FlowsNames': WHATEVER THE INPUT: true; the input reads as it did. -/
def flowsNamesSpec : ChangeSpec := { name := "flowsNames", fn := fun _ => fun
  | [] => { results := [.lit (.bool true)], args := [] }
  | _ => none }
def flowsNamesRow : OpenClaim := { program := "ythdglihjnpednaa", sum := "4773290802e49296abfccfbe7b9d5c178174dcdffe2809e03c1aadaa3ebb6040", func := "sluice/sluicelaw13.FlowsNames", spec := "flowsNames", apart := false }
def FlowsNamesSaid : Prop := flowsNamesRow.holds Try.pinned (OpenSpec.ofChange flowsNamesSpec)

/-- ITS FALSE NEIGHBOUR: 'it returns false'. Refute it at one input. -/
def flowsNamesWrong : ChangeSpec := { name := "flowsNames", fn := fun _ => fun
  | [] => { results := [.lit (.bool false)], args := [] }
  | _ => none }
def FlowsNamesWrongFalsely : Prop := flowsNamesRow.holds Try.pinned (OpenSpec.ofChange flowsNamesWrong)

/-- 'sluicelaw19.MillNames': WHATEVER THE INPUT: true; the input reads as it did. -/
def millNamesSpec : ChangeSpec := { name := "millNames", fn := fun _ => fun
  | [] => { results := [.lit (.bool true)], args := [] }
  | _ => none }
def millNamesRow : OpenClaim := { program := "ythdglihjnpednaa", sum := "4773290802e49296abfccfbe7b9d5c178174dcdffe2809e03c1aadaa3ebb6040", func := "sluice/sluicelaw19.MillNames", spec := "millNames", apart := false }
def MillNamesSaid : Prop := millNamesRow.holds Try.pinned (OpenSpec.ofChange millNamesSpec)

/-- ITS FALSE NEIGHBOUR: 'it returns false'. Refute it at one input. -/
def millNamesWrong : ChangeSpec := { name := "millNames", fn := fun _ => fun
  | [] => { results := [.lit (.bool false)], args := [] }
  | _ => none }
def MillNamesWrongFalsely : Prop := millNamesRow.holds Try.pinned (OpenSpec.ofChange millNamesWrong)

/-- 'sluicelaw14.PeelsTells': WHATEVER THE INPUT: true; the input reads as it did. -/
def peelsTellsSpec : ChangeSpec := { name := "peelsTells", fn := fun _ => fun
  | [d] => { results := [.lit (.bool true)], args := [d] }
  | _ => none }
def peelsTellsRow : OpenClaim := { program := "ythdglihjnpednaa", sum := "4773290802e49296abfccfbe7b9d5c178174dcdffe2809e03c1aadaa3ebb6040", func := "sluice/sluicelaw14.PeelsTells", spec := "peelsTells", apart := false }
def PeelsTellsSaid : Prop := peelsTellsRow.holds Try.pinned (OpenSpec.ofChange peelsTellsSpec)

/-- ITS FALSE NEIGHBOUR: 'it returns false'. Refute it at one input. -/
def peelsTellsWrong : ChangeSpec := { name := "peelsTells", fn := fun _ => fun
  | [d] => { results := [.lit (.bool false)], args := [d] }
  | _ => none }
def PeelsTellsWrongFalsely : Prop := peelsTellsRow.holds Try.pinned (OpenSpec.ofChange peelsTellsWrong)

/-- 'sluicelaw13.FlowsTells': WHATEVER THE INPUT: true; the input reads as it did. -/
def flowsTellsSpec : ChangeSpec := { name := "flowsTells", fn := fun _ => fun
  | [d] => { results := [.lit (.bool true)], args := [d] }
  | _ => none }
def flowsTellsRow : OpenClaim := { program := "ythdglihjnpednaa", sum := "4773290802e49296abfccfbe7b9d5c178174dcdffe2809e03c1aadaa3ebb6040", func := "sluice/sluicelaw13.FlowsTells", spec := "flowsTells", apart := false }
def FlowsTellsSaid : Prop := flowsTellsRow.holds Try.pinned (OpenSpec.ofChange flowsTellsSpec)

/-- ITS FALSE NEIGHBOUR: 'it returns false'. Refute it at one input. -/
def flowsTellsWrong : ChangeSpec := { name := "flowsTells", fn := fun _ => fun
  | [d] => { results := [.lit (.bool false)], args := [d] }
  | _ => none }
def FlowsTellsWrongFalsely : Prop := flowsTellsRow.holds Try.pinned (OpenSpec.ofChange flowsTellsWrong)

/-- 'sluicelaw19.MillClasses': WHATEVER THE INPUT: true; the input reads as it did. -/
def millClassesSpec : ChangeSpec := { name := "millClasses", fn := fun _ => fun
  | [d] => { results := [.lit (.bool true)], args := [d] }
  | _ => none }
def millClassesRow : OpenClaim := { program := "ythdglihjnpednaa", sum := "4773290802e49296abfccfbe7b9d5c178174dcdffe2809e03c1aadaa3ebb6040", func := "sluice/sluicelaw19.MillClasses", spec := "millClasses", apart := false }
def MillClassesSaid : Prop := millClassesRow.holds Try.pinned (OpenSpec.ofChange millClassesSpec)

/-- ITS FALSE NEIGHBOUR: 'it returns false'. Refute it at one input. -/
def millClassesWrong : ChangeSpec := { name := "millClasses", fn := fun _ => fun
  | [d] => { results := [.lit (.bool false)], args := [d] }
  | _ => none }
def MillClassesWrongFalsely : Prop := millClassesRow.holds Try.pinned (OpenSpec.ofChange millClassesWrong)

/-- 'sluicelaw15.RanksMakes': WHATEVER THE INPUT: true; the input reads as it did. -/
def ranksMakesSpec : ChangeSpec := { name := "ranksMakes", fn := fun _ => fun
  | [d1, d2, d3, d4] => { results := [.lit (.bool true)], args := [d1, d2, d3, d4] }
  | _ => none }
def ranksMakesRow : OpenClaim := { program := "ythdglihjnpednaa", sum := "4773290802e49296abfccfbe7b9d5c178174dcdffe2809e03c1aadaa3ebb6040", func := "sluice/sluicelaw15.RanksMakes", spec := "ranksMakes", inPlace := ["math.Float32frombits"], apart := false }
def RanksMakesSaid : Prop := ranksMakesRow.holds Try.pinned (OpenSpec.ofChange ranksMakesSpec)

/-- ITS FALSE NEIGHBOUR: 'it returns false'. Refute it at one input. -/
def ranksMakesWrong : ChangeSpec := { name := "ranksMakes", fn := fun _ => fun
  | [d1, d2, d3, d4] => { results := [.lit (.bool false)], args := [d1, d2, d3, d4] }
  | _ => none }
def RanksMakesWrongFalsely : Prop := ranksMakesRow.holds Try.pinned (OpenSpec.ofChange ranksMakesWrong)

/-- 'sluicelaw14.PeelsOrders': WHATEVER THE INPUT: true; the input reads as it did. -/
def peelsOrdersSpec : ChangeSpec := { name := "peelsOrders", fn := fun _ => fun
  | [d1, d2, d3, d4] => { results := [.lit (.bool true)], args := [d1, d2, d3, d4] }
  | _ => none }
def peelsOrdersRow : OpenClaim := { program := "ythdglihjnpednaa", sum := "4773290802e49296abfccfbe7b9d5c178174dcdffe2809e03c1aadaa3ebb6040", func := "sluice/sluicelaw14.PeelsOrders", spec := "peelsOrders", apart := false }
def PeelsOrdersSaid : Prop := peelsOrdersRow.holds Try.pinned (OpenSpec.ofChange peelsOrdersSpec)

/-- ITS FALSE NEIGHBOUR: 'it returns false'. Refute it at one input. -/
def peelsOrdersWrong : ChangeSpec := { name := "peelsOrders", fn := fun _ => fun
  | [d1, d2, d3, d4] => { results := [.lit (.bool false)], args := [d1, d2, d3, d4] }
  | _ => none }
def PeelsOrdersWrongFalsely : Prop := peelsOrdersRow.holds Try.pinned (OpenSpec.ofChange peelsOrdersWrong)

/-- 'sluicelaw13.FlowsNil': WHATEVER THE INPUT: true; the input reads as it did. -/
def flowsNilSpec : ChangeSpec := { name := "flowsNil", fn := fun _ => fun
  | [d1, d2, d3, d4] => { results := [.lit (.bool true)], args := [d1, d2, d3, d4] }
  | _ => none }
def flowsNilRow : OpenClaim := { program := "ythdglihjnpednaa", sum := "4773290802e49296abfccfbe7b9d5c178174dcdffe2809e03c1aadaa3ebb6040", func := "sluice/sluicelaw13.FlowsNil", spec := "flowsNil", unfollowed := true, recurses := true, apart := false }
def FlowsNilSaid : Prop := flowsNilRow.holds Try.pinned (OpenSpec.ofChange flowsNilSpec)

/-- ITS FALSE NEIGHBOUR: 'it returns false'. Refute it at one input. -/
def flowsNilWrong : ChangeSpec := { name := "flowsNil", fn := fun _ => fun
  | [d1, d2, d3, d4] => { results := [.lit (.bool false)], args := [d1, d2, d3, d4] }
  | _ => none }
def FlowsNilWrongFalsely : Prop := flowsNilRow.holds Try.pinned (OpenSpec.ofChange flowsNilWrong)

/-- 'sluicelaw13.FlowsMakes': WHATEVER THE INPUT: true; the input reads as it did. -/
def flowsMakesSpec : ChangeSpec := { name := "flowsMakes", fn := fun _ => fun
  | [d1, d2, d3, d4] => { results := [.lit (.bool true)], args := [d1, d2, d3, d4] }
  | _ => none }
def flowsMakesRow : OpenClaim := { program := "ythdglihjnpednaa", sum := "4773290802e49296abfccfbe7b9d5c178174dcdffe2809e03c1aadaa3ebb6040", func := "sluice/sluicelaw13.FlowsMakes", spec := "flowsMakes", unfollowed := true, recurses := true, apart := false }
def FlowsMakesSaid : Prop := flowsMakesRow.holds Try.pinned (OpenSpec.ofChange flowsMakesSpec)

/-- ITS FALSE NEIGHBOUR: 'it returns false'. Refute it at one input. -/
def flowsMakesWrong : ChangeSpec := { name := "flowsMakes", fn := fun _ => fun
  | [d1, d2, d3, d4] => { results := [.lit (.bool false)], args := [d1, d2, d3, d4] }
  | _ => none }
def FlowsMakesWrongFalsely : Prop := flowsMakesRow.holds Try.pinned (OpenSpec.ofChange flowsMakesWrong)

/- THE SECOND FORM. 'bulk': how many values and letters a reading holds, each counted each time it is reached (what is shared counts as often as it is met; a slice's spare places count too). A statement '..UptoSaid' is the law's where the arguments, and the package variables that the reading takes, are together of bulk at most 1048576: NARROWER than '..Said'. Prove '..Said' where nothing that the law and all that it calls make is longer than what came in: it says more and counts as full. Else prove '..UptoSaid'. A law counts once. -/
mutual
def uptoBulk {H : Type} : DataW H → Nat
  | .lit (.string bytes) => bytes.length + 1
  | .lit _ => 1
  | .nil => 1
  | .ptr d => uptoBulk d + 1
  | .slice elems spare => uptoBulkAll elems + uptoBulkAll spare + 1
  | .agg parts => uptoBulkAll parts + 1
  | .iface _ d => uptoBulk d + 1
  | .map entries => uptoBulkEntries entries + 1
  | .held _ => 1
def uptoBulkAll {H : Type} : List (DataW H) → Nat
  | [] => 0
  | d :: r => uptoBulk d + uptoBulkAll r
def uptoBulkEntries {H : Type} : List (Lit × DataW H) → Nat
  | [] => 0
  | x :: r => uptoBulkEntry x + uptoBulkEntries r
def uptoBulkEntry {H : Type} : Lit × DataW H → Nat
  | (.string bytes, d) => bytes.length + uptoBulk d + 1
  | (_, d) => uptoBulk d + 1
 end
def uptoSmall : (H : Type) → List (DataW H) → Bool := fun _ ds => decide (uptoBulkAll ds ≤ 1048576)
def OpenSpec.upto (s : _root_.Go.ChangeSpec) : _root_.Go.OpenSpec := { _root_.Go.OpenSpec.ofChange s with cond := some uptoSmall }

/-- 'sluicelaw15.RanksNames', WHERE WHAT IT READS IS OF BULK AT MOST 1048576: true; the input reads as it did. -/
def ranksNamesUptoRow : OpenClaim := { program := "ythdglihjnpednaa", sum := "4773290802e49296abfccfbe7b9d5c178174dcdffe2809e03c1aadaa3ebb6040", func := "sluice/sluicelaw15.RanksNames", spec := "ranksNames", apart := false, narrowed := true }
def RanksNamesUptoSaid : Prop := ranksNamesUptoRow.holds Try.pinned (OpenSpec.upto ranksNamesSpec)

/-- 'sluicelaw13.FlowsNames', WHERE WHAT IT READS IS OF BULK AT MOST 1048576: true; the input reads as it did. -/
def flowsNamesUptoRow : OpenClaim := { program := "ythdglihjnpednaa", sum := "4773290802e49296abfccfbe7b9d5c178174dcdffe2809e03c1aadaa3ebb6040", func := "sluice/sluicelaw13.FlowsNames", spec := "flowsNames", apart := false, narrowed := true }
def FlowsNamesUptoSaid : Prop := flowsNamesUptoRow.holds Try.pinned (OpenSpec.upto flowsNamesSpec)

/-- 'sluicelaw19.MillNames', WHERE WHAT IT READS IS OF BULK AT MOST 1048576: true; the input reads as it did. -/
def millNamesUptoRow : OpenClaim := { program := "ythdglihjnpednaa", sum := "4773290802e49296abfccfbe7b9d5c178174dcdffe2809e03c1aadaa3ebb6040", func := "sluice/sluicelaw19.MillNames", spec := "millNames", apart := false, narrowed := true }
def MillNamesUptoSaid : Prop := millNamesUptoRow.holds Try.pinned (OpenSpec.upto millNamesSpec)

/-- 'sluicelaw14.PeelsTells', WHERE WHAT IT READS IS OF BULK AT MOST 1048576: true; the input reads as it did. -/
def peelsTellsUptoRow : OpenClaim := { program := "ythdglihjnpednaa", sum := "4773290802e49296abfccfbe7b9d5c178174dcdffe2809e03c1aadaa3ebb6040", func := "sluice/sluicelaw14.PeelsTells", spec := "peelsTells", apart := false, narrowed := true }
def PeelsTellsUptoSaid : Prop := peelsTellsUptoRow.holds Try.pinned (OpenSpec.upto peelsTellsSpec)

/-- 'sluicelaw13.FlowsTells', WHERE WHAT IT READS IS OF BULK AT MOST 1048576: true; the input reads as it did. -/
def flowsTellsUptoRow : OpenClaim := { program := "ythdglihjnpednaa", sum := "4773290802e49296abfccfbe7b9d5c178174dcdffe2809e03c1aadaa3ebb6040", func := "sluice/sluicelaw13.FlowsTells", spec := "flowsTells", apart := false, narrowed := true }
def FlowsTellsUptoSaid : Prop := flowsTellsUptoRow.holds Try.pinned (OpenSpec.upto flowsTellsSpec)

/-- 'sluicelaw19.MillClasses', WHERE WHAT IT READS IS OF BULK AT MOST 1048576: true; the input reads as it did. -/
def millClassesUptoRow : OpenClaim := { program := "ythdglihjnpednaa", sum := "4773290802e49296abfccfbe7b9d5c178174dcdffe2809e03c1aadaa3ebb6040", func := "sluice/sluicelaw19.MillClasses", spec := "millClasses", apart := false, narrowed := true }
def MillClassesUptoSaid : Prop := millClassesUptoRow.holds Try.pinned (OpenSpec.upto millClassesSpec)

/-- 'sluicelaw15.RanksMakes', WHERE WHAT IT READS IS OF BULK AT MOST 1048576: true; the input reads as it did. -/
def ranksMakesUptoRow : OpenClaim := { program := "ythdglihjnpednaa", sum := "4773290802e49296abfccfbe7b9d5c178174dcdffe2809e03c1aadaa3ebb6040", func := "sluice/sluicelaw15.RanksMakes", spec := "ranksMakes", inPlace := ["math.Float32frombits"], apart := false, narrowed := true }
def RanksMakesUptoSaid : Prop := ranksMakesUptoRow.holds Try.pinned (OpenSpec.upto ranksMakesSpec)

/-- 'sluicelaw14.PeelsOrders', WHERE WHAT IT READS IS OF BULK AT MOST 1048576: true; the input reads as it did. -/
def peelsOrdersUptoRow : OpenClaim := { program := "ythdglihjnpednaa", sum := "4773290802e49296abfccfbe7b9d5c178174dcdffe2809e03c1aadaa3ebb6040", func := "sluice/sluicelaw14.PeelsOrders", spec := "peelsOrders", apart := false, narrowed := true }
def PeelsOrdersUptoSaid : Prop := peelsOrdersUptoRow.holds Try.pinned (OpenSpec.upto peelsOrdersSpec)

/-- 'sluicelaw13.FlowsNil', WHERE WHAT IT READS IS OF BULK AT MOST 1048576: true; the input reads as it did. -/
def flowsNilUptoRow : OpenClaim := { program := "ythdglihjnpednaa", sum := "4773290802e49296abfccfbe7b9d5c178174dcdffe2809e03c1aadaa3ebb6040", func := "sluice/sluicelaw13.FlowsNil", spec := "flowsNil", unfollowed := true, recurses := true, apart := false, narrowed := true }
def FlowsNilUptoSaid : Prop := flowsNilUptoRow.holds Try.pinned (OpenSpec.upto flowsNilSpec)

/-- 'sluicelaw13.FlowsMakes', WHERE WHAT IT READS IS OF BULK AT MOST 1048576: true; the input reads as it did. -/
def flowsMakesUptoRow : OpenClaim := { program := "ythdglihjnpednaa", sum := "4773290802e49296abfccfbe7b9d5c178174dcdffe2809e03c1aadaa3ebb6040", func := "sluice/sluicelaw13.FlowsMakes", spec := "flowsMakes", unfollowed := true, recurses := true, apart := false, narrowed := true }
def FlowsMakesUptoSaid : Prop := flowsMakesUptoRow.holds Try.pinned (OpenSpec.upto flowsMakesSpec)

end Rows
end Go.Proofs.Ythdglihjnpednaa
