/-
  No cell of these rows narrows 'for every input' (looked for: loops, veiled, ifaces, maps, wideKeys, modest, calm, conditions, laid).
  DERIVED. THE GIVEN ROWS OF THIS SEAT. 12 by the template 'for every input the law returns true; each argument reads behind the call as it read before'; 0 by the template 'total and deterministic' (their statements: YtepljdnhnnpdmaaTotals.lean).
  GIVEN WITH THE SEED: the statements are not yours to turn. If you find one false, say at which input.
  Laid BY PROGRAM, IN A SANDBOX (cutbox-rows.mjs): the forced cells as the released guide's own fill.sh prints them over the translation 23c28cc047788fdf… (all of the seat's roots in one cut). By AI agents, Wed Nov 11 2026. No macro, syntax, notation, axiom, sorry.
-/
import Derived.Test.YtepljdnhnnpdmaaChecked
import GoSem.Claim
import GoSem.ClaimJoined
import GoSem.ClaimMapViews
import Derived.JoinedTies
import Derived.KernelRfl
namespace Go.Proofs.Ytepljdnhnnpdmaa
/- THE CELL 'sum', in the pinned program and in every row, IS THE sha256 OF THE DUMP (.gsa) THAT YtepljdnhnnpdmaaProg.lean LOADS. Nothing in Lean hashes anything: it is a label: what it is worth is what the hold of that sum in a sandbox is worth. -/
noncomputable def Try.pinned : Pinned := { name := "ytepljdnhnnpdmaa", sum := "23c28cc047788fdf508c58f1ed1ef8cd764f527a66eca5cc89549fda3810cf26", checked := Try.checked }
namespace Rows
def none {H : Type} : Left H := { results := [], args := [] }

/-- 'sluicelaw18.AuditNames': WHATEVER THE INPUT: true; the input reads as it did. -/
def auditNamesSpec : ChangeSpec := { name := "auditNames", fn := fun _ => fun
  | [] => { results := [.lit (.bool true)], args := [] }
  | _ => none }
def auditNamesRow : OpenClaim := { program := "ytepljdnhnnpdmaa", sum := "23c28cc047788fdf508c58f1ed1ef8cd764f527a66eca5cc89549fda3810cf26", func := "sluice/sluicelaw18.AuditNames", spec := "auditNames", apart := false }
def AuditNamesSaid : Prop := auditNamesRow.holds Try.pinned (OpenSpec.ofChange auditNamesSpec)

/-- ITS FALSE NEIGHBOUR: 'it returns false'. Refute it at one input. -/
def auditNamesWrong : ChangeSpec := { name := "auditNames", fn := fun _ => fun
  | [] => { results := [.lit (.bool false)], args := [] }
  | _ => none }
def AuditNamesWrongFalsely : Prop := auditNamesRow.holds Try.pinned (OpenSpec.ofChange auditNamesWrong)

/-- 'sluicelaw09.SieveNames': WHATEVER THE INPUT: true; the input reads as it did. -/
def sieveNamesSpec : ChangeSpec := { name := "sieveNames", fn := fun _ => fun
  | [] => { results := [.lit (.bool true)], args := [] }
  | _ => none }
def sieveNamesRow : OpenClaim := { program := "ytepljdnhnnpdmaa", sum := "23c28cc047788fdf508c58f1ed1ef8cd764f527a66eca5cc89549fda3810cf26", func := "sluice/sluicelaw09.SieveNames", spec := "sieveNames", apart := false }
def SieveNamesSaid : Prop := sieveNamesRow.holds Try.pinned (OpenSpec.ofChange sieveNamesSpec)

/-- ITS FALSE NEIGHBOUR: 'it returns false'. Refute it at one input. -/
def sieveNamesWrong : ChangeSpec := { name := "sieveNames", fn := fun _ => fun
  | [] => { results := [.lit (.bool false)], args := [] }
  | _ => none }
def SieveNamesWrongFalsely : Prop := sieveNamesRow.holds Try.pinned (OpenSpec.ofChange sieveNamesWrong)

/-- 'sluicelaw09.SieveStages': WHATEVER THE INPUT: true; the input reads as it did. -/
def sieveStagesSpec : ChangeSpec := { name := "sieveStages", fn := fun _ => fun
  | [d1, d2] => { results := [.lit (.bool true)], args := [d1, d2] }
  | _ => none }
def sieveStagesRow : OpenClaim := { program := "ytepljdnhnnpdmaa", sum := "23c28cc047788fdf508c58f1ed1ef8cd764f527a66eca5cc89549fda3810cf26", func := "sluice/sluicelaw09.SieveStages", spec := "sieveStages", apart := false }
def SieveStagesSaid : Prop := sieveStagesRow.holds Try.pinned (OpenSpec.ofChange sieveStagesSpec)

/-- ITS FALSE NEIGHBOUR: 'it returns false'. Refute it at one input. -/
def sieveStagesWrong : ChangeSpec := { name := "sieveStages", fn := fun _ => fun
  | [d1, d2] => { results := [.lit (.bool false)], args := [d1, d2] }
  | _ => none }
def SieveStagesWrongFalsely : Prop := sieveStagesRow.holds Try.pinned (OpenSpec.ofChange sieveStagesWrong)

/-- 'sluicelaw09.SieveFeeds': WHATEVER THE INPUT: true; the input reads as it did. -/
def sieveFeedsSpec : ChangeSpec := { name := "sieveFeeds", fn := fun _ => fun
  | [d1, d2, d3] => { results := [.lit (.bool true)], args := [d1, d2, d3] }
  | _ => none }
def sieveFeedsRow : OpenClaim := { program := "ytepljdnhnnpdmaa", sum := "23c28cc047788fdf508c58f1ed1ef8cd764f527a66eca5cc89549fda3810cf26", func := "sluice/sluicelaw09.SieveFeeds", spec := "sieveFeeds", unfollowed := true, recurses := true, apart := false }
def SieveFeedsSaid : Prop := sieveFeedsRow.holds Try.pinned (OpenSpec.ofChange sieveFeedsSpec)

/-- ITS FALSE NEIGHBOUR: 'it returns false'. Refute it at one input. -/
def sieveFeedsWrong : ChangeSpec := { name := "sieveFeeds", fn := fun _ => fun
  | [d1, d2, d3] => { results := [.lit (.bool false)], args := [d1, d2, d3] }
  | _ => none }
def SieveFeedsWrongFalsely : Prop := sieveFeedsRow.holds Try.pinned (OpenSpec.ofChange sieveFeedsWrong)

/-- 'sluicelaw09.SieveRanges': WHATEVER THE INPUT: true; the input reads as it did. -/
def sieveRangesSpec : ChangeSpec := { name := "sieveRanges", fn := fun _ => fun
  | [d1, d2, d3, d4] => { results := [.lit (.bool true)], args := [d1, d2, d3, d4] }
  | _ => none }
def sieveRangesRow : OpenClaim := { program := "ytepljdnhnnpdmaa", sum := "23c28cc047788fdf508c58f1ed1ef8cd764f527a66eca5cc89549fda3810cf26", func := "sluice/sluicelaw09.SieveRanges", spec := "sieveRanges", unfollowed := true, recurses := true, apart := false }
def SieveRangesSaid : Prop := sieveRangesRow.holds Try.pinned (OpenSpec.ofChange sieveRangesSpec)

/-- ITS FALSE NEIGHBOUR: 'it returns false'. Refute it at one input. -/
def sieveRangesWrong : ChangeSpec := { name := "sieveRanges", fn := fun _ => fun
  | [d1, d2, d3, d4] => { results := [.lit (.bool false)], args := [d1, d2, d3, d4] }
  | _ => none }
def SieveRangesWrongFalsely : Prop := sieveRangesRow.holds Try.pinned (OpenSpec.ofChange sieveRangesWrong)

/-- 'sluicelaw09.SieveShuffles': WHATEVER THE INPUT: true; the input reads as it did. -/
def sieveShufflesSpec : ChangeSpec := { name := "sieveShuffles", fn := fun _ => fun
  | [d1, d2, d3, d4, d5, d6] => { results := [.lit (.bool true)], args := [d1, d2, d3, d4, d5, d6] }
  | _ => none }
def sieveShufflesRow : OpenClaim := { program := "ytepljdnhnnpdmaa", sum := "23c28cc047788fdf508c58f1ed1ef8cd764f527a66eca5cc89549fda3810cf26", func := "sluice/sluicelaw09.SieveShuffles", spec := "sieveShuffles", unfollowed := true, recurses := true, apart := false }
def SieveShufflesSaid : Prop := sieveShufflesRow.holds Try.pinned (OpenSpec.ofChange sieveShufflesSpec)

/-- ITS FALSE NEIGHBOUR: 'it returns false'. Refute it at one input. -/
def sieveShufflesWrong : ChangeSpec := { name := "sieveShuffles", fn := fun _ => fun
  | [d1, d2, d3, d4, d5, d6] => { results := [.lit (.bool false)], args := [d1, d2, d3, d4, d5, d6] }
  | _ => none }
def SieveShufflesWrongFalsely : Prop := sieveShufflesRow.holds Try.pinned (OpenSpec.ofChange sieveShufflesWrong)

/-- 'sluicelaw09.SieveStable': WHATEVER THE INPUT: true; the input reads as it did. -/
def sieveStableSpec : ChangeSpec := { name := "sieveStable", fn := fun _ => fun
  | [d1, d2, d3, d4] => { results := [.lit (.bool true)], args := [d1, d2, d3, d4] }
  | _ => none }
def sieveStableRow : OpenClaim := { program := "ytepljdnhnnpdmaa", sum := "23c28cc047788fdf508c58f1ed1ef8cd764f527a66eca5cc89549fda3810cf26", func := "sluice/sluicelaw09.SieveStable", spec := "sieveStable", unfollowed := true, recurses := true, apart := false }
def SieveStableSaid : Prop := sieveStableRow.holds Try.pinned (OpenSpec.ofChange sieveStableSpec)

/-- ITS FALSE NEIGHBOUR: 'it returns false'. Refute it at one input. -/
def sieveStableWrong : ChangeSpec := { name := "sieveStable", fn := fun _ => fun
  | [d1, d2, d3, d4] => { results := [.lit (.bool false)], args := [d1, d2, d3, d4] }
  | _ => none }
def SieveStableWrongFalsely : Prop := sieveStableRow.holds Try.pinned (OpenSpec.ofChange sieveStableWrong)

/-- 'sluicelaw18.AuditLabels': WHATEVER THE INPUT: true; the input reads as it did. -/
def auditLabelsSpec : ChangeSpec := { name := "auditLabels", fn := fun _ => fun
  | [d] => { results := [.lit (.bool true)], args := [d] }
  | _ => none }
def auditLabelsRow : OpenClaim := { program := "ytepljdnhnnpdmaa", sum := "23c28cc047788fdf508c58f1ed1ef8cd764f527a66eca5cc89549fda3810cf26", func := "sluice/sluicelaw18.AuditLabels", spec := "auditLabels", unfollowed := true, recurses := true, apart := false }
def AuditLabelsSaid : Prop := auditLabelsRow.holds Try.pinned (OpenSpec.ofChange auditLabelsSpec)

/-- ITS FALSE NEIGHBOUR: 'it returns false'. Refute it at one input. -/
def auditLabelsWrong : ChangeSpec := { name := "auditLabels", fn := fun _ => fun
  | [d] => { results := [.lit (.bool false)], args := [d] }
  | _ => none }
def AuditLabelsWrongFalsely : Prop := auditLabelsRow.holds Try.pinned (OpenSpec.ofChange auditLabelsWrong)

/-- 'sluicelaw18.AuditCores': WHATEVER THE INPUT: true; the input reads as it did. -/
def auditCoresSpec : ChangeSpec := { name := "auditCores", fn := fun _ => fun
  | [d] => { results := [.lit (.bool true)], args := [d] }
  | _ => none }
def auditCoresRow : OpenClaim := { program := "ytepljdnhnnpdmaa", sum := "23c28cc047788fdf508c58f1ed1ef8cd764f527a66eca5cc89549fda3810cf26", func := "sluice/sluicelaw18.AuditCores", spec := "auditCores", unfollowed := true, recurses := true, apart := false }
def AuditCoresSaid : Prop := auditCoresRow.holds Try.pinned (OpenSpec.ofChange auditCoresSpec)

/-- ITS FALSE NEIGHBOUR: 'it returns false'. Refute it at one input. -/
def auditCoresWrong : ChangeSpec := { name := "auditCores", fn := fun _ => fun
  | [d] => { results := [.lit (.bool false)], args := [d] }
  | _ => none }
def AuditCoresWrongFalsely : Prop := auditCoresRow.holds Try.pinned (OpenSpec.ofChange auditCoresWrong)

/-- 'sluicelaw18.AuditSets': WHATEVER THE INPUT: true; the input reads as it did. -/
def auditSetsSpec : ChangeSpec := { name := "auditSets", fn := fun _ => fun
  | [d] => { results := [.lit (.bool true)], args := [d] }
  | _ => none }
def auditSetsRow : OpenClaim := { program := "ytepljdnhnnpdmaa", sum := "23c28cc047788fdf508c58f1ed1ef8cd764f527a66eca5cc89549fda3810cf26", func := "sluice/sluicelaw18.AuditSets", spec := "auditSets", unfollowed := true, recurses := true, apart := false }
def AuditSetsSaid : Prop := auditSetsRow.holds Try.pinned (OpenSpec.ofChange auditSetsSpec)

/-- ITS FALSE NEIGHBOUR: 'it returns false'. Refute it at one input. -/
def auditSetsWrong : ChangeSpec := { name := "auditSets", fn := fun _ => fun
  | [d] => { results := [.lit (.bool false)], args := [d] }
  | _ => none }
def AuditSetsWrongFalsely : Prop := auditSetsRow.holds Try.pinned (OpenSpec.ofChange auditSetsWrong)

/-- 'sluicelaw18.AuditDistances': WHATEVER THE INPUT: true; the input reads as it did. -/
def auditDistancesSpec : ChangeSpec := { name := "auditDistances", fn := fun _ => fun
  | [d] => { results := [.lit (.bool true)], args := [d] }
  | _ => none }
def auditDistancesRow : OpenClaim := { program := "ytepljdnhnnpdmaa", sum := "23c28cc047788fdf508c58f1ed1ef8cd764f527a66eca5cc89549fda3810cf26", func := "sluice/sluicelaw18.AuditDistances", spec := "auditDistances", unfollowed := true, recurses := true, apart := false }
def AuditDistancesSaid : Prop := auditDistancesRow.holds Try.pinned (OpenSpec.ofChange auditDistancesSpec)

/-- ITS FALSE NEIGHBOUR: 'it returns false'. Refute it at one input. -/
def auditDistancesWrong : ChangeSpec := { name := "auditDistances", fn := fun _ => fun
  | [d] => { results := [.lit (.bool false)], args := [d] }
  | _ => none }
def AuditDistancesWrongFalsely : Prop := auditDistancesRow.holds Try.pinned (OpenSpec.ofChange auditDistancesWrong)

/-- 'sluicelaw18.AuditSpreads': WHATEVER THE INPUT: true; the input reads as it did. -/
def auditSpreadsSpec : ChangeSpec := { name := "auditSpreads", fn := fun _ => fun
  | [d] => { results := [.lit (.bool true)], args := [d] }
  | _ => none }
def auditSpreadsRow : OpenClaim := { program := "ytepljdnhnnpdmaa", sum := "23c28cc047788fdf508c58f1ed1ef8cd764f527a66eca5cc89549fda3810cf26", func := "sluice/sluicelaw18.AuditSpreads", spec := "auditSpreads", unfollowed := true, recurses := true, apart := false }
def AuditSpreadsSaid : Prop := auditSpreadsRow.holds Try.pinned (OpenSpec.ofChange auditSpreadsSpec)

/-- ITS FALSE NEIGHBOUR: 'it returns false'. Refute it at one input. -/
def auditSpreadsWrong : ChangeSpec := { name := "auditSpreads", fn := fun _ => fun
  | [d] => { results := [.lit (.bool false)], args := [d] }
  | _ => none }
def AuditSpreadsWrongFalsely : Prop := auditSpreadsRow.holds Try.pinned (OpenSpec.ofChange auditSpreadsWrong)

/- THE SECOND FORM. 'bulk': how many values and letters a reading holds, each counted each time it is reached (what is shared counts as often as it is met; a slice's spare places count too). A statement '..UptoSaid' is the law's where the arguments, and the package variables that the reading takes, are together of bulk at most 1048576: NARROWER than '..Said'. Prove '..Said' where nothing that the law and all that it calls make is longer than what came in: it says more and counts as full. Else prove '..UptoSaid'. A law counts once. -/
mutual
def uptoBulk {H : Type} : DataW H → Nat
  | .lit (.string bytes) => bytes.length + 1
  | .lit _ => 1
  | .nil => 1
  | .ptr d => uptoBulk d + 1
  | .slice elems spare => uptoBulkAll elems + uptoBulkAll spare + 1
  | .agg parts => uptoBulkAll parts + 1
  | .iface _ d => uptoBulk d + 1
  | .map entries => uptoBulkEntries entries + 1
  | .held _ => 1
def uptoBulkAll {H : Type} : List (DataW H) → Nat
  | [] => 0
  | d :: r => uptoBulk d + uptoBulkAll r
def uptoBulkEntries {H : Type} : List (Lit × DataW H) → Nat
  | [] => 0
  | x :: r => uptoBulkEntry x + uptoBulkEntries r
def uptoBulkEntry {H : Type} : Lit × DataW H → Nat
  | (.string bytes, d) => bytes.length + uptoBulk d + 1
  | (_, d) => uptoBulk d + 1
 end
def uptoSmall : (H : Type) → List (DataW H) → Bool := fun _ ds => decide (uptoBulkAll ds ≤ 1048576)
def OpenSpec.upto (s : _root_.Go.ChangeSpec) : _root_.Go.OpenSpec := { _root_.Go.OpenSpec.ofChange s with cond := some uptoSmall }

/-- 'sluicelaw18.AuditNames', WHERE WHAT IT READS IS OF BULK AT MOST 1048576: true; the input reads as it did. -/
def auditNamesUptoRow : OpenClaim := { program := "ytepljdnhnnpdmaa", sum := "23c28cc047788fdf508c58f1ed1ef8cd764f527a66eca5cc89549fda3810cf26", func := "sluice/sluicelaw18.AuditNames", spec := "auditNames", apart := false, narrowed := true }
def AuditNamesUptoSaid : Prop := auditNamesUptoRow.holds Try.pinned (OpenSpec.upto auditNamesSpec)

/-- 'sluicelaw09.SieveNames', WHERE WHAT IT READS IS OF BULK AT MOST 1048576: true; the input reads as it did. -/
def sieveNamesUptoRow : OpenClaim := { program := "ytepljdnhnnpdmaa", sum := "23c28cc047788fdf508c58f1ed1ef8cd764f527a66eca5cc89549fda3810cf26", func := "sluice/sluicelaw09.SieveNames", spec := "sieveNames", apart := false, narrowed := true }
def SieveNamesUptoSaid : Prop := sieveNamesUptoRow.holds Try.pinned (OpenSpec.upto sieveNamesSpec)

/-- 'sluicelaw09.SieveStages', WHERE WHAT IT READS IS OF BULK AT MOST 1048576: true; the input reads as it did. -/
def sieveStagesUptoRow : OpenClaim := { program := "ytepljdnhnnpdmaa", sum := "23c28cc047788fdf508c58f1ed1ef8cd764f527a66eca5cc89549fda3810cf26", func := "sluice/sluicelaw09.SieveStages", spec := "sieveStages", apart := false, narrowed := true }
def SieveStagesUptoSaid : Prop := sieveStagesUptoRow.holds Try.pinned (OpenSpec.upto sieveStagesSpec)

/-- 'sluicelaw09.SieveFeeds', WHERE WHAT IT READS IS OF BULK AT MOST 1048576: true; the input reads as it did. -/
def sieveFeedsUptoRow : OpenClaim := { program := "ytepljdnhnnpdmaa", sum := "23c28cc047788fdf508c58f1ed1ef8cd764f527a66eca5cc89549fda3810cf26", func := "sluice/sluicelaw09.SieveFeeds", spec := "sieveFeeds", unfollowed := true, recurses := true, apart := false, narrowed := true }
def SieveFeedsUptoSaid : Prop := sieveFeedsUptoRow.holds Try.pinned (OpenSpec.upto sieveFeedsSpec)

/-- 'sluicelaw09.SieveRanges', WHERE WHAT IT READS IS OF BULK AT MOST 1048576: true; the input reads as it did. -/
def sieveRangesUptoRow : OpenClaim := { program := "ytepljdnhnnpdmaa", sum := "23c28cc047788fdf508c58f1ed1ef8cd764f527a66eca5cc89549fda3810cf26", func := "sluice/sluicelaw09.SieveRanges", spec := "sieveRanges", unfollowed := true, recurses := true, apart := false, narrowed := true }
def SieveRangesUptoSaid : Prop := sieveRangesUptoRow.holds Try.pinned (OpenSpec.upto sieveRangesSpec)

/-- 'sluicelaw09.SieveShuffles', WHERE WHAT IT READS IS OF BULK AT MOST 1048576: true; the input reads as it did. -/
def sieveShufflesUptoRow : OpenClaim := { program := "ytepljdnhnnpdmaa", sum := "23c28cc047788fdf508c58f1ed1ef8cd764f527a66eca5cc89549fda3810cf26", func := "sluice/sluicelaw09.SieveShuffles", spec := "sieveShuffles", unfollowed := true, recurses := true, apart := false, narrowed := true }
def SieveShufflesUptoSaid : Prop := sieveShufflesUptoRow.holds Try.pinned (OpenSpec.upto sieveShufflesSpec)

/-- 'sluicelaw09.SieveStable', WHERE WHAT IT READS IS OF BULK AT MOST 1048576: true; the input reads as it did. -/
def sieveStableUptoRow : OpenClaim := { program := "ytepljdnhnnpdmaa", sum := "23c28cc047788fdf508c58f1ed1ef8cd764f527a66eca5cc89549fda3810cf26", func := "sluice/sluicelaw09.SieveStable", spec := "sieveStable", unfollowed := true, recurses := true, apart := false, narrowed := true }
def SieveStableUptoSaid : Prop := sieveStableUptoRow.holds Try.pinned (OpenSpec.upto sieveStableSpec)

/-- 'sluicelaw18.AuditLabels', WHERE WHAT IT READS IS OF BULK AT MOST 1048576: true; the input reads as it did. -/
def auditLabelsUptoRow : OpenClaim := { program := "ytepljdnhnnpdmaa", sum := "23c28cc047788fdf508c58f1ed1ef8cd764f527a66eca5cc89549fda3810cf26", func := "sluice/sluicelaw18.AuditLabels", spec := "auditLabels", unfollowed := true, recurses := true, apart := false, narrowed := true }
def AuditLabelsUptoSaid : Prop := auditLabelsUptoRow.holds Try.pinned (OpenSpec.upto auditLabelsSpec)

/-- 'sluicelaw18.AuditCores', WHERE WHAT IT READS IS OF BULK AT MOST 1048576: true; the input reads as it did. -/
def auditCoresUptoRow : OpenClaim := { program := "ytepljdnhnnpdmaa", sum := "23c28cc047788fdf508c58f1ed1ef8cd764f527a66eca5cc89549fda3810cf26", func := "sluice/sluicelaw18.AuditCores", spec := "auditCores", unfollowed := true, recurses := true, apart := false, narrowed := true }
def AuditCoresUptoSaid : Prop := auditCoresUptoRow.holds Try.pinned (OpenSpec.upto auditCoresSpec)

/-- 'sluicelaw18.AuditSets', WHERE WHAT IT READS IS OF BULK AT MOST 1048576: true; the input reads as it did. -/
def auditSetsUptoRow : OpenClaim := { program := "ytepljdnhnnpdmaa", sum := "23c28cc047788fdf508c58f1ed1ef8cd764f527a66eca5cc89549fda3810cf26", func := "sluice/sluicelaw18.AuditSets", spec := "auditSets", unfollowed := true, recurses := true, apart := false, narrowed := true }
def AuditSetsUptoSaid : Prop := auditSetsUptoRow.holds Try.pinned (OpenSpec.upto auditSetsSpec)

/-- 'sluicelaw18.AuditDistances', WHERE WHAT IT READS IS OF BULK AT MOST 1048576: true; the input reads as it did. -/
def auditDistancesUptoRow : OpenClaim := { program := "ytepljdnhnnpdmaa", sum := "23c28cc047788fdf508c58f1ed1ef8cd764f527a66eca5cc89549fda3810cf26", func := "sluice/sluicelaw18.AuditDistances", spec := "auditDistances", unfollowed := true, recurses := true, apart := false, narrowed := true }
def AuditDistancesUptoSaid : Prop := auditDistancesUptoRow.holds Try.pinned (OpenSpec.upto auditDistancesSpec)

/-- 'sluicelaw18.AuditSpreads', WHERE WHAT IT READS IS OF BULK AT MOST 1048576: true; the input reads as it did. -/
def auditSpreadsUptoRow : OpenClaim := { program := "ytepljdnhnnpdmaa", sum := "23c28cc047788fdf508c58f1ed1ef8cd764f527a66eca5cc89549fda3810cf26", func := "sluice/sluicelaw18.AuditSpreads", spec := "auditSpreads", unfollowed := true, recurses := true, apart := false, narrowed := true }
def AuditSpreadsUptoSaid : Prop := auditSpreadsUptoRow.holds Try.pinned (OpenSpec.upto auditSpreadsSpec)

end Rows
end Go.Proofs.Ytepljdnhnnpdmaa
