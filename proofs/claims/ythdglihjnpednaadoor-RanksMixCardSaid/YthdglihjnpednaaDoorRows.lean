/-
  NARROWER THAN 'FOR EVERY INPUT', by the rows' own cells (each row's printed sentence says how): RanksMix: laid · RanksTells: laid.
  DERIVED. THE GIVEN ROWS OF THIS SEAT. 2 by the template 'for every input the law returns true; each argument reads behind the call as it read before'; 0 by the template 'total and deterministic' (their statements: YthdglihjnpednaaDoorTotals.lean).
  GIVEN WITH THE SEED: the statements are not yours to turn. If you find one false, say at which input.
  Laid BY PROGRAM, IN A SANDBOX (cutbox-rows.mjs): the forced cells as the released guide's own fill.sh prints them over the translation dfc91206b0ac5e82… (all of the seat's roots in one cut). By AI agents, Wed Nov 11 2026. No macro, syntax, notation, axiom, sorry.
-/
import Derived.Test.YthdglihjnpednaaDoorChecked
import GoSem.Claim
import GoSem.ClaimJoined
import GoSem.ClaimMapViews
import Derived.JoinedTies
import Derived.KernelRfl
namespace Go.Proofs.YthdglihjnpednaaDoor
/- THE CELL 'sum', in the pinned program and in every row, IS THE sha256 OF THE DUMP (.gsa) THAT YthdglihjnpednaaDoorProg.lean LOADS. Nothing in Lean hashes anything: it is a label: what it is worth is what the hold of that sum in a sandbox is worth. -/
noncomputable def Tryd.pinned : Pinned := { name := "ythdglihjnpednaadoor", sum := "dfc91206b0ac5e8231d05f7b3389f2ab51d494c82150d89d0632079833dd5f1e", checked := Tryd.checked }
namespace Rows
def none {H : Type} : Left H := { results := [], args := [] }

/- WHAT THE LISTED PACKAGE-LEVEL VARIABLES READ AS WHEN THE CALL BEGINS. Each datum BY PROGRAM (the guide's laid-datum.mjs) off the statement by which the dump's own 'gosem.cut.vars' lays the variable. In a bare row this is a premise. The card (YthdglihjnpednaaDoorCards.lean) ties it to the program's text. -/
def laid_sluice_ranks_mixing {H : Type} : DataW H := .agg [.lit (.int .u64 11400714819323198485), .lit (.int .u64 13787848793156543929), .lit (.int .u64 10723151780598845931)]
def laid_sluice_tally_modes {H : Type} : DataW H := .agg [.agg [.lit (.bool true), .lit (.bool false), .lit (.bool false)], .agg [.lit (.bool false), .lit (.bool false), .lit (.bool false)], .agg [.lit (.bool false), .lit (.bool true), .lit (.bool false)], .agg [.lit (.bool false), .lit (.bool false), .lit (.bool true)]]

/-- 'sluicelaw15.RanksMix': WHATEVER THE INPUT: true; the input reads as it did. -/
def ranksMixSpec : ChangeSpec := { name := "ranksMix", fn := fun _ => fun
  | [d1, d2] => { results := [.lit (.bool true)], args := [d1, d2] }
  | _ => none }
def ranksMixRow : OpenClaim := { program := "ythdglihjnpednaadoor", sum := "dfc91206b0ac5e8231d05f7b3389f2ab51d494c82150d89d0632079833dd5f1e", func := "sluice/sluicelaw15.RanksMix", spec := "ranksMix", inPlace := ["math.Float32bits"], named := ["sluice/ranks.mixing"], apart := false, laid := [("sluice/ranks.mixing", laid_sluice_ranks_mixing)] }
def RanksMixSaid : Prop := ranksMixRow.holds Tryd.pinned (OpenSpec.ofChange ranksMixSpec)

/-- ITS FALSE NEIGHBOUR: 'it returns false'. Refute it at one input. -/
def ranksMixWrong : ChangeSpec := { name := "ranksMix", fn := fun _ => fun
  | [d1, d2] => { results := [.lit (.bool false)], args := [d1, d2] }
  | _ => none }
def RanksMixWrongFalsely : Prop := ranksMixRow.holds Tryd.pinned (OpenSpec.ofChange ranksMixWrong)

/-- 'sluicelaw15.RanksTells': WHATEVER THE INPUT: true; the input reads as it did. -/
def ranksTellsSpec : ChangeSpec := { name := "ranksTells", fn := fun _ => fun
  | [d] => { results := [.lit (.bool true)], args := [d] }
  | _ => none }
def ranksTellsRow : OpenClaim := { program := "ythdglihjnpednaadoor", sum := "dfc91206b0ac5e8231d05f7b3389f2ab51d494c82150d89d0632079833dd5f1e", func := "sluice/sluicelaw15.RanksTells", spec := "ranksTells", inPlace := ["math.Float32bits", "math/bits.Sub64", "math.Float32frombits"], named := ["math/bits.divideError", "math/bits.overflowError", "sluice/tally.modes"], apart := false, laid := [("sluice/tally.modes", laid_sluice_tally_modes)] }
def RanksTellsSaid : Prop := ranksTellsRow.holds Tryd.pinned (OpenSpec.ofChange ranksTellsSpec)

/-- ITS FALSE NEIGHBOUR: 'it returns false'. Refute it at one input. -/
def ranksTellsWrong : ChangeSpec := { name := "ranksTells", fn := fun _ => fun
  | [d] => { results := [.lit (.bool false)], args := [d] }
  | _ => none }
def RanksTellsWrongFalsely : Prop := ranksTellsRow.holds Tryd.pinned (OpenSpec.ofChange ranksTellsWrong)

/- THE SECOND FORM. 'bulk': how many values and letters a reading holds, each counted each time it is reached (what is shared counts as often as it is met; a slice's spare places count too). A statement '..UptoSaid' is the law's where the arguments, and the package variables that the reading takes, are together of bulk at most 1048576: NARROWER than '..Said'. Prove '..Said' where nothing that the law and all that it calls make is longer than what came in: it says more and counts as full. Else prove '..UptoSaid'. A law counts once. -/
mutual
def uptoBulk {H : Type} : DataW H → Nat
  | .lit (.string bytes) => bytes.length + 1
  | .lit _ => 1
  | .nil => 1
  | .ptr d => uptoBulk d + 1
  | .slice elems spare => uptoBulkAll elems + uptoBulkAll spare + 1
  | .agg parts => uptoBulkAll parts + 1
  | .iface _ d => uptoBulk d + 1
  | .map entries => uptoBulkEntries entries + 1
  | .held _ => 1
def uptoBulkAll {H : Type} : List (DataW H) → Nat
  | [] => 0
  | d :: r => uptoBulk d + uptoBulkAll r
def uptoBulkEntries {H : Type} : List (Lit × DataW H) → Nat
  | [] => 0
  | x :: r => uptoBulkEntry x + uptoBulkEntries r
def uptoBulkEntry {H : Type} : Lit × DataW H → Nat
  | (.string bytes, d) => bytes.length + uptoBulk d + 1
  | (_, d) => uptoBulk d + 1
 end
def uptoSmall : (H : Type) → List (DataW H) → Bool := fun _ ds => decide (uptoBulkAll ds ≤ 1048576)
def OpenSpec.upto (s : _root_.Go.ChangeSpec) : _root_.Go.OpenSpec := { _root_.Go.OpenSpec.ofChange s with cond := some uptoSmall }

/-- 'sluicelaw15.RanksMix', WHERE WHAT IT READS IS OF BULK AT MOST 1048576: true; the input reads as it did. -/
def ranksMixUptoRow : OpenClaim := { program := "ythdglihjnpednaadoor", sum := "dfc91206b0ac5e8231d05f7b3389f2ab51d494c82150d89d0632079833dd5f1e", func := "sluice/sluicelaw15.RanksMix", spec := "ranksMix", inPlace := ["math.Float32bits"], named := ["sluice/ranks.mixing"], apart := false, laid := [("sluice/ranks.mixing", laid_sluice_ranks_mixing)], narrowed := true }
def RanksMixUptoSaid : Prop := ranksMixUptoRow.holds Tryd.pinned (OpenSpec.upto ranksMixSpec)

/-- 'sluicelaw15.RanksTells', WHERE WHAT IT READS IS OF BULK AT MOST 1048576: true; the input reads as it did. -/
def ranksTellsUptoRow : OpenClaim := { program := "ythdglihjnpednaadoor", sum := "dfc91206b0ac5e8231d05f7b3389f2ab51d494c82150d89d0632079833dd5f1e", func := "sluice/sluicelaw15.RanksTells", spec := "ranksTells", inPlace := ["math.Float32bits", "math/bits.Sub64", "math.Float32frombits"], named := ["math/bits.divideError", "math/bits.overflowError", "sluice/tally.modes"], apart := false, laid := [("sluice/tally.modes", laid_sluice_tally_modes)], narrowed := true }
def RanksTellsUptoSaid : Prop := ranksTellsUptoRow.holds Tryd.pinned (OpenSpec.upto ranksTellsSpec)

end Rows
end Go.Proofs.YthdglihjnpednaaDoor
