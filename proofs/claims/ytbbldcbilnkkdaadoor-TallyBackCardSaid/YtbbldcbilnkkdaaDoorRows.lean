/-
  NARROWER THAN 'FOR EVERY INPUT', by the rows' own cells (each row's printed sentence says how): TallyBack: laid · TallyRounds: laid · TallyOrder: laid · TallyMonotone: laid · TallyShare: laid · TallyTexts: laid.
  DERIVED. THE GIVEN ROWS OF THIS SEAT. 6 by the template 'for every input the law returns true; each argument reads behind the call as it read before'; 0 by the template 'total and deterministic' (their statements: YtbbldcbilnkkdaaDoorTotals.lean).
  GIVEN WITH THE SEED: the statements are not yours to turn. If you find one false, say at which input.
  Laid BY PROGRAM, IN A SANDBOX (cutbox-rows.mjs): the forced cells as the released guide's own fill.sh prints them over the translation 8796d9e5a6bf7420… (all of the seat's roots in one cut). By AI agents, Wed Nov 11 2026. No macro, syntax, notation, axiom, sorry.
-/
import Derived.Test.YtbbldcbilnkkdaaDoorChecked
import GoSem.PinnedTables
import GoSem.Claim
import GoSem.ClaimJoined
import GoSem.ClaimMapViews
import Derived.JoinedTies
import Derived.KernelRfl
namespace Go.Proofs.YtbbldcbilnkkdaaDoor
/- THE CELL 'sum', in the pinned program and in every row, IS THE sha256 OF THE DUMP (.gsa) THAT YtbbldcbilnkkdaaDoorProg.lean LOADS. Nothing in Lean hashes anything: it is a label: what it is worth is what the hold of that sum in a sandbox is worth. -/
noncomputable def Tryd.pinned : Pinned := { name := "ytbbldcbilnkkdaadoor", sum := "8796d9e5a6bf74202e710fb228ae5bc6c713ad450842f09297edfde8a47f3dda", checked := Tryd.checked }
namespace Rows
def none {H : Type} : Left H := { results := [], args := [] }

/- WHAT THE LISTED PACKAGE-LEVEL VARIABLES READ AS WHEN THE CALL BEGINS. Each datum BY PROGRAM (the guide's laid-datum.mjs) off the statement by which the dump's own 'gosem.cut.vars' lays the variable. In a bare row this is a premise. The card (YtbbldcbilnkkdaaDoorCards.lean) ties it to the program's text. -/
def laid_unicode_utf8_acceptRanges {H : Type} : DataW H := .agg [.agg [.lit (.int .u8 128), .lit (.int .u8 191)], .agg [.lit (.int .u8 160), .lit (.int .u8 191)], .agg [.lit (.int .u8 128), .lit (.int .u8 159)], .agg [.lit (.int .u8 144), .lit (.int .u8 191)], .agg [.lit (.int .u8 128), .lit (.int .u8 143)], .agg [.lit (.int .u8 0), .lit (.int .u8 0)], .agg [.lit (.int .u8 0), .lit (.int .u8 0)], .agg [.lit (.int .u8 0), .lit (.int .u8 0)], .agg [.lit (.int .u8 0), .lit (.int .u8 0)], .agg [.lit (.int .u8 0), .lit (.int .u8 0)], .agg [.lit (.int .u8 0), .lit (.int .u8 0)], .agg [.lit (.int .u8 0), .lit (.int .u8 0)], .agg [.lit (.int .u8 0), .lit (.int .u8 0)], .agg [.lit (.int .u8 0), .lit (.int .u8 0)], .agg [.lit (.int .u8 0), .lit (.int .u8 0)], .agg [.lit (.int .u8 0), .lit (.int .u8 0)]]
def laid_sluice_tally_modes {H : Type} : DataW H := .agg [.agg [.lit (.bool true), .lit (.bool false), .lit (.bool false)], .agg [.lit (.bool false), .lit (.bool false), .lit (.bool false)], .agg [.lit (.bool false), .lit (.bool true), .lit (.bool false)], .agg [.lit (.bool false), .lit (.bool false), .lit (.bool true)]]
/-- One of Go's own tables, pinned by name: the form's constant. -/
def laid_unicode_utf8_first : DataW Unit := Go.Pinned.utf8First

/-- 'sluicelaw02.TallyBack': WHATEVER THE INPUT: true; the input reads as it did. -/
def tallyBackSpec : ChangeSpec := { name := "tallyBack", fn := fun _ => fun
  | [d1, d2] => { results := [.lit (.bool true)], args := [d1, d2] }
  | _ => none }
def tallyBackRow : OpenClaim := { program := "ytbbldcbilnkkdaadoor", sum := "8796d9e5a6bf74202e710fb228ae5bc6c713ad450842f09297edfde8a47f3dda", func := "sluice/sluicelaw02.TallyBack", spec := "tallyBack", inPlace := ["math.Float32bits", "math/bits.Sub64", "math/bits.Add64", "math.Float32frombits", "internal/abi.NoEscape", "internal/bytealg.IndexByteString", "internal/bytealg.IndexString"], named := ["math/bits.divideError", "math/bits.overflowError", "sluice/tally.modes", "unicode/utf8.first", "unicode/utf8.acceptRanges", "internal/bytealg.MaxLen"], apart := false, laid := [("unicode/utf8.acceptRanges", laid_unicode_utf8_acceptRanges), ("sluice/tally.modes", laid_sluice_tally_modes), ("unicode/utf8.first", laid_unicode_utf8_first)] }
def TallyBackSaid : Prop := tallyBackRow.holds Tryd.pinned (OpenSpec.ofChange tallyBackSpec)

/-- ITS FALSE NEIGHBOUR: 'it returns false'. Refute it at one input. -/
def tallyBackWrong : ChangeSpec := { name := "tallyBack", fn := fun _ => fun
  | [d1, d2] => { results := [.lit (.bool false)], args := [d1, d2] }
  | _ => none }
def TallyBackWrongFalsely : Prop := tallyBackRow.holds Tryd.pinned (OpenSpec.ofChange tallyBackWrong)

/-- 'sluicelaw02.TallyRounds': WHATEVER THE INPUT: true; the input reads as it did. -/
def tallyRoundsSpec : ChangeSpec := { name := "tallyRounds", fn := fun _ => fun
  | [d1, d2, d3] => { results := [.lit (.bool true)], args := [d1, d2, d3] }
  | _ => none }
def tallyRoundsRow : OpenClaim := { program := "ytbbldcbilnkkdaadoor", sum := "8796d9e5a6bf74202e710fb228ae5bc6c713ad450842f09297edfde8a47f3dda", func := "sluice/sluicelaw02.TallyRounds", spec := "tallyRounds", inPlace := ["math/bits.Sub64", "math.Float32frombits", "math.Float32bits"], named := ["math/bits.divideError", "math/bits.overflowError", "sluice/tally.modes"], apart := false, laid := [("sluice/tally.modes", laid_sluice_tally_modes)] }
def TallyRoundsSaid : Prop := tallyRoundsRow.holds Tryd.pinned (OpenSpec.ofChange tallyRoundsSpec)

/-- ITS FALSE NEIGHBOUR: 'it returns false'. Refute it at one input. -/
def tallyRoundsWrong : ChangeSpec := { name := "tallyRounds", fn := fun _ => fun
  | [d1, d2, d3] => { results := [.lit (.bool false)], args := [d1, d2, d3] }
  | _ => none }
def TallyRoundsWrongFalsely : Prop := tallyRoundsRow.holds Tryd.pinned (OpenSpec.ofChange tallyRoundsWrong)

/-- 'sluicelaw02.TallyOrder': WHATEVER THE INPUT: true; the input reads as it did. -/
def tallyOrderSpec : ChangeSpec := { name := "tallyOrder", fn := fun _ => fun
  | [d1, d2, d3] => { results := [.lit (.bool true)], args := [d1, d2, d3] }
  | _ => none }
def tallyOrderRow : OpenClaim := { program := "ytbbldcbilnkkdaadoor", sum := "8796d9e5a6bf74202e710fb228ae5bc6c713ad450842f09297edfde8a47f3dda", func := "sluice/sluicelaw02.TallyOrder", spec := "tallyOrder", inPlace := ["math.Float32frombits", "math.Float32bits", "math/bits.Sub64", "math/bits.Add64", "internal/abi.NoEscape"], named := ["math/bits.divideError", "math/bits.overflowError", "sluice/tally.modes"], apart := false, laid := [("sluice/tally.modes", laid_sluice_tally_modes)] }
def TallyOrderSaid : Prop := tallyOrderRow.holds Tryd.pinned (OpenSpec.ofChange tallyOrderSpec)

/-- ITS FALSE NEIGHBOUR: 'it returns false'. Refute it at one input. -/
def tallyOrderWrong : ChangeSpec := { name := "tallyOrder", fn := fun _ => fun
  | [d1, d2, d3] => { results := [.lit (.bool false)], args := [d1, d2, d3] }
  | _ => none }
def TallyOrderWrongFalsely : Prop := tallyOrderRow.holds Tryd.pinned (OpenSpec.ofChange tallyOrderWrong)

/-- 'sluicelaw02.TallyMonotone': WHATEVER THE INPUT: true; the input reads as it did. -/
def tallyMonotoneSpec : ChangeSpec := { name := "tallyMonotone", fn := fun _ => fun
  | [d1, d2, d3] => { results := [.lit (.bool true)], args := [d1, d2, d3] }
  | _ => none }
def tallyMonotoneRow : OpenClaim := { program := "ytbbldcbilnkkdaadoor", sum := "8796d9e5a6bf74202e710fb228ae5bc6c713ad450842f09297edfde8a47f3dda", func := "sluice/sluicelaw02.TallyMonotone", spec := "tallyMonotone", inPlace := ["math/bits.Sub64", "math.Float32frombits", "math.Float32bits", "math/bits.Add64", "internal/abi.NoEscape"], named := ["math/bits.divideError", "math/bits.overflowError", "sluice/tally.modes"], apart := false, laid := [("sluice/tally.modes", laid_sluice_tally_modes)] }
def TallyMonotoneSaid : Prop := tallyMonotoneRow.holds Tryd.pinned (OpenSpec.ofChange tallyMonotoneSpec)

/-- ITS FALSE NEIGHBOUR: 'it returns false'. Refute it at one input. -/
def tallyMonotoneWrong : ChangeSpec := { name := "tallyMonotone", fn := fun _ => fun
  | [d1, d2, d3] => { results := [.lit (.bool false)], args := [d1, d2, d3] }
  | _ => none }
def TallyMonotoneWrongFalsely : Prop := tallyMonotoneRow.holds Tryd.pinned (OpenSpec.ofChange tallyMonotoneWrong)

/-- 'sluicelaw02.TallyShare': WHATEVER THE INPUT: true; the input reads as it did. -/
def tallyShareSpec : ChangeSpec := { name := "tallyShare", fn := fun _ => fun
  | [d1, d2] => { results := [.lit (.bool true)], args := [d1, d2] }
  | _ => none }
def tallyShareRow : OpenClaim := { program := "ytbbldcbilnkkdaadoor", sum := "8796d9e5a6bf74202e710fb228ae5bc6c713ad450842f09297edfde8a47f3dda", func := "sluice/sluicelaw02.TallyShare", spec := "tallyShare", inPlace := ["math/bits.Sub64", "math.Float32frombits", "math.Float32bits", "math/bits.Add64", "internal/abi.NoEscape"], named := ["math/bits.divideError", "math/bits.overflowError", "sluice/tally.modes"], apart := false, laid := [("sluice/tally.modes", laid_sluice_tally_modes)] }
def TallyShareSaid : Prop := tallyShareRow.holds Tryd.pinned (OpenSpec.ofChange tallyShareSpec)

/-- ITS FALSE NEIGHBOUR: 'it returns false'. Refute it at one input. -/
def tallyShareWrong : ChangeSpec := { name := "tallyShare", fn := fun _ => fun
  | [d1, d2] => { results := [.lit (.bool false)], args := [d1, d2] }
  | _ => none }
def TallyShareWrongFalsely : Prop := tallyShareRow.holds Tryd.pinned (OpenSpec.ofChange tallyShareWrong)

/-- 'sluicelaw02.TallyTexts': WHATEVER THE INPUT: true; the input reads as it did. -/
def tallyTextsSpec : ChangeSpec := { name := "tallyTexts", fn := fun _ => fun
  | [d1, d2] => { results := [.lit (.bool true)], args := [d1, d2] }
  | _ => none }
def tallyTextsRow : OpenClaim := { program := "ytbbldcbilnkkdaadoor", sum := "8796d9e5a6bf74202e710fb228ae5bc6c713ad450842f09297edfde8a47f3dda", func := "sluice/sluicelaw02.TallyTexts", spec := "tallyTexts", inPlace := ["internal/bytealg.IndexByteString", "internal/bytealg.IndexString", "math/bits.Add64", "math/bits.Sub64", "internal/abi.NoEscape"], named := ["unicode/utf8.first", "unicode/utf8.acceptRanges", "math/bits.divideError", "math/bits.overflowError", "internal/bytealg.MaxLen"], apart := false, laid := [("unicode/utf8.acceptRanges", laid_unicode_utf8_acceptRanges), ("unicode/utf8.first", laid_unicode_utf8_first)] }
def TallyTextsSaid : Prop := tallyTextsRow.holds Tryd.pinned (OpenSpec.ofChange tallyTextsSpec)

/-- ITS FALSE NEIGHBOUR: 'it returns false'. Refute it at one input. -/
def tallyTextsWrong : ChangeSpec := { name := "tallyTexts", fn := fun _ => fun
  | [d1, d2] => { results := [.lit (.bool false)], args := [d1, d2] }
  | _ => none }
def TallyTextsWrongFalsely : Prop := tallyTextsRow.holds Tryd.pinned (OpenSpec.ofChange tallyTextsWrong)

/- THE SECOND FORM. 'bulk': how many values and letters a reading holds, each counted each time it is reached (what is shared counts as often as it is met; a slice's spare places count too). A statement '..UptoSaid' is the law's where the arguments, and the package variables that the reading takes, are together of bulk at most 1048576: NARROWER than '..Said'. Prove '..Said' where nothing that the law and all that it calls make is longer than what came in: it says more and counts as full. Else prove '..UptoSaid'. A law counts once. -/
mutual
def uptoBulk {H : Type} : DataW H → Nat
  | .lit (.string bytes) => bytes.length + 1
  | .lit _ => 1
  | .nil => 1
  | .ptr d => uptoBulk d + 1
  | .slice elems spare => uptoBulkAll elems + uptoBulkAll spare + 1
  | .agg parts => uptoBulkAll parts + 1
  | .iface _ d => uptoBulk d + 1
  | .map entries => uptoBulkEntries entries + 1
  | .held _ => 1
def uptoBulkAll {H : Type} : List (DataW H) → Nat
  | [] => 0
  | d :: r => uptoBulk d + uptoBulkAll r
def uptoBulkEntries {H : Type} : List (Lit × DataW H) → Nat
  | [] => 0
  | x :: r => uptoBulkEntry x + uptoBulkEntries r
def uptoBulkEntry {H : Type} : Lit × DataW H → Nat
  | (.string bytes, d) => bytes.length + uptoBulk d + 1
  | (_, d) => uptoBulk d + 1
 end
def uptoSmall : (H : Type) → List (DataW H) → Bool := fun _ ds => decide (uptoBulkAll ds ≤ 1048576)
def OpenSpec.upto (s : _root_.Go.ChangeSpec) : _root_.Go.OpenSpec := { _root_.Go.OpenSpec.ofChange s with cond := some uptoSmall }

/-- 'sluicelaw02.TallyBack', WHERE WHAT IT READS IS OF BULK AT MOST 1048576: true; the input reads as it did. -/
def tallyBackUptoRow : OpenClaim := { program := "ytbbldcbilnkkdaadoor", sum := "8796d9e5a6bf74202e710fb228ae5bc6c713ad450842f09297edfde8a47f3dda", func := "sluice/sluicelaw02.TallyBack", spec := "tallyBack", inPlace := ["math.Float32bits", "math/bits.Sub64", "math/bits.Add64", "math.Float32frombits", "internal/abi.NoEscape", "internal/bytealg.IndexByteString", "internal/bytealg.IndexString"], named := ["math/bits.divideError", "math/bits.overflowError", "sluice/tally.modes", "unicode/utf8.first", "unicode/utf8.acceptRanges", "internal/bytealg.MaxLen"], apart := false, laid := [("unicode/utf8.acceptRanges", laid_unicode_utf8_acceptRanges), ("sluice/tally.modes", laid_sluice_tally_modes), ("unicode/utf8.first", laid_unicode_utf8_first)], narrowed := true }
def TallyBackUptoSaid : Prop := tallyBackUptoRow.holds Tryd.pinned (OpenSpec.upto tallyBackSpec)

/-- 'sluicelaw02.TallyRounds', WHERE WHAT IT READS IS OF BULK AT MOST 1048576: true; the input reads as it did. -/
def tallyRoundsUptoRow : OpenClaim := { program := "ytbbldcbilnkkdaadoor", sum := "8796d9e5a6bf74202e710fb228ae5bc6c713ad450842f09297edfde8a47f3dda", func := "sluice/sluicelaw02.TallyRounds", spec := "tallyRounds", inPlace := ["math/bits.Sub64", "math.Float32frombits", "math.Float32bits"], named := ["math/bits.divideError", "math/bits.overflowError", "sluice/tally.modes"], apart := false, laid := [("sluice/tally.modes", laid_sluice_tally_modes)], narrowed := true }
def TallyRoundsUptoSaid : Prop := tallyRoundsUptoRow.holds Tryd.pinned (OpenSpec.upto tallyRoundsSpec)

/-- 'sluicelaw02.TallyOrder', WHERE WHAT IT READS IS OF BULK AT MOST 1048576: true; the input reads as it did. -/
def tallyOrderUptoRow : OpenClaim := { program := "ytbbldcbilnkkdaadoor", sum := "8796d9e5a6bf74202e710fb228ae5bc6c713ad450842f09297edfde8a47f3dda", func := "sluice/sluicelaw02.TallyOrder", spec := "tallyOrder", inPlace := ["math.Float32frombits", "math.Float32bits", "math/bits.Sub64", "math/bits.Add64", "internal/abi.NoEscape"], named := ["math/bits.divideError", "math/bits.overflowError", "sluice/tally.modes"], apart := false, laid := [("sluice/tally.modes", laid_sluice_tally_modes)], narrowed := true }
def TallyOrderUptoSaid : Prop := tallyOrderUptoRow.holds Tryd.pinned (OpenSpec.upto tallyOrderSpec)

/-- 'sluicelaw02.TallyMonotone', WHERE WHAT IT READS IS OF BULK AT MOST 1048576: true; the input reads as it did. -/
def tallyMonotoneUptoRow : OpenClaim := { program := "ytbbldcbilnkkdaadoor", sum := "8796d9e5a6bf74202e710fb228ae5bc6c713ad450842f09297edfde8a47f3dda", func := "sluice/sluicelaw02.TallyMonotone", spec := "tallyMonotone", inPlace := ["math/bits.Sub64", "math.Float32frombits", "math.Float32bits", "math/bits.Add64", "internal/abi.NoEscape"], named := ["math/bits.divideError", "math/bits.overflowError", "sluice/tally.modes"], apart := false, laid := [("sluice/tally.modes", laid_sluice_tally_modes)], narrowed := true }
def TallyMonotoneUptoSaid : Prop := tallyMonotoneUptoRow.holds Tryd.pinned (OpenSpec.upto tallyMonotoneSpec)

/-- 'sluicelaw02.TallyShare', WHERE WHAT IT READS IS OF BULK AT MOST 1048576: true; the input reads as it did. -/
def tallyShareUptoRow : OpenClaim := { program := "ytbbldcbilnkkdaadoor", sum := "8796d9e5a6bf74202e710fb228ae5bc6c713ad450842f09297edfde8a47f3dda", func := "sluice/sluicelaw02.TallyShare", spec := "tallyShare", inPlace := ["math/bits.Sub64", "math.Float32frombits", "math.Float32bits", "math/bits.Add64", "internal/abi.NoEscape"], named := ["math/bits.divideError", "math/bits.overflowError", "sluice/tally.modes"], apart := false, laid := [("sluice/tally.modes", laid_sluice_tally_modes)], narrowed := true }
def TallyShareUptoSaid : Prop := tallyShareUptoRow.holds Tryd.pinned (OpenSpec.upto tallyShareSpec)

/-- 'sluicelaw02.TallyTexts', WHERE WHAT IT READS IS OF BULK AT MOST 1048576: true; the input reads as it did. -/
def tallyTextsUptoRow : OpenClaim := { program := "ytbbldcbilnkkdaadoor", sum := "8796d9e5a6bf74202e710fb228ae5bc6c713ad450842f09297edfde8a47f3dda", func := "sluice/sluicelaw02.TallyTexts", spec := "tallyTexts", inPlace := ["internal/bytealg.IndexByteString", "internal/bytealg.IndexString", "math/bits.Add64", "math/bits.Sub64", "internal/abi.NoEscape"], named := ["unicode/utf8.first", "unicode/utf8.acceptRanges", "math/bits.divideError", "math/bits.overflowError", "internal/bytealg.MaxLen"], apart := false, laid := [("unicode/utf8.acceptRanges", laid_unicode_utf8_acceptRanges), ("unicode/utf8.first", laid_unicode_utf8_first)], narrowed := true }
def TallyTextsUptoSaid : Prop := tallyTextsUptoRow.holds Tryd.pinned (OpenSpec.upto tallyTextsSpec)

end Rows
end Go.Proofs.YtbbldcbilnkkdaaDoor
