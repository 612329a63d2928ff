/-
  DERIVED. GIVEN WITH THE SEED: THE CARDS: each row of YtbbldcbilnkkdaaDoorRows.lean that lists a variable, with what it lists TIED to the program's text (the seventh form; the later family's looks); each row that meets fmt, with fmt's text TOLD by the authors' own Lean function (tested against real Go, not proved from fmt's source: count such statements apart). THE CARD IS WHAT COUNTS. Prove the row's statement (the work); the ties are given (YtbbldcbilnkkdaaDoorTie.lean); close each card by the builder's one call (the guide's Derived/Test/ToyasCard.lean, 'card_holds'). Laid BY PROGRAM, IN A SANDBOX (cutbox-door.mjs). By AI agents, Wed Nov 11 2026. No macro, syntax, notation, axiom, sorry.
-/
import Derived.Test.YtbbldcbilnkkdaaDoorRows
import GoSem.ClaimSeven
namespace Go.Proofs.YtbbldcbilnkkdaaDoor
namespace Rows

/-- THE TIED CARD OF 'sluicelaw02.TallyBack'. -/
def tallyBackCard : Claim7 := { stood := { row := tallyBackRow, standIns := [], harness := (true, "4cde3fbae9d0290d1a8ecb648c94e7f354444799f008f6b8be5c1ea16c9cab05"), looks := false }, kinds := [], alts := [], laidByText := true, laidKinds := [.data, .data, .pinned], laidTests := true, laidLooks := .later }
def TallyBackCardSaid : Prop := Claim7.holds Tryd.pinned (.plain (OpenSpec.ofChange tallyBackSpec)) tallyBackCard

/-- THE TIED CARD OF 'sluicelaw02.TallyRounds'. -/
def tallyRoundsCard : Claim7 := { stood := { row := tallyRoundsRow, standIns := [], harness := (true, "4cde3fbae9d0290d1a8ecb648c94e7f354444799f008f6b8be5c1ea16c9cab05"), looks := false }, kinds := [], alts := [], laidByText := true, laidKinds := [.data], laidTests := true, laidLooks := .later }
def TallyRoundsCardSaid : Prop := Claim7.holds Tryd.pinned (.plain (OpenSpec.ofChange tallyRoundsSpec)) tallyRoundsCard

/-- THE TIED CARD OF 'sluicelaw02.TallyOrder'. -/
def tallyOrderCard : Claim7 := { stood := { row := tallyOrderRow, standIns := [], harness := (true, "4cde3fbae9d0290d1a8ecb648c94e7f354444799f008f6b8be5c1ea16c9cab05"), looks := false }, kinds := [], alts := [], laidByText := true, laidKinds := [.data], laidTests := true, laidLooks := .later }
def TallyOrderCardSaid : Prop := Claim7.holds Tryd.pinned (.plain (OpenSpec.ofChange tallyOrderSpec)) tallyOrderCard

/-- THE TIED CARD OF 'sluicelaw02.TallyMonotone'. -/
def tallyMonotoneCard : Claim7 := { stood := { row := tallyMonotoneRow, standIns := [], harness := (true, "4cde3fbae9d0290d1a8ecb648c94e7f354444799f008f6b8be5c1ea16c9cab05"), looks := false }, kinds := [], alts := [], laidByText := true, laidKinds := [.data], laidTests := true, laidLooks := .later }
def TallyMonotoneCardSaid : Prop := Claim7.holds Tryd.pinned (.plain (OpenSpec.ofChange tallyMonotoneSpec)) tallyMonotoneCard

/-- THE TIED CARD OF 'sluicelaw02.TallyShare'. -/
def tallyShareCard : Claim7 := { stood := { row := tallyShareRow, standIns := [], harness := (true, "4cde3fbae9d0290d1a8ecb648c94e7f354444799f008f6b8be5c1ea16c9cab05"), looks := false }, kinds := [], alts := [], laidByText := true, laidKinds := [.data], laidTests := true, laidLooks := .later }
def TallyShareCardSaid : Prop := Claim7.holds Tryd.pinned (.plain (OpenSpec.ofChange tallyShareSpec)) tallyShareCard

/-- THE TIED CARD OF 'sluicelaw02.TallyTexts'. -/
def tallyTextsCard : Claim7 := { stood := { row := tallyTextsRow, standIns := [], harness := (true, "4cde3fbae9d0290d1a8ecb648c94e7f354444799f008f6b8be5c1ea16c9cab05"), looks := false }, kinds := [], alts := [], laidByText := true, laidKinds := [.data, .pinned], laidTests := true, laidLooks := .later }
def TallyTextsCardSaid : Prop := Claim7.holds Tryd.pinned (.plain (OpenSpec.ofChange tallyTextsSpec)) tallyTextsCard

/-- THE SECOND FORM's CARD OF 'sluicelaw02.TallyBack'. -/
def tallyBackUptoCard : Claim7 := { stood := { row := tallyBackUptoRow, standIns := [], harness := (true, "4cde3fbae9d0290d1a8ecb648c94e7f354444799f008f6b8be5c1ea16c9cab05"), looks := false }, kinds := [], alts := [], laidByText := true, laidKinds := [.data, .data, .pinned], laidTests := true, laidLooks := .later }
def TallyBackUptoCardSaid : Prop := Claim7.holds Tryd.pinned (.plain (OpenSpec.upto tallyBackSpec)) tallyBackUptoCard

/-- THE SECOND FORM's CARD OF 'sluicelaw02.TallyRounds'. -/
def tallyRoundsUptoCard : Claim7 := { stood := { row := tallyRoundsUptoRow, standIns := [], harness := (true, "4cde3fbae9d0290d1a8ecb648c94e7f354444799f008f6b8be5c1ea16c9cab05"), looks := false }, kinds := [], alts := [], laidByText := true, laidKinds := [.data], laidTests := true, laidLooks := .later }
def TallyRoundsUptoCardSaid : Prop := Claim7.holds Tryd.pinned (.plain (OpenSpec.upto tallyRoundsSpec)) tallyRoundsUptoCard

/-- THE SECOND FORM's CARD OF 'sluicelaw02.TallyOrder'. -/
def tallyOrderUptoCard : Claim7 := { stood := { row := tallyOrderUptoRow, standIns := [], harness := (true, "4cde3fbae9d0290d1a8ecb648c94e7f354444799f008f6b8be5c1ea16c9cab05"), looks := false }, kinds := [], alts := [], laidByText := true, laidKinds := [.data], laidTests := true, laidLooks := .later }
def TallyOrderUptoCardSaid : Prop := Claim7.holds Tryd.pinned (.plain (OpenSpec.upto tallyOrderSpec)) tallyOrderUptoCard

/-- THE SECOND FORM's CARD OF 'sluicelaw02.TallyMonotone'. -/
def tallyMonotoneUptoCard : Claim7 := { stood := { row := tallyMonotoneUptoRow, standIns := [], harness := (true, "4cde3fbae9d0290d1a8ecb648c94e7f354444799f008f6b8be5c1ea16c9cab05"), looks := false }, kinds := [], alts := [], laidByText := true, laidKinds := [.data], laidTests := true, laidLooks := .later }
def TallyMonotoneUptoCardSaid : Prop := Claim7.holds Tryd.pinned (.plain (OpenSpec.upto tallyMonotoneSpec)) tallyMonotoneUptoCard

/-- THE SECOND FORM's CARD OF 'sluicelaw02.TallyShare'. -/
def tallyShareUptoCard : Claim7 := { stood := { row := tallyShareUptoRow, standIns := [], harness := (true, "4cde3fbae9d0290d1a8ecb648c94e7f354444799f008f6b8be5c1ea16c9cab05"), looks := false }, kinds := [], alts := [], laidByText := true, laidKinds := [.data], laidTests := true, laidLooks := .later }
def TallyShareUptoCardSaid : Prop := Claim7.holds Tryd.pinned (.plain (OpenSpec.upto tallyShareSpec)) tallyShareUptoCard

/-- THE SECOND FORM's CARD OF 'sluicelaw02.TallyTexts'. -/
def tallyTextsUptoCard : Claim7 := { stood := { row := tallyTextsUptoRow, standIns := [], harness := (true, "4cde3fbae9d0290d1a8ecb648c94e7f354444799f008f6b8be5c1ea16c9cab05"), looks := false }, kinds := [], alts := [], laidByText := true, laidKinds := [.data, .pinned], laidTests := true, laidLooks := .later }
def TallyTextsUptoCardSaid : Prop := Claim7.holds Tryd.pinned (.plain (OpenSpec.upto tallyTextsSpec)) tallyTextsUptoCard
end Rows
end Go.Proofs.YtbbldcbilnkkdaaDoor
