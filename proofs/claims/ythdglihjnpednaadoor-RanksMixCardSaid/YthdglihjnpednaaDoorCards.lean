/-
  DERIVED. GIVEN WITH THE SEED: THE CARDS: each row of YthdglihjnpednaaDoorRows.lean that lists a variable, with what it lists TIED to the program's text (the seventh form; the later family's looks); each row that meets fmt, with fmt's text TOLD by the authors' own Lean function (tested against real Go, not proved from fmt's source: count such statements apart). THE CARD IS WHAT COUNTS. Prove the row's statement (the work); the ties are given (YthdglihjnpednaaDoorTie.lean); close each card by the builder's one call (the guide's Derived/Test/ToyasCard.lean, 'card_holds'). Laid BY PROGRAM, IN A SANDBOX (cutbox-door.mjs). By AI agents, Wed Nov 11 2026. No macro, syntax, notation, axiom, sorry.
-/
import Derived.Test.YthdglihjnpednaaDoorRows
import GoSem.ClaimSeven
namespace Go.Proofs.YthdglihjnpednaaDoor
namespace Rows

/-- THE TIED CARD OF 'sluicelaw15.RanksMix'. -/
def ranksMixCard : Claim7 := { stood := { row := ranksMixRow, standIns := [], harness := (true, "7bca4a5cc54ab3092169cd1eb302cb97e22a6fee79daa2bc264b07d51456d5a8"), looks := false }, kinds := [], alts := [], laidByText := true, laidKinds := [.data], laidTests := true, laidLooks := .later }
def RanksMixCardSaid : Prop := Claim7.holds Tryd.pinned (.plain (OpenSpec.ofChange ranksMixSpec)) ranksMixCard

/-- THE TIED CARD OF 'sluicelaw15.RanksTells'. -/
def ranksTellsCard : Claim7 := { stood := { row := ranksTellsRow, standIns := [], harness := (true, "7bca4a5cc54ab3092169cd1eb302cb97e22a6fee79daa2bc264b07d51456d5a8"), looks := false }, kinds := [], alts := [], laidByText := true, laidKinds := [.data], laidTests := true, laidLooks := .later }
def RanksTellsCardSaid : Prop := Claim7.holds Tryd.pinned (.plain (OpenSpec.ofChange ranksTellsSpec)) ranksTellsCard

/-- THE SECOND FORM's CARD OF 'sluicelaw15.RanksMix'. -/
def ranksMixUptoCard : Claim7 := { stood := { row := ranksMixUptoRow, standIns := [], harness := (true, "7bca4a5cc54ab3092169cd1eb302cb97e22a6fee79daa2bc264b07d51456d5a8"), looks := false }, kinds := [], alts := [], laidByText := true, laidKinds := [.data], laidTests := true, laidLooks := .later }
def RanksMixUptoCardSaid : Prop := Claim7.holds Tryd.pinned (.plain (OpenSpec.upto ranksMixSpec)) ranksMixUptoCard

/-- THE SECOND FORM's CARD OF 'sluicelaw15.RanksTells'. -/
def ranksTellsUptoCard : Claim7 := { stood := { row := ranksTellsUptoRow, standIns := [], harness := (true, "7bca4a5cc54ab3092169cd1eb302cb97e22a6fee79daa2bc264b07d51456d5a8"), looks := false }, kinds := [], alts := [], laidByText := true, laidKinds := [.data], laidTests := true, laidLooks := .later }
def RanksTellsUptoCardSaid : Prop := Claim7.holds Tryd.pinned (.plain (OpenSpec.upto ranksTellsSpec)) ranksTellsUptoCard
end Rows
end Go.Proofs.YthdglihjnpednaaDoor
