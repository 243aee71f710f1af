/-
  DERIVED. GIVEN WITH THE SEED: THE CARDS: each row of YtebjceofpaamjaaGreatDoorRows.lean that lists a variable, with what it lists TIED to the program's text (the seventh form; the later family's looks); each row that meets fmt, with fmt's text TOLD by the authors' own Lean function (tested against real Go, not proved from fmt's source: count such statements apart). THE CARD IS WHAT COUNTS. Prove the row's statement (the work); the ties are given (YtebjceofpaamjaaGreatDoorTie.lean); close each card by the builder's one call (the guide's Derived/Test/ToyasCard.lean, 'card_holds'). Laid BY PROGRAM, IN A SANDBOX (cutbox-door.mjs). By AI agents, Wed Nov 11 2026. No macro, syntax, notation, axiom, sorry.
-/
import Derived.Test.YtebjceofpaamjaaGreatDoorRows
import GoSem.ClaimSeven
namespace Go.Proofs.YtebjceofpaamjaaGreatDoor
namespace Rows

/-- THE TIED CARD OF 'milestonelaw10.FloodTells'. -/
def floodTellsCard : Claim7 := { stood := { row := floodTellsRow, standIns := [], harness := (true, "d8f5edc8ccf41819214b9262c23edbbb1e3531134e56b239e0dca052738dd025"), looks := true }, kinds := [], alts := [], laidByText := true, laidKinds := [.handle], laidTests := true, laidLooks := .later }
def FloodTellsCardSaid : Prop := Claim7.holds Tryz.pinned (.plain (OpenSpec.ofChange floodTellsSpec)) floodTellsCard

/-- THE TIED CARD OF 'milestonelaw10.FloodLeast'. -/
def floodLeastCard : Claim7 := { stood := { row := floodLeastRow, standIns := [], harness := (true, "d8f5edc8ccf41819214b9262c23edbbb1e3531134e56b239e0dca052738dd025"), looks := true }, kinds := [], alts := [], laidByText := true, laidKinds := [.handle], laidTests := true, laidLooks := .later }
def FloodLeastCardSaid : Prop := Claim7.holds Tryz.pinned (.plain (OpenSpec.ofChange floodLeastSpec)) floodLeastCard

/-- THE TIED CARD OF 'milestonelaw10.FloodSure'. -/
def floodSureCard : Claim7 := { stood := { row := floodSureRow, standIns := [], harness := (true, "d8f5edc8ccf41819214b9262c23edbbb1e3531134e56b239e0dca052738dd025"), looks := true }, kinds := [], alts := [], laidByText := true, laidKinds := [.handle], laidTests := true, laidLooks := .later }
def FloodSureCardSaid : Prop := Claim7.holds Tryz.pinned (.plain (OpenSpec.ofChange floodSureSpec)) floodSureCard

/-- THE TIED CARD OF 'milestonelaw10.FloodTurned'. -/
def floodTurnedCard : Claim7 := { stood := { row := floodTurnedRow, standIns := [], harness := (true, "d8f5edc8ccf41819214b9262c23edbbb1e3531134e56b239e0dca052738dd025"), looks := true }, kinds := [], alts := [], laidByText := true, laidKinds := [.handle], laidTests := true, laidLooks := .later }
def FloodTurnedCardSaid : Prop := Claim7.holds Tryz.pinned (.plain (OpenSpec.ofChange floodTurnedSpec)) floodTurnedCard

/-- THE TIED CARD OF 'milestonelaw10.FloodMoves'. -/
def floodMovesCard : Claim7 := { stood := { row := floodMovesRow, standIns := [], harness := (true, "d8f5edc8ccf41819214b9262c23edbbb1e3531134e56b239e0dca052738dd025"), looks := true }, kinds := [], alts := [], laidByText := true, laidKinds := [.handle], laidTests := true, laidLooks := .later }
def FloodMovesCardSaid : Prop := Claim7.holds Tryz.pinned (.plain (OpenSpec.ofChange floodMovesSpec)) floodMovesCard

/-- THE SECOND FORM's CARD OF 'milestonelaw10.FloodTells'. -/
def floodTellsUptoCard : Claim7 := { stood := { row := floodTellsUptoRow, standIns := [], harness := (true, "d8f5edc8ccf41819214b9262c23edbbb1e3531134e56b239e0dca052738dd025"), looks := true }, kinds := [], alts := [], laidByText := true, laidKinds := [.handle], laidTests := true, laidLooks := .later }
def FloodTellsUptoCardSaid : Prop := Claim7.holds Tryz.pinned (.plain (OpenSpec.upto floodTellsSpec)) floodTellsUptoCard

/-- THE SECOND FORM's CARD OF 'milestonelaw10.FloodLeast'. -/
def floodLeastUptoCard : Claim7 := { stood := { row := floodLeastUptoRow, standIns := [], harness := (true, "d8f5edc8ccf41819214b9262c23edbbb1e3531134e56b239e0dca052738dd025"), looks := true }, kinds := [], alts := [], laidByText := true, laidKinds := [.handle], laidTests := true, laidLooks := .later }
def FloodLeastUptoCardSaid : Prop := Claim7.holds Tryz.pinned (.plain (OpenSpec.upto floodLeastSpec)) floodLeastUptoCard

/-- THE SECOND FORM's CARD OF 'milestonelaw10.FloodSure'. -/
def floodSureUptoCard : Claim7 := { stood := { row := floodSureUptoRow, standIns := [], harness := (true, "d8f5edc8ccf41819214b9262c23edbbb1e3531134e56b239e0dca052738dd025"), looks := true }, kinds := [], alts := [], laidByText := true, laidKinds := [.handle], laidTests := true, laidLooks := .later }
def FloodSureUptoCardSaid : Prop := Claim7.holds Tryz.pinned (.plain (OpenSpec.upto floodSureSpec)) floodSureUptoCard

/-- THE SECOND FORM's CARD OF 'milestonelaw10.FloodTurned'. -/
def floodTurnedUptoCard : Claim7 := { stood := { row := floodTurnedUptoRow, standIns := [], harness := (true, "d8f5edc8ccf41819214b9262c23edbbb1e3531134e56b239e0dca052738dd025"), looks := true }, kinds := [], alts := [], laidByText := true, laidKinds := [.handle], laidTests := true, laidLooks := .later }
def FloodTurnedUptoCardSaid : Prop := Claim7.holds Tryz.pinned (.plain (OpenSpec.upto floodTurnedSpec)) floodTurnedUptoCard

/-- THE SECOND FORM's CARD OF 'milestonelaw10.FloodMoves'. -/
def floodMovesUptoCard : Claim7 := { stood := { row := floodMovesUptoRow, standIns := [], harness := (true, "d8f5edc8ccf41819214b9262c23edbbb1e3531134e56b239e0dca052738dd025"), looks := true }, kinds := [], alts := [], laidByText := true, laidKinds := [.handle], laidTests := true, laidLooks := .later }
def FloodMovesUptoCardSaid : Prop := Claim7.holds Tryz.pinned (.plain (OpenSpec.upto floodMovesSpec)) floodMovesUptoCard
end Rows
end Go.Proofs.YtebjceofpaamjaaGreatDoor
