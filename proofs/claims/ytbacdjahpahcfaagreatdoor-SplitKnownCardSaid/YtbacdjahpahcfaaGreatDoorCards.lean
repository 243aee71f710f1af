/-
  DERIVED. GIVEN WITH THE SEED: THE CARDS: each row of YtbacdjahpahcfaaGreatDoorRows.lean that lists a variable, with what it lists TIED to the program's text (the seventh form; the later family's looks); each row that meets fmt, with fmt's text TOLD by the authors' own Lean function (tested against real Go, not proved from fmt's source: count such statements apart). THE CARD IS WHAT COUNTS. Prove the row's statement (the work); the ties are given (YtbacdjahpahcfaaGreatDoorTie.lean); close each card by the builder's one call (the guide's Derived/Test/ToyasCard.lean, 'card_holds'). Laid BY PROGRAM, IN A SANDBOX (cutbox-door.mjs). By AI agents, Wed Nov 11 2026. No macro, syntax, notation, axiom, sorry.
-/
import Derived.Test.YtbacdjahpahcfaaGreatDoorRows
import GoSem.ClaimSeven
namespace Go.Proofs.YtbacdjahpahcfaaGreatDoor
namespace Rows

/-- THE TIED CARD OF 'milestonelaw22.SplitTells'. -/
def splitTellsCard : Claim7 := { stood := { row := splitTellsRow, standIns := [], harness := (true, "ceff0ada8d3d08390bdec15ded0388e8251f6ed1b0a6437da587a5072c2a7949"), looks := true }, kinds := [], alts := [], laidByText := true, laidKinds := [.handle], laidTests := true, laidLooks := .later }
def SplitTellsCardSaid : Prop := Claim7.holds Tryz.pinned (.plain (OpenSpec.ofChange splitTellsSpec)) splitTellsCard

/-- THE TIED CARD OF 'milestonelaw22.SplitEven'. -/
def splitEvenCard : Claim7 := { stood := { row := splitEvenRow, standIns := [], harness := (true, "ceff0ada8d3d08390bdec15ded0388e8251f6ed1b0a6437da587a5072c2a7949"), looks := true }, kinds := [], alts := [], laidByText := true, laidKinds := [.handle], laidTests := true, laidLooks := .later }
def SplitEvenCardSaid : Prop := Claim7.holds Tryz.pinned (.plain (OpenSpec.ofChange splitEvenSpec)) splitEvenCard

/-- THE TIED CARD OF 'milestonelaw22.SplitHalves'. -/
def splitHalvesCard : Claim7 := { stood := { row := splitHalvesRow, standIns := [], harness := (true, "ceff0ada8d3d08390bdec15ded0388e8251f6ed1b0a6437da587a5072c2a7949"), looks := true }, kinds := [], alts := [], laidByText := true, laidKinds := [.handle], laidTests := true, laidLooks := .later }
def SplitHalvesCardSaid : Prop := Claim7.holds Tryz.pinned (.plain (OpenSpec.ofChange splitHalvesSpec)) splitHalvesCard

/-- THE TIED CARD OF 'milestonelaw22.SplitMoves'. -/
def splitMovesCard : Claim7 := { stood := { row := splitMovesRow, standIns := [], harness := (true, "ceff0ada8d3d08390bdec15ded0388e8251f6ed1b0a6437da587a5072c2a7949"), looks := true }, kinds := [], alts := [], laidByText := true, laidKinds := [.handle], laidTests := true, laidLooks := .later }
def SplitMovesCardSaid : Prop := Claim7.holds Tryz.pinned (.plain (OpenSpec.ofChange splitMovesSpec)) splitMovesCard

/-- THE TIED CARD OF 'milestonelaw22.SplitKnown'. -/
def splitKnownCard : Claim7 := { stood := { row := splitKnownRow, standIns := [], harness := (true, "ceff0ada8d3d08390bdec15ded0388e8251f6ed1b0a6437da587a5072c2a7949"), looks := true }, kinds := [], alts := [], laidByText := true, laidKinds := [.handle], laidTests := true, laidLooks := .later }
def SplitKnownCardSaid : Prop := Claim7.holds Tryz.pinned (.plain (OpenSpec.ofChange splitKnownSpec)) splitKnownCard

/-- THE SECOND FORM's CARD OF 'milestonelaw22.SplitTells'. -/
def splitTellsUptoCard : Claim7 := { stood := { row := splitTellsUptoRow, standIns := [], harness := (true, "ceff0ada8d3d08390bdec15ded0388e8251f6ed1b0a6437da587a5072c2a7949"), looks := true }, kinds := [], alts := [], laidByText := true, laidKinds := [.handle], laidTests := true, laidLooks := .later }
def SplitTellsUptoCardSaid : Prop := Claim7.holds Tryz.pinned (.plain (OpenSpec.upto splitTellsSpec)) splitTellsUptoCard

/-- THE SECOND FORM's CARD OF 'milestonelaw22.SplitEven'. -/
def splitEvenUptoCard : Claim7 := { stood := { row := splitEvenUptoRow, standIns := [], harness := (true, "ceff0ada8d3d08390bdec15ded0388e8251f6ed1b0a6437da587a5072c2a7949"), looks := true }, kinds := [], alts := [], laidByText := true, laidKinds := [.handle], laidTests := true, laidLooks := .later }
def SplitEvenUptoCardSaid : Prop := Claim7.holds Tryz.pinned (.plain (OpenSpec.upto splitEvenSpec)) splitEvenUptoCard

/-- THE SECOND FORM's CARD OF 'milestonelaw22.SplitHalves'. -/
def splitHalvesUptoCard : Claim7 := { stood := { row := splitHalvesUptoRow, standIns := [], harness := (true, "ceff0ada8d3d08390bdec15ded0388e8251f6ed1b0a6437da587a5072c2a7949"), looks := true }, kinds := [], alts := [], laidByText := true, laidKinds := [.handle], laidTests := true, laidLooks := .later }
def SplitHalvesUptoCardSaid : Prop := Claim7.holds Tryz.pinned (.plain (OpenSpec.upto splitHalvesSpec)) splitHalvesUptoCard

/-- THE SECOND FORM's CARD OF 'milestonelaw22.SplitMoves'. -/
def splitMovesUptoCard : Claim7 := { stood := { row := splitMovesUptoRow, standIns := [], harness := (true, "ceff0ada8d3d08390bdec15ded0388e8251f6ed1b0a6437da587a5072c2a7949"), looks := true }, kinds := [], alts := [], laidByText := true, laidKinds := [.handle], laidTests := true, laidLooks := .later }
def SplitMovesUptoCardSaid : Prop := Claim7.holds Tryz.pinned (.plain (OpenSpec.upto splitMovesSpec)) splitMovesUptoCard

/-- THE SECOND FORM's CARD OF 'milestonelaw22.SplitKnown'. -/
def splitKnownUptoCard : Claim7 := { stood := { row := splitKnownUptoRow, standIns := [], harness := (true, "ceff0ada8d3d08390bdec15ded0388e8251f6ed1b0a6437da587a5072c2a7949"), looks := true }, kinds := [], alts := [], laidByText := true, laidKinds := [.handle], laidTests := true, laidLooks := .later }
def SplitKnownUptoCardSaid : Prop := Claim7.holds Tryz.pinned (.plain (OpenSpec.upto splitKnownSpec)) splitKnownUptoCard
end Rows
end Go.Proofs.YtbacdjahpahcfaaGreatDoor
