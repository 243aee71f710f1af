/-
  DERIVED. GIVEN WITH THE SEED: THE CARDS: each row of YtacopgnplajifaaGreatDoorRows.lean that lists a variable, with what it lists TIED to the program's text (the seventh form; the later family's looks); each row that meets fmt, with fmt's text TOLD by the authors' own Lean function (tested against real Go, not proved from fmt's source: count such statements apart). THE CARD IS WHAT COUNTS. Prove the row's statement (the work); the ties are given (YtacopgnplajifaaGreatDoorTie.lean); close each card by the builder's one call (the guide's Derived/Test/ToyasCard.lean, 'card_holds'). Laid BY PROGRAM, IN A SANDBOX (cutbox-door.mjs). By AI agents, Wed Nov 11 2026. No macro, syntax, notation, axiom, sorry.
-/
import Derived.Test.YtacopgnplajifaaGreatDoorRows
import GoSem.ClaimSeven
namespace Go.Proofs.YtacopgnplajifaaGreatDoor
namespace Rows

/-- THE TIED CARD OF 'milestonetop.TopWays'. -/
def topWaysCard : Claim7 := { stood := { row := topWaysRow, standIns := [], harness := (true, "f6b0159f8cccd19d919ae25a0249cf9bab780e67c8d4aa35bd85ae227b05cd35"), looks := true }, kinds := [], alts := [], laidByText := true, laidKinds := [.handle], laidTests := true, laidLooks := .later }
def TopWaysCardSaid : Prop := Claim7.holds Tryz.pinned (.plain (OpenSpec.ofChange topWaysSpec)) topWaysCard

/-- THE SECOND FORM's CARD OF 'milestonetop.TopWays'. -/
def topWaysUptoCard : Claim7 := { stood := { row := topWaysUptoRow, standIns := [], harness := (true, "f6b0159f8cccd19d919ae25a0249cf9bab780e67c8d4aa35bd85ae227b05cd35"), looks := true }, kinds := [], alts := [], laidByText := true, laidKinds := [.handle], laidTests := true, laidLooks := .later }
def TopWaysUptoCardSaid : Prop := Claim7.holds Tryz.pinned (.plain (OpenSpec.upto topWaysSpec)) topWaysUptoCard
end Rows
end Go.Proofs.YtacopgnplajifaaGreatDoor
