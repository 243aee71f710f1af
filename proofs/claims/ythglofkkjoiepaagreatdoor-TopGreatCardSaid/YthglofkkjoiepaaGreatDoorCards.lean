/-
  DERIVED. GIVEN WITH THE SEED: THE CARDS: each row of YthglofkkjoiepaaGreatDoorRows.lean that lists a variable, with what it lists TIED to the program's text (the seventh form; the later family's looks); each row that meets fmt, with fmt's text TOLD by the authors' own Lean function (tested against real Go, not proved from fmt's source: count such statements apart). THE CARD IS WHAT COUNTS. Prove the row's statement (the work); the ties are given (YthglofkkjoiepaaGreatDoorTie.lean); close each card by the builder's one call (the guide's Derived/Test/ToyasCard.lean, 'card_holds'). Laid BY PROGRAM, IN A SANDBOX (cutbox-door.mjs). By AI agents, Wed Nov 11 2026. No macro, syntax, notation, axiom, sorry.
-/
import Derived.Test.YthglofkkjoiepaaGreatDoorRows
import GoSem.ClaimSeven
namespace Go.Proofs.YthglofkkjoiepaaGreatDoor
namespace Rows

/-- THE TIED CARD OF 'milestonetop.TopGreat'. -/
def topGreatCard : Claim7 := { stood := { row := topGreatRow, standIns := [], harness := (true, "815a856313221d672584195c36b5179b3007a16ed25e88e9b3430bd8d73402fd"), looks := true }, kinds := [], alts := [], laidByText := true, laidKinds := [.handle], laidTests := true, laidLooks := .later }
def TopGreatCardSaid : Prop := Claim7.holds Tryz.pinned (.plain (OpenSpec.ofChange topGreatSpec)) topGreatCard

/-- THE SECOND FORM's CARD OF 'milestonetop.TopGreat'. -/
def topGreatUptoCard : Claim7 := { stood := { row := topGreatUptoRow, standIns := [], harness := (true, "815a856313221d672584195c36b5179b3007a16ed25e88e9b3430bd8d73402fd"), looks := true }, kinds := [], alts := [], laidByText := true, laidKinds := [.handle], laidTests := true, laidLooks := .later }
def TopGreatUptoCardSaid : Prop := Claim7.holds Tryz.pinned (.plain (OpenSpec.upto topGreatSpec)) topGreatUptoCard
end Rows
end Go.Proofs.YthglofkkjoiepaaGreatDoor
