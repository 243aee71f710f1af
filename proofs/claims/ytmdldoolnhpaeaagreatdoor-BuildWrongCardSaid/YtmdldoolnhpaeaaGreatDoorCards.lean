/-
  DERIVED. GIVEN WITH THE SEED: THE CARDS: each row of YtmdldoolnhpaeaaGreatDoorRows.lean that lists a variable, with what it lists TIED to the program's text (the seventh form; the later family's looks); each row that meets fmt, with fmt's text TOLD by the authors' own Lean function (tested against real Go, not proved from fmt's source: count such statements apart). THE CARD IS WHAT COUNTS. Prove the row's statement (the work); the ties are given (YtmdldoolnhpaeaaGreatDoorTie.lean); close each card by the builder's one call (the guide's Derived/Test/ToyasCard.lean, 'card_holds'). Laid BY PROGRAM, IN A SANDBOX (cutbox-door.mjs). By AI agents, Wed Nov 11 2026. No macro, syntax, notation, axiom, sorry.
-/
import Derived.Test.YtmdldoolnhpaeaaGreatDoorRows
import GoSem.ClaimSeven
namespace Go.Proofs.YtmdldoolnhpaeaaGreatDoor
namespace Rows

/-- THE TIED CARD OF 'milestonelaw31.BuildWrong'. -/
def buildWrongCard : Claim7 := { stood := { row := buildWrongRow, standIns := [], harness := (true, "afbb4a97bc2a96402129949f13967e6c4d3396e488a170725c229d314a9ca88e"), looks := true }, kinds := [], alts := [], laidByText := true, laidKinds := [.handle], laidTests := true, laidLooks := .later }
def BuildWrongCardSaid : Prop := Claim7.holds Tryz.pinned (.plain (OpenSpec.ofChange buildWrongSpec)) buildWrongCard

/-- THE TIED CARD OF 'milestonelaw31.BuildKnown'. -/
def buildKnownCard : Claim7 := { stood := { row := buildKnownRow, standIns := [], harness := (true, "afbb4a97bc2a96402129949f13967e6c4d3396e488a170725c229d314a9ca88e"), looks := true }, kinds := [], alts := [], laidByText := true, laidKinds := [.handle], laidTests := true, laidLooks := .later }
def BuildKnownCardSaid : Prop := Claim7.holds Tryz.pinned (.plain (OpenSpec.ofChange buildKnownSpec)) buildKnownCard

/-- THE TIED CARD OF 'milestonelaw31.BuildTrue'. -/
def buildTrueCard : Claim7 := { stood := { row := buildTrueRow, standIns := [], harness := (true, "afbb4a97bc2a96402129949f13967e6c4d3396e488a170725c229d314a9ca88e"), looks := true }, kinds := [], alts := [], laidByText := true, laidKinds := [.handle], laidTests := true, laidLooks := .later }
def BuildTrueCardSaid : Prop := Claim7.holds Tryz.pinned (.plain (OpenSpec.ofChange buildTrueSpec)) buildTrueCard

/-- THE SECOND FORM's CARD OF 'milestonelaw31.BuildWrong'. -/
def buildWrongUptoCard : Claim7 := { stood := { row := buildWrongUptoRow, standIns := [], harness := (true, "afbb4a97bc2a96402129949f13967e6c4d3396e488a170725c229d314a9ca88e"), looks := true }, kinds := [], alts := [], laidByText := true, laidKinds := [.handle], laidTests := true, laidLooks := .later }
def BuildWrongUptoCardSaid : Prop := Claim7.holds Tryz.pinned (.plain (OpenSpec.upto buildWrongSpec)) buildWrongUptoCard

/-- THE SECOND FORM's CARD OF 'milestonelaw31.BuildKnown'. -/
def buildKnownUptoCard : Claim7 := { stood := { row := buildKnownUptoRow, standIns := [], harness := (true, "afbb4a97bc2a96402129949f13967e6c4d3396e488a170725c229d314a9ca88e"), looks := true }, kinds := [], alts := [], laidByText := true, laidKinds := [.handle], laidTests := true, laidLooks := .later }
def BuildKnownUptoCardSaid : Prop := Claim7.holds Tryz.pinned (.plain (OpenSpec.upto buildKnownSpec)) buildKnownUptoCard

/-- THE SECOND FORM's CARD OF 'milestonelaw31.BuildTrue'. -/
def buildTrueUptoCard : Claim7 := { stood := { row := buildTrueUptoRow, standIns := [], harness := (true, "afbb4a97bc2a96402129949f13967e6c4d3396e488a170725c229d314a9ca88e"), looks := true }, kinds := [], alts := [], laidByText := true, laidKinds := [.handle], laidTests := true, laidLooks := .later }
def BuildTrueUptoCardSaid : Prop := Claim7.holds Tryz.pinned (.plain (OpenSpec.upto buildTrueSpec)) buildTrueUptoCard
end Rows
end Go.Proofs.YtmdldoolnhpaeaaGreatDoor
