/-
  DERIVED. GIVEN WITH THE SEED: THE CARDS: each row of YtkeoponidgpfpaaGreatDoorRows.lean that lists a variable, with what it lists TIED to the program's text (the seventh form; the later family's looks); each row that meets fmt, with fmt's text TOLD by the authors' own Lean function (tested against real Go, not proved from fmt's source: count such statements apart). THE CARD IS WHAT COUNTS. Prove the row's statement (the work); the ties are given (YtkeoponidgpfpaaGreatDoorTie.lean); close each card by the builder's one call (the guide's Derived/Test/ToyasCard.lean, 'card_holds'). Laid BY PROGRAM, IN A SANDBOX (cutbox-door.mjs). By AI agents, Wed Nov 11 2026. No macro, syntax, notation, axiom, sorry.
-/
import Derived.Test.YtkeoponidgpfpaaGreatDoorRows
import GoSem.ClaimSeven
namespace Go.Proofs.YtkeoponidgpfpaaGreatDoor
namespace Rows

/-- THE TIED CARD OF 'milestonelaw14.BothErrors'. -/
def bothErrorsCard : Claim7 := { stood := { row := bothErrorsRow, standIns := [], harness := (true, "76a7c47772631b1360a548173ad4a5377ee6b6eda3101ec5354c4ff8d3fff875"), looks := true }, kinds := [], alts := [], laidByText := true, laidKinds := [.handle], laidTests := true, laidLooks := .later }
def BothErrorsCardSaid : Prop := Claim7.holds Tryz.pinned (.plain (OpenSpec.ofChange bothErrorsSpec)) bothErrorsCard

/-- THE TIED CARD OF 'milestonelaw14.BothTurned'. -/
def bothTurnedCard : Claim7 := { stood := { row := bothTurnedRow, standIns := [], harness := (true, "76a7c47772631b1360a548173ad4a5377ee6b6eda3101ec5354c4ff8d3fff875"), looks := true }, kinds := [], alts := [], laidByText := true, laidKinds := [.handle], laidTests := true, laidLooks := .later }
def BothTurnedCardSaid : Prop := Claim7.holds Tryz.pinned (.plain (OpenSpec.ofChange bothTurnedSpec)) bothTurnedCard

/-- THE TIED CARD OF 'milestonelaw14.BothLabels'. -/
def bothLabelsCard : Claim7 := { stood := { row := bothLabelsRow, standIns := [], harness := (true, "76a7c47772631b1360a548173ad4a5377ee6b6eda3101ec5354c4ff8d3fff875"), looks := true }, kinds := [], alts := [], laidByText := true, laidKinds := [.handle], laidTests := true, laidLooks := .later }
def BothLabelsCardSaid : Prop := Claim7.holds Tryz.pinned (.plain (OpenSpec.ofChange bothLabelsSpec)) bothLabelsCard

/-- THE TIED CARD OF 'milestonelaw14.BothExact'. -/
def bothExactCard : Claim7 := { stood := { row := bothExactRow, standIns := [], harness := (true, "76a7c47772631b1360a548173ad4a5377ee6b6eda3101ec5354c4ff8d3fff875"), looks := true }, kinds := [], alts := [], laidByText := true, laidKinds := [.handle], laidTests := true, laidLooks := .later }
def BothExactCardSaid : Prop := Claim7.holds Tryz.pinned (.plain (OpenSpec.ofChange bothExactSpec)) bothExactCard

/-- THE TIED CARD OF 'milestonelaw14.BothOnce'. -/
def bothOnceCard : Claim7 := { stood := { row := bothOnceRow, standIns := [], harness := (true, "76a7c47772631b1360a548173ad4a5377ee6b6eda3101ec5354c4ff8d3fff875"), looks := true }, kinds := [], alts := [], laidByText := true, laidKinds := [.handle], laidTests := true, laidLooks := .later }
def BothOnceCardSaid : Prop := Claim7.holds Tryz.pinned (.plain (OpenSpec.ofChange bothOnceSpec)) bothOnceCard

/-- THE TIED CARD OF 'milestonelaw14.BothPlain'. -/
def bothPlainCard : Claim7 := { stood := { row := bothPlainRow, standIns := [], harness := (true, "76a7c47772631b1360a548173ad4a5377ee6b6eda3101ec5354c4ff8d3fff875"), looks := true }, kinds := [], alts := [], laidByText := true, laidKinds := [.handle], laidTests := true, laidLooks := .later }
def BothPlainCardSaid : Prop := Claim7.holds Tryz.pinned (.plain (OpenSpec.ofChange bothPlainSpec)) bothPlainCard

/-- THE SECOND FORM's CARD OF 'milestonelaw14.BothErrors'. -/
def bothErrorsUptoCard : Claim7 := { stood := { row := bothErrorsUptoRow, standIns := [], harness := (true, "76a7c47772631b1360a548173ad4a5377ee6b6eda3101ec5354c4ff8d3fff875"), looks := true }, kinds := [], alts := [], laidByText := true, laidKinds := [.handle], laidTests := true, laidLooks := .later }
def BothErrorsUptoCardSaid : Prop := Claim7.holds Tryz.pinned (.plain (OpenSpec.upto bothErrorsSpec)) bothErrorsUptoCard

/-- THE SECOND FORM's CARD OF 'milestonelaw14.BothTurned'. -/
def bothTurnedUptoCard : Claim7 := { stood := { row := bothTurnedUptoRow, standIns := [], harness := (true, "76a7c47772631b1360a548173ad4a5377ee6b6eda3101ec5354c4ff8d3fff875"), looks := true }, kinds := [], alts := [], laidByText := true, laidKinds := [.handle], laidTests := true, laidLooks := .later }
def BothTurnedUptoCardSaid : Prop := Claim7.holds Tryz.pinned (.plain (OpenSpec.upto bothTurnedSpec)) bothTurnedUptoCard

/-- THE SECOND FORM's CARD OF 'milestonelaw14.BothLabels'. -/
def bothLabelsUptoCard : Claim7 := { stood := { row := bothLabelsUptoRow, standIns := [], harness := (true, "76a7c47772631b1360a548173ad4a5377ee6b6eda3101ec5354c4ff8d3fff875"), looks := true }, kinds := [], alts := [], laidByText := true, laidKinds := [.handle], laidTests := true, laidLooks := .later }
def BothLabelsUptoCardSaid : Prop := Claim7.holds Tryz.pinned (.plain (OpenSpec.upto bothLabelsSpec)) bothLabelsUptoCard

/-- THE SECOND FORM's CARD OF 'milestonelaw14.BothExact'. -/
def bothExactUptoCard : Claim7 := { stood := { row := bothExactUptoRow, standIns := [], harness := (true, "76a7c47772631b1360a548173ad4a5377ee6b6eda3101ec5354c4ff8d3fff875"), looks := true }, kinds := [], alts := [], laidByText := true, laidKinds := [.handle], laidTests := true, laidLooks := .later }
def BothExactUptoCardSaid : Prop := Claim7.holds Tryz.pinned (.plain (OpenSpec.upto bothExactSpec)) bothExactUptoCard

/-- THE SECOND FORM's CARD OF 'milestonelaw14.BothOnce'. -/
def bothOnceUptoCard : Claim7 := { stood := { row := bothOnceUptoRow, standIns := [], harness := (true, "76a7c47772631b1360a548173ad4a5377ee6b6eda3101ec5354c4ff8d3fff875"), looks := true }, kinds := [], alts := [], laidByText := true, laidKinds := [.handle], laidTests := true, laidLooks := .later }
def BothOnceUptoCardSaid : Prop := Claim7.holds Tryz.pinned (.plain (OpenSpec.upto bothOnceSpec)) bothOnceUptoCard

/-- THE SECOND FORM's CARD OF 'milestonelaw14.BothPlain'. -/
def bothPlainUptoCard : Claim7 := { stood := { row := bothPlainUptoRow, standIns := [], harness := (true, "76a7c47772631b1360a548173ad4a5377ee6b6eda3101ec5354c4ff8d3fff875"), looks := true }, kinds := [], alts := [], laidByText := true, laidKinds := [.handle], laidTests := true, laidLooks := .later }
def BothPlainUptoCardSaid : Prop := Claim7.holds Tryz.pinned (.plain (OpenSpec.upto bothPlainSpec)) bothPlainUptoCard
end Rows
end Go.Proofs.YtkeoponidgpfpaaGreatDoor
