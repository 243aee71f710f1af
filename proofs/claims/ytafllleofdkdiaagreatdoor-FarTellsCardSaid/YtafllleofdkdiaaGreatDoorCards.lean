/-
  DERIVED. GIVEN WITH THE SEED: THE CARDS: each row of YtafllleofdkdiaaGreatDoorRows.lean that lists a variable, with what it lists TIED to the program's text (the seventh form; the later family's looks); each row that meets fmt, with fmt's text TOLD by the authors' own Lean function (tested against real Go, not proved from fmt's source: count such statements apart). THE CARD IS WHAT COUNTS. Prove the row's statement (the work); the ties are given (YtafllleofdkdiaaGreatDoorTie.lean); close each card by the builder's one call (the guide's Derived/Test/ToyasCard.lean, 'card_holds'). Laid BY PROGRAM, IN A SANDBOX (cutbox-door.mjs). By AI agents, Wed Nov 11 2026. No macro, syntax, notation, axiom, sorry.
-/
import Derived.Test.YtafllleofdkdiaaGreatDoorRows
import GoSem.ClaimSeven
namespace Go.Proofs.YtafllleofdkdiaaGreatDoor
namespace Rows

/-- THE TIED CARD OF 'milestonelaw15.FarTells'. -/
def farTellsCard : Claim7 := { stood := { row := farTellsRow, standIns := [], harness := (true, "74df2f82de871cf7e24cfe14d67b3f3ec093d7aa9390726499e96403747d1fab"), looks := true }, kinds := [], alts := [], laidByText := true, laidKinds := [.handle], laidTests := true, laidLooks := .later }
def FarTellsCardSaid : Prop := Claim7.holds Tryz.pinned (.plain (OpenSpec.ofChange farTellsSpec)) farTellsCard

/-- THE TIED CARD OF 'milestonelaw15.FarApart'. -/
def farApartCard : Claim7 := { stood := { row := farApartRow, standIns := [], harness := (true, "74df2f82de871cf7e24cfe14d67b3f3ec093d7aa9390726499e96403747d1fab"), looks := true }, kinds := [], alts := [], laidByText := true, laidKinds := [.handle], laidTests := true, laidLooks := .later }
def FarApartCardSaid : Prop := Claim7.holds Tryz.pinned (.plain (OpenSpec.ofChange farApartSpec)) farApartCard

/-- THE TIED CARD OF 'milestonelaw15.FarFewer'. -/
def farFewerCard : Claim7 := { stood := { row := farFewerRow, standIns := [], harness := (true, "74df2f82de871cf7e24cfe14d67b3f3ec093d7aa9390726499e96403747d1fab"), looks := true }, kinds := [], alts := [], laidByText := true, laidKinds := [.handle], laidTests := true, laidLooks := .later }
def FarFewerCardSaid : Prop := Claim7.holds Tryz.pinned (.plain (OpenSpec.ofChange farFewerSpec)) farFewerCard

/-- THE TIED CARD OF 'milestonelaw15.FarKnown'. -/
def farKnownCard : Claim7 := { stood := { row := farKnownRow, standIns := [], harness := (true, "74df2f82de871cf7e24cfe14d67b3f3ec093d7aa9390726499e96403747d1fab"), looks := true }, kinds := [], alts := [], laidByText := true, laidKinds := [.handle], laidTests := true, laidLooks := .later }
def FarKnownCardSaid : Prop := Claim7.holds Tryz.pinned (.plain (OpenSpec.ofChange farKnownSpec)) farKnownCard

/-- THE SECOND FORM's CARD OF 'milestonelaw15.FarTells'. -/
def farTellsUptoCard : Claim7 := { stood := { row := farTellsUptoRow, standIns := [], harness := (true, "74df2f82de871cf7e24cfe14d67b3f3ec093d7aa9390726499e96403747d1fab"), looks := true }, kinds := [], alts := [], laidByText := true, laidKinds := [.handle], laidTests := true, laidLooks := .later }
def FarTellsUptoCardSaid : Prop := Claim7.holds Tryz.pinned (.plain (OpenSpec.upto farTellsSpec)) farTellsUptoCard

/-- THE SECOND FORM's CARD OF 'milestonelaw15.FarApart'. -/
def farApartUptoCard : Claim7 := { stood := { row := farApartUptoRow, standIns := [], harness := (true, "74df2f82de871cf7e24cfe14d67b3f3ec093d7aa9390726499e96403747d1fab"), looks := true }, kinds := [], alts := [], laidByText := true, laidKinds := [.handle], laidTests := true, laidLooks := .later }
def FarApartUptoCardSaid : Prop := Claim7.holds Tryz.pinned (.plain (OpenSpec.upto farApartSpec)) farApartUptoCard

/-- THE SECOND FORM's CARD OF 'milestonelaw15.FarFewer'. -/
def farFewerUptoCard : Claim7 := { stood := { row := farFewerUptoRow, standIns := [], harness := (true, "74df2f82de871cf7e24cfe14d67b3f3ec093d7aa9390726499e96403747d1fab"), looks := true }, kinds := [], alts := [], laidByText := true, laidKinds := [.handle], laidTests := true, laidLooks := .later }
def FarFewerUptoCardSaid : Prop := Claim7.holds Tryz.pinned (.plain (OpenSpec.upto farFewerSpec)) farFewerUptoCard

/-- THE SECOND FORM's CARD OF 'milestonelaw15.FarKnown'. -/
def farKnownUptoCard : Claim7 := { stood := { row := farKnownUptoRow, standIns := [], harness := (true, "74df2f82de871cf7e24cfe14d67b3f3ec093d7aa9390726499e96403747d1fab"), looks := true }, kinds := [], alts := [], laidByText := true, laidKinds := [.handle], laidTests := true, laidLooks := .later }
def FarKnownUptoCardSaid : Prop := Claim7.holds Tryz.pinned (.plain (OpenSpec.upto farKnownSpec)) farKnownUptoCard
end Rows
end Go.Proofs.YtafllleofdkdiaaGreatDoor
