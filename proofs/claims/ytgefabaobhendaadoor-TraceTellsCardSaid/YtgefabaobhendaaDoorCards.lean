/-
  DERIVED. GIVEN WITH THE SEED: THE CARDS: each row of YtgefabaobhendaaDoorRows.lean that lists a variable, with what it lists TIED to the program's text (the seventh form; the later family's looks); each row that meets fmt, with fmt's text TOLD by the authors' own Lean function (tested against real Go, not proved from fmt's source: count such statements apart). THE CARD IS WHAT COUNTS. Prove the row's statement (the work); the ties are given (YtgefabaobhendaaDoorTie.lean); close each card by the builder's one call (the guide's Derived/Test/ToyasCard.lean, 'card_holds'). Laid BY PROGRAM, IN A SANDBOX (cutbox-door.mjs). By AI agents, Wed Nov 11 2026. No macro, syntax, notation, axiom, sorry.
-/
import Derived.Test.YtgefabaobhendaaDoorRows
import GoSem.ClaimSeven
namespace Go.Proofs.YtgefabaobhendaaDoor
namespace Rows

/-- THE TIED CARD OF 'milestonelaw12.TraceTells'. -/
def traceTellsCard : Claim7 := { stood := { row := traceTellsRow, standIns := [], harness := (true, "dfc6040a2e4ccaf1b1cbb0d2f4b25a3daa01038e0aa32d86e17d3f66802b8634"), looks := true }, kinds := [], alts := [], laidByText := true, laidKinds := [.handle], laidTests := true, laidLooks := .later }
def TraceTellsCardSaid : Prop := Claim7.holds Tryd.pinned (.plain (OpenSpec.ofChange traceTellsSpec)) traceTellsCard

/-- THE TIED CARD OF 'milestonelaw12.TraceKnown'. -/
def traceKnownCard : Claim7 := { stood := { row := traceKnownRow, standIns := [], harness := (true, "dfc6040a2e4ccaf1b1cbb0d2f4b25a3daa01038e0aa32d86e17d3f66802b8634"), looks := true }, kinds := [], alts := [], laidByText := true, laidKinds := [.handle], laidTests := true, laidLooks := .later }
def TraceKnownCardSaid : Prop := Claim7.holds Tryd.pinned (.plain (OpenSpec.ofChange traceKnownSpec)) traceKnownCard

/-- THE SECOND FORM's CARD OF 'milestonelaw12.TraceTells'. -/
def traceTellsUptoCard : Claim7 := { stood := { row := traceTellsUptoRow, standIns := [], harness := (true, "dfc6040a2e4ccaf1b1cbb0d2f4b25a3daa01038e0aa32d86e17d3f66802b8634"), looks := true }, kinds := [], alts := [], laidByText := true, laidKinds := [.handle], laidTests := true, laidLooks := .later }
def TraceTellsUptoCardSaid : Prop := Claim7.holds Tryd.pinned (.plain (OpenSpec.upto traceTellsSpec)) traceTellsUptoCard

/-- THE SECOND FORM's CARD OF 'milestonelaw12.TraceKnown'. -/
def traceKnownUptoCard : Claim7 := { stood := { row := traceKnownUptoRow, standIns := [], harness := (true, "dfc6040a2e4ccaf1b1cbb0d2f4b25a3daa01038e0aa32d86e17d3f66802b8634"), looks := true }, kinds := [], alts := [], laidByText := true, laidKinds := [.handle], laidTests := true, laidLooks := .later }
def TraceKnownUptoCardSaid : Prop := Claim7.holds Tryd.pinned (.plain (OpenSpec.upto traceKnownSpec)) traceKnownUptoCard
end Rows
end Go.Proofs.YtgefabaobhendaaDoor
