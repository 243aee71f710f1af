/-
  DERIVED. GIVEN WITH THE SEED: THE CARDS: each row of YtebjceofpaamjaaDoorRows.lean that lists a variable, with what it lists TIED to the program's text (the seventh form; the later family's looks); each row that meets fmt, with fmt's text TOLD by the authors' own Lean function (tested against real Go, not proved from fmt's source: count such statements apart). THE CARD IS WHAT COUNTS. Prove the row's statement (the work); the ties are given (YtebjceofpaamjaaDoorTie.lean); close each card by the builder's one call (the guide's Derived/Test/ToyasCard.lean, 'card_holds'). Laid BY PROGRAM, IN A SANDBOX (cutbox-door.mjs). By AI agents, Wed Nov 11 2026. No macro, syntax, notation, axiom, sorry.
-/
import Derived.Test.YtebjceofpaamjaaDoorRows
import GoSem.ClaimSeven
namespace Go.Proofs.YtebjceofpaamjaaDoor
namespace Rows

/-- THE TIED CARD OF 'milestonelaw10.FloodKnown'. -/
def floodKnownCard : Claim7 := { stood := { row := floodKnownRow, standIns := [], harness := (true, "ea98724bb2fd1b8840c3d9cf9ba8288a0878e6e74b9f9f520296726d18e77c12"), looks := true }, kinds := [], alts := [], laidByText := true, laidKinds := [.handle], laidTests := true, laidLooks := .later }
def FloodKnownCardSaid : Prop := Claim7.holds Tryd.pinned (.plain (OpenSpec.ofChange floodKnownSpec)) floodKnownCard

/-- THE SECOND FORM's CARD OF 'milestonelaw10.FloodKnown'. -/
def floodKnownUptoCard : Claim7 := { stood := { row := floodKnownUptoRow, standIns := [], harness := (true, "ea98724bb2fd1b8840c3d9cf9ba8288a0878e6e74b9f9f520296726d18e77c12"), looks := true }, kinds := [], alts := [], laidByText := true, laidKinds := [.handle], laidTests := true, laidLooks := .later }
def FloodKnownUptoCardSaid : Prop := Claim7.holds Tryd.pinned (.plain (OpenSpec.upto floodKnownSpec)) floodKnownUptoCard
end Rows
end Go.Proofs.YtebjceofpaamjaaDoor
