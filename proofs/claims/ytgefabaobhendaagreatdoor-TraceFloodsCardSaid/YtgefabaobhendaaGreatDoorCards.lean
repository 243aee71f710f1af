/-
  DERIVED. GIVEN WITH THE SEED: THE CARDS: each row of YtgefabaobhendaaGreatDoorRows.lean that lists a variable, with what it lists TIED to the program's text (the seventh form; the later family's looks); each row that meets fmt, with fmt's text TOLD by the authors' own Lean function (tested against real Go, not proved from fmt's source: count such statements apart). THE CARD IS WHAT COUNTS. Prove the row's statement (the work); the ties are given (YtgefabaobhendaaGreatDoorTie.lean); close each card by the builder's one call (the guide's Derived/Test/ToyasCard.lean, 'card_holds'). Laid BY PROGRAM, IN A SANDBOX (cutbox-door.mjs). By AI agents, Wed Nov 11 2026. No macro, syntax, notation, axiom, sorry.
-/
import Derived.Test.YtgefabaobhendaaGreatDoorRows
import GoSem.ClaimSeven
namespace Go.Proofs.YtgefabaobhendaaGreatDoor
namespace Rows

/-- THE TIED CARD OF 'milestonelaw12.TraceSpoilt'. -/
def traceSpoiltCard : Claim7 := { stood := { row := traceSpoiltRow, standIns := [], harness := (true, "bb4a8c657abf5d014753763b36b97695554cb4f9a30c7e06d74661f3e6c96a49"), looks := true }, kinds := [], alts := [], laidByText := true, laidKinds := [.handle], laidTests := true, laidLooks := .later }
def TraceSpoiltCardSaid : Prop := Claim7.holds Tryz.pinned (.plain (OpenSpec.ofChange traceSpoiltSpec)) traceSpoiltCard

/-- THE TIED CARD OF 'milestonelaw12.TraceFloods'. -/
def traceFloodsCard : Claim7 := { stood := { row := traceFloodsRow, standIns := [], harness := (true, "bb4a8c657abf5d014753763b36b97695554cb4f9a30c7e06d74661f3e6c96a49"), looks := true }, kinds := [], alts := [], laidByText := true, laidKinds := [.handle], laidTests := true, laidLooks := .later }
def TraceFloodsCardSaid : Prop := Claim7.holds Tryz.pinned (.plain (OpenSpec.ofChange traceFloodsSpec)) traceFloodsCard

/-- THE SECOND FORM's CARD OF 'milestonelaw12.TraceSpoilt'. -/
def traceSpoiltUptoCard : Claim7 := { stood := { row := traceSpoiltUptoRow, standIns := [], harness := (true, "bb4a8c657abf5d014753763b36b97695554cb4f9a30c7e06d74661f3e6c96a49"), looks := true }, kinds := [], alts := [], laidByText := true, laidKinds := [.handle], laidTests := true, laidLooks := .later }
def TraceSpoiltUptoCardSaid : Prop := Claim7.holds Tryz.pinned (.plain (OpenSpec.upto traceSpoiltSpec)) traceSpoiltUptoCard

/-- THE SECOND FORM's CARD OF 'milestonelaw12.TraceFloods'. -/
def traceFloodsUptoCard : Claim7 := { stood := { row := traceFloodsUptoRow, standIns := [], harness := (true, "bb4a8c657abf5d014753763b36b97695554cb4f9a30c7e06d74661f3e6c96a49"), looks := true }, kinds := [], alts := [], laidByText := true, laidKinds := [.handle], laidTests := true, laidLooks := .later }
def TraceFloodsUptoCardSaid : Prop := Claim7.holds Tryz.pinned (.plain (OpenSpec.upto traceFloodsSpec)) traceFloodsUptoCard
end Rows
end Go.Proofs.YtgefabaobhendaaGreatDoor
