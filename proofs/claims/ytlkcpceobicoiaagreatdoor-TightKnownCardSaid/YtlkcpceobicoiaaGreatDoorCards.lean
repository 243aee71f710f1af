/-
  DERIVED. GIVEN WITH THE SEED: THE CARDS: each row of YtlkcpceobicoiaaGreatDoorRows.lean that lists a variable, with what it lists TIED to the program's text (the seventh form; the later family's looks); each row that meets fmt, with fmt's text TOLD by the authors' own Lean function (tested against real Go, not proved from fmt's source: count such statements apart). THE CARD IS WHAT COUNTS. Prove the row's statement (the work); the ties are given (YtlkcpceobicoiaaGreatDoorTie.lean); close each card by the builder's one call (the guide's Derived/Test/ToyasCard.lean, 'card_holds'). Laid BY PROGRAM, IN A SANDBOX (cutbox-door.mjs). By AI agents, Wed Nov 11 2026. No macro, syntax, notation, axiom, sorry.
-/
import Derived.Test.YtlkcpceobicoiaaGreatDoorRows
import GoSem.ClaimSeven
namespace Go.Proofs.YtlkcpceobicoiaaGreatDoor
namespace Rows

/-- THE TIED CARD OF 'milestonelaw24.TightLeast'. -/
def tightLeastCard : Claim7 := { stood := { row := tightLeastRow, standIns := [], harness := (true, "375632d65b20221498c40d8210a3fc8dd6ea2eabb19bc1618b8b0d9eb617d7f9"), looks := true }, kinds := [], alts := [], laidByText := true, laidKinds := [.handle], laidTests := true, laidLooks := .later }
def TightLeastCardSaid : Prop := Claim7.holds Tryz.pinned (.plain (OpenSpec.ofChange tightLeastSpec)) tightLeastCard

/-- THE TIED CARD OF 'milestonelaw24.TightAny'. -/
def tightAnyCard : Claim7 := { stood := { row := tightAnyRow, standIns := [], harness := (true, "375632d65b20221498c40d8210a3fc8dd6ea2eabb19bc1618b8b0d9eb617d7f9"), looks := true }, kinds := [], alts := [], laidByText := true, laidKinds := [.handle], laidTests := true, laidLooks := .later }
def TightAnyCardSaid : Prop := Claim7.holds Tryz.pinned (.plain (OpenSpec.ofChange tightAnySpec)) tightAnyCard

/-- THE TIED CARD OF 'milestonelaw24.TightKnown'. -/
def tightKnownCard : Claim7 := { stood := { row := tightKnownRow, standIns := [], harness := (true, "375632d65b20221498c40d8210a3fc8dd6ea2eabb19bc1618b8b0d9eb617d7f9"), looks := true }, kinds := [], alts := [], laidByText := true, laidKinds := [.handle], laidTests := true, laidLooks := .later }
def TightKnownCardSaid : Prop := Claim7.holds Tryz.pinned (.plain (OpenSpec.ofChange tightKnownSpec)) tightKnownCard

/-- THE TIED CARD OF 'milestonelaw24.TightTells'. -/
def tightTellsCard : Claim7 := { stood := { row := tightTellsRow, standIns := [], harness := (true, "375632d65b20221498c40d8210a3fc8dd6ea2eabb19bc1618b8b0d9eb617d7f9"), looks := true }, kinds := [], alts := [], laidByText := true, laidKinds := [.handle], laidTests := true, laidLooks := .later }
def TightTellsCardSaid : Prop := Claim7.holds Tryz.pinned (.plain (OpenSpec.ofChange tightTellsSpec)) tightTellsCard

/-- THE TIED CARD OF 'milestonelaw24.TightWalks'. -/
def tightWalksCard : Claim7 := { stood := { row := tightWalksRow, standIns := [], harness := (true, "375632d65b20221498c40d8210a3fc8dd6ea2eabb19bc1618b8b0d9eb617d7f9"), looks := true }, kinds := [], alts := [], laidByText := true, laidKinds := [.handle], laidTests := true, laidLooks := .later }
def TightWalksCardSaid : Prop := Claim7.holds Tryz.pinned (.plain (OpenSpec.ofChange tightWalksSpec)) tightWalksCard

/-- THE SECOND FORM's CARD OF 'milestonelaw24.TightLeast'. -/
def tightLeastUptoCard : Claim7 := { stood := { row := tightLeastUptoRow, standIns := [], harness := (true, "375632d65b20221498c40d8210a3fc8dd6ea2eabb19bc1618b8b0d9eb617d7f9"), looks := true }, kinds := [], alts := [], laidByText := true, laidKinds := [.handle], laidTests := true, laidLooks := .later }
def TightLeastUptoCardSaid : Prop := Claim7.holds Tryz.pinned (.plain (OpenSpec.upto tightLeastSpec)) tightLeastUptoCard

/-- THE SECOND FORM's CARD OF 'milestonelaw24.TightAny'. -/
def tightAnyUptoCard : Claim7 := { stood := { row := tightAnyUptoRow, standIns := [], harness := (true, "375632d65b20221498c40d8210a3fc8dd6ea2eabb19bc1618b8b0d9eb617d7f9"), looks := true }, kinds := [], alts := [], laidByText := true, laidKinds := [.handle], laidTests := true, laidLooks := .later }
def TightAnyUptoCardSaid : Prop := Claim7.holds Tryz.pinned (.plain (OpenSpec.upto tightAnySpec)) tightAnyUptoCard

/-- THE SECOND FORM's CARD OF 'milestonelaw24.TightKnown'. -/
def tightKnownUptoCard : Claim7 := { stood := { row := tightKnownUptoRow, standIns := [], harness := (true, "375632d65b20221498c40d8210a3fc8dd6ea2eabb19bc1618b8b0d9eb617d7f9"), looks := true }, kinds := [], alts := [], laidByText := true, laidKinds := [.handle], laidTests := true, laidLooks := .later }
def TightKnownUptoCardSaid : Prop := Claim7.holds Tryz.pinned (.plain (OpenSpec.upto tightKnownSpec)) tightKnownUptoCard

/-- THE SECOND FORM's CARD OF 'milestonelaw24.TightTells'. -/
def tightTellsUptoCard : Claim7 := { stood := { row := tightTellsUptoRow, standIns := [], harness := (true, "375632d65b20221498c40d8210a3fc8dd6ea2eabb19bc1618b8b0d9eb617d7f9"), looks := true }, kinds := [], alts := [], laidByText := true, laidKinds := [.handle], laidTests := true, laidLooks := .later }
def TightTellsUptoCardSaid : Prop := Claim7.holds Tryz.pinned (.plain (OpenSpec.upto tightTellsSpec)) tightTellsUptoCard

/-- THE SECOND FORM's CARD OF 'milestonelaw24.TightWalks'. -/
def tightWalksUptoCard : Claim7 := { stood := { row := tightWalksUptoRow, standIns := [], harness := (true, "375632d65b20221498c40d8210a3fc8dd6ea2eabb19bc1618b8b0d9eb617d7f9"), looks := true }, kinds := [], alts := [], laidByText := true, laidKinds := [.handle], laidTests := true, laidLooks := .later }
def TightWalksUptoCardSaid : Prop := Claim7.holds Tryz.pinned (.plain (OpenSpec.upto tightWalksSpec)) tightWalksUptoCard
end Rows
end Go.Proofs.YtlkcpceobicoiaaGreatDoor
