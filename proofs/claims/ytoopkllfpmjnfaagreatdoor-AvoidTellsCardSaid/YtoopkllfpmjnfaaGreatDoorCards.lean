/-
  DERIVED. GIVEN WITH THE SEED: THE CARDS: each row of YtoopkllfpmjnfaaGreatDoorRows.lean that lists a variable, with what it lists TIED to the program's text (the seventh form; the later family's looks); each row that meets fmt, with fmt's text TOLD by the authors' own Lean function (tested against real Go, not proved from fmt's source: count such statements apart). THE CARD IS WHAT COUNTS. Prove the row's statement (the work); the ties are given (YtoopkllfpmjnfaaGreatDoorTie.lean); close each card by the builder's one call (the guide's Derived/Test/ToyasCard.lean, 'card_holds'). Laid BY PROGRAM, IN A SANDBOX (cutbox-door.mjs). By AI agents, Wed Nov 11 2026. No macro, syntax, notation, axiom, sorry.
-/
import Derived.Test.YtoopkllfpmjnfaaGreatDoorRows
import GoSem.ClaimSeven
namespace Go.Proofs.YtoopkllfpmjnfaaGreatDoor
namespace Rows

/-- THE TIED CARD OF 'milestonelaw16.AvoidTells'. -/
def avoidTellsCard : Claim7 := { stood := { row := avoidTellsRow, standIns := [], harness := (true, "837a735a96656e37371b8ade3df17786783cf7aee1c05738db2710b7324e39c9"), looks := true }, kinds := [], alts := [], laidByText := true, laidKinds := [.handle], laidTests := true, laidLooks := .later }
def AvoidTellsCardSaid : Prop := Claim7.holds Tryz.pinned (.plain (OpenSpec.ofChange avoidTellsSpec)) avoidTellsCard

/-- THE TIED CARD OF 'milestonelaw16.AvoidBounds'. -/
def avoidBoundsCard : Claim7 := { stood := { row := avoidBoundsRow, standIns := [], harness := (true, "837a735a96656e37371b8ade3df17786783cf7aee1c05738db2710b7324e39c9"), looks := true }, kinds := [], alts := [], laidByText := true, laidKinds := [.handle], laidTests := true, laidLooks := .later }
def AvoidBoundsCardSaid : Prop := Claim7.holds Tryz.pinned (.plain (OpenSpec.ofChange avoidBoundsSpec)) avoidBoundsCard

/-- THE TIED CARD OF 'milestonelaw16.AvoidGains'. -/
def avoidGainsCard : Claim7 := { stood := { row := avoidGainsRow, standIns := [], harness := (true, "837a735a96656e37371b8ade3df17786783cf7aee1c05738db2710b7324e39c9"), looks := true }, kinds := [], alts := [], laidByText := true, laidKinds := [.handle], laidTests := true, laidLooks := .later }
def AvoidGainsCardSaid : Prop := Claim7.holds Tryz.pinned (.plain (OpenSpec.ofChange avoidGainsSpec)) avoidGainsCard

/-- THE TIED CARD OF 'milestonelaw16.AvoidKnown'. -/
def avoidKnownCard : Claim7 := { stood := { row := avoidKnownRow, standIns := [], harness := (true, "837a735a96656e37371b8ade3df17786783cf7aee1c05738db2710b7324e39c9"), looks := true }, kinds := [], alts := [], laidByText := true, laidKinds := [.handle], laidTests := true, laidLooks := .later }
def AvoidKnownCardSaid : Prop := Claim7.holds Tryz.pinned (.plain (OpenSpec.ofChange avoidKnownSpec)) avoidKnownCard

/-- THE SECOND FORM's CARD OF 'milestonelaw16.AvoidTells'. -/
def avoidTellsUptoCard : Claim7 := { stood := { row := avoidTellsUptoRow, standIns := [], harness := (true, "837a735a96656e37371b8ade3df17786783cf7aee1c05738db2710b7324e39c9"), looks := true }, kinds := [], alts := [], laidByText := true, laidKinds := [.handle], laidTests := true, laidLooks := .later }
def AvoidTellsUptoCardSaid : Prop := Claim7.holds Tryz.pinned (.plain (OpenSpec.upto avoidTellsSpec)) avoidTellsUptoCard

/-- THE SECOND FORM's CARD OF 'milestonelaw16.AvoidBounds'. -/
def avoidBoundsUptoCard : Claim7 := { stood := { row := avoidBoundsUptoRow, standIns := [], harness := (true, "837a735a96656e37371b8ade3df17786783cf7aee1c05738db2710b7324e39c9"), looks := true }, kinds := [], alts := [], laidByText := true, laidKinds := [.handle], laidTests := true, laidLooks := .later }
def AvoidBoundsUptoCardSaid : Prop := Claim7.holds Tryz.pinned (.plain (OpenSpec.upto avoidBoundsSpec)) avoidBoundsUptoCard

/-- THE SECOND FORM's CARD OF 'milestonelaw16.AvoidGains'. -/
def avoidGainsUptoCard : Claim7 := { stood := { row := avoidGainsUptoRow, standIns := [], harness := (true, "837a735a96656e37371b8ade3df17786783cf7aee1c05738db2710b7324e39c9"), looks := true }, kinds := [], alts := [], laidByText := true, laidKinds := [.handle], laidTests := true, laidLooks := .later }
def AvoidGainsUptoCardSaid : Prop := Claim7.holds Tryz.pinned (.plain (OpenSpec.upto avoidGainsSpec)) avoidGainsUptoCard

/-- THE SECOND FORM's CARD OF 'milestonelaw16.AvoidKnown'. -/
def avoidKnownUptoCard : Claim7 := { stood := { row := avoidKnownUptoRow, standIns := [], harness := (true, "837a735a96656e37371b8ade3df17786783cf7aee1c05738db2710b7324e39c9"), looks := true }, kinds := [], alts := [], laidByText := true, laidKinds := [.handle], laidTests := true, laidLooks := .later }
def AvoidKnownUptoCardSaid : Prop := Claim7.holds Tryz.pinned (.plain (OpenSpec.upto avoidKnownSpec)) avoidKnownUptoCard
end Rows
end Go.Proofs.YtoopkllfpmjnfaaGreatDoor
