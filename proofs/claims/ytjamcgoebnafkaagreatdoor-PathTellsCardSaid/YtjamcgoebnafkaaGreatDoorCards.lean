/-
  DERIVED. GIVEN WITH THE SEED: THE CARDS: each row of YtjamcgoebnafkaaGreatDoorRows.lean that lists a variable, with what it lists TIED to the program's text (the seventh form; the later family's looks); each row that meets fmt, with fmt's text TOLD by the authors' own Lean function (tested against real Go, not proved from fmt's source: count such statements apart). THE CARD IS WHAT COUNTS. Prove the row's statement (the work); the ties are given (YtjamcgoebnafkaaGreatDoorTie.lean); close each card by the builder's one call (the guide's Derived/Test/ToyasCard.lean, 'card_holds'). Laid BY PROGRAM, IN A SANDBOX (cutbox-door.mjs). By AI agents, Wed Nov 11 2026. No macro, syntax, notation, axiom, sorry.
-/
import Derived.Test.YtjamcgoebnafkaaGreatDoorRows
import GoSem.ClaimSeven
namespace Go.Proofs.YtjamcgoebnafkaaGreatDoor
namespace Rows

/-- THE TIED CARD OF 'milestonelaw11.PathTells'. -/
def pathTellsCard : Claim7 := { stood := { row := pathTellsRow, standIns := [], harness := (true, "52bc228fd74df1e66a08d22f4956209ab1176173da1a016b3648671d23c0467f"), looks := true }, kinds := [], alts := [], laidByText := true, laidKinds := [.handle], laidTests := true, laidLooks := .later }
def PathTellsCardSaid : Prop := Claim7.holds Tryz.pinned (.plain (OpenSpec.ofChange pathTellsSpec)) pathTellsCard

/-- THE TIED CARD OF 'milestonelaw11.PathKnown'. -/
def pathKnownCard : Claim7 := { stood := { row := pathKnownRow, standIns := [], harness := (true, "52bc228fd74df1e66a08d22f4956209ab1176173da1a016b3648671d23c0467f"), looks := true }, kinds := [], alts := [], laidByText := true, laidKinds := [.handle], laidTests := true, laidLooks := .later }
def PathKnownCardSaid : Prop := Claim7.holds Tryz.pinned (.plain (OpenSpec.ofChange pathKnownSpec)) pathKnownCard

/-- THE TIED CARD OF 'milestonelaw11.PathPrefix'. -/
def pathPrefixCard : Claim7 := { stood := { row := pathPrefixRow, standIns := [], harness := (true, "52bc228fd74df1e66a08d22f4956209ab1176173da1a016b3648671d23c0467f"), looks := true }, kinds := [], alts := [], laidByText := true, laidKinds := [.handle], laidTests := true, laidLooks := .later }
def PathPrefixCardSaid : Prop := Claim7.holds Tryz.pinned (.plain (OpenSpec.ofChange pathPrefixSpec)) pathPrefixCard

/-- THE TIED CARD OF 'milestonelaw11.PathMeets'. -/
def pathMeetsCard : Claim7 := { stood := { row := pathMeetsRow, standIns := [], harness := (true, "52bc228fd74df1e66a08d22f4956209ab1176173da1a016b3648671d23c0467f"), looks := true }, kinds := [], alts := [], laidByText := true, laidKinds := [.handle], laidTests := true, laidLooks := .later }
def PathMeetsCardSaid : Prop := Claim7.holds Tryz.pinned (.plain (OpenSpec.ofChange pathMeetsSpec)) pathMeetsCard

/-- THE TIED CARD OF 'milestonelaw11.PathLeast'. -/
def pathLeastCard : Claim7 := { stood := { row := pathLeastRow, standIns := [], harness := (true, "52bc228fd74df1e66a08d22f4956209ab1176173da1a016b3648671d23c0467f"), looks := true }, kinds := [], alts := [], laidByText := true, laidKinds := [.handle], laidTests := true, laidLooks := .later }
def PathLeastCardSaid : Prop := Claim7.holds Tryz.pinned (.plain (OpenSpec.ofChange pathLeastSpec)) pathLeastCard

/-- THE SECOND FORM's CARD OF 'milestonelaw11.PathTells'. -/
def pathTellsUptoCard : Claim7 := { stood := { row := pathTellsUptoRow, standIns := [], harness := (true, "52bc228fd74df1e66a08d22f4956209ab1176173da1a016b3648671d23c0467f"), looks := true }, kinds := [], alts := [], laidByText := true, laidKinds := [.handle], laidTests := true, laidLooks := .later }
def PathTellsUptoCardSaid : Prop := Claim7.holds Tryz.pinned (.plain (OpenSpec.upto pathTellsSpec)) pathTellsUptoCard

/-- THE SECOND FORM's CARD OF 'milestonelaw11.PathKnown'. -/
def pathKnownUptoCard : Claim7 := { stood := { row := pathKnownUptoRow, standIns := [], harness := (true, "52bc228fd74df1e66a08d22f4956209ab1176173da1a016b3648671d23c0467f"), looks := true }, kinds := [], alts := [], laidByText := true, laidKinds := [.handle], laidTests := true, laidLooks := .later }
def PathKnownUptoCardSaid : Prop := Claim7.holds Tryz.pinned (.plain (OpenSpec.upto pathKnownSpec)) pathKnownUptoCard

/-- THE SECOND FORM's CARD OF 'milestonelaw11.PathPrefix'. -/
def pathPrefixUptoCard : Claim7 := { stood := { row := pathPrefixUptoRow, standIns := [], harness := (true, "52bc228fd74df1e66a08d22f4956209ab1176173da1a016b3648671d23c0467f"), looks := true }, kinds := [], alts := [], laidByText := true, laidKinds := [.handle], laidTests := true, laidLooks := .later }
def PathPrefixUptoCardSaid : Prop := Claim7.holds Tryz.pinned (.plain (OpenSpec.upto pathPrefixSpec)) pathPrefixUptoCard

/-- THE SECOND FORM's CARD OF 'milestonelaw11.PathMeets'. -/
def pathMeetsUptoCard : Claim7 := { stood := { row := pathMeetsUptoRow, standIns := [], harness := (true, "52bc228fd74df1e66a08d22f4956209ab1176173da1a016b3648671d23c0467f"), looks := true }, kinds := [], alts := [], laidByText := true, laidKinds := [.handle], laidTests := true, laidLooks := .later }
def PathMeetsUptoCardSaid : Prop := Claim7.holds Tryz.pinned (.plain (OpenSpec.upto pathMeetsSpec)) pathMeetsUptoCard

/-- THE SECOND FORM's CARD OF 'milestonelaw11.PathLeast'. -/
def pathLeastUptoCard : Claim7 := { stood := { row := pathLeastUptoRow, standIns := [], harness := (true, "52bc228fd74df1e66a08d22f4956209ab1176173da1a016b3648671d23c0467f"), looks := true }, kinds := [], alts := [], laidByText := true, laidKinds := [.handle], laidTests := true, laidLooks := .later }
def PathLeastUptoCardSaid : Prop := Claim7.holds Tryz.pinned (.plain (OpenSpec.upto pathLeastSpec)) pathLeastUptoCard
end Rows
end Go.Proofs.YtjamcgoebnafkaaGreatDoor
