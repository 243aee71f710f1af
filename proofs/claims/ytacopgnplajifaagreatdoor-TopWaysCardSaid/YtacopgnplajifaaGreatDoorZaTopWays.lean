/- Lemmas on the way to the law of this seat, joined. They have no conditions of their own. -/
import Derived.Test.YtacopgnplajifaaGreatDoorTe
import Derived.Test.YtacopgnplajifaaGreatDoorMd
import Derived.Test.YtacopgnplajifaaGreatDoorRows
import Derived.Test.YtacopgnplajifaaGreatDoorTie
import Derived.Test.YtacopgnplajifaaGreatDoorCards
import Derived.LaidMore
import Derived.LaidHandle
import Derived.LaidLaws
import Derived.SevenTiedAt
set_option linter.unusedVariables false
set_option linter.unusedSimpArgs false
set_option linter.unusedSectionVars false
set_option linter.defProp false
set_option maxRecDepth 100000

namespace Go.Proofs.YtacopgnplajifaaGreatDoor
open Go Go.Mh Go.Proofs.Tryz Go.ChangeShapes
def apS:Kids prog (· <prog.types.size):=kids_rows bn bn
def apT(os:Os):((World.doorLaid prog 16 os).forCall (λ_ _=>0) ⟨#[],#[.agg #[.slice none 0 0,.int .u8 0,.bool false,.slice none 0 0,.int .u8 0,.int .u8 0],.agg #[.int .u8 0,.int .u8 0],.int .i8 0],[]⟩).Shaped prog:=World.shaped_of_RefB bn bn
def apU(os:Os):laidMetH prog Rows.topWaysRow.laid ((World.doorLaid prog 16 os).forCall (λ_ _=>0) ⟨#[],#[.agg #[.slice none 0 0,.int .u8 0,.bool false,.slice none 0 0,.int .u8 0,.int .u8 0],.agg #[.int .u8 0,.int .u8 0],.int .i8 0],[]⟩).memory:=laidMetH_of_parts3 (fuel:=8) (laidMet_of_run' 8 bn bn) bn bn
def apW:laidOutB prog=true:=bn
def apX:mapsRowed prog=true:=bn
def apY:(Rows.topWaysRow.inPlace==prog.inPlace 3)=true:=bn
def apZ:(Rows.topWaysRow.unfollowed==prog.unfollowed 3)=true:=bn
def ap0:(Rows.topWaysRow.recurses==prog.recurses 3)=true:=bn
def ap1:(Rows.topWaysRow.named==prog.varsNamed 3)=true:=bn
def ap2:prog.stopsHeard=true:=bn
def ap3:prog.mayEnter=true:=bn
def ap4:joinedFacts prog 3 f3 Rows.topWaysSpec Rows.topWaysRow=true:=by
 unfold joinedFacts;rw[apW,apX,apY,apZ,ap0,ap1,ap2,ap3]
 kernel_rfl
end Go.Proofs.YtacopgnplajifaaGreatDoor
