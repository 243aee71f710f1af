/- A text of the proofs of seat Ytdpofmalgemcdaa: 'HeapBase'. It has no condition of its own. -/
import Derived.Test.YtdpofmalgemcdaaMhWrap
import Derived.Test.YtdpofmalgemcdaaMhView
import Derived.Test.YtdpofmalgemcdaaRows
set_option linter.unusedVariables false
set_option linter.unusedSimpArgs false
namespace Go.Proofs.Ytdpofmalgemcdaa
open Go Go.Mh

theorem Try.own : ownKnob Try.prog.godebug = none := by kernel_rfl
theorem Try.kids : Kids Try.prog (· < Try.prog.types.size) := kids_rows (by kernel_rfl) (by kernel_rfl)
theorem Try.full : ∀ t e, t < Try.prog.types.size → Try.prog.underlying t = some (.slice e) → 0 < Try.prog.cellsOf e := slices_full_of Try.prog (by kernel_rfl)

end Go.Proofs.Ytdpofmalgemcdaa
