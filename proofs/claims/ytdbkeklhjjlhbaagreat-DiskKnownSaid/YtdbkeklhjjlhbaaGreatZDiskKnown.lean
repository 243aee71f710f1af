/- The law 'DiskKnown' of the document's layer holds for every input: the function returns true, and leaves its arguments as they were. The listed package-level variable is never read. -/
import Derived.Test.YtdbkeklhjjlhbaaGreatTb
import Derived.Test.YtdbkeklhjjlhbaaGreatMd
import Derived.Test.YtdbkeklhjjlhbaaGreatRows
import Derived.LaidMore
import Derived.LaidHandle
import Derived.LaidLaws
import Derived.SevenTiedAt
set_option linter.unusedVariables false
set_option linter.unusedSimpArgs false
set_option linter.unusedSectionVars false

namespace Go.Proofs.YtdbkeklhjjlhbaaGreat
open Go Go.Mh Go.ChangeShapes
set_option linter.unusedVariables false
set_option maxRecDepth 100000

theorem diskKnown_lifted (os : Os) (started : os.Started) (H : Type) (enc : TypeId × Value → H) :
    ReturnsInHanded {} Tryz.checked os 7 .any (Rows.diskKnownSpec.pre6 enc Tryz.prog Tryz.f7 Rows.diskKnownRow.domain false) (Rows.diskKnownSpec.post enc Tryz.prog Tryz.f7 false true false false) := by
  refine law_lifted (C := Tryz.checked) (tb := 4) (by kernel_rfl) started (by kernel_rfl) Tryz.func7
    (ChangeSpec.witness6 (enc := enc) (C := Tryz.checked) false ⟨#[], #[], []⟩ 8 (by kernel_rfl) (by kernel_rfl) (by kernel_rfl) (by kernel_rfl))
    rfl (by kernel_rfl) (by kernel_rfl) ?_ (kids_rows (by kernel_rfl) (by kernel_rfl)) (slices_full_of Tryz.prog (by kernel_rfl)) (by decide +kernel) ?_
  · intro ds hl
    have : ds = [] := List.eq_nil_of_length_eq_zero (by rw [hl]; decide +kernel)
    subst this; rfl
  · intro W base args ds ps hval hA _
    rw [show Tryz.f7.params.toList = [] by kernel_rfl] at hA
    obtain ⟨rfl, _, _⟩ := trodAll_none hA
    exact diskKnown_ok fun h' hx => ⟨rfl, hx⟩

theorem diskKnown_holds : Rows.DiskKnownSaid :=
  OpenClaim.holds_of_wide 7 Tryz.f7 rfl rfl rfl rfl rfl rfl rfl ⟨rfl, rfl, rfl, rfl, rfl⟩ rfl rfl rfl rfl rfl (by kernel_rfl) Tryz.func7 (by kernel_rfl)
    (of_decide_eq_true (by kernel_rfl)) (by unfold Func.isWrapper; first | (rw [if_pos (by decide +kernel)]; kernel_rfl) | (rw [if_neg (by decide +kernel)]; exact ⟨rfl, rfl⟩))
    (fun os started H enc _ => diskKnown_lifted os started H enc)

end Go.Proofs.YtdbkeklhjjlhbaaGreat
