/- The law 'StoreKnown' of the document's layer holds for every input: the function returns true, and leaves its arguments as they were. The listed package-level variable is never read. -/
import Derived.Test.YtleaknaadodjeaaTb
import Derived.Test.YtleaknaadodjeaaMd
import Derived.Test.YtleaknaadodjeaaRows
import Derived.LaidMore
import Derived.LaidHandle
import Derived.LaidLaws
import Derived.SevenTiedAt
set_option linter.unusedVariables false
set_option linter.unusedSimpArgs false
set_option linter.unusedSectionVars false

namespace Go.Proofs.Ytleaknaadodjeaa
open Go Go.Mh Go.ChangeShapes
set_option linter.unusedVariables false
set_option maxRecDepth 100000

theorem storeKnown_lifted (os : Os) (started : os.Started) (H : Type) (enc : TypeId × Value → H) :
    ReturnsInHanded {} Try.checked os 3 .any (Rows.storeKnownSpec.pre6 enc Try.prog Try.f3 Rows.storeKnownRow.domain false) (Rows.storeKnownSpec.post enc Try.prog Try.f3 false true false false) := by
  refine law_lifted (C := Try.checked) (tb := 4) (by kernel_rfl) started (by kernel_rfl) Try.func3
    (ChangeSpec.witness6 (enc := enc) (C := Try.checked) false ⟨#[], #[], []⟩ 8 (by kernel_rfl) (by kernel_rfl) (by kernel_rfl) (by kernel_rfl))
    rfl (by kernel_rfl) (by kernel_rfl) ?_ (kids_rows (by kernel_rfl) (by kernel_rfl)) (slices_full_of Try.prog (by kernel_rfl)) (by decide +kernel) ?_
  · intro ds hl
    have : ds = [] := List.eq_nil_of_length_eq_zero (by rw [hl]; decide +kernel)
    subst this; rfl
  · intro W base args ds ps hval hA _
    rw [show Try.f3.params.toList = [] by kernel_rfl] at hA
    obtain ⟨rfl, _, _⟩ := trodAll_none hA
    exact storeKnown_ok fun h' hx => ⟨rfl, hx⟩

theorem storeKnown_holds : Rows.StoreKnownSaid :=
  OpenClaim.holds_of_wide 3 Try.f3 rfl rfl rfl rfl rfl rfl rfl ⟨rfl, rfl, rfl, rfl, rfl⟩ rfl rfl rfl rfl rfl (by kernel_rfl) Try.func3 (by kernel_rfl)
    (of_decide_eq_true (by kernel_rfl)) (by unfold Func.isWrapper; first | (rw [if_pos (by decide +kernel)]; kernel_rfl) | (rw [if_neg (by decide +kernel)]; exact ⟨rfl, rfl⟩))
    (fun os started H enc _ => storeKnown_lifted os started H enc)

end Go.Proofs.Ytleaknaadodjeaa
