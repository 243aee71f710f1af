/- The law 'StoreLives' of the document's layer holds for every input: the function returns true, and leaves its arguments as they were. The listed package-level variable is never read. -/
import Derived.Test.YtleaknaadodjeaaTb
import Derived.Test.YtleaknaadodjeaaMd
import Derived.Test.YtleaknaadodjeaaRows
import Derived.LaidMore
import Derived.LaidHandle
import Derived.LaidLaws
import Derived.SevenTiedAt
set_option linter.unusedVariables false
set_option linter.unusedSimpArgs false
set_option linter.unusedSectionVars false

namespace Go.Proofs.Ytleaknaadodjeaa
open Go Go.Mh Go.ChangeShapes
set_option linter.unusedVariables false
set_option maxRecDepth 100000

theorem storeLives_lifted (os : Os) (started : os.Started) (H : Type) (enc : TypeId × Value → H) :
    ReturnsInHanded {} Try.checked os 4 .any (Rows.storeLivesSpec.pre6 enc Try.prog Try.f4 Rows.storeLivesRow.domain false) (Rows.storeLivesSpec.post enc Try.prog Try.f4 false true false false) := by
  refine law_lifted (C := Try.checked) (tb := 4) (by kernel_rfl) started (by kernel_rfl) Try.func4
    (ChangeSpec.witness6 (enc := enc) (C := Try.checked) false ⟨#[], #[.slice none 0 0], []⟩ 8 (by kernel_rfl) (by kernel_rfl) (by kernel_rfl) (by kernel_rfl))
    rfl (by kernel_rfl) (by kernel_rfl) ?_ (kids_rows (by kernel_rfl) (by kernel_rfl)) (slices_full_of Try.prog (by kernel_rfl)) (by decide +kernel) ?_
  · intro ds hl
    rw [show Try.f4.params.toList = [32] by kernel_rfl] at hl
    match ds, hl with
    | [a], _ => rfl
  · intro W base args ds ps hval hA _
    rw [show Try.f4.params.toList = [32] by kernel_rfl] at hA
    obtain ⟨v0, d0, rfl, rfl, h0⟩ := trodAll_one hA
    obtain ⟨bl0, xs0, hv0, hr0, hl0⟩ := view_of (enc := encSt) (n := 5) (ok := okSt W) (fun _ => rfl) (e := 36) (by kernel_rfl) (by kernel_rfl) (by decide) (dec_st (t0 := 5) (t1 := 28) (t2 := 34) (t3 := 5) (t4 := 28) (te := 5) (tf := 5) (by kernel_rfl) (by kernel_rfl) (by kernel_rfl) (by kernel_rfl) (by kernel_rfl) (by kernel_rfl) (by kernel_rfl) (by kernel_rfl) (by kernel_rfl) (by kernel_rfl) (by kernel_rfl) (by kernel_rfl) (by kernel_rfl) (by kernel_rfl) (by kernel_rfl) (by kernel_rfl) (by kernel_rfl) (by kernel_rfl) (by kernel_rfl) (by kernel_rfl)) (hval 0 32 v0 (by kernel_rfl) rfl) h0
    exact (by obtain ⟨ys, ey, hy⟩ := stacts_of hr0; subst ey; exact storeLives_ok ⟨_, hv0⟩ hy fun h' hx => ⟨rfl, hx⟩)

theorem storeLives_holds : Rows.StoreLivesSaid :=
  OpenClaim.holds_of_wide 4 Try.f4 rfl rfl rfl rfl rfl rfl rfl ⟨rfl, rfl, rfl, rfl, rfl⟩ rfl rfl rfl rfl rfl (by kernel_rfl) Try.func4 (by kernel_rfl)
    (of_decide_eq_true (by kernel_rfl)) (by unfold Func.isWrapper; first | (rw [if_pos (by decide +kernel)]; kernel_rfl) | (rw [if_neg (by decide +kernel)]; exact ⟨rfl, rfl⟩))
    (fun os started H enc _ => storeLives_lifted os started H enc)

end Go.Proofs.Ytleaknaadodjeaa
