/- The law 'StorePlays' of the document's layer holds for every input: the function returns true, and leaves its arguments as they were. The listed package-level variable is never read. -/
import Derived.Test.YtleaknaadodjeaaGreatTc
import Derived.Test.YtleaknaadodjeaaGreatMd
import Derived.Test.YtleaknaadodjeaaGreatRows
import Derived.LaidMore
import Derived.LaidHandle
import Derived.LaidLaws
import Derived.SevenTiedAt
set_option linter.unusedVariables false
set_option linter.unusedSimpArgs false
set_option linter.unusedSectionVars false

namespace Go.Proofs.YtleaknaadodjeaaGreat
open Go Go.Mh Go.ChangeShapes
set_option linter.unusedVariables false
set_option maxRecDepth 100000

theorem storePlays_lifted (os : Os) (started : os.Started) (H : Type) (enc : TypeId × Value → H) :
    ReturnsInHanded {} Tryz.checked os 3 .any (Rows.storePlaysSpec.pre6 enc Tryz.prog Tryz.f3 Rows.storePlaysRow.domain false) (Rows.storePlaysSpec.post enc Tryz.prog Tryz.f3 false true false false) := by
  refine law_lifted (C := Tryz.checked) (tb := 4) (by kernel_rfl) started (by kernel_rfl) Tryz.func3
    (ChangeSpec.witness6 (enc := enc) (C := Tryz.checked) false ⟨#[], #[.slice none 0 0], []⟩ 8 (by kernel_rfl) (by kernel_rfl) (by kernel_rfl) (by kernel_rfl))
    rfl (by kernel_rfl) (by kernel_rfl) ?_ (kids_rows (by kernel_rfl) (by kernel_rfl)) (slices_full_of Tryz.prog (by kernel_rfl)) (by decide +kernel) ?_
  · intro ds hl
    rw [show Tryz.f3.params.toList = [22] by kernel_rfl] at hl
    match ds, hl with
    | [a], _ => rfl
  · intro W base args ds ps hval hA _
    rw [show Tryz.f3.params.toList = [22] by kernel_rfl] at hA
    obtain ⟨v0, d0, rfl, rfl, h0⟩ := trodAll_one hA
    obtain ⟨bl0, xs0, hv0, hr0, hl0⟩ := view_of (enc := encSt) (n := 5) (ok := okSt W) (fun _ => rfl) (e := 33) (by kernel_rfl) (by kernel_rfl) (by decide) (dec_st (t0 := 5) (t1 := 30) (t2 := 31) (t3 := 5) (t4 := 30) (te := 5) (tf := 5) (by kernel_rfl) (by kernel_rfl) (by kernel_rfl) (by kernel_rfl) (by kernel_rfl) (by kernel_rfl) (by kernel_rfl) (by kernel_rfl) (by kernel_rfl) (by kernel_rfl) (by kernel_rfl) (by kernel_rfl) (by kernel_rfl) (by kernel_rfl) (by kernel_rfl) (by kernel_rfl) (by kernel_rfl) (by kernel_rfl) (by kernel_rfl) (by kernel_rfl)) (hval 0 22 v0 (by kernel_rfl) rfl) h0
    exact (by obtain ⟨ys, ey, hy⟩ := stacts_of hr0; subst ey; exact storePlays_ok ⟨_, hv0⟩ hy fun h' hx => ⟨rfl, hx⟩)

theorem storePlays_holds : Rows.StorePlaysSaid :=
  OpenClaim.holds_of_wide 3 Tryz.f3 rfl rfl rfl rfl rfl rfl rfl ⟨rfl, rfl, rfl, rfl, rfl⟩ rfl rfl rfl rfl rfl (by kernel_rfl) Tryz.func3 (by kernel_rfl)
    (of_decide_eq_true (by kernel_rfl)) (by unfold Func.isWrapper; first | (rw [if_pos (by decide +kernel)]; kernel_rfl) | (rw [if_neg (by decide +kernel)]; exact ⟨rfl, rfl⟩))
    (fun os started H enc _ => storePlays_lifted os started H enc)

end Go.Proofs.YtleaknaadodjeaaGreat
