/- The law 'DiskBeginning' of the document's layer holds for every input: the function returns true, and leaves its arguments as they were. The listed package-level variable is never read. -/
import Derived.Test.YtdbkeklhjjlhbaaGreatTb
import Derived.Test.YtdbkeklhjjlhbaaGreatMd
import Derived.Test.YtdbkeklhjjlhbaaGreatRows
import Derived.LaidMore
import Derived.LaidHandle
import Derived.LaidLaws
import Derived.SevenTiedAt
set_option linter.unusedVariables false
set_option linter.unusedSimpArgs false
set_option linter.unusedSectionVars false

namespace Go.Proofs.YtdbkeklhjjlhbaaGreat
open Go Go.Mh Go.ChangeShapes
set_option linter.unusedVariables false
set_option maxRecDepth 100000

theorem diskBeginning_lifted (os : Os) (started : os.Started) (H : Type) (enc : TypeId × Value → H) :
    ReturnsInHanded {} Tryz.checked os 6 .any (Rows.diskBeginningSpec.pre6 enc Tryz.prog Tryz.f6 Rows.diskBeginningRow.domain false) (Rows.diskBeginningSpec.post enc Tryz.prog Tryz.f6 false true false false) := by
  refine law_lifted (C := Tryz.checked) (tb := 4) (by kernel_rfl) started (by kernel_rfl) Tryz.func6
    (ChangeSpec.witness6 (enc := enc) (C := Tryz.checked) false ⟨#[], #[.slice none 0 0, .slice none 0 0], []⟩ 8 (by kernel_rfl) (by kernel_rfl) (by kernel_rfl) (by kernel_rfl))
    rfl (by kernel_rfl) (by kernel_rfl) ?_ (kids_rows (by kernel_rfl) (by kernel_rfl)) (slices_full_of Tryz.prog (by kernel_rfl)) (by decide +kernel) ?_
  · intro ds hl
    rw [show Tryz.f6.params.toList = [22, 24] by kernel_rfl] at hl
    match ds, hl with
    | [a, b], _ => rfl
  · intro W base args ds ps hval hA _
    rw [show Tryz.f6.params.toList = [22, 24] by kernel_rfl] at hA
    obtain ⟨v0, v1, d0, d1, p0, p1, rfl, rfl, rfl, h0, h1⟩ := trodAll_two hA
    obtain ⟨bl0, xs0, hv0, hr0, hl0⟩ := view_of (enc := encAct) (n := 6) (ok := okAct W) (fun _ => rfl) (e := 31) (by kernel_rfl) (by kernel_rfl) (by decide) (dec_act (t0 := 5) (t1 := 5) (t2 := 5) (t3 := 5) (t4 := 9) (t5 := 24) (te := 5) (by kernel_rfl) (by kernel_rfl) (by kernel_rfl) (by kernel_rfl) (by kernel_rfl) (by kernel_rfl) (by kernel_rfl) (by kernel_rfl) (by kernel_rfl) (by kernel_rfl) (by kernel_rfl) (by kernel_rfl) (by kernel_rfl) (by kernel_rfl) (by kernel_rfl) (by kernel_rfl) (by kernel_rfl) (by kernel_rfl) (by kernel_rfl) (by kernel_rfl) (by kernel_rfl)) (hval 0 22 v0 (by kernel_rfl) rfl) h0
    obtain ⟨bl1, xs1, hv1, hr1, hl1⟩ := view_of (enc := encU8) (n := 1) (ok := fun a => 0 ≤ a ∧ a ≤ 255) (fun _ => rfl) (e := 5) (by kernel_rfl) (by kernel_rfl) (by decide) (dec_int (k := .u8) (by kernel_rfl)) (hval 1 24 v1 (by kernel_rfl) rfl) h1
    exact (by obtain ⟨ys, ey, hy⟩ := acts_of hr0; subst ey; exact diskBeginning_ok ⟨_, hv0⟩ hy (.inl ⟨_, hv1⟩) hr1 fun h' hx => ⟨rfl, hx⟩)

theorem diskBeginning_holds : Rows.DiskBeginningSaid :=
  OpenClaim.holds_of_wide 6 Tryz.f6 rfl rfl rfl rfl rfl rfl rfl ⟨rfl, rfl, rfl, rfl, rfl⟩ rfl rfl rfl rfl rfl (by kernel_rfl) Tryz.func6 (by kernel_rfl)
    (of_decide_eq_true (by kernel_rfl)) (by unfold Func.isWrapper; first | (rw [if_pos (by decide +kernel)]; kernel_rfl) | (rw [if_neg (by decide +kernel)]; exact ⟨rfl, rfl⟩))
    (fun os started H enc _ => diskBeginning_lifted os started H enc)

end Go.Proofs.YtdbkeklhjjlhbaaGreat
