/- The law 'DiskCopies' of the document's layer holds for every input: the function returns true, and leaves its arguments as they were. The listed package-level variable is never read. -/
import Derived.Test.YtdbkeklhjjlhbaaGreatTb
import Derived.Test.YtdbkeklhjjlhbaaGreatMd
import Derived.Test.YtdbkeklhjjlhbaaGreatRows
import Derived.LaidMore
import Derived.LaidHandle
import Derived.LaidLaws
import Derived.SevenTiedAt
set_option linter.unusedVariables false
set_option linter.unusedSimpArgs false
set_option linter.unusedSectionVars false

namespace Go.Proofs.YtdbkeklhjjlhbaaGreat
open Go Go.Mh Go.ChangeShapes
set_option linter.unusedVariables false
set_option maxRecDepth 100000

theorem diskCopies_lifted (os : Os) (started : os.Started) (H : Type) (enc : TypeId × Value → H) :
    ReturnsInHanded {} Tryz.checked os 4 .any (Rows.diskCopiesSpec.pre6 enc Tryz.prog Tryz.f4 Rows.diskCopiesRow.domain false) (Rows.diskCopiesSpec.post enc Tryz.prog Tryz.f4 false true false false) := by
  refine law_lifted (C := Tryz.checked) (tb := 4) (by kernel_rfl) started (by kernel_rfl) Tryz.func4
    (ChangeSpec.witness6 (enc := enc) (C := Tryz.checked) false ⟨#[], #[.slice none 0 0, .slice none 0 0, .slice none 0 0], []⟩ 8 (by kernel_rfl) (by kernel_rfl) (by kernel_rfl) (by kernel_rfl))
    rfl (by kernel_rfl) (by kernel_rfl) ?_ (kids_rows (by kernel_rfl) (by kernel_rfl)) (slices_full_of Tryz.prog (by kernel_rfl)) (by decide +kernel) ?_
  · intro ds hl
    rw [show Tryz.f4.params.toList = [22, 22, 24] by kernel_rfl] at hl
    match ds, hl with
    | [a, b, c], _ => rfl
  · intro W base args ds ps hval hA _
    rw [show Tryz.f4.params.toList = [22, 22, 24] by kernel_rfl] at hA
    obtain ⟨v0, v1, v2, d0, d1, d2, p0, p1, p2, rfl, rfl, rfl, h0, h1, h2⟩ := trodAll_three hA
    obtain ⟨bl0, xs0, hv0, hr0, hl0⟩ := view_of (enc := encAct) (n := 6) (ok := okAct W) (fun _ => rfl) (e := 31) (by kernel_rfl) (by kernel_rfl) (by decide) (dec_act (t0 := 5) (t1 := 5) (t2 := 5) (t3 := 5) (t4 := 9) (t5 := 24) (te := 5) (by kernel_rfl) (by kernel_rfl) (by kernel_rfl) (by kernel_rfl) (by kernel_rfl) (by kernel_rfl) (by kernel_rfl) (by kernel_rfl) (by kernel_rfl) (by kernel_rfl) (by kernel_rfl) (by kernel_rfl) (by kernel_rfl) (by kernel_rfl) (by kernel_rfl) (by kernel_rfl) (by kernel_rfl) (by kernel_rfl) (by kernel_rfl) (by kernel_rfl) (by kernel_rfl)) (hval 0 22 v0 (by kernel_rfl) rfl) h0
    obtain ⟨bl1, xs1, hv1, hr1, hl1⟩ := view_of (enc := encAct) (n := 6) (ok := okAct W) (fun _ => rfl) (e := 31) (by kernel_rfl) (by kernel_rfl) (by decide) (dec_act (t0 := 5) (t1 := 5) (t2 := 5) (t3 := 5) (t4 := 9) (t5 := 24) (te := 5) (by kernel_rfl) (by kernel_rfl) (by kernel_rfl) (by kernel_rfl) (by kernel_rfl) (by kernel_rfl) (by kernel_rfl) (by kernel_rfl) (by kernel_rfl) (by kernel_rfl) (by kernel_rfl) (by kernel_rfl) (by kernel_rfl) (by kernel_rfl) (by kernel_rfl) (by kernel_rfl) (by kernel_rfl) (by kernel_rfl) (by kernel_rfl) (by kernel_rfl) (by kernel_rfl)) (hval 1 22 v1 (by kernel_rfl) rfl) h1
    obtain ⟨bl2, xs2, hv2, hr2, hl2⟩ := view_of (enc := encU8) (n := 1) (ok := fun a => 0 ≤ a ∧ a ≤ 255) (fun _ => rfl) (e := 5) (by kernel_rfl) (by kernel_rfl) (by decide) (dec_int (k := .u8) (by kernel_rfl)) (hval 2 24 v2 (by kernel_rfl) rfl) h2
    exact (by obtain ⟨ys, ey, hy⟩ := acts_of hr0; obtain ⟨zs, ez, hz⟩ := acts_of hr1; subst ey ez; exact diskCopies_ok ⟨_, hv0⟩ hy ⟨_, hv1⟩ hz (.inl ⟨_, hv2⟩) hr2 fun h' hx => ⟨rfl, hx⟩)

theorem diskCopies_holds : Rows.DiskCopiesSaid :=
  OpenClaim.holds_of_wide 4 Tryz.f4 rfl rfl rfl rfl rfl rfl rfl ⟨rfl, rfl, rfl, rfl, rfl⟩ rfl rfl rfl rfl rfl (by kernel_rfl) Tryz.func4 (by kernel_rfl)
    (of_decide_eq_true (by kernel_rfl)) (by unfold Func.isWrapper; first | (rw [if_pos (by decide +kernel)]; kernel_rfl) | (rw [if_neg (by decide +kernel)]; exact ⟨rfl, rfl⟩))
    (fun os started H enc _ => diskCopies_lifted os started H enc)

end Go.Proofs.YtdbkeklhjjlhbaaGreat
