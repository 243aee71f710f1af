/- The law 'DiskKeeps' of the document's layer holds for every input: the function returns true, and leaves its arguments as they were. The listed package-level variable is never read. -/
import Derived.Test.YtdbkeklhjjlhbaaGreatTb
import Derived.Test.YtdbkeklhjjlhbaaGreatMd
import Derived.Test.YtdbkeklhjjlhbaaGreatRows
import Derived.LaidMore
import Derived.LaidHandle
import Derived.LaidLaws
import Derived.SevenTiedAt
set_option linter.unusedVariables false
set_option linter.unusedSimpArgs false
set_option linter.unusedSectionVars false

namespace Go.Proofs.YtdbkeklhjjlhbaaGreat
open Go Go.Mh Go.ChangeShapes
set_option linter.unusedVariables false
set_option maxRecDepth 100000

theorem diskKeeps_lifted (os : Os) (started : os.Started) (H : Type) (enc : TypeId × Value → H) :
    ReturnsInHanded {} Tryz.checked os 3 .any (Rows.diskKeepsSpec.pre6 enc Tryz.prog Tryz.f3 Rows.diskKeepsRow.domain false) (Rows.diskKeepsSpec.post enc Tryz.prog Tryz.f3 false true false false) := by
  refine law_lifted (C := Tryz.checked) (tb := 4) (by kernel_rfl) started (by kernel_rfl) Tryz.func3
    (ChangeSpec.witness6 (enc := enc) (C := Tryz.checked) false ⟨#[], #[.agg #[.slice none 0 0, .slice none 0 0], .string ⟨#[]⟩, .slice none 0 0], []⟩ 8 (by kernel_rfl) (by kernel_rfl) (by kernel_rfl) (by kernel_rfl))
    rfl (by kernel_rfl) (by kernel_rfl) ?_ (kids_rows (by kernel_rfl) (by kernel_rfl)) (slices_full_of Tryz.prog (by kernel_rfl)) (by decide +kernel) ?_
  · intro ds hl
    rw [show Tryz.f3.params.toList = [23, 9, 24] by kernel_rfl] at hl
    match ds, hl with
    | [a, b, c], _ => rfl
  · intro W base args ds ps hval hA _
    rw [show Tryz.f3.params.toList = [23, 9, 24] by kernel_rfl] at hA
    obtain ⟨v0, v1, v2, d0, d1, d2, p0, p1, p2, rfl, rfl, rfl, h0, h1, h2⟩ := trodAll_three hA
    obtain ⟨cs0, rfl, hl0, O0⟩ := agg_of (n := 2) (by kernel_rfl) (by kernel_rfl) (hval 0 23 v0 (by kernel_rfl) rfl) h0
    obtain ⟨c0_0, c0_1, rfl⟩ := len2 hl0
    have O0_0 := Opn.elem (m := 2) (e := 22) (n := 1) O0 0 (cs' := [c0_0]) (by kernel_rfl) (by decide) (by kernel_rfl) rfl
    have O0_1 := Opn.elem (m := 2) (e := 22) (n := 1) O0 1 (cs' := [c0_1]) (by kernel_rfl) (by decide) (by kernel_rfl) rfl
    obtain ⟨bl0_0, xs0_0, hv0_0, hr0_0, hl0_0⟩ := Opn.view (enc := encAct) (n := 6) (ok := okAct W) (fun _ => rfl) O0_0 (e := 31) (by kernel_rfl) (by kernel_rfl) (by decide) (dec_act (t0 := 5) (t1 := 5) (t2 := 5) (t3 := 5) (t4 := 9) (t5 := 24) (te := 5) (by kernel_rfl) (by kernel_rfl) (by kernel_rfl) (by kernel_rfl) (by kernel_rfl) (by kernel_rfl) (by kernel_rfl) (by kernel_rfl) (by kernel_rfl) (by kernel_rfl) (by kernel_rfl) (by kernel_rfl) (by kernel_rfl) (by kernel_rfl) (by kernel_rfl) (by kernel_rfl) (by kernel_rfl) (by kernel_rfl) (by kernel_rfl) (by kernel_rfl) (by kernel_rfl))
    obtain ⟨bl0_1, xs0_1, hv0_1, hr0_1, hl0_1⟩ := Opn.view (enc := encAct) (n := 6) (ok := okAct W) (fun _ => rfl) O0_1 (e := 31) (by kernel_rfl) (by kernel_rfl) (by decide) (dec_act (t0 := 5) (t1 := 5) (t2 := 5) (t3 := 5) (t4 := 9) (t5 := 24) (te := 5) (by kernel_rfl) (by kernel_rfl) (by kernel_rfl) (by kernel_rfl) (by kernel_rfl) (by kernel_rfl) (by kernel_rfl) (by kernel_rfl) (by kernel_rfl) (by kernel_rfl) (by kernel_rfl) (by kernel_rfl) (by kernel_rfl) (by kernel_rfl) (by kernel_rfl) (by kernel_rfl) (by kernel_rfl) (by kernel_rfl) (by kernel_rfl) (by kernel_rfl) (by kernel_rfl))
    obtain ⟨s1, rfl, hs1⟩ := str_at (by kernel_rfl) (hval 1 9 v1 (by kernel_rfl) rfl) h1
    obtain ⟨bl2, xs2, hv2, hr2, hl2⟩ := view_of (enc := encU8) (n := 1) (ok := fun a => 0 ≤ a ∧ a ≤ 255) (fun _ => rfl) (e := 5) (by kernel_rfl) (by kernel_rfl) (by decide) (dec_int (k := .u8) (by kernel_rfl)) (hval 2 24 v2 (by kernel_rfl) rfl) h2
    exact (by obtain ⟨ys, ey, hy⟩ := acts_of hr0_0; obtain ⟨zs, ez, hz⟩ := acts_of hr0_1; subst ey ez; exact diskKeeps_ok ⟨_, hv0_0⟩ hy ⟨_, hv0_1⟩ hz (by unfold maxLen at hs1; omega) (.inl ⟨_, hv2⟩) hr2 fun h' hx => ⟨rfl, hx⟩)

theorem diskKeeps_holds : Rows.DiskKeepsSaid :=
  OpenClaim.holds_of_wide 3 Tryz.f3 rfl rfl rfl rfl rfl rfl rfl ⟨rfl, rfl, rfl, rfl, rfl⟩ rfl rfl rfl rfl rfl (by kernel_rfl) Tryz.func3 (by kernel_rfl)
    (of_decide_eq_true (by kernel_rfl)) (by unfold Func.isWrapper; first | (rw [if_pos (by decide +kernel)]; kernel_rfl) | (rw [if_neg (by decide +kernel)]; exact ⟨rfl, rfl⟩))
    (fun os started H enc _ => diskKeeps_lifted os started H enc)

end Go.Proofs.YtdbkeklhjjlhbaaGreat
