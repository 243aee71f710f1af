/- The law 'StoreCrash' of the document's layer holds for every input: the function returns true, and leaves its arguments as they were. The listed package-level variable is never read. -/
import Derived.Test.YtleaknaadodjeaaTb
import Derived.Test.YtleaknaadodjeaaMd
import Derived.Test.YtleaknaadodjeaaRows
import Derived.LaidMore
import Derived.LaidHandle
import Derived.LaidLaws
import Derived.SevenTiedAt
set_option linter.unusedVariables false
set_option linter.unusedSimpArgs false
set_option linter.unusedSectionVars false

namespace Go.Proofs.Ytleaknaadodjeaa
open Go Go.Mh Go.ChangeShapes
set_option linter.unusedVariables false
set_option maxRecDepth 100000

theorem storeCrash_lifted (os : Os) (started : os.Started) (H : Type) (enc : TypeId × Value → H) :
    ReturnsInHanded {} Try.checked os 5 .any (Rows.storeCrashSpec.pre6 enc Try.prog Try.f5 Rows.storeCrashRow.domain false) (Rows.storeCrashSpec.post enc Try.prog Try.f5 false true false false) := by
  refine law_lifted (C := Try.checked) (tb := 4) (by kernel_rfl) started (by kernel_rfl) Try.func5
    (ChangeSpec.witness6 (enc := enc) (C := Try.checked) false ⟨#[], #[.agg #[.int .u8 0, .slice none 0 0, .int .u16 0, .int .u8 0, .slice none 0 0], .agg #[.int .u8 0, .slice none 0 0, .int .u16 0, .int .u8 0, .slice none 0 0], .bool false], []⟩ 8 (by kernel_rfl) (by kernel_rfl) (by kernel_rfl) (by kernel_rfl))
    rfl (by kernel_rfl) (by kernel_rfl) ?_ (kids_rows (by kernel_rfl) (by kernel_rfl)) (slices_full_of Try.prog (by kernel_rfl)) (by decide +kernel) ?_
  · intro ds hl
    rw [show Try.f5.params.toList = [36, 36, 4] by kernel_rfl] at hl
    match ds, hl with
    | [a, b, c], _ => rfl
  · intro W base args ds ps hval hA _
    rw [show Try.f5.params.toList = [36, 36, 4] by kernel_rfl] at hA
    obtain ⟨v0, v1, v2, d0, d1, d2, p0, p1, p2, rfl, rfl, rfl, h0, h1, h2⟩ := trodAll_three hA
    obtain ⟨cs0, rfl, hl0, O0⟩ := agg_of (n := 5) (by kernel_rfl) (by kernel_rfl) (hval 0 36 v0 (by kernel_rfl) rfl) h0
    obtain ⟨c0_0, c0_1, c0_2, c0_3, c0_4, rfl⟩ := len5 hl0
    have O0_0 := Opn.field (n := 1) O0 0 (ft := 5) (off := 0) (cs' := [c0_0]) (by kernel_rfl) (by kernel_rfl) rfl
    have O0_1 := Opn.field (n := 1) O0 1 (ft := 28) (off := 1) (cs' := [c0_1]) (by kernel_rfl) (by kernel_rfl) rfl
    have O0_2 := Opn.field (n := 1) O0 2 (ft := 34) (off := 2) (cs' := [c0_2]) (by kernel_rfl) (by kernel_rfl) rfl
    have O0_3 := Opn.field (n := 1) O0 3 (ft := 5) (off := 3) (cs' := [c0_3]) (by kernel_rfl) (by kernel_rfl) rfl
    have O0_4 := Opn.field (n := 1) O0 4 (ft := 28) (off := 4) (cs' := [c0_4]) (by kernel_rfl) (by kernel_rfl) rfl
    obtain ⟨z0_0, e0_0, r0_0⟩ := Opn.int (k := .u8) O0_0 (by kernel_rfl)
    replace r0_0 : (0 : Int) ≤ z0_0 ∧ z0_0 ≤ 255 := r0_0
    subst e0_0
    obtain ⟨bl0_1, xs0_1, hv0_1, hr0_1, hl0_1⟩ := Opn.view (enc := encU8) (n := 1) (ok := fun a => 0 ≤ a ∧ a ≤ 255) (fun _ => rfl) O0_1 (e := 5) (by kernel_rfl) (by kernel_rfl) (by decide) (dec_int (k := .u8) (by kernel_rfl))
    obtain ⟨z0_2, e0_2, r0_2⟩ := Opn.int (k := .u16) O0_2 (by kernel_rfl)
    replace r0_2 : (0 : Int) ≤ z0_2 ∧ z0_2 ≤ 65535 := r0_2
    subst e0_2
    obtain ⟨z0_3, e0_3, r0_3⟩ := Opn.int (k := .u8) O0_3 (by kernel_rfl)
    replace r0_3 : (0 : Int) ≤ z0_3 ∧ z0_3 ≤ 255 := r0_3
    subst e0_3
    obtain ⟨bl0_4, xs0_4, hv0_4, hr0_4, hl0_4⟩ := Opn.view (enc := encU8) (n := 1) (ok := fun a => 0 ≤ a ∧ a ≤ 255) (fun _ => rfl) O0_4 (e := 5) (by kernel_rfl) (by kernel_rfl) (by decide) (dec_int (k := .u8) (by kernel_rfl))
    obtain ⟨cs1, rfl, hl1, O1⟩ := agg_of (n := 5) (by kernel_rfl) (by kernel_rfl) (hval 1 36 v1 (by kernel_rfl) rfl) h1
    obtain ⟨c1_0, c1_1, c1_2, c1_3, c1_4, rfl⟩ := len5 hl1
    have O1_0 := Opn.field (n := 1) O1 0 (ft := 5) (off := 0) (cs' := [c1_0]) (by kernel_rfl) (by kernel_rfl) rfl
    have O1_1 := Opn.field (n := 1) O1 1 (ft := 28) (off := 1) (cs' := [c1_1]) (by kernel_rfl) (by kernel_rfl) rfl
    have O1_2 := Opn.field (n := 1) O1 2 (ft := 34) (off := 2) (cs' := [c1_2]) (by kernel_rfl) (by kernel_rfl) rfl
    have O1_3 := Opn.field (n := 1) O1 3 (ft := 5) (off := 3) (cs' := [c1_3]) (by kernel_rfl) (by kernel_rfl) rfl
    have O1_4 := Opn.field (n := 1) O1 4 (ft := 28) (off := 4) (cs' := [c1_4]) (by kernel_rfl) (by kernel_rfl) rfl
    obtain ⟨z1_0, e1_0, r1_0⟩ := Opn.int (k := .u8) O1_0 (by kernel_rfl)
    replace r1_0 : (0 : Int) ≤ z1_0 ∧ z1_0 ≤ 255 := r1_0
    subst e1_0
    obtain ⟨bl1_1, xs1_1, hv1_1, hr1_1, hl1_1⟩ := Opn.view (enc := encU8) (n := 1) (ok := fun a => 0 ≤ a ∧ a ≤ 255) (fun _ => rfl) O1_1 (e := 5) (by kernel_rfl) (by kernel_rfl) (by decide) (dec_int (k := .u8) (by kernel_rfl))
    obtain ⟨z1_2, e1_2, r1_2⟩ := Opn.int (k := .u16) O1_2 (by kernel_rfl)
    replace r1_2 : (0 : Int) ≤ z1_2 ∧ z1_2 ≤ 65535 := r1_2
    subst e1_2
    obtain ⟨z1_3, e1_3, r1_3⟩ := Opn.int (k := .u8) O1_3 (by kernel_rfl)
    replace r1_3 : (0 : Int) ≤ z1_3 ∧ z1_3 ≤ 255 := r1_3
    subst e1_3
    obtain ⟨bl1_4, xs1_4, hv1_4, hr1_4, hl1_4⟩ := Opn.view (enc := encU8) (n := 1) (ok := fun a => 0 ≤ a ∧ a ≤ 255) (fun _ => rfl) O1_4 (e := 5) (by kernel_rfl) (by kernel_rfl) (by decide) (dec_int (k := .u8) (by kernel_rfl))
    obtain ⟨z2, rfl⟩ := Go.WideShapes.okWide_bool (by kernel_rfl) (hval 2 4 v2 (by kernel_rfl) rfl)
    exact storeCrash_ok (va := ⟨z0_0, _, z0_2, z0_3, _⟩) (vb := ⟨z1_0, _, z1_2, z1_3, _⟩) ⟨r0_0, r0_2, r0_3, .inl ⟨_, hv0_1⟩, by unfold maxLen at hl0_1; omega, .inl ⟨_, hv0_4⟩, hr0_4, by unfold maxLen at hl0_4; omega⟩ ⟨r1_0, r1_2, r1_3, .inl ⟨_, hv1_1⟩, by unfold maxLen at hl1_1; omega, .inl ⟨_, hv1_4⟩, hr1_4, by unfold maxLen at hl1_4; omega⟩ fun h' hx => ⟨rfl, hx⟩

theorem storeCrash_holds : Rows.StoreCrashSaid :=
  OpenClaim.holds_of_wide 5 Try.f5 rfl rfl rfl rfl rfl rfl rfl ⟨rfl, rfl, rfl, rfl, rfl⟩ rfl rfl rfl rfl rfl (by kernel_rfl) Try.func5 (by kernel_rfl)
    (of_decide_eq_true (by kernel_rfl)) (by unfold Func.isWrapper; first | (rw [if_pos (by decide +kernel)]; kernel_rfl) | (rw [if_neg (by decide +kernel)]; exact ⟨rfl, rfl⟩))
    (fun os started H enc _ => storeCrash_lifted os started H enc)

end Go.Proofs.Ytleaknaadodjeaa
