/- A text of the proofs of seat Ytdpofmalgemcdaa: 'HeapN'. It has no condition of its own. -/
import Derived.Test.YtdpofmalgemcdaaHeapM
import Derived.Test.YtdpofmalgemcdaaHeapBase
set_option linter.unusedVariables false
set_option linter.unusedSimpArgs false
namespace Go.Proofs.Ytdpofmalgemcdaa
open Go Go.Mh Go.ChangeShapes

theorem heapLowers_lifted (os : Os) (started : os.Started) (H : Type) (enc : TypeId × Value → H) :
    ReturnsInHanded {} Try.checked os 4 .any (Rows.heapLowersSpec.pre6 enc Try.prog Try.f4 Rows.heapLowersRow.domain false) (Rows.heapLowersSpec.post enc Try.prog Try.f4 false true false false) := by
  refine law_lifted (C := Try.checked) (tb := 4) Try.own started (by kernel_rfl) Try.func4
    (ChangeSpec.witness6 (enc := enc) (C := Try.checked) false ⟨#[], #[.slice none 0 0, .slice none 0 0], []⟩ 8 (by kernel_rfl) (by kernel_rfl) (by kernel_rfl) (by kernel_rfl))
    rfl (by kernel_rfl) (by kernel_rfl) ?_ Try.kids Try.full (by decide +kernel) ?_
  · intro ds hl
    rw [show Try.f4.params.toList = [36, 37] by kernel_rfl] at hl
    match ds, hl with
    | [a, b], _ => rfl
  · intro W base args ds ps hval hA _
    rw [show Try.f4.params.toList = [36, 37] by kernel_rfl] at hA
    obtain ⟨v0, v1, d0, d1, p0, p1, rfl, rfl, rfl, h0, h1⟩ := trodAll_two hA
    obtain ⟨bl, xs, hv, hlo, hlen⟩ := view_of (enc := encS .i32) (n := 1) (ok := fun a => -2147483648 ≤ a ∧ a ≤ 2147483647) (encS_len _) (e := 21) (by kernel_rfl) (by kernel_rfl) (by decide)
      (dec_int (k := .i32) (by kernel_rfl)) (hval 0 36 v0 (by kernel_rfl) rfl) h0
    obtain ⟨bm, ms, hm, hlm, hlen'⟩ := view_of (enc := encS .u16) (n := 1) (ok := fun a => 0 ≤ a ∧ a ≤ 65535) (encS_len _) (e := 38) (by kernel_rfl) (by kernel_rfl) (by decide)
      (dec_int (k := .u16) (by kernel_rfl)) (hval 1 37 v1 (by kernel_rfl) rfl) h1
    exact lowers_ok hv hm hlo hlm fun h' hx => ⟨rfl, hx⟩

theorem heapLowers_holds : Rows.HeapLowersSaid :=
  OpenClaim.holds_of_wide 4 Try.f4 rfl rfl rfl rfl rfl rfl rfl ⟨rfl, rfl, rfl, rfl, rfl⟩ rfl rfl rfl rfl rfl (by kernel_rfl) Try.func4 (by kernel_rfl)
    (of_decide_eq_true (by kernel_rfl)) (by unfold Func.isWrapper; first | (rw [if_pos (by decide +kernel)]; kernel_rfl) | (rw [if_neg (by decide +kernel)]; exact ⟨rfl, rfl⟩))
    (fun os started H enc _ => heapLowers_lifted os started H enc)

end Go.Proofs.Ytdpofmalgemcdaa
