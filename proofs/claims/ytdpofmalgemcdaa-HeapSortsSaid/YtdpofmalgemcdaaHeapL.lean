/- A text of the proofs of seat Ytdpofmalgemcdaa: 'HeapL'. It has no condition of its own. -/
import Derived.Test.YtdpofmalgemcdaaHeapK
import Derived.Test.YtdpofmalgemcdaaHeapBase
set_option linter.unusedVariables false
set_option linter.unusedSimpArgs false
namespace Go.Proofs.Ytdpofmalgemcdaa
open Go Go.Mh Go.ChangeShapes

theorem heapSorts_lifted (os : Os) (started : os.Started) (H : Type) (enc : TypeId × Value → H) :
    ReturnsInHanded {} Try.checked os 3 .any (Rows.heapSortsSpec.pre6 enc Try.prog Try.f3 Rows.heapSortsRow.domain false) (Rows.heapSortsSpec.post enc Try.prog Try.f3 false true false false) := by
  refine law_lifted (C := Try.checked) (tb := 4) Try.own started (by kernel_rfl) Try.func3
    (ChangeSpec.witness6 (enc := enc) (C := Try.checked) false ⟨#[], #[.slice none 0 0, .int .i64 0], []⟩ 8 (by kernel_rfl) (by kernel_rfl) (by kernel_rfl) (by kernel_rfl))
    rfl (by kernel_rfl) (by kernel_rfl) ?_ Try.kids Try.full (by decide +kernel) ?_
  · intro ds hl
    rw [show Try.f3.params.toList = [22, 3] by kernel_rfl] at hl
    match ds, hl with
    | [a, b], _ => rfl
  · intro W base args ds ps hval hA _
    rw [show Try.f3.params.toList = [22, 3] by kernel_rfl] at hA
    obtain ⟨v0, v1, d0, d1, p0, p1, rfl, rfl, rfl, h0, h1⟩ := trodAll_two hA
    obtain ⟨bl, xs, hv, hlo, hlen⟩ := view_of (enc := encI) (n := 1) (ok := fun a => -9223372036854775808 ≤ a ∧ a ≤ 9223372036854775807) encI_len (e := 2) (by kernel_rfl) (by kernel_rfl) (by decide)
      (dec_int (k := .i64) (by kernel_rfl)) (hval 0 22 v0 (by kernel_rfl) rfl) h0
    obtain ⟨b, rfl, _, _⟩ := int_of (k := .i64) (by kernel_rfl) (hval 1 3 v1 (by kernel_rfl) rfl) h1
    exact sorts_ok hv hlo hlen fun h' hx => ⟨rfl, hx⟩

theorem heapSorts_holds : Rows.HeapSortsSaid :=
  OpenClaim.holds_of_wide 3 Try.f3 rfl rfl rfl rfl rfl rfl rfl ⟨rfl, rfl, rfl, rfl, rfl⟩ rfl rfl rfl rfl rfl (by kernel_rfl) Try.func3 (by kernel_rfl)
    (of_decide_eq_true (by kernel_rfl)) (by unfold Func.isWrapper; first | (rw [if_pos (by decide +kernel)]; kernel_rfl) | (rw [if_neg (by decide +kernel)]; exact ⟨rfl, rfl⟩))
    (fun os started H enc _ => heapSorts_lifted os started H enc)

end Go.Proofs.Ytdpofmalgemcdaa
