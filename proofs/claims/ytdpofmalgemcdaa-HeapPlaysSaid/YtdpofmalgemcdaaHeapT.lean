/- A text of the proofs of seat Ytdpofmalgemcdaa: 'HeapT'. It has no condition of its own. -/
import Derived.Test.YtdpofmalgemcdaaHeapS
set_option linter.unusedVariables false
set_option linter.unusedSimpArgs false
namespace Go.Proofs.Ytdpofmalgemcdaa
open Go Go.Mh Go.ChangeShapes

theorem heapPlays_lifted (os : Os) (started : os.Started) (H : Type) (enc : TypeId × Value → H) :
    ReturnsInHanded {} Try.checked os 6 .any (Rows.heapPlaysSpec.pre6 enc Try.prog Try.f6 Rows.heapPlaysRow.domain false) (Rows.heapPlaysSpec.post enc Try.prog Try.f6 false true false false) := by
  refine law_lifted (C := Try.checked) (tb := 4) Try.own started (by kernel_rfl) Try.func6
    (ChangeSpec.witness6 (enc := enc) (C := Try.checked) false ⟨#[], #[.int .i64 0, .slice none 0 0], []⟩ 8 (by kernel_rfl) (by kernel_rfl) (by kernel_rfl) (by kernel_rfl))
    rfl (by kernel_rfl) (by kernel_rfl) ?_ Try.kids Try.full (by decide +kernel) ?_
  · intro ds hl
    rw [show Try.f6.params.toList = [3, 41] by kernel_rfl] at hl
    match ds, hl with
    | [a, b], _ => rfl
  · intro W base args ds ps hval hA _
    rw [show Try.f6.params.toList = [3, 41] by kernel_rfl] at hA
    obtain ⟨v0, v1, d0, d1, p0, p1, rfl, rfl, rfl, h0, h1⟩ := trodAll_two hA
    obtain ⟨n, rfl, _, _⟩ := int_of (k := .i64) (by kernel_rfl) (hval 0 3 v0 (by kernel_rfl) rfl) h0
    obtain ⟨bl, xs, hv, hlo, hlen⟩ := view_ops (hval 1 41 v1 (by kernel_rfl) rfl) h1
    exact plays_ok hv hlo fun h' hx => ⟨rfl, hx⟩

theorem heapPlays_holds : Rows.HeapPlaysSaid :=
  OpenClaim.holds_of_wide 6 Try.f6 rfl rfl rfl rfl rfl rfl rfl ⟨rfl, rfl, rfl, rfl, rfl⟩ rfl rfl rfl rfl rfl (by kernel_rfl) Try.func6 (by kernel_rfl)
    (of_decide_eq_true (by kernel_rfl)) (by unfold Func.isWrapper; first | (rw [if_pos (by decide +kernel)]; kernel_rfl) | (rw [if_neg (by decide +kernel)]; exact ⟨rfl, rfl⟩))
    (fun os started H enc _ => heapPlays_lifted os started H enc)

end Go.Proofs.Ytdpofmalgemcdaa
