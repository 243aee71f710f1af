/- Texts of the proofs of seat YtafllleofdkdiaaGreatDoor, joined: Build. They have no conditions of their own. -/
import Derived.Test.YtafllleofdkdiaaGreatDoorMc
set_option linter.unusedVariables false
set_option linter.unusedSimpArgs false

/-! A value built of parts of one cell each. -/
namespace Go.Mh
open Go

def setAll (cs : List Value) : List (Nat × Nat × Value) → List Value
  | [] => cs
  | (off, _, v) :: r => setAll (cs.set off v) r

def onesB (n : Nat) : List (Nat × Nat × Value) → Bool
  | [] => true
  | (off, size, _) :: r => Nat.beq size 1 && (Nat.blt off n && onesB n r)

theorem splice_set {cs : List Value} {off : Nat} {v : Value} (h : off < cs.length) (hv : v.cells = #[v]) : cs.take off ++ v.cells.toList ++ cs.drop (off + v.cells.size) = cs.set off v := by
  rw [hv, List.set_eq_take_append_cons_drop, if_pos h]; simp

theorem ones_of : ∀ {parts : List (Nat × Nat × Value)} {cs : List Value}, (∀ p ∈ parts, p.2.2.cells = #[p.2.2]) → onesB cs.length parts = true → sizesOk cs.length parts ∧ spliceAll cs parts = setAll cs parts
  | [], _, _, _ => ⟨trivial, rfl⟩
  | (off, size, v) :: r, cs, h1, h2 => by
    simp only [onesB, Bool.and_eq_true] at h2
    have hs : size = 1 := Nat.eq_of_beq_eq_true h2.1
    have ho : off < cs.length := Nat.le_of_ble_eq_true h2.2.1
    have hv := h1 (off, size, v) (List.mem_cons_self ..)
    have ih := @ones_of r (cs.set off v) (fun p hp => h1 p (List.mem_cons_of_mem _ hp)) (by rw [List.length_set]; exact h2.2.2)
    rw [List.length_set] at ih
    refine ⟨⟨by rw [show v.cells = #[v] from hv, hs]; rfl, by omega, ih.1⟩, ?_⟩
    simp only [spliceAll, setAll]
    rw [splice_set ho hv]
    exact ih.2

theorem pBuild_ones {zero cs' : List Value} {parts : List (Nat × Nat × Value)} {K : Value → Prop} (h1 : ∀ p ∈ parts, p.2.2.cells = #[p.2.2]) (h2 : onesB zero.length parts = true) (hcs : setAll zero parts = cs') (hk : K (.agg cs'.toArray)) : pBuild zero parts K := by
  have := ones_of h1 h2
  refine ⟨this.1, ?_⟩
  rw [this.2, hcs]; exact hk

end Go.Mh
