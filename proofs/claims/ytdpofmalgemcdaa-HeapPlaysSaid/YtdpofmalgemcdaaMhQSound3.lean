/- A text of the proofs of seat Ytdpofmalgemcdaa: 'Mh.QSound3'. It has no condition of its own. -/
import Derived.Test.YtdpofmalgemcdaaMhQSound2
set_option linter.unusedVariables false
set_option linter.unusedSimpArgs false
namespace Go.Mh
open Go

section
variable {P : Program} {h : Heap}

theorem spliceAll_length : ∀ (ps : List (Nat × Nat × Value)) (cs : List Value), sizesOk cs.length ps → (spliceAll cs ps).length = cs.length
  | [], cs, _ => rfl
  | (off, size, v) :: r, cs, hs => by
    obtain ⟨h1, h2, h3⟩ := hs
    have hv : v.cells.toList.length = v.cells.size := by simp
    have : (cs.take off ++ v.cells.toList ++ cs.drop (off + v.cells.size)).length = cs.length := by
      simp only [List.length_append, List.length_take, List.length_drop, hv]; omega
    unfold spliceAll
    rw [spliceAll_length r _ (by rw [this]; exact h3), this]

theorem fill_eq {place : Nat → Option (Nat × Nat)} : ∀ (parts : List (Nat × Value)) (ps : List (Nat × Nat × Value)) (cs : Array Value), placed place parts = some ps →
    sizesOk cs.size ps → Instr.fill place cs parts = some (spliceAll cs.toList ps).toArray
  | [], ps, cs, hp, hs => by
    simp only [placed, Option.some.injEq] at hp; subst hp; simp [Instr.fill, spliceAll]
  | (i, v) :: r, ps, cs, hp, hs => by
    simp only [placed] at hp
    split at hp
    · rename_i off size hpl
      split at hp
      · rename_i l hl
        simp only [Option.some.injEq] at hp; subst hp
        obtain ⟨h1, h2, h3⟩ := hs
        unfold Instr.fill
        rw [hpl]
        dsimp only
        have hb : ¬ ((decide (v.cells.size ≠ size) || decide (off + v.cells.size > cs.size)) = true) := by simp [h1]; omega
        rw [if_neg hb]
        have hz : v.cells.zipIdx = (v.cells.toList.zipIdx).toArray := by cases v.cells; simp
        have hf := foldl_cells off v.cells.toList 0 cs (by simp; omega)
        have he : (v.cells.zipIdx.foldl (fun cs (x : Value × Nat) => cs.setIfInBounds (off + x.2) x.1) cs) = (cs.toList.take off ++ v.cells.toList ++ cs.toList.drop (off + v.cells.size)).toArray := by
          apply Array.ext'
          rw [hz, List.foldl_toArray', hf]
          · simp
          · simp
        have hsz : (cs.toList.take off ++ v.cells.toList ++ cs.toList.drop (off + v.cells.size)).length = cs.size := by
          simp only [List.length_append, List.length_take, List.length_drop, Array.length_toList]; omega
        show Instr.fill place (v.cells.zipIdx.foldl (fun cs (x : Value × Nat) => cs.setIfInBounds (off + x.2) x.1) cs) r = _
        rw [he, fill_eq r l _ hl (by rw [List.size_toArray, hsz]; exact h3)]
        simp [spliceAll]
      · cases hp
    · cases hp

theorem mapM_sizes {fs : Array Field} (hfs : fs.toList.all (fun f => (P.info? f.type).isSome) = true) :
    rdS P (fs.mapM fun f => do pure (f.offset, ← sizeOf f.type) : Sem (Array (Nat × Nat))) h = some (fs.map fun f => (f.offset, P.cellsOf f.type)) := by
  have key : ∀ (l : List Field), l.all (fun f => (P.info? f.type).isSome) = true →
      rdS P (l.mapM fun f => do pure (f.offset, ← sizeOf f.type) : Sem (List (Nat × Nat))) h = some (l.map fun f => (f.offset, P.cellsOf f.type)) := by
    intro l
    induction l with
    | nil => intro _; rfl
    | cons f l ih =>
      intro hl
      simp only [List.all_cons, Bool.and_eq_true] at hl
      obtain ⟨i, hi⟩ := Option.isSome_iff_exists.1 hl.1
      rw [List.mapM_cons]
      rw [rdS_bind (a := (f.offset, i.size)) (by rw [rdS_bind (rdS_sizeOf hi)]; rfl), rdS_bind (ih hl.2)]
      simp [rdS, pure, Program.cellsOf, hi]
  rw [Array.mapM_eq_mapM_toList]
  show rdS P (Functor.map List.toArray (fs.toList.mapM _)) h = _
  have e : ∀ {α β : Type} (f : α → β) (s : Sem α), (Functor.map f s : Sem β) = (s >>= fun a => pure (f a)) := fun f s => rfl
  rw [e, rdS_bind (key fs.toList hfs)]
  simp only [rdS, pure]
  congr 1
  cases fs; simp

theorem build_struct_sound {t : TypeId} {fs : Array Field} {i : TypeInfo} {z : Value} {parts : Array (Nat × Value)} {ps : List (Nat × Nat × Value)} {K : Value → Prop}
    (ht : P.underlying t = some (.struct fs)) (hi : P.info? t = some i) (hz : i.zero = some z) (hfs : fs.toList.all (fun f => (P.info? f.type).isSome) = true)
    (hp : placed ((fs.map fun f => (f.offset, P.cellsOf f.type))[·]?) parts.toList = some ps) (hq : pBuild z.cells.toList ps K) :
    ∃ v, rdS P (Instr.build t parts) h = some v ∧ K v := by
  obtain ⟨hs, hk⟩ := hq
  refine ⟨_, ?_, hk⟩
  unfold Instr.build
  rw [rdS_bind (rdS_zeroValue hi hz), rdS_bind (rdS_underlying ht)]
  dsimp only
  rw [rdS_bind (mapM_sizes hfs), fill_eq parts.toList ps z.cells hp (by simpa using hs)]
  rfl

theorem placed_all {size : Nat} : ∀ (l : List (Nat × Value)), placed (fun i => some (i * size, size)) l = some (l.map fun (i, v) => (i * size, size, v))
  | [] => rfl
  | (i, v) :: r => by simp [placed, placed_all r]

theorem build_array_sound {t e : TypeId} {n : Nat} {i ei : TypeInfo} {z : Value} {parts : Array (Nat × Value)} {K : Value → Prop}
    (ht : P.underlying t = some (.array n e)) (hi : P.info? t = some i) (hz : i.zero = some z) (he : P.info? e = some ei)
    (hq : pBuild z.cells.toList (parts.toList.map fun (j, x) => (j * ei.size, ei.size, x)) K) :
    ∃ v, rdS P (Instr.build t parts) h = some v ∧ K v := by
  obtain ⟨hs, hk⟩ := hq
  refine ⟨_, ?_, hk⟩
  unfold Instr.build
  rw [rdS_bind (rdS_zeroValue hi hz), rdS_bind (rdS_underlying ht)]
  dsimp only
  rw [rdS_bind (rdS_sizeOf he), fill_eq parts.toList _ z.cells (placed_all _) (by simpa using hs)]
  rfl

end
end Go.Mh
