/- A text of the proofs of seat Ytdpofmalgemcdaa: 'Mh.View'. It has no condition of its own. -/
import Derived.Test.YtdpofmalgemcdaaMhSlice
import Derived.WalkKit
import Derived.ProofKit
import Derived.Deep.Slices
set_option linter.unusedVariables false
set_option linter.unusedSimpArgs false
namespace Go.Mh
open Go Go.ChangeShapes Go.WideShapes Go.ChangeAt Go.RowKit

section
variable {H : Type} {encD : TypeId × Value → H} {P : Program} {w : World} {α : Type} {enc : α → List Value} {ok : α → Prop} {n : Nat} {e t : TypeId} {v : Value} {r : Reach} {base : Nat} {d : DataW H} {p : List MemPlace}

theorem add_plain {a : Addr} (hs : a.spot = none) (k : Nat) : a.add k = ⟨a.block, a.off + k, none⟩ := by
  obtain ⟨b, o, s⟩ := a
  simp only at hs
  subst hs
  unfold Addr.add
  split
  · rename_i h; subst h; rfl
  · rfl

theorem okWide_slice_spot {a : Addr} {len cap : Nat} (ht : P.underlying t = some (.slice e)) (h : Value.okWide P w r base t (.slice (some a) len cap)) : a.spot = none := by
  simp only [Value.okWide, ht, Cell.okWide, Cell.ok] at h
  exact h.2.2.2.1

theorem mapM_get {β γ : Type} {f : β → Option γ} : ∀ {l : List β} {r : List γ}, l.mapM f = some r → ∀ (i : Nat) (x : β), l[i]? = some x → f x = r[i]?
  | [], r, h, i, x, hx => by simp at hx
  | y :: l, r, h, i, x, hx => by
    rw [List.mapM_cons] at h
    simp only [Option.pure_def, Option.bind_eq_bind, Option.bind_eq_some_iff] at h
    obtain ⟨z, hz, rs, hrs, hr⟩ := h
    simp only [Option.some.injEq] at hr
    subst hr
    cases i with
    | zero => simp at hx; subst hx; simp [hz]
    | succ i => simp at hx; simpa using mapM_get hrs i x hx

theorem choose_list {Q : Nat → α → Prop} : ∀ len, (∀ i, i < len → ∃ x, Q i x) → ∃ xs : List α, xs.length = len ∧ ∀ i (hi : i < xs.length), Q i xs[i]
  | 0, _ => ⟨[], rfl, fun i hi => by simp at hi⟩
  | len + 1, hall => by
    obtain ⟨xs, hl, hxs⟩ := choose_list len fun i hi => hall i (by omega)
    obtain ⟨x, h1⟩ := hall len (by omega)
    refine ⟨xs ++ [x], by simp [hl], fun i hi => ?_⟩
    by_cases hlt : i < xs.length
    · rw [List.getElem_append_left hlt]; exact hxs i hlt
    · have : i = len := by simp at hi; omega
      subst this
      rw [List.getElem_append_right (by omega)]
      simpa [hl] using h1

theorem view_of (he : ∀ a, (enc a).length = n) (ht : P.underlying t = some (.slice e)) (hn : P.cellsOf e = n) (hpos : 0 < n)
    (hdec : ∀ fuel cs x, DataW.trod encD P w 0 (fun _ => true) true fuel e cs = some x → ∃ a, cs = enc a ∧ ok a)
    (hv : Value.okWide P w r base t v) (hd : DataW.Trod encD P w 0 (fun _ => true) true t v d p) :
    ∃ bl xs, VwR enc n w.heap v bl xs ∧ (∀ a ∈ xs, ok a) ∧ xs.length ≤ maxLen := by
  obtain ⟨a0, len0, cap0, rfl⟩ := okWide_slice ht hv
  obtain ⟨fuel, hf⟩ := hd
  rcases Go.Deep.open_slice ht hf with ⟨hc, _⟩ | ⟨a, len, cap, m, fuel', D, Pl, hc, _, hle, hmx, hm, _, hx⟩
  · simp only [Value.cells, List.cons.injEq, and_true] at hc
    rw [hc]
    exact ⟨0, [], ⟨none, 0, rfl, Nat.le_refl _, .inl ⟨rfl, .inl rfl⟩⟩, by simp, by simp⟩
  · simp only [Value.cells, List.cons.injEq, and_true] at hc
    rw [hc] at hv ⊢
    have hsp := okWide_slice_spot ht hv
    simp only [if_true] at hm
    subst hm
    have hall : ∀ i, i < len → ∃ x : α, w.cells? 0 (a.add (i * n)) n = some (enc x) ∧ ok x := by
      intro i hi
      obtain ⟨cs', h1, h2⟩ := hx i (by omega)
      obtain ⟨x, rfl, hok⟩ := hdec _ _ _ h2
      rw [hn] at h1
      exact ⟨x, h1, hok⟩
    obtain ⟨xs, hl, hxs⟩ := choose_list (Q := fun i x => w.cells? 0 (a.add (i * n)) n = some (enc x) ∧ ok x) len hall
    refine ⟨a.block, xs, ?_, fun x hx' => ?_, by omega⟩
    · refine ⟨some a, m, by rw [hl], by omega, ?_⟩
      have ha : a = ⟨a.block, a.off, none⟩ := by
        obtain ⟨b, o, s⟩ := a; simp only at hsp; subst hsp; rfl
      by_cases h0 : xs = []
      · exact .inl ⟨h0, .inr ⟨_, _, by rw [← ha]⟩⟩
      · right
        have hlp : 0 < xs.length := List.length_pos_iff.2 h0
        have hcell : ∀ i (hi : i < xs.length) j, j < n → w.cell? ⟨a.block, a.off + i * n + j, none⟩ = (enc xs[i])[j]? := by
          intro i hi j hj
          have h1 := (hxs i hi).1
          unfold World.cells? at h1
          rw [if_pos (Nat.zero_le _), add_plain hsp] at h1
          have := mapM_get h1 j j (by simp [hj])
          rw [add_plain rfl] at this
          exact this
        have h00 := hcell 0 hlp 0 hpos
        simp only [World.cell?] at h00
        have hblk : ∃ c T fz, w.heap[a.block]? = some (.cells c T fz) := by
          split at h00
          · rename_i c T fz hb; exact ⟨c, T, fz, hb⟩
          · rw [List.getElem?_eq_getElem (by rw [he]; exact hpos)] at h00; cases h00
        obtain ⟨c, T, fz, hb⟩ := hblk
        have hcc : ∀ i (hi : i < xs.length) j, j < n → c[a.off + i * n + j]? = (enc xs[i])[j]? := by
          intro i hi j hj
          have := hcell i hi j hj
          simpa [World.cell?, hb] using this
        have hrl := row_length he xs
        have hmid : (c.toList.drop a.off).take (xs.length * n) = row enc xs := by
          apply List.ext_getElem?
          intro k
          by_cases hk : k < xs.length * n
          · have hi : k / n < xs.length := (Nat.div_lt_iff_lt_mul hpos).2 hk
            have hj : k % n < n := Nat.mod_lt _ hpos
            have hkk : k / n * n + k % n = k := by rw [Nat.mul_comm]; exact Nat.div_add_mod k n
            have g := row_get he hi hj []
            rw [List.append_nil, hkk] at g
            rw [g, ← hcc _ hi _ hj, List.getElem?_take_of_lt hk, List.getElem?_drop, Nat.add_assoc, hkk]
            simp
          · rw [List.getElem?_eq_none (by simp; omega), List.getElem?_eq_none (by omega)]
        have hsize : a.off + xs.length * n ≤ c.size := by
          have hi : xs.length - 1 < xs.length := by omega
          have h1 := hcc (xs.length - 1) hi (n - 1) (by omega)
          rw [List.getElem?_eq_getElem (by rw [he]; omega)] at h1
          have h2 := (Array.getElem?_eq_some_iff.1 h1).1
          have h3 : (xs.length - 1) * n + n = xs.length * n := by rw [← Nat.succ_mul]; congr 1; omega
          omega
        refine ⟨a.off, c.toList.take a.off, c.toList.drop (a.off + xs.length * n), T, fz, by rw [← ha], ?_, by simp; omega⟩
        rw [hb, ← hmid]
        have : c.toList.take a.off ++ (c.toList.drop a.off).take (xs.length * n) ++ c.toList.drop (a.off + xs.length * n) = c.toList := by
          rw [← List.drop_drop, List.append_assoc, List.take_append_drop, List.take_append_drop]
        rw [this]
    · obtain ⟨i, hi, rfl⟩ := List.mem_iff_getElem.1 hx'
      exact (hxs i hi).2

theorem dec_int {k : IntKind} (he : P.underlying e = some (.int k)) {sp : Nat → Bool} : ∀ fuel cs x, DataW.trod encD P w 0 sp true fuel e cs = some x → ∃ a : Int, cs = [.int k a] ∧ k.min ≤ a ∧ a ≤ k.max := by
  intro fuel cs x h
  obtain ⟨n', rfl, _, hw⟩ := DataW.trod_int he h
  refine ⟨n', rfl, ?_⟩
  simpa [Lit.wf] using hw

theorem int_of {k : IntKind} (ht : P.underlying t = some (.int k)) (hv : Value.okWide P w r base t v) (hd : DataW.Trod encD P w 0 (fun _ => true) true t v d p) : ∃ a : Int, v = .int k a ∧ k.min ≤ a ∧ a ≤ k.max := by
  obtain ⟨a, rfl, _, _, hw⟩ := open_int ht hv hd
  exact ⟨a, rfl, by simpa [Lit.wf] using hw⟩

end
end Go.Mh
