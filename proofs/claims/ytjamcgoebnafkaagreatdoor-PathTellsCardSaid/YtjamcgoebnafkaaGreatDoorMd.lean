/- Texts of the proofs of seat YtjamcgoebnafkaaGreatDoor, joined: ViewB. They have no conditions of their own. -/
import Derived.Test.YtjamcgoebnafkaaGreatDoorMc
import Derived.OpenShut
set_option linter.unusedVariables false
set_option linter.unusedSimpArgs false

namespace Go.Mh
open Go Go.ChangeShapes Go.WideShapes Go.ChangeAt Go.RowKit

section
variable {H : Type} {encD : TypeId × Value → H} {P : Program} {w : World} {α : Type} {enc : α → List Value} {ok : α → Prop} {n : Nat} {e t : TypeId} {v : Value} {r : Reach} {base : Nat} {d : DataW H} {p : List MemPlace} {cs : List Value}

theorem view_at {fuel : Nat} {x0 : DataW H × List MemPlace} (he : ∀ a, (enc a).length = n) (ht : P.underlying t = some (.slice e)) (hn : P.cellsOf e = n) (hpos : 0 < n)
    (hdec : ∀ fuel cs x, DataW.trod encD P w 0 (fun _ => true) true fuel e cs = some x → ∃ a, cs = enc a ∧ ok a)
    (hf : DataW.trod encD P w 0 (fun _ => true) true fuel t [v] = some x0) (hsp0 : ∀ a l c, v = .slice (some a) l c → a.spot = none) :
    ∃ bl xs, VwR enc n w.heap v bl xs ∧ (∀ a ∈ xs, ok a) ∧ xs.length ≤ maxLen := by
  rcases Go.Deep.open_slice ht hf with ⟨hc, _⟩ | ⟨a, len, cap, m, fuel', D, Pl, hc, _, hle, hmx, hm, _, hx⟩
  · simp only [List.cons.injEq, and_true] at hc
    subst hc
    exact ⟨0, [], ⟨none, 0, rfl, Nat.le_refl _, .inl ⟨rfl, .inl rfl⟩⟩, by simp, by simp⟩
  · simp only [List.cons.injEq, and_true] at hc
    subst hc
    have hsp := hsp0 a len cap rfl
    simp only [if_true] at hm
    subst hm
    have hall : ∀ i, i < len → ∃ x : α, w.cells? 0 (a.add (i * n)) n = some (enc x) ∧ ok x := by
      intro i hi
      obtain ⟨cs', h1, h2⟩ := hx i (by omega)
      obtain ⟨x, rfl, hok⟩ := hdec _ _ _ h2
      rw [hn] at h1
      exact ⟨x, h1, hok⟩
    obtain ⟨xs, hl, hxs⟩ := choose_list (Q := fun i x => w.cells? 0 (a.add (i * n)) n = some (enc x) ∧ ok x) len hall
    refine ⟨a.block, xs, ?_, fun x hx' => ?_, by omega⟩
    · refine ⟨some a, m, by rw [hl], by omega, ?_⟩
      have ha : a = ⟨a.block, a.off, none⟩ := by
        obtain ⟨b, o, s⟩ := a; simp only at hsp; subst hsp; rfl
      by_cases h0 : xs = []
      · exact .inl ⟨h0, .inr ⟨_, _, by rw [← ha]⟩⟩
      · right
        have hlp : 0 < xs.length := List.length_pos_iff.2 h0
        have hcell : ∀ i (hi : i < xs.length) j, j < n → w.cell? ⟨a.block, a.off + i * n + j, none⟩ = (enc xs[i])[j]? := by
          intro i hi j hj
          have h1 := (hxs i hi).1
          unfold World.cells? at h1
          rw [if_pos (Nat.zero_le _), add_plain hsp] at h1
          have := mapM_get h1 j j (by simp [hj])
          rw [add_plain rfl] at this
          exact this
        have h00 := hcell 0 hlp 0 hpos
        simp only [World.cell?] at h00
        have hblk : ∃ c T fz, w.heap[a.block]? = some (.cells c T fz) := by
          split at h00
          · rename_i c T fz hb; exact ⟨c, T, fz, hb⟩
          · rw [List.getElem?_eq_getElem (by rw [he]; exact hpos)] at h00; cases h00
        obtain ⟨c, T, fz, hb⟩ := hblk
        have hcc : ∀ i (hi : i < xs.length) j, j < n → c[a.off + i * n + j]? = (enc xs[i])[j]? := by
          intro i hi j hj
          have := hcell i hi j hj
          simpa [World.cell?, hb] using this
        have hrl := row_length he xs
        have hmid : (c.toList.drop a.off).take (xs.length * n) = row enc xs := by
          apply List.ext_getElem?
          intro k
          by_cases hk : k < xs.length * n
          · have hi : k / n < xs.length := (Nat.div_lt_iff_lt_mul hpos).2 hk
            have hj : k % n < n := Nat.mod_lt _ hpos
            have hkk : k / n * n + k % n = k := by rw [Nat.mul_comm]; exact Nat.div_add_mod k n
            have g := row_get he hi hj []
            rw [List.append_nil, hkk] at g
            rw [g, ← hcc _ hi _ hj, List.getElem?_take_of_lt hk, List.getElem?_drop, Nat.add_assoc, hkk]
            simp
          · rw [List.getElem?_eq_none (by simp; omega), List.getElem?_eq_none (by omega)]
        have hsize : a.off + xs.length * n ≤ c.size := by
          have hi : xs.length - 1 < xs.length := by omega
          have h1 := hcc (xs.length - 1) hi (n - 1) (by omega)
          rw [List.getElem?_eq_getElem (by rw [he]; omega)] at h1
          have h2 := (Array.getElem?_eq_some_iff.1 h1).1
          have h3 : (xs.length - 1) * n + n = xs.length * n := by rw [← Nat.succ_mul]; congr 1; omega
          omega
        refine ⟨a.off, c.toList.take a.off, c.toList.drop (a.off + xs.length * n), T, fz, by rw [← ha], ?_, by simp; omega⟩
        rw [hb, ← hmid]
        have : c.toList.take a.off ++ (c.toList.drop a.off).take (xs.length * n) ++ c.toList.drop (a.off + xs.length * n) = c.toList := by
          rw [← List.drop_drop, List.append_assoc, List.take_append_drop, List.take_append_drop]
        rw [this]
    · obtain ⟨i, hi, rfl⟩ := List.mem_iff_getElem.1 hx'
      exact (hxs i hi).2


/-- Cells of a type, given: they can be gone through, and slices among them begin at no spot. -/
def Opn (encD : TypeId × Value → H) (P : Program) (w : World) (t : TypeId) (cs : List Value) : Prop :=
  (∃ fuel x, DataW.trod encD P w 0 (fun _ => true) true fuel t cs = some x) ∧ ∀ v ∈ cs, ∀ a l c, v = .slice (some a) l c → a.spot = none

theorem cell_spot {a : Addr} {l c : Nat} (h : Cell.okWide P w r base t (.slice (some a) l c)) : a.spot = none := by
  unfold Cell.okWide at h
  cases hu : P.underlying t with
  | none => simp [hu, Cell.ok] at h
  | some u =>
    cases u <;> simp [hu, Cell.ok] at h
    exact h.2.2.2.1

theorem Opn.of_slice (ht : P.underlying t = some (.slice e)) (hv : Value.okWide P w r base t v) (hd : DataW.Trod encD P w 0 (fun _ => true) true t v d p) : Opn encD P w t [v] := by
  obtain ⟨a0, len0, cap0, rfl⟩ := okWide_slice ht hv
  obtain ⟨fuel, hf⟩ := hd
  refine ⟨⟨fuel, _, hf⟩, fun v hv' a l c e' => ?_⟩
  simp at hv'
  subst hv'
  injection e' with e1 e2 e3
  subst e1
  exact okWide_slice_spot ht hv

def isAgg (P : Program) (t : TypeId) : Bool := match P.underlying t with
  | some (.struct _) | some (.array _ _) => true
  | _ => false

theorem agg_of (ha : isAgg P t = true) (hn : P.cellsOf t = n) (hv : Value.okWide P w r base t v) (hd : DataW.Trod encD P w 0 (fun _ => true) true t v d p) :
    ∃ cs : List Value, v = .agg cs.toArray ∧ cs.length = n ∧ Opn encD P w t cs := by
  have : ∃ cs, v = .agg cs ∧ cs.size = P.cellsOf t ∧ Row.okWide P w r base t cs := by
    unfold Value.okWide at hv
    unfold isAgg at ha
    split at hv
    · exact hv
    · exact hv
    · rename_i h1 h2
      split at ha
      · rename_i h3; exact absurd h3 (h1 _)
      · rename_i h3; exact absurd h3 (h2 _ _)
      · cases ha
  obtain ⟨cs, rfl, hs, ts, _, _, hc⟩ := this
  obtain ⟨fuel, hf⟩ := hd
  refine ⟨cs.toList, by simp, by simpa [hn] using hs, ⟨fuel, _, hf⟩, fun v hv a l c e => ?_⟩
  obtain ⟨i, hi⟩ := List.getElem?_of_mem hv
  obtain ⟨u, _, hu⟩ := hc i v (by simpa using hi)
  rw [e] at hu
  exact cell_spot hu

def fieldOf (P : Program) (t : TypeId) (i : Nat) : Option (TypeId × Nat) := match P.underlying t with
  | some (.struct fs) => fs.toList[i]?.map fun f => (f.type, f.offset)
  | _ => none

theorem Opn.field (O : Opn encD P w t cs) (i : Nat) {ft : TypeId} {off : Nat} {cs' : List Value} (hf : fieldOf P t i = some (ft, off)) (hn : P.cellsOf ft = n) (hcs : (cs.drop off).take n = cs') : Opn encD P w ft cs' := by
  obtain ⟨⟨fuel, x, h⟩, hs⟩ := O
  unfold fieldOf at hf
  split at hf
  · rename_i fs ht
    obtain ⟨xs, m, rfl, _, _, _, hfs⟩ := DataW.trod_struct ht h
    simp only [Option.map_eq_some_iff] at hf
    obtain ⟨f, hi, e⟩ := hf
    injection e with e1 e2
    subst e1 e2 hn hcs
    refine ⟨⟨m, ?_⟩, fun v hv => hs v (List.mem_of_mem_drop (List.mem_of_mem_take hv))⟩
    have hh := hfs i f (by simpa using hi)
    obtain ⟨y, hy⟩ : ∃ y, xs[i]? = some y := by
      have : i < xs.length := by
        have := (List.getElem?_eq_some_iff.1 hi).1
        simp_all
      exact ⟨_, List.getElem?_eq_getElem this⟩
    exact ⟨y, by rw [hh, hy]⟩
  · cases hf

theorem Opn.elem {m : Nat} (O : Opn encD P w t cs) (i : Nat) {cs' : List Value} (ht : P.underlying t = some (.array m e)) (hi : i < m) (hn : P.cellsOf e = n) (hcs : (cs.drop (i * n)).take n = cs') : Opn encD P w e cs' := by
  obtain ⟨⟨fuel, x, h⟩, hs⟩ := O
  obtain ⟨xs, k, rfl, _, _, hl, hfs⟩ := DataW.trod_array ht h
  subst hn hcs
  refine ⟨⟨k, xs[i], ?_⟩, fun v hv => hs v (List.mem_of_mem_drop (List.mem_of_mem_take hv))⟩
  rw [hfs i hi, List.getElem?_eq_getElem (by omega)]

theorem Opn.int {k : IntKind} (O : Opn encD P w t [v]) (ht : P.underlying t = some (.int k)) : ∃ a : Int, v = .int k a ∧ k.min ≤ a ∧ a ≤ k.max := by
  obtain ⟨⟨fuel, x, h⟩, _⟩ := O
  obtain ⟨a, e, r⟩ := dec_int ht _ _ _ h
  simp only [List.cons.injEq, and_true] at e
  exact ⟨a, e, r⟩

theorem Opn.view (he : ∀ a, (enc a).length = n) (O : Opn encD P w t [v]) (ht : P.underlying t = some (.slice e)) (hn : P.cellsOf e = n) (hpos : 0 < n)
    (hdec : ∀ fuel cs x, DataW.trod encD P w 0 (fun _ => true) true fuel e cs = some x → ∃ a, cs = enc a ∧ ok a) : ∃ bl xs, VwR enc n w.heap v bl xs ∧ (∀ a ∈ xs, ok a) ∧ xs.length ≤ maxLen := by
  obtain ⟨⟨fuel, x, h⟩, hs⟩ := O
  exact view_at he ht hn hpos hdec h (hs v (by simp))

theorem dec_bool (he : P.underlying e = some .bool) {sp : Nat → Bool} : ∀ fuel cs x, DataW.trod encD P w 0 sp true fuel e cs = some x → ∃ a : Bool, cs = [.bool a] ∧ True := by
  intro fuel cs x h
  cases fuel with
  | zero => simp [DataW.trod] at h
  | succ m =>
    unfold DataW.trod at h
    rw [he] at h
    split at h <;> simp_all

theorem len2 {l : List Value} (h : l.length = 2) : ∃ a b, l = [a, b] := by match l, h with | [a, b], _ => exact ⟨a, b, rfl⟩
theorem len3 {l : List Value} (h : l.length = 3) : ∃ a b c, l = [a, b, c] := by match l, h with | [a, b, c], _ => exact ⟨a, b, c, rfl⟩
theorem len4 {l : List Value} (h : l.length = 4) : ∃ a b c d, l = [a, b, c, d] := by match l, h with | [a, b, c, d], _ => exact ⟨a, b, c, d, rfl⟩
theorem len5 {l : List Value} (h : l.length = 5) : ∃ a b c d e, l = [a, b, c, d, e] := by match l, h with | [a, b, c, d, e], _ => exact ⟨a, b, c, d, e, rfl⟩
theorem len6 {l : List Value} (h : l.length = 6) : ∃ a b c d e f, l = [a, b, c, d, e, f] := by match l, h with | [a, b, c, d, e, f], _ => exact ⟨a, b, c, d, e, f, rfl⟩
theorem len7 {l : List Value} (h : l.length = 7) : ∃ a b c d e f g, l = [a, b, c, d, e, f, g] := by match l, h with | [a, b, c, d, e, f, g], _ => exact ⟨a, b, c, d, e, f, g, rfl⟩
theorem len8 {l : List Value} (h : l.length = 8) : ∃ a b c d e f g i, l = [a, b, c, d, e, f, g, i] := by match l, h with | [a, b, c, d, e, f, g, i], _ => exact ⟨a, b, c, d, e, f, g, i, rfl⟩

/-- Numbers of a kind. -/
def encK (k : IntKind) (x : Int) : List Value := [.int k x]
theorem encK_len (k : IntKind) (x : Int) : (encK k x).length = 1 := rfl
def encB (x : Bool) : List Value := [.bool x]

end
end Go.Mh
