/- A text of the proofs of seat Ytdpofmalgemcdaa: 'Mh.Mem'. It has no condition of its own. -/
import Derived.Test.YtdpofmalgemcdaaMhFn
set_option linter.unusedVariables false
set_option linter.unusedSimpArgs false
namespace Go.Mh
open Go

def upd (h : Heap) (b : Nat) (o : Obj) : Heap := h.setIfInBounds b o
theorem setIf_upd (h : Heap) (b : Nat) (o : Obj) : h.setIfInBounds b o = upd h b o := rfl

section
variable {h h' h1 h2 : Heap} {b c : Nat} {o x : Obj}

theorem get_lt (hb : h[b]? = some o) : b < h.size := (Array.getElem?_eq_some_iff.1 hb).1
theorem upd_self (hb : b < h.size) : (upd h b o)[b]? = some o := by simp [upd, hb]
theorem upd_self' (hb : h[b]? = some x) : (upd h b o)[b]? = some o := upd_self (get_lt hb)
theorem upd_ne (hne : b ≠ c) : (upd h b o)[c]? = h[c]? := by simp [upd, Array.getElem?_setIfInBounds_ne hne]
theorem upd_size : (upd h b o).size = h.size := by simp [upd]
theorem push_new : (h.push o)[h.size]? = some o := by simp
theorem push_size : (h.push o).size = h.size + 1 := by simp

/-- Only blocks of S are turned, and blocks may come. -/
structure Upd (S : Nat → Prop) (h h' : Heap) : Prop where
  size : h.size ≤ h'.size
  same : ∀ b, b < h.size → ¬ S b → h'[b]? = h[b]?

theorem Upd.refl (S : Nat → Prop) (h : Heap) : Upd S h h := ⟨Nat.le_refl _, fun _ _ _ => rfl⟩
theorem Upd.trans {S S' : Nat → Prop} (a : Upd S h h1) (a' : Upd S' h1 h2) (hs : ∀ b, S' b → b < h.size → S b) : Upd S h h2 :=
  ⟨Nat.le_trans a.size a'.size, fun b hb hn => (a'.same b (Nat.lt_of_lt_of_le hb a.size) (fun hs' => hn (hs b hs' hb))).trans (a.same b hb hn)⟩
theorem Upd.mono {S S' : Nat → Prop} (a : Upd S h h1) (hs : ∀ b, S b → b < h.size → S' b) : Upd S' h h1 :=
  ⟨a.size, fun b hb hn => a.same b hb fun hb' => hn (hs b hb' hb)⟩
theorem Upd.push (S : Nat → Prop) (h : Heap) (o : Obj) : Upd S h (h.push o) :=
  ⟨by simp, fun b hb _ => by rw [Array.getElem?_push]; simp [Nat.ne_of_lt hb]⟩
theorem Upd.upd {S : Nat → Prop} (h : Heap) {b : Nat} (o : Obj) (hb : S b) : Upd S h (upd h b o) :=
  ⟨by simp [Mh.upd], fun c _ hn => upd_ne (fun e => hn (e ▸ hb))⟩
theorem Upd.get {S : Nat → Prop} (a : Upd S h h1) (hb : h[b]? = some o) (hn : ¬ S b) : h1[b]? = some o := (a.same b (get_lt hb) hn).trans hb

/-- Nothing old is turned. -/
abbrev Ext (h h' : Heap) : Prop := Upd (fun _ => False) h h'
theorem Ext.get (a : Ext h h1) (hb : h[b]? = some o) : h1[b]? = some o := Upd.get a hb id
theorem Ext.upd {S : Nat → Prop} (a : Ext h h1) : Upd S h h1 := a.mono fun _ hf _ => hf.elim

theorem hcell_of {cs : Array Value} {T : TypeId} {fz : Nat × Nat} {i : Nat} {v : Value} (hb : h[b]? = some (.cells cs T fz)) (hv : cs[i]? = some v) : hcell h ⟨b, i, none⟩ = some v := by
  simp [hcell, hb, hv]

theorem hfrozen_of {cs : Array Value} {T : TypeId} {i : Nat} (hb : h[b]? = some (.cells cs T (0, 0))) : hfrozen h ⟨b, i, none⟩ = false := by
  simp [hfrozen, hb]

theorem hset_of {cs : Array Value} {T : TypeId} {fz : Nat × Nat} {i : Nat} {v : Value} (hb : h[b]? = some (.cells cs T fz)) :
    hset h ⟨b, i, none⟩ v = upd h b (.cells (cs.setIfInBounds i v) T fz) := by
  have hlt := get_lt hb
  have hbe : h[b] = .cells cs T fz := by simpa [Array.getElem?_eq_getElem hlt] using hb
  unfold hset upd
  apply Array.ext
  · simp
  · intro j h1 h2
    simp only [Array.size_modify] at h1
    rw [Array.getElem_modify, Array.getElem_setIfInBounds h1]
    split
    · rename_i e; subst e; simp [hbe]
    · rfl

theorem upd_upd {o1 o2 : Obj} : upd (upd h b o1) b o2 = upd h b o2 := by simp [upd]

/-! ### Stepping -/

theorem pLoad_of {a : Value} {v : Value} {i : Nat} {K : Value → Prop} (ha : a = .pointer (some ⟨b, i, none⟩)) (hv : hcell h ⟨b, i, none⟩ = some v) (hk : K v) : pLoad h a K := by
  subst ha; simp [pLoad, hv, hk]

theorem cellsAt_of {cs : List Value} {T : TypeId} {fz : Nat × Nat} {i : Nat} (hb : h[b]? = some (.cells cs.toArray T fz)) : ∀ (n i : Nat), i + n ≤ cs.length → cellsAt h b i n = some ((cs.drop i).take n)
  | 0, i, _ => by simp [cellsAt]
  | n + 1, i, hle => by
    have hlt : i < cs.length := by omega
    have hv : hcell h ⟨b, i, none⟩ = some cs[i] := hcell_of hb (by simp [hlt])
    simp only [cellsAt, hv]
    rw [cellsAt_of (i := i) hb n (i + 1) (by omega)]
    simp only [Option.some.injEq]
    rw [List.drop_eq_getElem_cons hlt, List.take_succ_cons]

/-- The row of a block over-written from a place on. -/
def over (cs : List Value) (i : Nat) (l : List Value) : List Value := cs.take i ++ l ++ cs.drop (i + l.length)

theorem over_length {cs : List Value} {i : Nat} {l : List Value} (hle : i + l.length ≤ cs.length) : (over cs i l).length = cs.length := by
  simp [over]; omega

theorem storeL_of {T : TypeId} {K : Heap → Prop} : ∀ (l : List Value) (i : Nat) (h : Heap) (cs : List Value), h[b]? = some (.cells cs.toArray T (0, 0)) → i + l.length ≤ cs.length →
    (∀ v ∈ l, plainCell v = true) → K (upd h b (.cells (over cs i l).toArray T (0, 0))) → storeL h b i l K
  | [], i, h, cs, hb, hle, _, hk => by
    have : over cs i [] = cs := by simp [over]
    rw [this] at hk
    have : upd h b (.cells cs.toArray T (0, 0)) = h := by
      have hlt := get_lt hb
      apply Array.ext
      · simp [upd]
      · intro j h1 h2
        have : h[b] = .cells cs.toArray T (0, 0) := by simpa [Array.getElem?_eq_getElem hlt] using hb
        simp only [upd, Array.getElem_setIfInBounds h2]
        split
        · rename_i e; subst e; exact this.symm
        · rfl
    rw [this] at hk
    exact hk
  | v :: l, i, h, cs, hb, hle, hp, hk => by
    simp only [List.length_cons] at hle
    have hlt : i < cs.length := by omega
    refine ⟨hp v List.mem_cons_self, ?_, hfrozen_of hb, ?_⟩
    · rw [hcell_of hb (v := cs[i]) (by simp [hlt])]; rfl
    · rw [hset_of hb]
      have e : (cs.toArray.setIfInBounds i v) = (cs.set i v).toArray := by simp
      rw [e]
      refine storeL_of l (i + 1) _ (cs.set i v) (upd_self' hb) (by simp; omega) (fun u hu => hp u (List.mem_cons_of_mem _ hu)) ?_
      rw [upd_upd]
      have : over (cs.set i v) (i + 1) l = over cs i (v :: l) := by
        simp only [over, List.length_cons]
        rw [List.take_succ_eq_append_getElem (by simpa using hlt)]
        simp only [List.getElem_set_self, List.append_assoc, List.singleton_append, List.cons_append]
        rw [List.take_set_of_le (Nat.le_refl i), List.drop_set_of_lt (by omega)]
        simp [Nat.add_comm, Nat.add_left_comm]
      rw [this]; exact hk

/-! ### Rows of elements of one size -/

section rows
variable {α : Type} {enc : α → List Value} {n : Nat}

def row (enc : α → List Value) (xs : List α) : List Value := xs.flatMap enc

theorem row_length (hn : ∀ a, (enc a).length = n) : ∀ xs : List α, (row enc xs).length = xs.length * n
  | [] => by simp [row]
  | x :: xs => by
    have := row_length hn xs
    simp only [row, List.flatMap_cons, List.length_append, List.length_cons] at *
    rw [this, hn, Nat.succ_mul, Nat.add_comm]

theorem row_take (hn : ∀ a, (enc a).length = n) : ∀ (xs : List α) (i : Nat), (row enc xs).take (i * n) = row enc (xs.take i)
  | [], i => by simp [row]
  | x :: xs, 0 => by simp [row]
  | x :: xs, i + 1 => by
    have := row_take hn xs i
    simp only [row, List.flatMap_cons, List.take_succ_cons] at *
    rw [Nat.succ_mul, Nat.add_comm, ← hn x, List.take_append, List.take_of_length_le (by omega), hn x]
    simp [this]

theorem row_drop (hn : ∀ a, (enc a).length = n) : ∀ (xs : List α) (i : Nat), (row enc xs).drop (i * n) = row enc (xs.drop i)
  | [], i => by simp [row]
  | x :: xs, 0 => by simp [row]
  | x :: xs, i + 1 => by
    have := row_drop hn xs i
    simp only [row, List.flatMap_cons, List.drop_succ_cons] at *
    rw [Nat.succ_mul, Nat.add_comm, ← hn x, List.drop_append, List.drop_of_length_le (by omega), hn x]
    simp [this]

theorem row_append (xs ys : List α) : row enc (xs ++ ys) = row enc xs ++ row enc ys := by simp [row]

theorem row_slot (hn : ∀ a, (enc a).length = n) {xs : List α} {i : Nat} (hi : i < xs.length) (rest : List Value) :
    ((row enc xs ++ rest).drop (i * n)).take n = enc xs[i] := by
  have hl := row_length hn xs
  have hle : i * n + n ≤ xs.length * n := by
    have := Nat.mul_le_mul_right n (Nat.succ_le_of_lt hi)
    rw [Nat.succ_mul] at this; exact this
  rw [List.drop_append_of_le_length (by omega), row_drop hn, List.take_append_of_le_length (by rw [row_length hn]; simp; rw [Nat.sub_mul]; omega)]
  rw [List.drop_eq_getElem_cons hi]
  simp only [row, List.flatMap_cons]
  rw [List.take_append_of_le_length (by rw [hn]; exact Nat.le_refl _), List.take_of_length_le (by rw [hn]; exact Nat.le_refl _)]

theorem row_get (hn : ∀ a, (enc a).length = n) {xs : List α} {i j : Nat} (hi : i < xs.length) (hj : j < n) (rest : List Value) :
    (row enc xs ++ rest)[i * n + j]? = (enc xs[i])[j]? := by
  rw [← row_slot hn hi rest, List.getElem?_take_of_lt hj, List.getElem?_drop]

theorem row_over (hn : ∀ a, (enc a).length = n) {xs : List α} {i : Nat} (hi : i < xs.length) (a : α) (rest : List Value) :
    over (row enc xs ++ rest) (i * n) (enc a) = row enc (xs.set i a) ++ rest := by
  have hl := row_length hn xs
  have hle : i * n + n ≤ xs.length * n := by
    have := Nat.mul_le_mul_right n (Nat.succ_le_of_lt hi)
    rw [Nat.succ_mul] at this; exact this
  unfold over
  rw [hn, List.take_append_of_le_length (by omega), row_take hn, show i * n + n = (i + 1) * n by rw [Nat.succ_mul], List.drop_append_of_le_length (by rw [Nat.succ_mul]; omega), row_drop hn]
  rw [List.set_eq_take_append_cons_drop, if_pos hi]
  simp [row]

end rows
end
end Go.Mh
