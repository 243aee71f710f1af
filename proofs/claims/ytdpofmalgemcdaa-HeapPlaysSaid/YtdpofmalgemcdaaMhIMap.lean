/- A text of the proofs of seat Ytdpofmalgemcdaa: 'Mh.IMap'. It has no condition of its own. -/
import Derived.Test.YtdpofmalgemcdaaMhStep
set_option linter.unusedVariables false
set_option linter.unusedSimpArgs false
namespace Go.Mh
open Go

/-! Maps whose keys are ints, as functions. -/

abbrev Ent := Int × Value × Nat

def ent (x : Ent) : MapEntry := { key := .int .i64 x.1, val := x.2.1, born := x.2.2 }

def lk (k : Int) : List Ent → Option Value
  | [] => none
  | x :: r => if x.1 = k then some x.2.1 else lk k r

def fi (k : Int) : List Ent → Nat → Option (Nat × Value)
  | [], _ => none
  | x :: r, j => if x.1 = k then some (j, x.2.1) else fi k r (j + 1)

structure IMapL (es : Array MapEntry) (clock : Nat) (t : List Ent) : Prop where
  ents : es.toList = t.map ent
  keys : (t.map (·.1)).Nodup
  borns : (t.map (·.2.2)).Nodup
  old : ∀ x ∈ t, x.2.2 < clock

/-- The entries of a map that is f. -/
def IMap (es : Array MapEntry) (clock : Nat) (f : Int → Option Value) : Prop := ∃ t, IMapL es clock t ∧ ∀ k, f k = lk k t

def fset (f : Int → Option Value) (k : Int) (v : Value) : Int → Option Value := fun x => if x = k then some v else f x
def fdel (f : Int → Option Value) (k : Int) : Int → Option Value := fun x => if x = k then none else f x

theorem fset_same (f : Int → Option Value) (k : Int) (x y : Value) : fset (fset f k x) k y = fset f k y := by
  funext z; unfold fset; split <;> rfl

theorem findNow_ents (k : Int) : ∀ (t : List Ent) (j : Nat), Instr.findNow (.int .i64) (.int .i64 k) (t.map ent) j = some (fi k t j)
  | [], j => rfl
  | x :: t, j => by
    simp only [List.map_cons, Instr.findNow, ent, Instr.sameNow, if_true]
    by_cases h : x.1 = k
    · subst h; simp [fi]
    · have : (k == x.1) = false := by simpa using fun e => h e.symm
      rw [this]
      simp only [fi, if_neg h]
      exact findNow_ents k t (j + 1)

theorem fi_lk (k : Int) : ∀ (t : List Ent) (j : Nat), (fi k t j).map (·.2) = lk k t
  | [], _ => rfl
  | x :: t, j => by
    simp only [fi, lk]; split
    · rfl
    · exact fi_lk k t (j + 1)

theorem fi_none {k : Int} : ∀ {t : List Ent} {j : Nat}, fi k t j = none → ∀ x ∈ t, x.1 ≠ k
  | [], _, _ => by intro x hx; cases hx
  | x :: t, j, h => by
    simp only [fi] at h
    split at h
    · cases h
    · rename_i hx
      intro y hy
      rcases List.mem_cons.1 hy with rfl | hy
      · exact hx
      · exact fi_none h y hy

theorem lk_none {k : Int} : ∀ {t : List Ent}, (∀ x ∈ t, x.1 ≠ k) → lk k t = none
  | [], _ => rfl
  | x :: t, h => by
    simp only [lk, if_neg (h x List.mem_cons_self)]
    exact lk_none fun y hy => h y (List.mem_cons_of_mem _ hy)

theorem lk_append {k : Int} {t s : List Ent} : lk k (t ++ s) = (lk k t).orElse fun _ => lk k s := by
  induction t with
  | nil => rfl
  | cons x t ih =>
    simp only [List.cons_append, lk]; split
    · rfl
    · exact ih

/-- What is found at a place is the one entry with the key. -/
theorem fi_modify {k : Int} {g : Ent → Ent} : ∀ {t : List Ent} {j i : Nat} {v : Value}, (t.map (·.1)).Nodup → fi k t j = some (i, v) →
    j ≤ i ∧ t.modify (i - j) g = t.map (fun x => if x.1 = k then g x else x)
  | x :: t, j, i, v, hn, h => by
    simp only [List.map_cons, List.nodup_cons] at hn
    simp only [fi] at h
    split at h
    · rename_i hx
      simp only [Option.some.injEq, Prod.mk.injEq] at h
      obtain ⟨rfl, rfl⟩ := h
      refine ⟨Nat.le_refl _, ?_⟩
      simp only [Nat.sub_self, List.modify_zero_cons, List.map_cons, if_pos hx]
      congr 1
      have : ∀ y ∈ t, y.1 ≠ k := fun y hy e => hn.1 (by rw [hx, ← e]; exact List.mem_map_of_mem hy)
      symm
      rw [List.map_congr_left (g := id) (fun y hy => by simp [this y hy])]
      simp
    · rename_i hx
      obtain ⟨h1, h2⟩ := fi_modify (g := g) hn.2 h
      refine ⟨by omega, ?_⟩
      rw [show i - j = (i - (j + 1)) + 1 by omega]
      simp only [List.modify_succ_cons, List.map_cons, if_neg hx, h2]

theorem fi_erase {k : Int} : ∀ {t : List Ent} {j i : Nat} {v : Value}, (t.map (·.1)).Nodup → fi k t j = some (i, v) →
    j ≤ i ∧ i - j < t.length ∧ t.eraseIdx (i - j) = t.filter (fun x => x.1 ≠ k)
  | x :: t, j, i, v, hn, h => by
    simp only [List.map_cons, List.nodup_cons] at hn
    simp only [fi] at h
    split at h
    · rename_i hx
      simp only [Option.some.injEq, Prod.mk.injEq] at h
      obtain ⟨rfl, rfl⟩ := h
      refine ⟨Nat.le_refl _, by simp, ?_⟩
      have : ∀ y ∈ t, y.1 ≠ k := fun y hy e => hn.1 (by rw [hx, ← e]; exact List.mem_map_of_mem hy)
      simp only [Nat.sub_self, List.eraseIdx_zero, List.tail_cons]
      rw [List.filter_cons_of_neg (by simp [hx]), List.filter_eq_self.2 (fun y hy => by simpa using this y hy)]
    · rename_i hx
      obtain ⟨h1, h2, h3⟩ := fi_erase hn.2 h
      refine ⟨by omega, by simp; omega, ?_⟩
      rw [show i - j = (i - (j + 1)) + 1 by omega]
      simp only [List.eraseIdx_cons_succ, h3]
      rw [List.filter_cons_of_pos (by simpa using hx)]

theorem lk_map {k k' : Int} {v : Value} : ∀ {t : List Ent}, lk k' (t.map fun x => if x.1 = k then (x.1, v, x.2.2) else x) = if k' = k then (lk k t).map (fun _ => v) else lk k' t
  | [] => by simp [lk]
  | x :: t => by
    have ih := lk_map (k := k) (k' := k') (v := v) (t := t)
    simp only [List.map_cons, lk]
    by_cases hx : x.1 = k
    · simp only [if_pos hx]
      by_cases hk : k' = k
      · simp [hk, hx]
      · have : ¬ x.1 = k' := fun e => hk (by rw [← e, hx])
        simp only [this, if_false, hk] at ih ⊢
        exact ih
    · simp only [if_neg hx]
      by_cases hk : x.1 = k'
      · have : ¬ k' = k := fun e => hx (by rw [hk, e])
        simp [hk, this]
      · simp only [if_neg hk]; exact ih

theorem lk_filter {k k' : Int} : ∀ {t : List Ent}, lk k' (t.filter fun x => x.1 ≠ k) = if k' = k then none else lk k' t
  | [] => by simp [lk]
  | x :: t => by
    have ih := lk_filter (k := k) (k' := k') (t := t)
    by_cases hx : x.1 = k
    · rw [List.filter_cons_of_neg (by simp [hx]), ih]
      simp only [lk]
      by_cases hk : k' = k
      · simp [hk]
      · have : ¬ x.1 = k' := fun e => hk (by rw [← e, hx])
        simp [hk, this]
    · rw [List.filter_cons_of_pos (by simpa using hx)]
      simp only [lk, ih]
      by_cases hk : x.1 = k'
      · have : ¬ k' = k := fun e => hx (by rw [hk, e])
        simp [hk, this]
      · simp [hk]

theorem IMap.congr {es : Array MapEntry} {c : Nat} {f g : Int → Option Value} (h : IMap es c f) (hfg : ∀ k, f k = g k) : IMap es c g := by
  obtain ⟨t, ht, hf⟩ := h
  exact ⟨t, ht, fun k => (hfg k).symm.trans (hf k)⟩

theorem IMap.empty : IMap #[] 0 (fun _ => none) := ⟨[], ⟨rfl, by simp, by simp, by simp⟩, fun _ => rfl⟩

theorem map_eraseIdx {α β : Type} (g : α → β) : ∀ (t : List α) (i : Nat), (t.eraseIdx i).map g = (t.map g).eraseIdx i
  | [], _ => by simp
  | _ :: _, 0 => by simp
  | x :: t, i + 1 => by simp [map_eraseIdx g t i]

section
variable {h : Heap} {m c : Nat} {es : Array MapEntry} {f : Int → Option Value}

theorem look_of {z : Value} {ok : Bool} {k : Int} {K : Value → Prop} (hm : h[m]? = some (.map es c)) (hi : IMap es c f)
    (hk : K (if ok then .tuple #[(f k).getD z, .bool (f k).isSome] else (f k).getD z)) : pLook (.int .i64) z ok h (.map (some m)) (.int .i64 k) K := by
  obtain ⟨t, ht, hf⟩ := hi
  simp only [pLook, hm, ht.ents, findNow_ents]
  have hlk := fi_lk k t 0
  rw [hf k, ← hlk] at hk
  cases hfi : fi k t 0 with
  | none => rw [hfi] at hk; simpa using hk
  | some p => rw [hfi] at hk; simpa using hk

theorem IMapL.set {t : List Ent} {i : Nat} {k : Int} {v old : Value} (ht : IMapL es c t) (hfi : fi k t 0 = some (i, old)) :
    IMapL (es.modify i fun e => { e with key := .int .i64 k, val := v }) c (t.map fun x => if x.1 = k then (x.1, v, x.2.2) else x) := by
  have hm := (fi_modify (g := fun x => (x.1, v, x.2.2)) ht.keys hfi).2
  rw [Nat.sub_zero] at hm
  refine ⟨?_, ?_, ?_, ?_⟩
  · rw [Array.toList_modify, ht.ents, ← hm]
    apply List.ext_getElem
    · simp
    · intro j h1 h2
      simp only [List.getElem_modify, List.getElem_map]
      split
      · rename_i e; subst e
        have hlt : i < t.length := by simpa using h1
        have : (t.modify i fun x => (x.1, v, x.2.2))[i]? = (t.map fun x => if x.1 = k then (x.1, v, x.2.2) else x)[i]? := by rw [hm]
        have hkey : t[i].1 = k := by
          have key : ∀ (t : List Ent) (j i : Nat), fi k t j = some (i, old) → ∃ hlt : i - j < t.length, t[i - j].1 = k ∧ j ≤ i := by
            intro t
            induction t with
            | nil => intro j i h; cases h
            | cons x t ih =>
              intro j i h
              simp only [fi] at h
              split at h
              · rename_i hx
                simp only [Option.some.injEq, Prod.mk.injEq] at h
                obtain ⟨rfl, _⟩ := h
                exact ⟨by simp, by simpa using hx, Nat.le_refl _⟩
              · obtain ⟨h1, h2, h3⟩ := ih _ _ h
                refine ⟨by simp; omega, ?_, by omega⟩
                have : i - j = (i - (j + 1)) + 1 := by omega
                simp only [this, List.getElem_cons_succ]; exact h2
          obtain ⟨_, h2, _⟩ := key t 0 i hfi
          simpa using h2
        simp [ent, hkey]
      · rfl
  · have : (t.map fun x => if x.1 = k then (x.1, v, x.2.2) else x).map (·.1) = t.map (·.1) := by
      rw [List.map_map]; apply List.map_congr_left; intro x _; simp only [Function.comp]; split <;> rfl
    rw [this]; exact ht.keys
  · have : (t.map fun x => if x.1 = k then (x.1, v, x.2.2) else x).map (·.2.2) = t.map (·.2.2) := by
      rw [List.map_map]; apply List.map_congr_left; intro x _; simp only [Function.comp]; split <;> rfl
    rw [this]; exact ht.borns
  · intro x hx
    obtain ⟨y, hy, rfl⟩ := List.mem_map.1 hx
    have := ht.old y hy
    split <;> exact this

theorem IMapL.push {t : List Ent} {k : Int} {v : Value} (ht : IMapL es c t) (hfi : fi k t 0 = none) :
    IMapL (es.push { key := .int .i64 k, val := v, born := c }) (c + 1) (t ++ [(k, v, c)]) := by
  refine ⟨by simp [ht.ents, ent], ?_, ?_, ?_⟩
  · rw [List.map_append, List.nodup_append]
    refine ⟨ht.keys, by simp, ?_⟩
    intro a ha b hb
    obtain ⟨x, hx, rfl⟩ := List.mem_map.1 ha
    simp only [List.map_cons, List.map_nil, List.mem_singleton] at hb; subst hb
    exact fi_none hfi x hx
  · rw [List.map_append, List.nodup_append]
    refine ⟨ht.borns, by simp, ?_⟩
    intro a ha b hb
    obtain ⟨x, hx, rfl⟩ := List.mem_map.1 ha
    simp only [List.map_cons, List.map_nil, List.mem_singleton] at hb; subst hb
    exact Nat.ne_of_lt (ht.old x hx)
  · intro x hx
    rcases List.mem_append.1 hx with hx | hx
    · exact Nat.lt_succ_of_lt (ht.old x hx)
    · rw [List.mem_singleton.1 hx]; exact Nat.lt_succ_self _

theorem lk_set {t : List Ent} {k : Int} {v old : Value} {i : Nat} (hfi : fi k t 0 = some (i, old)) (x : Int) :
    lk x (t.map fun x => if x.1 = k then (x.1, v, x.2.2) else x) = if x = k then some v else lk x t := by
  rw [lk_map]
  split
  · rw [← fi_lk k t 0, hfi]; rfl
  · rfl

theorem lk_push {t : List Ent} {k : Int} {v : Value} {b : Nat} (hfi : fi k t 0 = none) (x : Int) :
    lk x (t ++ [(k, v, b)]) = if x = k then some v else lk x t := by
  rw [lk_append]
  by_cases hx : x = k
  · subst hx; rw [lk_none (fi_none hfi)]; simp [lk]
  · have : ¬ k = x := fun e => hx e.symm
    simp [hx, lk, this]

theorem mapSet_of {k : Int} {v : Value} {K : Value → Heap → Prop} (hm : h[m]? = some (.map es c)) (hi : IMap es c f)
    (hk : ∀ es' c', IMap es' c' (fset f k v) → K undef (upd h m (.map es' c'))) : pMapSet (.int .i64) (.map (some m)) (.int .i64 k) v h K := by
  obtain ⟨t, ht, hf⟩ := hi
  simp only [pMapSet, hm, ht.ents, findNow_ents]
  cases hfi : fi k t 0 with
  | none => exact hk _ _ ⟨_, ht.push hfi, fun x => by rw [lk_push hfi]; simp [fset, hf]⟩
  | some p => exact hk _ _ ⟨_, ht.set hfi, fun x => by rw [lk_set hfi]; simp [fset, hf]⟩

/-- The stamp of an entry. -/
def Stamp (es : Array MapEntry) (s k : Int) : Prop := ∃ e ∈ es.toList, e.key = .int .i64 k ∧ (e.born : Int) = s

theorem mapEntry_of {k : Int} {z : Value} {K : Value → Heap → Prop} (hm : h[m]? = some (.map es c)) (hi : IMap es c f)
    (hk : ∀ es' c' s, IMap es' c' (fset f k ((f k).getD z)) → Stamp es' s k → K (.tuple #[(f k).getD z, .int .i64 s]) (upd h m (.map es' c'))) :
    pMapEntry (.int .i64) z (.map (some m)) (.int .i64 k) h K := by
  obtain ⟨t, ht, hf⟩ := hi
  simp only [pMapEntry, hm, ht.ents, findNow_ents]
  have hlk := fi_lk k t 0
  cases hfi : fi k t 0 with
  | none =>
    rw [hfi] at hlk
    have hfk : f k = none := by rw [hf]; exact hlk.symm
    rw [hfk] at hk
    refine hk _ _ _ ⟨_, ht.push hfi, fun x => by rw [lk_push hfi]; simp [fset, hf]⟩ ⟨{ key := .int .i64 k, val := z, born := c }, by simp, rfl, rfl⟩
  | some p =>
    obtain ⟨i, v⟩ := p
    rw [hfi] at hlk
    have hfk : f k = some v := by rw [hf]; exact hlk.symm
    rw [hfk] at hk
    have hset := ht.set (v := v) hfi
    obtain ⟨_, hmod⟩ := fi_modify (g := fun x => x) ht.keys hfi
    have hi : i < t.length := by
      have key : ∀ (t : List Ent) (j i : Nat), fi k t j = some (i, v) → i - j < t.length ∧ j ≤ i := by
        intro t
        induction t with
        | nil => intro j i h; cases h
        | cons x t ih =>
          intro j i h
          simp only [fi] at h
          split at h
          · simp only [Option.some.injEq, Prod.mk.injEq] at h
            obtain ⟨rfl, _⟩ := h
            exact ⟨by simp, Nat.le_refl _⟩
          · obtain ⟨h1, h2⟩ := ih _ _ h
            exact ⟨by simp; omega, by omega⟩
      simpa using (key t 0 i hfi).1
    have hes : es[i]? = some (ent t[i]) := by
      rw [← Array.getElem?_toList, ht.ents]; simp [hi]
    have hti : t[i].1 = k ∧ t[i].2.1 = v := by
      obtain ⟨_, e, he, hv, hs⟩ := findNow_some (by rw [findNow_ents, hfi] : Instr.findNow (.int .i64) (.int .i64 k) (t.map ent) 0 = some (some (i, v)))
      simp [hi] at he; subst he
      simp [ent, Instr.sameNow] at hv hs
      exact ⟨hs.symm, hv⟩
    have hsame : (es.modify i fun e => { e with key := .int .i64 k }) = es.modify i fun e => { e with key := .int .i64 k, val := v } := by
      apply Array.ext
      · simp
      · intro j h1 h2
        simp only [Array.getElem_modify]
        split
        · rename_i e; subst e
          have hlt : i < es.size := by simpa using h1
          have : es[i]? = some es[i] := Array.getElem?_eq_getElem hlt
          rw [hes] at this
          simp only [Option.some.injEq] at this
          rw [← this]; simp [ent, hti.2]
        · rfl
    dsimp only
    rw [hsame, hes]
    refine hk _ _ _ ⟨_, hset, fun x => by rw [lk_set hfi]; simp [fset, hf]⟩ ?_
    refine ⟨{ (ent t[i]) with key := .int .i64 k, val := v }, ?_, rfl, rfl⟩
    rw [Array.toList_modify]
    refine List.mem_of_getElem? (i := i) ?_
    simp [hes]

theorem entryStore_of {k s : Int} {v : Value} {K : Value → Heap → Prop} (hm : h[m]? = some (.map es c)) (hi : IMap es c f) (hs : Stamp es s k)
    (hk : ∀ es', IMap es' c (fset f k v) → K undef (upd h m (.map es' c))) : pEntryStore (.map (some m)) (.int .i64 s) v h K := by
  obtain ⟨t, ht, hf⟩ := hi
  obtain ⟨e, he, hek, hes⟩ := hs
  rw [ht.ents] at he
  obtain ⟨x, hx, rfl⟩ := List.mem_map.1 he
  simp only [ent, Value.int.injEq, true_and] at hek hes
  have hxk : x.1 = k := by simpa using hek
  simp only [pEntryStore, hm]
  -- the place of the stamp
  have key : ∀ (t : List Ent), (t.map (·.1)).Nodup → (t.map (·.2.2)).Nodup → x ∈ t → ∃ i, (t.map ent).findIdx? (fun e => (e.born : Int) == s) = some i ∧ ∀ j, fi k t j = some (i + j, x.2.1) := by
    intro t
    induction t with
    | nil => intro _ _ hx; cases hx
    | cons y t ih =>
      intro hk hb hx
      simp only [List.map_cons, List.nodup_cons] at hk hb
      by_cases hy : y = x
      · subst hy
        refine ⟨0, ?_, fun j => by simp [fi, hxk]⟩
        simp [List.findIdx?_cons, ent, hes]
      · have hx' : x ∈ t := by
          rcases List.mem_cons.1 hx with h | h
          · exact (hy h.symm).elim
          · exact h
        obtain ⟨i, h1, h2⟩ := ih hk.2 hb.2 hx'
        have hyb : ¬ ((y.2.2 : Int) = s) := by
          rw [← hes]; intro e
          have : y.2.2 = x.2.2 := by exact_mod_cast e
          exact hb.1 (this ▸ List.mem_map_of_mem hx')
        have hyk : y.1 ≠ k := fun e => hk.1 (by rw [e, ← hxk]; exact List.mem_map_of_mem hx')
        refine ⟨i + 1, ?_, fun j => ?_⟩
        · rw [List.map_cons, List.findIdx?_cons]
          simp only [ent, beq_iff_eq, hyb, if_false]
          rw [show (fun (e : MapEntry) => (e.born : Int) == s) = fun e => (e.born : Int) == s from rfl, h1]; rfl
        · simp only [fi, if_neg hyk]
          rw [h2 (j + 1)]; congr 2; omega
  obtain ⟨i, h1, h2⟩ := key t ht.keys ht.borns hx
  have hidx : es.findIdx? (fun e => (e.born : Int) == s) = some i := by
    have e : es = (t.map ent).toArray := Array.ext' ht.ents
    rw [e, List.findIdx?_toArray]; exact h1
  rw [hidx]
  have hfi : fi k t 0 = some (i, x.2.1) := by simpa using h2 0
  have hset := ht.set (v := v) hfi
  have hsame : (es.modify i fun e => { e with val := v }) = es.modify i fun e => { e with key := .int .i64 k, val := v } := by
    obtain ⟨_, e, he, _, hs⟩ := findNow_some (by rw [findNow_ents, hfi] : Instr.findNow (.int .i64) (.int .i64 k) (t.map ent) 0 = some (some (i, x.2.1)))
    rw [Nat.sub_zero, ← ht.ents, Array.getElem?_toList] at he
    apply Array.ext
    · simp
    · intro j h1 h2
      simp only [Array.getElem_modify]
      split
      · rename_i e2; subst e2
        have hlt : i < es.size := by simpa using h1
        have h3 : es[i]? = some es[i] := Array.getElem?_eq_getElem hlt
        rw [he] at h3
        simp only [Option.some.injEq] at h3
        have hek : e ∈ es.toList := by rw [← Array.getElem?_toList] at he; exact List.mem_of_getElem? he
        rw [ht.ents] at hek
        obtain ⟨y, _, rfl⟩ := List.mem_map.1 hek
        rw [← h3]
        simp only [ent, Instr.sameNow, if_true, Option.some.injEq, beq_iff_eq] at hs
        simp [ent, hs]
      · rfl
  dsimp only
  rw [hsame]
  exact hk _ ⟨_, hset, fun x => by rw [lk_set hfi]; simp [fset, hf]⟩

theorem delete_of {k : Int} {K : Value → Heap → Prop} (hm : h[m]? = some (.map es c)) (hi : IMap es c f)
    (hk : ∀ es', IMap es' c (fdel f k) → K (.tuple #[]) (upd h m (.map es' c))) : pDelete (.int .i64) (.map (some m)) (.int .i64 k) h K := by
  obtain ⟨t, ht, hf⟩ := hi
  simp only [pDelete, hm, ht.ents, findNow_ents]
  cases hfi : fi k t 0 with
  | none =>
    refine hk es ⟨t, ht, fun x => ?_⟩
    unfold fdel
    split
    · rename_i e; subst e; exact (lk_none (fi_none hfi)).symm
    · exact hf x
  | some p =>
    obtain ⟨i, v⟩ := p
    obtain ⟨_, hlt, her⟩ := fi_erase ht.keys hfi
    rw [Nat.sub_zero] at hlt her
    have hsz : i < es.size := by
      have := congrArg List.length ht.ents; simp at this; omega
    have hes : (es.eraseIdxIfInBounds i).toList = (t.filter fun x => x.1 ≠ k).map ent := by
      unfold Array.eraseIdxIfInBounds
      rw [dif_pos hsz, Array.toList_eraseIdx, ht.ents, ← her, map_eraseIdx]
    refine hk _ ⟨t.filter fun x => x.1 ≠ k, ⟨hes, ?_, ?_, ?_⟩, fun x => ?_⟩
    · exact (List.filter_sublist.map _).nodup ht.keys
    · exact (List.filter_sublist.map _).nodup ht.borns
    · intro x hx; exact ht.old x (List.mem_filter.1 hx).1
    · rw [lk_filter]; unfold fdel; split
      · rfl
      · exact hf x

end
end Go.Mh
