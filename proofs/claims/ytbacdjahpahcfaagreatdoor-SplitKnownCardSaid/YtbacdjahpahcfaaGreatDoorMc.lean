/- Texts of the proofs of seat YtbacdjahpahcfaaGreatDoor, joined: IMap, All, Defer2, Own, OwnS, Graph, Rows, Build, Flood, Dijk, Dijk2, Turn, Bell, Moves, Trail, NumV. They have no conditions of their own. -/
import Derived.Test.YtbacdjahpahcfaaGreatDoorMb
set_option linter.unusedVariables false
set_option linter.unusedSimpArgs false

namespace Go.Mh
open Go

/-! Maps whose keys are ints, as functions. -/

abbrev Ent := Int × Value × Nat

def ent (x : Ent) : MapEntry := { key := .int .i64 x.1, val := x.2.1, born := x.2.2 }

def lk (k : Int) : List Ent → Option Value
  | [] => none
  | x :: r => if x.1 = k then some x.2.1 else lk k r

def fi (k : Int) : List Ent → Nat → Option (Nat × Value)
  | [], _ => none
  | x :: r, j => if x.1 = k then some (j, x.2.1) else fi k r (j + 1)

structure IMapL (es : Array MapEntry) (clock : Nat) (t : List Ent) : Prop where
  ents : es.toList = t.map ent
  keys : (t.map (·.1)).Nodup
  borns : (t.map (·.2.2)).Nodup
  old : ∀ x ∈ t, x.2.2 < clock

/-- The entries of a map that is f. -/
def IMap (es : Array MapEntry) (clock : Nat) (f : Int → Option Value) : Prop := ∃ t, IMapL es clock t ∧ ∀ k, f k = lk k t

def fset (f : Int → Option Value) (k : Int) (v : Value) : Int → Option Value := fun x => if x = k then some v else f x
def fdel (f : Int → Option Value) (k : Int) : Int → Option Value := fun x => if x = k then none else f x

theorem fset_same (f : Int → Option Value) (k : Int) (x y : Value) : fset (fset f k x) k y = fset f k y := by
  funext z; unfold fset; split <;> rfl

theorem findNow_ents (k : Int) : ∀ (t : List Ent) (j : Nat), Instr.findNow (.int .i64) (.int .i64 k) (t.map ent) j = some (fi k t j)
  | [], j => rfl
  | x :: t, j => by
    simp only [List.map_cons, Instr.findNow, ent, Instr.sameNow, if_true]
    by_cases h : x.1 = k
    · subst h; simp [fi]
    · have : (k == x.1) = false := by simpa using fun e => h e.symm
      rw [this]
      simp only [fi, if_neg h]
      exact findNow_ents k t (j + 1)

theorem fi_lk (k : Int) : ∀ (t : List Ent) (j : Nat), (fi k t j).map (·.2) = lk k t
  | [], _ => rfl
  | x :: t, j => by
    simp only [fi, lk]; split
    · rfl
    · exact fi_lk k t (j + 1)

theorem fi_none {k : Int} : ∀ {t : List Ent} {j : Nat}, fi k t j = none → ∀ x ∈ t, x.1 ≠ k
  | [], _, _ => by intro x hx; cases hx
  | x :: t, j, h => by
    simp only [fi] at h
    split at h
    · cases h
    · rename_i hx
      intro y hy
      rcases List.mem_cons.1 hy with rfl | hy
      · exact hx
      · exact fi_none h y hy

theorem lk_none {k : Int} : ∀ {t : List Ent}, (∀ x ∈ t, x.1 ≠ k) → lk k t = none
  | [], _ => rfl
  | x :: t, h => by
    simp only [lk, if_neg (h x List.mem_cons_self)]
    exact lk_none fun y hy => h y (List.mem_cons_of_mem _ hy)

theorem lk_append {k : Int} {t s : List Ent} : lk k (t ++ s) = (lk k t).orElse fun _ => lk k s := by
  induction t with
  | nil => rfl
  | cons x t ih =>
    simp only [List.cons_append, lk]; split
    · rfl
    · exact ih

/-- What is found at a place is the one entry with the key. -/
theorem fi_modify {k : Int} {g : Ent → Ent} : ∀ {t : List Ent} {j i : Nat} {v : Value}, (t.map (·.1)).Nodup → fi k t j = some (i, v) →
    j ≤ i ∧ t.modify (i - j) g = t.map (fun x => if x.1 = k then g x else x)
  | x :: t, j, i, v, hn, h => by
    simp only [List.map_cons, List.nodup_cons] at hn
    simp only [fi] at h
    split at h
    · rename_i hx
      simp only [Option.some.injEq, Prod.mk.injEq] at h
      obtain ⟨rfl, rfl⟩ := h
      refine ⟨Nat.le_refl _, ?_⟩
      simp only [Nat.sub_self, List.modify_zero_cons, List.map_cons, if_pos hx]
      congr 1
      have : ∀ y ∈ t, y.1 ≠ k := fun y hy e => hn.1 (by rw [hx, ← e]; exact List.mem_map_of_mem hy)
      symm
      rw [List.map_congr_left (g := id) (fun y hy => by simp [this y hy])]
      simp
    · rename_i hx
      obtain ⟨h1, h2⟩ := fi_modify (g := g) hn.2 h
      refine ⟨by omega, ?_⟩
      rw [show i - j = (i - (j + 1)) + 1 by omega]
      simp only [List.modify_succ_cons, List.map_cons, if_neg hx, h2]

theorem fi_erase {k : Int} : ∀ {t : List Ent} {j i : Nat} {v : Value}, (t.map (·.1)).Nodup → fi k t j = some (i, v) →
    j ≤ i ∧ i - j < t.length ∧ t.eraseIdx (i - j) = t.filter (fun x => x.1 ≠ k)
  | x :: t, j, i, v, hn, h => by
    simp only [List.map_cons, List.nodup_cons] at hn
    simp only [fi] at h
    split at h
    · rename_i hx
      simp only [Option.some.injEq, Prod.mk.injEq] at h
      obtain ⟨rfl, rfl⟩ := h
      refine ⟨Nat.le_refl _, by simp, ?_⟩
      have : ∀ y ∈ t, y.1 ≠ k := fun y hy e => hn.1 (by rw [hx, ← e]; exact List.mem_map_of_mem hy)
      simp only [Nat.sub_self, List.eraseIdx_zero, List.tail_cons]
      rw [List.filter_cons_of_neg (by simp [hx]), List.filter_eq_self.2 (fun y hy => by simpa using this y hy)]
    · rename_i hx
      obtain ⟨h1, h2, h3⟩ := fi_erase hn.2 h
      refine ⟨by omega, by simp; omega, ?_⟩
      rw [show i - j = (i - (j + 1)) + 1 by omega]
      simp only [List.eraseIdx_cons_succ, h3]
      rw [List.filter_cons_of_pos (by simpa using hx)]

theorem lk_map {k k' : Int} {v : Value} : ∀ {t : List Ent}, lk k' (t.map fun x => if x.1 = k then (x.1, v, x.2.2) else x) = if k' = k then (lk k t).map (fun _ => v) else lk k' t
  | [] => by simp [lk]
  | x :: t => by
    have ih := lk_map (k := k) (k' := k') (v := v) (t := t)
    simp only [List.map_cons, lk]
    by_cases hx : x.1 = k
    · simp only [if_pos hx]
      by_cases hk : k' = k
      · simp [hk, hx]
      · have : ¬ x.1 = k' := fun e => hk (by rw [← e, hx])
        simp only [this, if_false, hk] at ih ⊢
        exact ih
    · simp only [if_neg hx]
      by_cases hk : x.1 = k'
      · have : ¬ k' = k := fun e => hx (by rw [hk, e])
        simp [hk, this]
      · simp only [if_neg hk]; exact ih

theorem lk_filter {k k' : Int} : ∀ {t : List Ent}, lk k' (t.filter fun x => x.1 ≠ k) = if k' = k then none else lk k' t
  | [] => by simp [lk]
  | x :: t => by
    have ih := lk_filter (k := k) (k' := k') (t := t)
    by_cases hx : x.1 = k
    · rw [List.filter_cons_of_neg (by simp [hx]), ih]
      simp only [lk]
      by_cases hk : k' = k
      · simp [hk]
      · have : ¬ x.1 = k' := fun e => hk (by rw [← e, hx])
        simp [hk, this]
    · rw [List.filter_cons_of_pos (by simpa using hx)]
      simp only [lk, ih]
      by_cases hk : x.1 = k'
      · have : ¬ k' = k := fun e => hx (by rw [hk, e])
        simp [hk, this]
      · simp [hk]

theorem IMap.congr {es : Array MapEntry} {c : Nat} {f g : Int → Option Value} (h : IMap es c f) (hfg : ∀ k, f k = g k) : IMap es c g := by
  obtain ⟨t, ht, hf⟩ := h
  exact ⟨t, ht, fun k => (hfg k).symm.trans (hf k)⟩

theorem IMap.empty : IMap #[] 0 (fun _ => none) := ⟨[], ⟨rfl, by simp, by simp, by simp⟩, fun _ => rfl⟩

theorem map_eraseIdx {α β : Type} (g : α → β) : ∀ (t : List α) (i : Nat), (t.eraseIdx i).map g = (t.map g).eraseIdx i
  | [], _ => by simp
  | _ :: _, 0 => by simp
  | x :: t, i + 1 => by simp [map_eraseIdx g t i]

section
variable {h : Heap} {m c : Nat} {es : Array MapEntry} {f : Int → Option Value}

theorem look_of {z : Value} {ok : Bool} {k : Int} {K : Value → Prop} (hm : h[m]? = some (.map es c)) (hi : IMap es c f)
    (hk : K (if ok then .tuple #[(f k).getD z, .bool (f k).isSome] else (f k).getD z)) : pLook (.int .i64) z ok h (.map (some m)) (.int .i64 k) K := by
  obtain ⟨t, ht, hf⟩ := hi
  simp only [pLook, hm, ht.ents, findK_int, findNow_ents]
  have hlk := fi_lk k t 0
  rw [hf k, ← hlk] at hk
  cases hfi : fi k t 0 with
  | none => rw [hfi] at hk; simpa using hk
  | some p => rw [hfi] at hk; simpa using hk

theorem IMapL.set {t : List Ent} {i : Nat} {k : Int} {v old : Value} (ht : IMapL es c t) (hfi : fi k t 0 = some (i, old)) :
    IMapL (es.modify i fun e => { e with key := .int .i64 k, val := v }) c (t.map fun x => if x.1 = k then (x.1, v, x.2.2) else x) := by
  have hm := (fi_modify (g := fun x => (x.1, v, x.2.2)) ht.keys hfi).2
  rw [Nat.sub_zero] at hm
  refine ⟨?_, ?_, ?_, ?_⟩
  · rw [Array.toList_modify, ht.ents, ← hm]
    apply List.ext_getElem
    · simp
    · intro j h1 h2
      simp only [List.getElem_modify, List.getElem_map]
      split
      · rename_i e; subst e
        have hlt : i < t.length := by simpa using h1
        have : (t.modify i fun x => (x.1, v, x.2.2))[i]? = (t.map fun x => if x.1 = k then (x.1, v, x.2.2) else x)[i]? := by rw [hm]
        have hkey : t[i].1 = k := by
          have key : ∀ (t : List Ent) (j i : Nat), fi k t j = some (i, old) → ∃ hlt : i - j < t.length, t[i - j].1 = k ∧ j ≤ i := by
            intro t
            induction t with
            | nil => intro j i h; cases h
            | cons x t ih =>
              intro j i h
              simp only [fi] at h
              split at h
              · rename_i hx
                simp only [Option.some.injEq, Prod.mk.injEq] at h
                obtain ⟨rfl, _⟩ := h
                exact ⟨by simp, by simpa using hx, Nat.le_refl _⟩
              · obtain ⟨h1, h2, h3⟩ := ih _ _ h
                refine ⟨by simp; omega, ?_, by omega⟩
                have : i - j = (i - (j + 1)) + 1 := by omega
                simp only [this, List.getElem_cons_succ]; exact h2
          obtain ⟨_, h2, _⟩ := key t 0 i hfi
          simpa using h2
        simp [ent, hkey]
      · rfl
  · have : (t.map fun x => if x.1 = k then (x.1, v, x.2.2) else x).map (·.1) = t.map (·.1) := by
      rw [List.map_map]; apply List.map_congr_left; intro x _; simp only [Function.comp]; split <;> rfl
    rw [this]; exact ht.keys
  · have : (t.map fun x => if x.1 = k then (x.1, v, x.2.2) else x).map (·.2.2) = t.map (·.2.2) := by
      rw [List.map_map]; apply List.map_congr_left; intro x _; simp only [Function.comp]; split <;> rfl
    rw [this]; exact ht.borns
  · intro x hx
    obtain ⟨y, hy, rfl⟩ := List.mem_map.1 hx
    have := ht.old y hy
    split <;> exact this

theorem IMapL.push {t : List Ent} {k : Int} {v : Value} (ht : IMapL es c t) (hfi : fi k t 0 = none) :
    IMapL (es.push { key := .int .i64 k, val := v, born := c }) (c + 1) (t ++ [(k, v, c)]) := by
  refine ⟨by simp [ht.ents, ent], ?_, ?_, ?_⟩
  · rw [List.map_append, List.nodup_append]
    refine ⟨ht.keys, by simp, ?_⟩
    intro a ha b hb
    obtain ⟨x, hx, rfl⟩ := List.mem_map.1 ha
    simp only [List.map_cons, List.map_nil, List.mem_singleton] at hb; subst hb
    exact fi_none hfi x hx
  · rw [List.map_append, List.nodup_append]
    refine ⟨ht.borns, by simp, ?_⟩
    intro a ha b hb
    obtain ⟨x, hx, rfl⟩ := List.mem_map.1 ha
    simp only [List.map_cons, List.map_nil, List.mem_singleton] at hb; subst hb
    exact Nat.ne_of_lt (ht.old x hx)
  · intro x hx
    rcases List.mem_append.1 hx with hx | hx
    · exact Nat.lt_succ_of_lt (ht.old x hx)
    · rw [List.mem_singleton.1 hx]; exact Nat.lt_succ_self _

theorem lk_set {t : List Ent} {k : Int} {v old : Value} {i : Nat} (hfi : fi k t 0 = some (i, old)) (x : Int) :
    lk x (t.map fun x => if x.1 = k then (x.1, v, x.2.2) else x) = if x = k then some v else lk x t := by
  rw [lk_map]
  split
  · rw [← fi_lk k t 0, hfi]; rfl
  · rfl

theorem lk_push {t : List Ent} {k : Int} {v : Value} {b : Nat} (hfi : fi k t 0 = none) (x : Int) :
    lk x (t ++ [(k, v, b)]) = if x = k then some v else lk x t := by
  rw [lk_append]
  by_cases hx : x = k
  · subst hx; rw [lk_none (fi_none hfi)]; simp [lk]
  · have : ¬ k = x := fun e => hx e.symm
    simp [hx, lk, this]

theorem mapSet_of {k : Int} {v : Value} {K : Value → Heap → Prop} (hm : h[m]? = some (.map es c)) (hi : IMap es c f)
    (hk : ∀ es' c', IMap es' c' (fset f k v) → K undef (upd h m (.map es' c'))) : pMapSet (.int .i64) (.map (some m)) (.int .i64 k) v h K := by
  obtain ⟨t, ht, hf⟩ := hi
  simp only [pMapSet, hm, ht.ents, findK_int, findNow_ents]
  cases hfi : fi k t 0 with
  | none => exact hk _ _ ⟨_, ht.push hfi, fun x => by rw [lk_push hfi]; simp [fset, hf]⟩
  | some p => exact hk _ _ ⟨_, ht.set hfi, fun x => by rw [lk_set hfi]; simp [fset, hf]⟩

/-- The stamp of an entry. -/
def Stamp (es : Array MapEntry) (s k : Int) : Prop := ∃ e ∈ es.toList, e.key = .int .i64 k ∧ (e.born : Int) = s

theorem mapEntry_of {k : Int} {z : Value} {K : Value → Heap → Prop} (hm : h[m]? = some (.map es c)) (hi : IMap es c f)
    (hk : ∀ es' c' s, IMap es' c' (fset f k ((f k).getD z)) → Stamp es' s k → K (.tuple #[(f k).getD z, .int .i64 s]) (upd h m (.map es' c'))) :
    pMapEntry (.int .i64) z (.map (some m)) (.int .i64 k) h K := by
  obtain ⟨t, ht, hf⟩ := hi
  simp only [pMapEntry, hm, ht.ents, findK_int, findNow_ents]
  have hlk := fi_lk k t 0
  cases hfi : fi k t 0 with
  | none =>
    rw [hfi] at hlk
    have hfk : f k = none := by rw [hf]; exact hlk.symm
    rw [hfk] at hk
    refine hk _ _ _ ⟨_, ht.push hfi, fun x => by rw [lk_push hfi]; simp [fset, hf]⟩ ⟨{ key := .int .i64 k, val := z, born := c }, by simp, rfl, rfl⟩
  | some p =>
    obtain ⟨i, v⟩ := p
    rw [hfi] at hlk
    have hfk : f k = some v := by rw [hf]; exact hlk.symm
    rw [hfk] at hk
    have hset := ht.set (v := v) hfi
    obtain ⟨_, hmod⟩ := fi_modify (g := fun x => x) ht.keys hfi
    have hi : i < t.length := by
      have key : ∀ (t : List Ent) (j i : Nat), fi k t j = some (i, v) → i - j < t.length ∧ j ≤ i := by
        intro t
        induction t with
        | nil => intro j i h; cases h
        | cons x t ih =>
          intro j i h
          simp only [fi] at h
          split at h
          · simp only [Option.some.injEq, Prod.mk.injEq] at h
            obtain ⟨rfl, _⟩ := h
            exact ⟨by simp, Nat.le_refl _⟩
          · obtain ⟨h1, h2⟩ := ih _ _ h
            exact ⟨by simp; omega, by omega⟩
      simpa using (key t 0 i hfi).1
    have hes : es[i]? = some (ent t[i]) := by
      rw [← Array.getElem?_toList, ht.ents]; simp [hi]
    have hti : t[i].1 = k ∧ t[i].2.1 = v := by
      obtain ⟨_, e, he, hv, hs⟩ := findNow_some (by rw [findNow_ents, hfi] : Instr.findNow (.int .i64) (.int .i64 k) (t.map ent) 0 = some (some (i, v)))
      simp [hi] at he; subst he
      simp [ent, Instr.sameNow] at hv hs
      exact ⟨hs.symm, hv⟩
    have hsame : (es.modify i fun e => { e with key := .int .i64 k }) = es.modify i fun e => { e with key := .int .i64 k, val := v } := by
      apply Array.ext
      · simp
      · intro j h1 h2
        simp only [Array.getElem_modify]
        split
        · rename_i e; subst e
          have hlt : i < es.size := by simpa using h1
          have : es[i]? = some es[i] := Array.getElem?_eq_getElem hlt
          rw [hes] at this
          simp only [Option.some.injEq] at this
          rw [← this]; simp [ent, hti.2]
        · rfl
    dsimp only
    rw [hsame, hes]
    refine hk _ _ _ ⟨_, hset, fun x => by rw [lk_set hfi]; simp [fset, hf]⟩ ?_
    refine ⟨{ (ent t[i]) with key := .int .i64 k, val := v }, ?_, rfl, rfl⟩
    rw [Array.toList_modify]
    refine List.mem_of_getElem? (i := i) ?_
    simp [hes]

theorem entryStore_of {k s : Int} {v : Value} {K : Value → Heap → Prop} (hm : h[m]? = some (.map es c)) (hi : IMap es c f) (hs : Stamp es s k)
    (hk : ∀ es', IMap es' c (fset f k v) → K undef (upd h m (.map es' c))) : pEntryStore (.map (some m)) (.int .i64 s) v h K := by
  obtain ⟨t, ht, hf⟩ := hi
  obtain ⟨e, he, hek, hes⟩ := hs
  rw [ht.ents] at he
  obtain ⟨x, hx, rfl⟩ := List.mem_map.1 he
  simp only [ent, Value.int.injEq, true_and] at hek hes
  have hxk : x.1 = k := by simpa using hek
  simp only [pEntryStore, hm]
  -- the place of the stamp
  have key : ∀ (t : List Ent), (t.map (·.1)).Nodup → (t.map (·.2.2)).Nodup → x ∈ t → ∃ i, (t.map ent).findIdx? (fun e => (e.born : Int) == s) = some i ∧ ∀ j, fi k t j = some (i + j, x.2.1) := by
    intro t
    induction t with
    | nil => intro _ _ hx; cases hx
    | cons y t ih =>
      intro hk hb hx
      simp only [List.map_cons, List.nodup_cons] at hk hb
      by_cases hy : y = x
      · subst hy
        refine ⟨0, ?_, fun j => by simp [fi, hxk]⟩
        simp [List.findIdx?_cons, ent, hes]
      · have hx' : x ∈ t := by
          rcases List.mem_cons.1 hx with h | h
          · exact (hy h.symm).elim
          · exact h
        obtain ⟨i, h1, h2⟩ := ih hk.2 hb.2 hx'
        have hyb : ¬ ((y.2.2 : Int) = s) := by
          rw [← hes]; intro e
          have : y.2.2 = x.2.2 := by exact_mod_cast e
          exact hb.1 (this ▸ List.mem_map_of_mem hx')
        have hyk : y.1 ≠ k := fun e => hk.1 (by rw [e, ← hxk]; exact List.mem_map_of_mem hx')
        refine ⟨i + 1, ?_, fun j => ?_⟩
        · rw [List.map_cons, List.findIdx?_cons]
          simp only [ent, beq_iff_eq, hyb, if_false]
          rw [show (fun (e : MapEntry) => (e.born : Int) == s) = fun e => (e.born : Int) == s from rfl, h1]; rfl
        · simp only [fi, if_neg hyk]
          rw [h2 (j + 1)]; congr 2; omega
  obtain ⟨i, h1, h2⟩ := key t ht.keys ht.borns hx
  have hidx : es.findIdx? (fun e => (e.born : Int) == s) = some i := by
    have e : es = (t.map ent).toArray := Array.ext' ht.ents
    rw [e, List.findIdx?_toArray]; exact h1
  rw [hidx]
  have hfi : fi k t 0 = some (i, x.2.1) := by simpa using h2 0
  have hset := ht.set (v := v) hfi
  have hsame : (es.modify i fun e => { e with val := v }) = es.modify i fun e => { e with key := .int .i64 k, val := v } := by
    obtain ⟨_, e, he, _, hs⟩ := findNow_some (by rw [findNow_ents, hfi] : Instr.findNow (.int .i64) (.int .i64 k) (t.map ent) 0 = some (some (i, x.2.1)))
    rw [Nat.sub_zero, ← ht.ents, Array.getElem?_toList] at he
    apply Array.ext
    · simp
    · intro j h1 h2
      simp only [Array.getElem_modify]
      split
      · rename_i e2; subst e2
        have hlt : i < es.size := by simpa using h1
        have h3 : es[i]? = some es[i] := Array.getElem?_eq_getElem hlt
        rw [he] at h3
        simp only [Option.some.injEq] at h3
        have hek : e ∈ es.toList := by rw [← Array.getElem?_toList] at he; exact List.mem_of_getElem? he
        rw [ht.ents] at hek
        obtain ⟨y, _, rfl⟩ := List.mem_map.1 hek
        rw [← h3]
        simp only [ent, Instr.sameNow, if_true, Option.some.injEq, beq_iff_eq] at hs
        simp [ent, hs]
      · rfl
  dsimp only
  rw [hsame]
  exact hk _ ⟨_, hset, fun x => by rw [lk_set hfi]; simp [fset, hf]⟩

theorem delete_of {k : Int} {K : Value → Heap → Prop} (hm : h[m]? = some (.map es c)) (hi : IMap es c f)
    (hk : ∀ es', IMap es' c (fdel f k) → K (.tuple #[]) (upd h m (.map es' c))) : pDelete (.int .i64) (.map (some m)) (.int .i64 k) h K := by
  obtain ⟨t, ht, hf⟩ := hi
  simp only [pDelete, hm, ht.ents, findK_int, findNow_ents]
  cases hfi : fi k t 0 with
  | none =>
    refine hk es ⟨t, ht, fun x => ?_⟩
    unfold fdel
    split
    · rename_i e; subst e; exact (lk_none (fi_none hfi)).symm
    · exact hf x
  | some p =>
    obtain ⟨i, v⟩ := p
    obtain ⟨_, hlt, her⟩ := fi_erase ht.keys hfi
    rw [Nat.sub_zero] at hlt her
    have hsz : i < es.size := by
      have := congrArg List.length ht.ents; simp at this; omega
    have hes : (es.eraseIdxIfInBounds i).toList = (t.filter fun x => x.1 ≠ k).map ent := by
      unfold Array.eraseIdxIfInBounds
      rw [dif_pos hsz, Array.toList_eraseIdx, ht.ents, ← her, map_eraseIdx]
    refine hk _ ⟨t.filter fun x => x.1 ≠ k, ⟨hes, ?_, ?_, ?_⟩, fun x => ?_⟩
    · exact (List.filter_sublist.map _).nodup ht.keys
    · exact (List.filter_sublist.map _).nodup ht.borns
    · intro x hx; exact ht.old x (List.mem_filter.1 hx).1
    · rw [lk_filter]; unfold fdel; split
      · rfl
      · exact hf x

end
end Go.Mh



/-! A function that defers on one of its roads; a plain function, deferred. -/
namespace Go.Mh
open Go

def deferPostR (P : Program) (rs : List ResultVar) (f : FuncId) (args : Array Value) (K : Value → Heap → Prop) : Exit → VEnv → List Nat → Heap → Prop
  | .ret, e, m, h => takeM m h fun h' => DeferS P f args h' fun h'' => resQ P e h'' rs fun l => K (oneOr l) h''
  | _, _, _, _ => False

def thenDeferIf (P : Program) (n : Nat) (c : Operand) (B : Code) (annB : Ann) (C : Code) (annC : Ann) (rs : List ResultVar) (s : Tmp) (f : FuncId) (caps : List Operand) (K : Value → Heap → Prop) : Exit → VEnv → List Nat → Heap → Prop
  | .normal, e, [], h => (match knownO e c with
    | true => ifV (ev e c) (match knownL e caps, Nat.blt s n with
      | true, true => compile P n false B annB ((s, .func (.func f) #[] (caps.map (ev e)).toArray) :: e) [] h (deferPostR P rs f (caps.map (ev e)).toArray K)
      | _, _ => False) (compile P n false C annC e [] h (fnPost P rs K))
    | false => False)
  | _, _, _, _ => False

def thenOn (P : Program) (n : Nat) (A : Code) (ann : Ann) (K : Exit → VEnv → List Nat → Heap → Prop) : Exit → VEnv → List Nat → Heap → Prop
  | .normal, e, [], h => compile P n false A ann e [] h K
  | _, _, _, _ => False

def cT : Code → Code
  | .cond _ a _ => a
  | c => c

section
variable {P : Program}

/-- A; A'; if c { closure made, deferred; B, which returns }; C. -/
theorem callsH_deferIf {f g : FuncId} {fn : Func} {A A' B C : Code} {annA annA' annB annC : Ann} {id : Nat} {o1 o2 : Oper} {s : Tmp} {co : Operand} {caps : Array Operand} {c : Call} {args : List Value} {h : Heap} {K : Value → Heap → Prop}
    (hf : P.funcs[f]? = some fn) (hb : fn.body = some (.seq A (.seq (.seq A' (.cond co (.seq (.region id #[o1, o2] false) B) .skip)) C))) (hcal : Callable P f = true) (hm : P.follows .mixedOrders = true) (hlen : args.length ≤ fn.ntmps)
    (h1 : o1.op = .makeFunc (.func g) #[] caps) (hd1 : o1.dst = some s) (hg1 : o1.guard = none) (h2 : o2.op = .defer c) (hc : c.callee = .value (.tmp s)) (hca : c.args = #[]) (hd2 : o2.dst = none) (hg2 : o2.guard = none)
    (hq : compile P fn.ntmps false A annA (argE args 0) [] h (thenOn P fn.ntmps A' annA' (thenDeferIf P fn.ntmps co B annB C annC fn.results.toList s g caps.toList K))) : CallsH P f args.toArray h K := by
  refine ⟨hcal, fun w hw => ?_⟩
  refine callsIn_of_wp_marks hf hb trivial ?_
  have hrel : Rel (argE args 0) (args.toArray ++ Array.replicate (fn.ntmps - args.toArray.size) undef) := by
    intro s v hs
    obtain ⟨_, h2⟩ := look_argE hs
    rw [Nat.sub_zero] at h2
    have hlt : s < args.length := (List.getElem?_eq_some_iff.1 h2).1
    rw [Array.getElem?_append_left (by simpa using hlt)]
    simpa using h2
  have hsz : (args.toArray ++ Array.replicate (fn.ntmps - args.toArray.size) undef).size = fn.ntmps := by simp; omega
  refine wpIn_seq ?_
  refine compile_sound A annA none _ [] h _ hq hm [] _ w _ hrel hsz rfl hw ?_
  intro ex e' m' a' w' hr' hn' hd' hs' _ _ hk
  cases ex <;> try exact hk.elim
  cases m' with
  | cons D m => exact hk.elim
  | nil =>
  show (Code.seq _ C).wpIn Fence.wide 0 P _ a' w'
  refine wpIn_seq (wpIn_seq ?_)
  refine compile_sound A' annA' none _ [] w'.heap _ hk hm [] _ w' _ hr' hn' hd' rfl ?_
  intro ex1 e1 m1 a1 w1 hr1 hn1 hd1' hs1 _ _ hk1
  cases ex1 <;> try exact hk1.elim
  cases m1 with
  | cons D m => exact hk1.elim
  | nil =>
  simp only [thenDeferIf] at hk1
  split at hk1
  · rename_i hkc
    have he : a1.eval co = ev e1 co := by rw [eval_evA, hr1.ev hkc]
    unfold ifV at hk1
    split at hk1
    · rename_i hv
      refine wpIn_cond_true (he.trans hv) ?_
      split at hk1
      · rename_i hkn hsn
        have hsn : s < fn.ntmps := Nat.le_of_ble_eq_true hsn
        refine wpIn_seq ?_
        refine wpIn_defer (ro := none) rfl h1 hd1 hg1 h2 hc hca hd2 hg2 (by rw [hn1]; exact hsn) ?_
        have hev : caps.map (evA a1.tmps) = (caps.toList.map (ev e1)).toArray := by
          apply Array.ext'
          rw [Array.toList_map]
          apply List.map_congr_left
          intro x hx
          exact (hr1.ev (knownL_mem hkn x hx)).symm
        have hd0 : a1.defers = [] := hd1'
        rw [hev, hd0]
        have hr2 : Rel ((s, .func (.func g) #[] (caps.toList.map (ev e1)).toArray) :: e1) (putA a1.tmps (some s) (.func (.func g) #[] (caps.toList.map (ev e1)).toArray)) :=
          hr1.put (dst := some s) (by rw [hn1]; simpa [dstOk] using hsn)
        refine compile_sound B annB none _ [] w1.heap _ hk1 hm [{ target := .fn (.func g) (caps.toList.map (ev e1)).toArray, args := #[] }] _ w1 _ hr2 (by rw [putA_size]; exact hn1) rfl rfl ?_
        intro ex2 e2 m2 a2 w2 hr3 hn3 hd3 hs3 _ _ hk2
        have fin : takeM m2 w2.heap (fun h' => DeferS P g (caps.toList.map (ev e1)).toArray h' fun h'' => resQ P e2 h'' fn.results.toList fun l => K (oneOr l) h'') →
            LeavesInM Fence.wide 0 P fn a2.tmps (fun e w' => ∃ v, e = .returned v ∧ Same w w' ∧ K v w'.heap) a2.defers .returning w2 := by
          intro hk
          rw [hd3]
          refine leaves_defer (dargs := #[]) (w0 := w2) hr3 (fun v w'' hs'' hk'' => ⟨v, rfl, ((hs'.trans hs1).trans hs3).trans hs'', hk''⟩) m2 w2 (.refl _) ?_
          simpa using hk
        cases ex2 <;> try exact hk2.elim
        exact fin hk2
      · exact hk1.elim
    · rename_i hv
      refine wpIn_cond_false (he.trans hv) (wpIn_skip ?_)
      show C.wpIn Fence.wide 0 P _ a1 w1
      refine compile_sound C annC none _ [] w1.heap _ hk1 hm [] _ w1 _ hr1 hn1 hd1' rfl ?_
      intro ex2 e2 m2 a2 w2 hr3 hn3 hd3 hs3 _ _ hk2
      have fin : takeM m2 w2.heap (fun h' => resQ P e2 h' fn.results.toList fun l => K (oneOr l) h') →
          LeavesInM Fence.wide 0 P fn a2.tmps (fun e w' => ∃ v, e = .returned v ∧ Same w w' ∧ K v w'.heap) a2.defers .returning w2 := by
        intro hk
        rw [hd3, List.append_nil]
        exact leaves_of hr3 (fun v w'' hs'' hk'' => ⟨v, rfl, ((hs'.trans hs1).trans hs3).trans hs'', hk''⟩) m2 w2 (.refl _) hk
      cases ex2 <;> try exact hk2.elim
      · exact fin hk2
      · exact fin hk2
    · exact hk1.elim
  · exact hk1.elim

def plainPost (P : Program) (rs : List ResultVar) (K : Value → Heap → Prop) : Exit → VEnv → List Nat → Heap → Prop
  | .normal, e, [], h | .ret, e, [], h => resQ P e h rs fun l => K (oneOr l) h
  | _, _, _, _ => False

/-- A plain function, deferred. -/
theorem deferS_of {f : FuncId} {fn : Func} {c : Code} {ann : Ann} {args : List Value} {h : Heap} {K : Heap → Prop} (hf : P.funcs[f]? = some fn) (hb : fn.body = some c)
    (hcal : Callable P f = true) (hm : P.follows .mixedOrders = true) (hlen : args.length ≤ fn.ntmps)
    (hc : compile P fn.ntmps false c ann (argE args 0) [] h (plainPost P fn.results.toList fun _ h' => K h')) : DeferS P f args.toArray h K := by
  refine ⟨hcal, fun w hw => ?_⟩
  have hrel : Rel (argE args 0) (args.toArray ++ Array.replicate (fn.ntmps - args.toArray.size) undef) := by
    intro s v hs
    obtain ⟨_, h2⟩ := look_argE hs
    rw [Nat.sub_zero] at h2
    have hlt : s < args.length := (List.getElem?_eq_some_iff.1 h2).1
    rw [Array.getElem?_append_left (by simpa using hlt)]
    simpa using h2
  have hsz : (args.toArray ++ Array.replicate (fn.ntmps - args.toArray.size) undef).size = fn.ntmps := by simp; omega
  refine (callsDIn_of_wp (R := fun e w' => ∃ v, e = .returned v ∧ Same w w' ∧ K w'.heap) hf hb trivial ?_).mono fun e u w' ⟨hu, v, he, hs, hk⟩ => ⟨v, he, hu, hs, hk⟩
  refine compile_sound c ann none _ [] h _ hc hm [] _ w _ hrel hsz rfl hw ?_
  intro ex e' m' a' w' hr' hn' hd' hs' _ _ hk
  have fin : m' = [] → resQ P e' w'.heap fn.results.toList (fun l => K w'.heap) → a'.defers = [] ∧ ∃ v, (results fn a'.tmps).run P w' = .ok v w' ∧ ∃ v', Ending.returned v = .returned v' ∧ Same w w' ∧ K w'.heap := by
    intro hm' hk3
    subst hm'
    obtain ⟨l, hl, hk4⟩ := results_sound hr' hk3
    exact ⟨hd', _, rdS_run hl w' rfl, _, rfl, hs', hk4⟩
  cases ex <;> try exact hk.elim
  · cases m' with
    | nil => exact fin rfl hk
    | cons _ _ => exact hk.elim
  · cases m' with
    | nil => exact fin rfl hk
    | cons _ _ => exact hk.elim

end
end Go.Mh

namespace Go.Mh
open Go

/-- A part of memory: its blocks, and what they hold. -/
structure Res where
  F : Nat → Prop
  Q : Heap → Prop
  st : ∀ {h h' : Heap}, (∀ b, F b → h'[b]? = h[b]?) → Q h → Q h'

def nilR : Res := ⟨fun _ => False, fun _ => True, fun _ _ => trivial⟩

/-- What was below h0 is as it was; above it there are these parts, apart from each other. -/
structure Own (h0 h : Heap) (L : List Res) : Prop where
  ext : Ext h0 h
  q : ∀ {i : Nat} {r : Res}, L[i]? = some r → r.Q h ∧ ∀ b, r.F b → h0.size ≤ b ∧ b < h.size
  ap : ∀ {i j : Nat} {r s : Res}, L[i]? = some r → L[j]? = some s → i ≠ j → ∀ b, r.F b → ¬ s.F b

section
variable {h0 h h' : Heap} {L L' : List Res} {r r' : Res} {i j : Nat}

theorem Own.start (h : Heap) : Own h h [] := ⟨.refl _ _, fun h => by simp at h, fun h => by simp at h⟩

theorem Own.get (o : Own h0 h L) (i : Nat) (hi : L[i]? = some r) : r.Q h := (o.q hi).1

theorem Own.more (o : Own h0 h L) (x : Ext h h') : Own h0 h' L :=
  ⟨o.ext.trans x fun _ hf _ => hf, fun hi => ⟨Res.st _ (fun b hb => x.same b ((o.q hi).2 b hb).2 id) (o.q hi).1, fun b hb => ⟨((o.q hi).2 b hb).1, Nat.lt_of_lt_of_le ((o.q hi).2 b hb).2 x.size⟩⟩, o.ap⟩

theorem Own.frame (o : Own h0 h L) (o' : Own h h' L') : Own h0 h' (L' ++ L) := by
  have o1 := o.more o'.ext
  refine ⟨o1.ext, fun {i r} hi => ?_, fun {i j r s} hi hj hne b hb hs => ?_⟩
  · by_cases hlt : i < L'.length
    · rw [List.getElem?_append_left hlt] at hi
      exact ⟨(o'.q hi).1, fun b hb => ⟨Nat.le_trans o.ext.size ((o'.q hi).2 b hb).1, ((o'.q hi).2 b hb).2⟩⟩
    · rw [List.getElem?_append_right (by omega)] at hi
      exact o1.q hi
  · by_cases h1 : i < L'.length <;> by_cases h2 : j < L'.length
    · rw [List.getElem?_append_left h1] at hi
      rw [List.getElem?_append_left h2] at hj
      exact o'.ap hi hj hne b hb hs
    · rw [List.getElem?_append_left h1] at hi
      rw [List.getElem?_append_right (by omega)] at hj
      have a := ((o'.q hi).2 b hb).1
      have c := ((o.q hj).2 b hs).2
      omega
    · rw [List.getElem?_append_right (by omega)] at hi
      rw [List.getElem?_append_left h2] at hj
      have a := ((o'.q hj).2 b hs).1
      have c := ((o.q hi).2 b hb).2
      omega
    · rw [List.getElem?_append_right (by omega)] at hi
      rw [List.getElem?_append_right (by omega)] at hj
      exact o.ap hi hj (by omega) b hb hs

/-- A part is turned, and may have grown. -/
theorem Own.set (o : Own h0 h L) (i : Nat) (hi : L[i]? = some r) (u : Upd r.F h h') (q : r'.Q h') (g : ∀ b, r'.F b → (r.F b ∨ h.size ≤ b) ∧ b < h'.size) : Own h0 h' (L.set i r') := by
  have hlt : i < L.length := (List.getElem?_eq_some_iff.1 hi).1
  have key : ∀ {j s}, (L.set i r')[j]? = some s → (j = i ∧ s = r') ∨ (j ≠ i ∧ L[j]? = some s) := by
    intro j s hs
    by_cases e : j = i
    · subst e
      rw [List.getElem?_set_self hlt] at hs
      exact .inl ⟨rfl, (Option.some.inj hs).symm⟩
    · rw [List.getElem?_set_ne (fun e' => e e'.symm)] at hs
      exact .inr ⟨e, hs⟩
  refine ⟨o.ext.trans u fun b hb hlt => ?_, fun {j s} hs => ?_, fun {j k s t} hs ht hne b hb hb' => ?_⟩
  · have := ((o.q hi).2 b hb).1; omega
  · rcases key hs with ⟨rfl, rfl⟩ | ⟨hne, hs⟩
    · refine ⟨q, fun b hb => ⟨?_, (g b hb).2⟩⟩
      rcases (g b hb).1 with h1 | h1
      · exact ((o.q hi).2 b h1).1
      · exact Nat.le_trans o.ext.size h1
    · refine ⟨Res.st _ (fun b hb => u.same b ((o.q hs).2 b hb).2 (o.ap hs hi hne b hb)) (o.q hs).1, fun b hb => ⟨((o.q hs).2 b hb).1, Nat.lt_of_lt_of_le ((o.q hs).2 b hb).2 u.size⟩⟩
  · rcases key hs with ⟨rfl, rfl⟩ | ⟨n1, hs1⟩ <;> rcases key ht with ⟨rfl, rfl⟩ | ⟨n2, ht1⟩
    · exact hne rfl
    · rcases (g b hb).1 with h1 | h1
      · exact o.ap hi ht1 hne b h1 hb'
      · have := ((o.q ht1).2 b hb').2; omega
    · rcases (g b hb').1 with h1 | h1
      · exact o.ap hs1 hi hne b hb h1
      · have := ((o.q hs1).2 b hb).2; omega
    · exact o.ap hs1 ht1 hne b hb hb'

/-- A part that is new. -/
theorem Own.cons (o : Own h0 h L) (x : Ext h h') (q : r.Q h') (g : ∀ b, r.F b → h.size ≤ b ∧ b < h'.size) : Own h0 h' (r :: L) :=
  o.frame (L' := [r]) ⟨x, fun {i s} hi => by
    cases i with
    | zero => simp at hi; subst hi; exact ⟨q, g⟩
    | succ i => simp at hi, fun {i j s t} hi hj hne => by
    cases i <;> cases j <;> simp at hi hj
    exact absurd rfl hne⟩

/-- Some of the parts, in any order. -/
theorem Own.sel (o : Own h0 h L) (is : List Nat) (hn : is.Nodup) : Own h0 h (is.map fun i => L.getD i nilR) := by
  have key : ∀ {j : Nat} {s : Res}, (is.map fun i => L.getD i nilR)[j]? = some s → s = nilR ∨ ∃ i, is[j]? = some i ∧ L[i]? = some s := by
    intro j s hs
    rw [List.getElem?_map, Option.map_eq_some_iff] at hs
    obtain ⟨i, hi, rfl⟩ := hs
    rw [List.getD_eq_getElem?_getD]
    cases hL : L[i]? with
    | none => exact .inl rfl
    | some s => exact .inr ⟨i, hi, hL⟩
  refine ⟨o.ext, fun {j s} hs => ?_, fun {j k s t} hs ht hne b hb hb' => ?_⟩
  · rcases key hs with rfl | ⟨i, _, hi⟩
    · exact ⟨trivial, fun b hb => hb.elim⟩
    · exact o.q hi
  · rcases key hs with rfl | ⟨a, ha, hs⟩
    · exact hb.elim
    · rcases key ht with rfl | ⟨c, hc, ht⟩
      · exact hb'.elim
      · refine o.ap hs ht (fun e => hne ?_) b hb hb'
        subst e
        have h1 := (List.getElem?_eq_some_iff.1 ha)
        have h2 := (List.getElem?_eq_some_iff.1 hc)
        exact (List.getElem_inj hn).1 (h1.2.trans h2.2.symm)

theorem Own.tail (o : Own h0 h (r :: L)) : Own h0 h L :=
  ⟨o.ext, fun {i _} hi => o.q (i := i + 1) hi, fun {i j _ _} hi hj hne => o.ap (i := i + 1) (j := j + 1) hi hj (by omega)⟩

theorem Own.left (o : Own h0 h (L ++ L')) : Own h0 h L := by
  have key : ∀ {j : Nat} {s : Res}, L[j]? = some s → (L ++ L')[j]? = some s := fun {j s} hj => by
    rw [List.getElem?_append_left (List.getElem?_eq_some_iff.1 hj).1]; exact hj
  exact ⟨o.ext, fun hi => o.q (key hi), fun hi hj hne => o.ap (key hi) (key hj) hne⟩

theorem Own.erase (o : Own h0 h L) (k : Nat) : Own h0 h (L.eraseIdx k) := by
  have key : ∀ {j : Nat} {s : Res}, (L.eraseIdx k)[j]? = some s → L[if j < k then j else j + 1]? = some s := fun {j s} hj => by
    rw [List.getElem?_eraseIdx] at hj
    split at hj <;> rename_i h1
    · rw [if_pos h1]; exact hj
    · rw [if_neg h1]; exact hj
  refine ⟨o.ext, fun hi => o.q (key hi), fun hi hj hne => o.ap (key hi) (key hj) fun e => hne ?_⟩
  split at e <;> split at e <;> omega

/-- Two parts beside each other swapped. -/
theorem Own.swap {s : Res} (o : Own h0 h (r :: s :: L)) : Own h0 h (s :: r :: L) := by
  let g : Nat → Nat := fun | 0 => 1 | 1 => 0 | n => n
  have key : ∀ {j : Nat} {t : Res}, (s :: r :: L)[j]? = some t → (r :: s :: L)[g j]? = some t := fun {j t} hj => by
    match j, hj with
    | 0, hj => exact hj
    | 1, hj => exact hj
    | n + 2, hj => exact hj
  refine ⟨o.ext, fun hi => o.q (key hi), fun {i j _ _} hi hj hne => o.ap (key hi) (key hj) fun e => hne ?_⟩
  match i, j, e with
  | 0, 0, _ => rfl
  | 1, 1, _ => rfl
  | 0, n + 2, e => exact absurd e (by simp [g])
  | n + 2, 0, e => exact absurd e (by simp [g])
  | 1, n + 2, e => exact absurd e (by simp [g])
  | n + 2, 1, e => exact absurd e (by simp [g])
  | n + 2, m + 2, e => exact e
  | 0, 1, e => exact absurd e (by simp [g])
  | 1, 0, e => exact absurd e (by simp [g])

end

/-! ### Cells -/

def cellR (b : Nat) (cs : List Value) (T : TypeId) : Res := ⟨fun c => c = b, fun h => h[b]? = some (.cells cs.toArray T (0, 0)), fun hs hq => (hs b rfl).trans hq⟩
def objR (b : Nat) (o : Obj) : Res := ⟨fun c => c = b, fun h => h[b]? = some o, fun hs hq => (hs b rfl).trans hq⟩

section
variable {P : Program} {h0 h h' : Heap} {L : List Res} {i b off n : Nat} {cs : List Value} {T : TypeId} {v : Value} {K : Value → Prop} {KH : Value → Heap → Prop} {KP : Heap → Prop}

theorem Own.new {x : Obj} {r : Res} (o : Own h0 h L) (q : r.Q (h.push x)) (g : ∀ b, r.F b → b = h.size) : Own h0 (h.push x) (r :: L) :=
  o.cons (Upd.push _ _ _) q fun b hb => by rw [g b hb, push_size]; omega

theorem Own.box (o : Own h0 h L) (hk : ∀ b h', Own h0 h' (cellR b v.cells.toList T :: L) → KH (.pointer (some ⟨b, 0, none⟩)) h') : pBox T v h KH := by
  refine hk h.size _ (o.new ?_ fun b hb => hb)
  show (h.push _)[h.size]? = _
  rw [push_new]

theorem Own.load (o : Own h0 h L) (i : Nat) (hi : L[i]? = some (cellR b cs T)) (hv : cs[off]? = some v) (hk : K v) : pLoad h (.pointer (some ⟨b, off, none⟩)) K := by
  have : hcell h ⟨b, off, none⟩ = some v := hcell_of (o.get i hi) (by simpa using hv)
  simp only [pLoad_ptr, this]; exact hk

theorem Own.loadN (o : Own h0 h L) (i : Nat) (hi : L[i]? = some (cellR b cs T)) (hn : off + n ≤ cs.length) (hk : K (.agg ((cs.drop off).take n).toArray)) : pLoadN n h (.pointer (some ⟨b, off, none⟩)) K := by
  have : cellsAt h b off n = some ((cs.drop off).take n) := cellsAt_of (i := 0) (o.get i hi) n off hn
  simp only [pLoadN_ptr, this]; exact hk

theorem Own.store (o : Own h0 h L) (i : Nat) (hi : L[i]? = some (cellR b cs T)) (hn : v.cells.size = n) (hle : off + v.cells.size ≤ cs.length) (hp : ∀ u ∈ v.cells.toList, plainCell u = true)
    (hk : ∀ h', Own h0 h' (L.set i (cellR b (over cs off v.cells.toList) T)) → KH undef h') : pStore n (.pointer (some ⟨b, off, none⟩)) v h KH := by
  have hb : h[b]? = some (.cells cs.toArray T (0, 0)) := o.get i hi
  have hlt := ((o.q hi).2 b rfl).2
  refine pStore_of rfl hb hn hle hp (hk _ (o.set i hi (Upd.upd _ _ rfl) ?_ fun c hc => ⟨.inl hc, ?_⟩))
  · exact upd_self hlt
  · rw [upd_size]; exact (show c = b from hc) ▸ hlt

/-- A store of one plain value. -/
theorem Own.put (o : Own h0 h L) (i : Nat) (hi : L[i]? = some (cellR b cs T)) (hv : v.cells = #[v]) (hle : off < cs.length) (hp : plainCell v = true)
    (hk : ∀ h', Own h0 h' (L.set i (cellR b (over cs off [v]) T)) → KH undef h') : pStore 1 (.pointer (some ⟨b, off, none⟩)) v h KH :=
  o.store i hi (by rw [hv]; rfl) (by rw [hv]; exact hle) (by rw [hv]; simpa using hp) (by rw [hv]; exact hk)

/-! ### Marks of deferred lists -/

def markR (D : Nat) : Res := objR D (.deferred (some []))
def marksR (m : List Nat) : Res := ⟨fun c => c ∈ m, fun h => m.Nodup ∧ ∀ D ∈ m, h[D]? = some (.deferred (some [])), fun hs hq => ⟨hq.1, fun D hD => (hs D hD).trans (hq.2 D hD)⟩⟩

theorem Own.noMarks (o : Own h0 h L) : Own h0 h (marksR [] :: L) :=
  o.cons (.refl _ _) ⟨.nil, fun _ h => by cases h⟩ fun _ h => by cases h

theorem Own.addMark {D : Nat} {m : List Nat} (o : Own h0 h (markR D :: L)) (j : Nat) (hj : L[j]? = some (marksR m)) : Own h0 h (L.set j (marksR (D :: m))) := by
  have hm : D ∉ m := o.ap (i := 0) (j := j + 1) rfl hj (by omega) D rfl
  have q0 := o.get 0 rfl
  have q1 := o.tail.get j hj
  have hlt : j < L.length := (List.getElem?_eq_some_iff.1 hj).1
  have key : ∀ {k s}, (L.set j (marksR (D :: m)))[k]? = some s → (k = j ∧ s = marksR (D :: m)) ∨ (k ≠ j ∧ L[k]? = some s) := by
    intro k s hs
    by_cases e : k = j
    · subst e
      rw [List.getElem?_set_self hlt] at hs
      exact .inl ⟨rfl, (Option.some.inj hs).symm⟩
    · rw [List.getElem?_set_ne (fun e' => e e'.symm)] at hs
      exact .inr ⟨e, hs⟩
  refine ⟨o.ext, fun {k s} hs => ?_, fun {k l s t} hs ht hne b hb hb' => ?_⟩
  · rcases key hs with ⟨rfl, rfl⟩ | ⟨_, hs⟩
    · refine ⟨⟨List.nodup_cons.2 ⟨hm, q1.1⟩, fun E hE => ?_⟩, fun b hb => ?_⟩
      · rcases List.mem_cons.1 hE with rfl | hE
        · exact q0
        · exact q1.2 E hE
      · rcases List.mem_cons.1 (show b ∈ D :: m from hb) with rfl | hb
        · exact (o.q (i := 0) rfl).2 _ rfl
        · exact (o.tail.q hj).2 b hb
    · exact o.tail.q hs
  · rcases key hs with ⟨rfl, rfl⟩ | ⟨n1, hs1⟩ <;> rcases key ht with ⟨rfl, rfl⟩ | ⟨n2, ht1⟩
    · exact hne rfl
    · rcases List.mem_cons.1 (show b ∈ D :: m from hb) with rfl | hb
      · exact o.ap (i := 0) (j := l + 1) rfl ht1 (by omega) _ rfl hb'
      · exact o.tail.ap hj ht1 hne b hb hb'
    · rcases List.mem_cons.1 (show b ∈ D :: m from hb') with rfl | hb'
      · exact o.ap (i := 0) (j := k + 1) rfl hs1 (by omega) _ rfl hb
      · exact o.tail.ap hs1 hj hne b hb hb'
    · exact o.tail.ap hs1 ht1 hne b hb hb'

theorem Own.take {m : List Nat} (o : Own h0 h L) (j : Nat) (hj : L[j]? = some (marksR m)) (hk : ∀ h', Own h0 h' (L.set j nilR) → KP h') : takeM m h KP := by
  obtain ⟨hn, hq⟩ := o.get j hj
  refine takeM_of m h hq hn fun h' u => hk h' (o.set j hj u trivial fun b hb => hb.elim)

theorem Own.take1 {D : Nat} (o : Own h0 h L) (j : Nat) (hj : L[j]? = some (markR D)) (hk : ∀ h', Own h0 h' (L.set j nilR) → KP h') : takeM [D] h KP := by
  have hq := o.get j hj
  refine takeM_of [D] h (fun E hE => by simp at hE; subst hE; exact hq) (by simp) fun h' u => hk h' (o.set j hj (u.mono fun b hb _ => List.mem_singleton.1 hb) trivial fun b hb => hb.elim)

/-- Of a mark ahead, and others. -/
theorem Own.takeC {D : Nat} {m : List Nat} (o : Own h0 h (markR D :: L)) (j : Nat) (hj : L[j]? = some (marksR m)) (hk : ∀ h', Own h0 h' (L.set j nilR) → KP h') : takeM (D :: m) h KP := by
  have o1 := o.addMark j hj
  have hlt : j < L.length := (List.getElem?_eq_some_iff.1 hj).1
  refine o1.take j (List.getElem?_set_self hlt) fun h' o' => hk h' ?_
  rwa [List.set_set] at o'

/-! ### Ranges over functions -/

def loopR (l : Nat) (x : Obj) : Res := objR l x

theorem Own.begin {l : Nat} {M : Loop} {p : Option Code} (o : Own h0 h L) (i : Nat) (hi : L[i]? = some (loopR l (lo M .ready p))) (hk : ∀ h', Own h0 h' (L.set i (loopR l (lo M .busy p))) → KP h') : beginR l M h KP := by
  have hb : h[l]? = some (lo M .ready p) := o.get i hi
  have hlt := ((o.q hi).2 l rfl).2
  refine beginR_of hb (hk _ (o.set i hi (Upd.upd _ _ rfl) (upd_self hlt) fun c hc => ⟨.inl hc, ?_⟩))
  rw [upd_size]; exact (show c = l from hc) ▸ hlt

def valsOf : (l : List Nat) → List Value → Vals l
  | [], _ => ()
  | _ :: r, [] => (undef, valsOf r [])
  | _ :: r, v :: vs => (v, valsOf r vs)

theorem listV_valsOf : ∀ {l : List Nat} {vs : List Value}, vs.length = l.length → listV l (valsOf l vs) = vs
  | [], [], _ => rfl
  | _ :: _, _ :: _, h => by simp only [valsOf, listV]; rw [listV_valsOf (by simpa using h)]

/-- A function that yields rows, as long as it may: from the state s a row x is yielded, and s' is behind it, if next says so; it may end where stop says so. Q is what it must find in memory. -/
def IterG (P : Program) (fv : Value) (Q : Heap → Prop) {σ : Type} (s0 : σ) (next : σ → List Value → σ → Prop) (stop : σ → Prop) : Prop :=
  ∀ (yv : Value) (h0 h : Heap) (Rs : List Res) (K : Value → Heap → Prop) (J : σ → List Res → Prop) (E : List Res → Prop), (∃ l, yv = yieldV l) →
    Own h0 h Rs → J s0 Rs → (∀ s Rs' h', J s Rs' → Own h0 h' Rs' → Q h') →
    (∀ s x s' Rs' Pr h' R, next s x s' → J s Rs' → Own h0 h' (Rs' ++ Pr) → (∀ Rs'' h'', J s' Rs'' → Own h0 h'' (Rs'' ++ Pr) → R (.bool true) h'') →
      (∀ Rs'' h'', E Rs'' → Own h0 h'' (Rs'' ++ Pr) → R (.bool false) h'') → callV P yv x.toArray h' R) →
    (∀ Rs' h', ((∃ s, stop s ∧ J s Rs') ∨ E Rs') → Own h0 h' Rs' → K (.tuple #[]) h') → callF P fv #[yv] h K

/-- n rows, one behind the other. -/
abbrev Iter (P : Program) (fv : Value) (Q : Heap → Prop) (n : Nat) (f : (i : Nat) → i < n → List Value) : Prop :=
  IterG P fv Q (σ := Nat) 0 (fun i x i' => (∃ hi : i < n, x = f i hi) ∧ i' = i + 1) (fun i => i = n)
/-- Rows of which something is known. -/
abbrev IterS (P : Program) (fv : Value) (Q : Heap → Prop) (S : List Value → Prop) : Prop :=
  IterG P fv Q (σ := Unit) () (fun _ x _ => S x) (fun _ => True)

theorem Own.rot {r : Res} : ∀ {L : List Res}, Own h0 h (r :: L) → Own h0 h (L ++ [r]) := by
  intro L o
  have key : ∀ {j : Nat} {s : Res}, (L ++ [r])[j]? = some s → (r :: L)[if j < L.length then j + 1 else 0]? = some s ∧ j ≤ L.length := fun {j s} hj => by
    by_cases h1 : j < L.length
    · rw [List.getElem?_append_left h1] at hj
      rw [if_pos h1]; exact ⟨hj, by omega⟩
    · rw [List.getElem?_append_right (by omega)] at hj
      rw [if_neg h1]
      obtain ⟨h2, h3⟩ := List.getElem?_eq_some_iff.1 hj
      simp at h2 h3
      exact ⟨by simp [h3], by omega⟩
  refine ⟨o.ext, fun hi => o.q (key hi).1, fun hi hj hne => o.ap (key hi).1 (key hj).1 fun e => hne ?_⟩
  have a := (key hi).2
  have b := (key hj).2
  split at e <;> split at e <;> omega

theorem Own.range {fv : Value} {Q : Heap → Prop} {σ : Type} {s0 : σ} {next : σ → List Value → σ → Prop} {stop : σ → Prop} {ps : List Nat} {B : Loop → Vals ps → Heap → (Exit → Heap → Prop) → Prop} {Kn Kr : Heap → Prop} {Ks : List (Nat × (Heap → Prop))}
    (o : Own h0 h L) (hI : IterG P fv Q s0 next stop) (hf : ∀ s x s', next s x s' → x.length = ps.length) (J : σ → List Res → Prop) (Er : List Res → Prop) (Ex : Nat → List Res → Prop)
    (j0 : J s0 L) (hQ : ∀ s Rs' h', J s Rs' → Own h0 h' Rs' → Q h')
    (step : ∀ M s x s' Rs' Pr h' (R : Exit → Heap → Prop), next s x s' → J s Rs' → Own h0 h' (loopR (h.size + 1) (lo M .ready none) :: markR h.size :: (Rs' ++ Pr)) →
      (∀ Rs'' h'', J s' Rs'' → Own h0 h'' (loopR (h.size + 1) (lo M .busy none) :: markR h.size :: (Rs'' ++ Pr)) → R .normal h'') →
      (∀ Rs'' h'', Er Rs'' → Own h0 h'' (loopR (h.size + 1) (lo M .busy none) :: markR h.size :: (Rs'' ++ Pr)) → R .ret h'') →
      (∀ id Rs'' h'', Ex id Rs'' → Own h0 h'' (loopR (h.size + 1) (lo M .busy none) :: markR h.size :: (Rs'' ++ Pr)) → R (.exit id) h'') → B M (valsOf ps x) h' R)
    (fin : ∀ s h' Rs', stop s → J s Rs' → Own h0 h' (markR h.size :: Rs') → Kn h') (finr : ∀ h' Rs', Er Rs' → Own h0 h' (markR h.size :: Rs') → Kr h')
    (finx : ∀ id h' Rs', Ex id Rs' → Own h0 h' (markR h.size :: Rs') → lookK Ks id h') :
    rangeH P fv ps (h.size + 1) (h.push (.deferred (some []))) B Kn Kr Ks := by
  intro M hy
  have e1 : (h.push (.deferred (some []))).size = h.size + 1 := push_size
  have o1 : Own h0 (h.push (.deferred (some []))) (markR h.size :: L) := o.new (r := markR h.size) push_new fun b hb => hb
  have o2 : Own h0 ((h.push (.deferred (some []))).push (lo M .ready none)) (loopR (h.size + 1) (lo M .ready none) :: markR h.size :: L) :=
    o1.new (r := loopR (h.size + 1) (lo M .ready none)) (by show (Array.push _ _)[h.size + 1]? = _; rw [← e1, push_new]) fun b hb => hb.trans e1.symm
  refine hI (yieldV (h.size + 1)) h0 _ _ _ (fun s Rs => ∃ Rs1, Rs = loopR (h.size + 1) (lo M .ready none) :: markR h.size :: Rs1 ∧ J s Rs1)
    (fun Rs => ∃ p Rs1, Rs = loopR (h.size + 1) (lo M .done (some p)) :: markR h.size :: Rs1 ∧ ((p = .ret ∧ Er Rs1) ∨ ∃ id, p = .exit id ∧ Ex id Rs1)) ⟨_, rfl⟩ o2 ⟨L, rfl, j0⟩
    (fun s Rs' h' ⟨Rs1, e, hj⟩ o' => hQ s Rs1 h' hj (by subst e; exact o'.tail.tail)) ?_ ?_
  · rintro s x s' _ Pr h' R hn ⟨Rs1, rfl, hj⟩ o' hT hF
    have hb : h'[h.size + 1]? = some (lo M .ready none) := o'.get 0 rfl
    have := hy (valsOf ps x) h' R .ready none hb
    rw [listV_valsOf (hf _ _ _ hn)] at this
    refine this (step M s x s' Rs1 Pr h' _ hn hj o' ?_ ?_ ?_)
    · intro Rs'' h'' hj' o''
      have hb' : h''[h.size + 1]? = some (lo M .busy none) := o''.get 0 rfl
      have hlt := get_lt hb'
      refine ⟨none, hb', hT (loopR (h.size + 1) (lo M .ready none) :: markR h.size :: Rs'') _ ⟨Rs'', rfl, hj'⟩ ?_⟩
      refine o''.set 0 (r' := loopR (h.size + 1) (lo M .ready none)) rfl (Upd.upd (S := (loopR (h.size + 1) (lo M .busy none)).F) h'' _ rfl) (upd_self hlt) fun c hc => ⟨.inl hc, ?_⟩
      rw [setIf_upd, upd_size]; exact (show c = h.size + 1 from hc) ▸ hlt
    · intro Rs'' h'' hj' o''
      have hb' : h''[h.size + 1]? = some (lo M .busy none) := o''.get 0 rfl
      have hlt := get_lt hb'
      refine ⟨none, hb', hF (loopR (h.size + 1) (lo M .done (some .ret)) :: markR h.size :: Rs'') _ ⟨.ret, Rs'', rfl, .inl ⟨rfl, hj'⟩⟩ ?_⟩
      refine o''.set 0 (r' := loopR (h.size + 1) (lo M .done (some .ret))) rfl (Upd.upd (S := (loopR (h.size + 1) (lo M .busy none)).F) h'' _ rfl) (upd_self hlt) fun c hc => ⟨.inl hc, ?_⟩
      rw [setIf_upd, upd_size]; exact (show c = h.size + 1 from hc) ▸ hlt
    · intro id Rs'' h'' hj' o''
      have hb' : h''[h.size + 1]? = some (lo M .busy none) := o''.get 0 rfl
      have hlt := get_lt hb'
      refine ⟨none, hb', hF (loopR (h.size + 1) (lo M .done (some (.exit id))) :: markR h.size :: Rs'') _ ⟨.exit id, Rs'', rfl, .inr ⟨id, rfl, hj'⟩⟩ ?_⟩
      refine o''.set 0 (r' := loopR (h.size + 1) (lo M .done (some (.exit id)))) rfl (Upd.upd (S := (loopR (h.size + 1) (lo M .busy none)).F) h'' _ rfl) (upd_self hlt) fun c hc => ⟨.inl hc, ?_⟩
      rw [setIf_upd, upd_size]; exact (show c = h.size + 1 from hc) ▸ hlt
  · have close : ∀ {Rs1 : List Res} {h' : Heap} {st : LoopState} {p : Option Code}, Own h0 h' (loopR (h.size + 1) (lo M st p) :: markR h.size :: Rs1) → Own h0 (upd h' (h.size + 1) (lo M .exhausted p)) (markR h.size :: Rs1) := by
      intro Rs1 h' st p o'
      have hb' : h'[h.size + 1]? = some (lo M st p) := o'.get 0 rfl
      have hlt := get_lt hb'
      exact (o'.set 0 (r' := nilR) rfl (Upd.upd (S := (loopR (h.size + 1) (lo M st p)).F) h' (lo M .exhausted p) rfl) trivial fun c hc => hc.elim).tail
    rintro Rs' h' (⟨s, hs, Rs1, rfl, hj⟩ | ⟨p, Rs1, rfl, hp⟩) o'
    · exact ⟨.ready, none, by decide, o'.get 0 rfl, fin _ _ _ hs hj (close o')⟩
    · refine ⟨.done, some p, by decide, o'.get 0 rfl, ?_⟩
      rcases hp with ⟨rfl, he⟩ | ⟨id, rfl, he⟩
      · exact finr _ _ he (close o')
      · exact finx _ _ _ he (close o')

end
end Go.Mh

namespace Go.Mh
open Go

abbrev ptr (b : Nat) : Value := .pointer (some ⟨b, 0, none⟩)
abbrev I (n : Int) : Value := .int .i64 n
def encI (x : Int) : List Value := [I x]
theorem encI_len (x : Int) : (encI x).length = 1 := rfl
theorem encI_plain (x : Int) : ∀ u ∈ encI x, plainCell u = true := by intro u hu; simp [encI] at hu; subst hu; rfl

/-! ### Views that stay -/

section
variable {α : Type} {enc : α → List Value} {n : Nat} {h0 h h' : Heap} {v w : Value} {ys xs : List α} {K : Value → Prop} {KH : Value → Heap → Prop} {k : IntKind} {i : Nat}

def Vw (enc : α → List Value) (n : Nat) (h : Heap) (v : Value) (ys : List α) : Prop := ∃ bl, VwR enc n h v bl ys

theorem Vw.more (H : Vw enc n h v ys) (x : Ext h h') : Vw enc n h' v ys := by
  obtain ⟨bl, H⟩ := H
  exact ⟨bl, H.upd x id⟩

theorem Vw.nil : Vw enc n h (.slice none 0 0) [] := ⟨0, none, 0, rfl, Nat.le_refl _, .inl ⟨rfl, .inl rfl⟩⟩

theorem Vw.len (H : Vw enc n h v ys) (hk : K (I ys.length)) : pLen v K := by
  obtain ⟨bl, H⟩ := H
  exact H.lenK hk

theorem Vw.isSl (H : Vw enc n h v ys) : ∃ b c, v = .slice b ys.length c := by
  obtain ⟨bl, b, c, e, _⟩ := H
  exact ⟨b, c, e⟩

theorem cellsAt_of_hcell {b : Nat} : ∀ (l : List Value) (o : Nat), (∀ j, j < l.length → hcell h ⟨b, o + j, none⟩ = l[j]?) → cellsAt h b o l.length = some l
  | [], o, _ => rfl
  | v :: l, o, H => by
    have h0 : hcell h ⟨b, o, none⟩ = some v := by simpa using H 0 (by simp)
    simp only [List.length_cons, cellsAt, h0]
    rw [cellsAt_of_hcell l (o + 1) fun j hj => by
      have := H (j + 1) (by simp; omega)
      rw [show o + 1 + j = o + (j + 1) by omega]; simpa using this]

theorem Vw.idx (he : ∀ a, (enc a).length = n) (H : Vw enc n h v ys) (hi : i < ys.length)
    (hK : ∀ b o, (∀ j, j < n → hcell h ⟨b, o + j, none⟩ = (enc ys[i])[j]?) → K (.pointer (some ⟨b, o, none⟩))) : pIdx n v (.int k i) K := by
  obtain ⟨bl, H⟩ := H
  exact H.idx he hi fun o ho => hK bl o ho

theorem Vw.at1 {e : α → Value} (H : Vw enc 1 h v ys) (he : ∀ a, enc a = [e a]) (hi : i < ys.length) (hk : K (e ys[i])) : pIdx 1 v (.int k i) (fun t => pLoad h t K) := by
  refine H.idx (fun a => by rw [he]; rfl) hi fun b o hc => ?_
  have := hc 0 (by omega)
  rw [he] at this
  simp only [Nat.add_zero, List.getElem?_cons_zero] at this
  simp only [pLoad_ptr, this]; exact hk

theorem Vw.atI {ys : List Int} (H : Vw encI 1 h v ys) (hi : i < ys.length) (hk : K (I ys[i])) : pIdx 1 v (.int k i) (fun t => pLoad h t K) :=
  H.at1 (e := fun x => I x) (fun _ => rfl) hi hk

theorem Vw.atN (he : ∀ a, (enc a).length = n) (H : Vw enc n h v ys) (hi : i < ys.length) (hk : K (.agg (enc ys[i]).toArray)) : pIdx n v (.int k i) (fun t => pLoadN n h t K) := by
  refine H.idx he hi fun b o hc => ?_
  have := cellsAt_of_hcell (enc ys[i]) o (fun j hj => hc j (by rw [he] at hj; exact hj))
  rw [he] at this
  simp only [pLoadN_ptr, this]; exact hk

theorem Vw.atF {j : Nat} {u : Value} (he : ∀ a, (enc a).length = n) (H : Vw enc n h v ys) (hi : i < ys.length) (hj : j < n) (hu : (enc ys[i])[j]? = some u) (hk : K u) :
    pIdx n v (.int k i) (fun t => pField j t fun t' => pLoad h t' K) := by
  refine H.idx he hi fun b o hc => ?_
  have := hc j hj
  rw [hu] at this
  simp only [pField_ptr, pLoad_ptr, this]; exact hk

theorem Vw.sub {lo hi : Option Value} {a j : Nat} (he : ∀ a, (enc a).length = n) (H : Vw enc n h v ys) (hlo : bndOf 0 lo = some (a : Int)) (hhi : bndOf ys.length hi = some (j : Int)) (hij : a ≤ j) (hj : j ≤ ys.length)
    (hK : ∀ v', Vw enc n h v' ((ys.drop a).take (j - a)) → K v') : pSlice n v lo hi none K := by
  obtain ⟨bl, H⟩ := H
  exact H.sub he hlo hhi hij hj fun v' H' => hK v' ⟨bl, H'⟩

theorem Vw.cells (he : ∀ a, (enc a).length = n) (H : Vw enc n h v ys) : ∃ base cap, v = .slice base ys.length cap ∧ cellsOfSl h n ys.length base = some (row enc ys) := by
  obtain ⟨bl, H⟩ := H
  exact H.cells he

end

/-! ### Slices of one's own -/

def blkOf : Value → Nat → Prop
  | .slice (some a) _ _, c => c = a.block
  | _, _ => False

section
variable {α : Type} {enc : α → List Value} {n : Nat} {T : TypeId} {h0 h h' : Heap} {v w : Value} {ys xs : List α} {K : Value → Prop} {KH : Value → Heap → Prop} {k : IntKind} {i : Nat} {L : List Res}

def slR (enc : α → List Value) (n : Nat) (T : TypeId) (v : Value) (xs : List α) : Res := ⟨blkOf v, fun h => ∃ bl, SlR enc n T h v bl xs, fun {h h'} hs hq => by
  obtain ⟨bl, H⟩ := hq
  refine ⟨bl, ?_⟩
  rcases H with H | ⟨cap, rest, rfl, hb, a, c⟩
  · exact .inl H
  · exact .inr ⟨cap, rest, rfl, (hs bl rfl).trans hb, a, c⟩⟩

theorem Own.vw (o : Own h0 h L) (i : Nat) (hi : L[i]? = some (slR enc n T v xs)) : Vw enc n h v xs := by
  obtain ⟨bl, H⟩ := o.get i hi
  exact ⟨bl, H.view⟩

theorem slR_of {bl : Nat} (H : SlR enc n T h v bl xs) : (slR enc n T v xs).Q h := ⟨bl, H⟩

theorem Own.nilS (o : Own h0 h L) : Own h0 h (slR enc n T (.slice none 0 0) ([] : List α) :: L) :=
  o.cons (.refl _ _) ⟨0, .inl ⟨rfl, rfl⟩⟩ fun b hb => hb.elim

theorem SlR.blk {bl : Nat} (H : SlR enc n T h v bl xs) {b : Nat} (hb : blkOf v b) : b = bl := by
  rcases H with ⟨rfl, _⟩ | ⟨cap, rest, rfl, _⟩
  · exact hb.elim
  · exact hb

theorem SlR.blkLt {bl : Nat} (H : SlR enc n T h v bl xs) {b : Nat} (hb : blkOf v b) : b < h.size := by
  have e := H.blk hb
  rcases H with ⟨rfl, _⟩ | ⟨cap, rest, rfl, hx, _⟩
  · exact hb.elim
  · subst e; exact get_lt hx

/-- A slice that was just made. -/
theorem Own.fresh {c : Nat} {rest : List Value} (o : Own h0 h L) (hr : rest.length = (c - xs.length) * n) (hc : xs.length ≤ c) :
    Own h0 (h.push (.cells (row enc xs ++ rest).toArray T (0, 0))) (slR enc n T (.slice (some ⟨h.size, 0, none⟩) xs.length c) xs :: L) :=
  o.new (slR_of (bl := h.size) (.inr ⟨c, rest, rfl, push_new, hr, hc⟩)) fun b hb => hb

theorem Own.make {bytes : Nat} {zero : List Value} {k' : IntKind} {m : Nat} {a : α} (o : Own h0 h L) (hz : zero = enc a) (hb : (bytes : Int) * m ≤ 2 ^ 48) (hm : m < 2 ^ 63)
    (hK : ∀ w h', Own h0 h' (slR enc n T w (List.replicate m a) :: L) → KH w h') : pMakeSlice T bytes zero (.int k m) (.int k' m) h KH := by
  subst hz
  refine makeSlice_of hb hm fun w h' H x hs => hK w h' (o.cons x (slR_of H) fun b hb => ?_)
  have := H.blk hb
  subst this
  omega

theorem Own.build {zs : List Value} {parts : List (Nat × Nat × Value)} {len : Nat} (o : Own h0 h L) (xs : List α) (hrow : spliceAll zs parts = row enc xs) (hsz : sizesOk zs.length parts) (hl : len = xs.length)
    (hK : ∀ w h', Own h0 h' (slR enc n T w xs :: L) → KH w h') : pBuildSlice T zs parts len h KH := by
  subst hl
  refine ⟨hsz, hK _ _ ?_⟩
  have := o.fresh (enc := enc) (n := n) (T := T) (xs := xs) (c := xs.length) (rest := []) (by simp) (Nat.le_refl _)
  rw [hrow]; simpa using this

/-- More elements behind. -/
theorem Own.app {bytes : Nat} {zero : List Value} {x : Value} (o : Own h0 h L) (i : Nat) (hi : L[i]? = some (slR enc n T v xs)) (he : ∀ a, (enc a).length = n) (hp : ∀ a, ∀ u ∈ enc a, plainCell u = true) (hz : zero.length = n)
    (hx : Vw enc n h x ys) (hby : 0 < bytes) (hb : (xs.length + ys.length) * bytes ≤ 2 ^ 47) (hK : ∀ v' h', Own h0 h' (L.set i (slR enc n T v' (xs ++ ys))) → KH v' h') : pAppend T n bytes zero v x h KH := by
  obtain ⟨bl, H⟩ := o.get i hi
  obtain ⟨xb, xc, rfl, hcx⟩ := hx.cells he
  have hF : (∃ cs, h[bl]? = some (.cells cs T (0, 0))) → v = .slice none 0 0 ∨ blkOf v bl := fun _ => by
    rcases H with ⟨rfl, _⟩ | ⟨cap, rest, rfl, _⟩
    · exact .inl rfl
    · exact .inr rfl
  rcases H with ⟨rfl, rfl⟩ | ⟨cap, rest, rfl, H⟩
  · -- a nil slice: nothing of it can be turned
    have H0 : SlR enc n T h (.slice none 0 0) h.size ([] : List α) := .inl ⟨rfl, rfl⟩
    refine append_of he hp hz H0 rfl hcx hby hb fun v' bl' h' H' hbl u hlt => hK v' h' (o.set i hi (u.mono fun b ⟨e, cs, hcs⟩ hlt => ?_) (slR_of H') fun b hb => ?_)
    · subst e; exact absurd hlt (Nat.lt_irrefl _)
    · have := H'.blk hb
      exact ⟨.inr (by rcases hbl with e | e <;> omega), H'.blkLt hb⟩
  · refine append_of he hp hz (.inr ⟨cap, rest, rfl, H⟩) rfl hcx hby hb fun v' bl' h' H' hbl u hlt => hK v' h' (o.set i hi (u.mono fun b ⟨e, cs, hcs⟩ _ => e) (slR_of H') fun b hb => ?_)
    have hb' := H'.blk hb
    refine ⟨?_, H'.blkLt hb⟩
    rcases hbl with e | e
    · exact .inl (hb'.trans e)
    · exact .inr (by omega)

/-- One element more: 'append(v, x)'. -/
theorem Own.app1 {bytes : Nat} {zero zs : List Value} {parts : List (Nat × Nat × Value)} (o : Own h0 h L) (i : Nat) (a : α) (hi : L[i]? = some (slR enc n T v xs)) (hrow : spliceAll zs parts = enc a) (hsz : sizesOk zs.length parts)
    (he : ∀ a, (enc a).length = n) (hp : ∀ a, ∀ u ∈ enc a, plainCell u = true) (hz : zero.length = n) (hby : 0 < bytes) (hb : (xs.length + 1) * bytes ≤ 2 ^ 47)
    (hK : ∀ v' h', Own h0 h' (L.set i (slR enc n T v' (xs ++ [a]))) → KH v' h') : pBuildSlice T zs parts 1 h fun t h1 => pAppend T n bytes zero v t h1 KH := by
  refine o.build (enc := enc) (n := n) [a] (by rw [hrow]; simp [row]) hsz rfl fun w h1 o1 => ?_
  exact o1.app (i + 1) hi he hp hz (o1.vw 0 rfl) hby hb fun v' h' o' => hK v' h' o'.tail

/-- An element set. -/
theorem Own.setAt {a : α} {j : Nat} (o : Own h0 h L) (i : Nat) (hi : L[i]? = some (slR enc n T v xs)) (he : ∀ a, (enc a).length = n) (hp : ∀ u ∈ enc a, plainCell u = true) (hj : j < xs.length) (hw : w.cells.toList = enc a)
    (hK : ∀ h', Own h0 h' (L.set i (slR enc n T v (xs.set j a))) → KH undef h') : pIdx n v (.int k j) fun t => pStore n t w h KH := by
  obtain ⟨bl, H⟩ := o.get i hi
  refine H.idx hj (SlR.set he hp H hj rfl hw rfl fun h' H' u hs => hK h' (o.set i hi (u.mono fun b hb _ => ?_) (slR_of H') fun b hb => ⟨.inl hb, H'.blkLt hb⟩))
  subst hb
  obtain ⟨cap, rest, rfl, _⟩ := H.full (by omega)
  rfl

theorem Own.setI {xs : List Int} {z : Int} {j : Nat} (o : Own h0 h L) (i : Nat) (hi : L[i]? = some (slR encI 1 T v xs)) (hj : j < xs.length)
    (hK : ∀ h', Own h0 h' (L.set i (slR encI 1 T v (xs.set j z))) → KH undef h') : pIdx 1 v (.int k j) fun t => pStore 1 t (I z) h KH :=
  o.setAt i hi encI_len (encI_plain z) hj rfl hK

/-- The place of an element. -/
theorem Own.idxAt {j : Nat} (o : Own h0 h L) (i : Nat) (hi : L[i]? = some (slR enc n T v xs)) (hj : j < xs.length) (hK : ∀ bl, SlR enc n T h v bl xs → blkOf v bl → K (.pointer (some ⟨bl, j * n, none⟩))) : pIdx n v (.int k j) K := by
  obtain ⟨bl, H⟩ := o.get i hi
  refine H.idx hj (hK bl H ?_)
  obtain ⟨cap, rest, rfl, _⟩ := H.full (by omega)
  rfl

theorem over_row {j f : Nat} {u : Value} {a : α} {rest : List Value} (he : ∀ a, (enc a).length = n) (hj : j < xs.length) (hf : f < n) (ha : enc a = (enc xs[j]).set f u) :
    over (row enc xs ++ rest) (j * n + f) [u] = row enc (xs.set j a) ++ rest := by
  have hlen := row_length he xs
  have hmul : (j + 1) * n ≤ xs.length * n := Nat.mul_le_mul_right n hj
  rw [Nat.succ_mul] at hmul
  have hle : j * n + f < (row enc xs ++ rest).length := by rw [List.length_append, hlen]; omega
  have e1 : over (row enc xs ++ rest) (j * n + f) [u] = (row enc xs ++ rest).set (j * n + f) u := by
    rw [List.set_eq_take_append_cons_drop, if_pos hle]; simp [over]
  rw [e1, ← row_over he hj a rest]
  apply List.ext_getElem?
  intro m
  have hla : (enc a).length = n := he a
  have hg : ∀ m', m' < n → (row enc xs ++ rest)[j * n + m']? = (enc xs[j])[m']? := fun m' hm' => row_get he hj hm' rest
  unfold over
  clear e1
  generalize row enc xs ++ rest = R at hle hg
  by_cases h1 : m < j * n
  · rw [List.getElem?_set_ne (by omega), List.append_assoc, List.getElem?_append_left (by simp; omega), List.getElem?_take_of_lt h1]
  · by_cases h2 : m < j * n + n
    · rw [List.append_assoc, List.getElem?_append_right (by simp; omega), List.length_take, Nat.min_eq_left (by omega), List.getElem?_append_left (by omega), ha]
      by_cases h3 : m = j * n + f
      · subst h3
        rw [List.getElem?_set_self hle, show j * n + f - j * n = f by omega, List.getElem?_set_self (by rw [he]; exact hf)]
      · rw [List.getElem?_set_ne (by omega), List.getElem?_set_ne (by omega), ← hg (m - j * n) (by omega), show j * n + (m - j * n) = m by omega]
    · rw [List.getElem?_set_ne (by omega), List.append_assoc, List.getElem?_append_right (by simp; omega), List.length_take, Nat.min_eq_left (by omega), List.getElem?_append_right (by omega), List.getElem?_drop, hla]
      congr 1; omega

/-- A field of an element set. -/
theorem Own.setF {a : α} {j f : Nat} {u : Value} (o : Own h0 h L) (i : Nat) (hi : L[i]? = some (slR enc n T v xs)) (he : ∀ a, (enc a).length = n) (hj : j < xs.length) (hf : f < n) (hu : u.cells = #[u]) (hp : plainCell u = true) (ha : enc a = (enc xs[j]).set f u)
    (hK : ∀ h', Own h0 h' (L.set i (slR enc n T v (xs.set j a))) → KH undef h') : pIdx n v (.int k j) fun t => pField f t fun t' => pStore 1 t' u h KH := by
  refine o.idxAt i hi hj fun bl H hbl => ?_
  obtain ⟨cap, rest, rfl, hb, hr, hle⟩ := H.full (by omega)
  have hlen := row_length he xs
  have hmul : (j + 1) * n ≤ xs.length * n := Nat.mul_le_mul_right n hj
  rw [Nat.succ_mul] at hmul
  simp only [pField_ptr]
  refine pStore_of rfl hb (by rw [hu]; rfl) (by rw [hu, List.length_append, hlen]; show j * n + f + 1 ≤ _; omega) (by rw [hu]; simpa using hp) (hk := hK _ ?_)
  rw [hu, over_row he hj hf ha]
  refine o.set i hi (Upd.upd _ _ rfl) (slR_of (bl := bl) (.inr ⟨cap, rest, by simp, upd_self' hb, by simpa using hr, by simpa using hle⟩)) fun b hb' => ⟨.inl hb', ?_⟩
  have : b = bl := hb'
  subst this
  rw [upd_size]; exact get_lt hb

end

/-! ### Maps of integers -/

def mapR (m : Nat) (f : Int → Option Value) : Res := ⟨fun b => b = m, fun h => ∃ es c, h[m]? = some (.map es c) ∧ IMap es c f, fun hs ⟨es, c, a, b⟩ => ⟨es, c, (hs m rfl).trans a, b⟩⟩

section
variable {h0 h : Heap} {L : List Res} {m : Nat} {f : Int → Option Value} {K : Value → Prop} {KH : Value → Heap → Prop} {k : Int} {z v : Value} {ok : Bool}

theorem Own.mkMap (o : Own h0 h L) (hK : ∀ m h', Own h0 h' (mapR m (fun _ => none) :: L) → KH (.map (some m)) h') : pMakeMap h KH :=
  hK h.size _ (o.new (r := mapR h.size _) ⟨#[], 0, push_new, .empty⟩ fun b hb => hb)

theorem Own.look (o : Own h0 h L) (i : Nat) (hi : L[i]? = some (mapR m f)) (hk : K (if ok then .tuple #[(f k).getD z, .bool (f k).isSome] else (f k).getD z)) : pLook (.int .i64) z ok h (.map (some m)) (I k) K := by
  obtain ⟨es, c, hm, him⟩ := o.get i hi
  exact look_of hm him hk

theorem Own.mapPut {f' : Int → Option Value} (o : Own h0 h L) (i : Nat) (hi : L[i]? = some (mapR m f)) (hf : ∀ x, f' x = fset f k v x) (hK : ∀ h', Own h0 h' (L.set i (mapR m f')) → KH undef h') : pMapSet (.int .i64) (.map (some m)) (I k) v h KH := by
  obtain ⟨es, c, hm, him⟩ := o.get i hi
  have hlt := get_lt hm
  refine mapSet_of hm him fun es' c' him' => hK _ (o.set i hi (Upd.upd _ _ rfl) ⟨es', c', upd_self hlt, him'.congr fun x => (hf x).symm ▸ rfl⟩ fun b hb => ⟨.inl hb, ?_⟩)
  rw [upd_size]; exact (show b = m from hb) ▸ hlt

theorem Own.mapDel {f' : Int → Option Value} (o : Own h0 h L) (i : Nat) (hi : L[i]? = some (mapR m f)) (hf : ∀ x, f' x = fdel f k x) (hK : ∀ h', Own h0 h' (L.set i (mapR m f')) → KH (.tuple #[]) h') : pDelete (.int .i64) (.map (some m)) (I k) h KH := by
  obtain ⟨es, c, hm, him⟩ := o.get i hi
  have hlt := get_lt hm
  refine delete_of hm him fun es' him' => hK _ (o.set i hi (Upd.upd _ _ rfl) ⟨es', c, upd_self hlt, him'.congr fun x => (hf x).symm ▸ rfl⟩ fun b hb => ⟨.inl hb, ?_⟩)
  rw [upd_size]; exact (show b = m from hb) ▸ hlt

end

/-! ### More on parts of memory -/

section
variable {h0 h h' : Heap} {L L' : List Res} {r r' : Res} {i : Nat}

theorem set_get {α : Type} {L : List α} {i : Nat} {r x : α} (hi : L[i]? = some r) : (L.set i x)[i]? = some x :=
  List.getElem?_set_self (List.getElem?_eq_some_iff.1 hi).1

theorem Own.conv (o : Own h0 h L) (i : Nat) (hi : L[i]? = some r) (q : r'.Q h) (g : ∀ b, r'.F b → r.F b) : Own h0 h (L.set i r') :=
  o.set i hi (.refl _ _) q fun b hb => ⟨.inl (g b hb), ((o.q hi).2 b (g b hb)).2⟩

/-- Some parts as one. -/
def allR (l : List Res) : Res := ⟨fun b => ∃ r ∈ l, r.F b, fun h => ∀ r ∈ l, r.Q h, fun hs hq r hr => r.st (fun b hb => hs b ⟨r, hr, hb⟩) (hq r hr)⟩

theorem Own.pack : ∀ {l L : List Res}, Own h0 h (l ++ L) → Own h0 h (allR l :: L) := by
  intro l L o
  have key : ∀ {j : Nat} {s : Res}, L[j]? = some s → (l ++ L)[l.length + j]? = some s := fun {j s} hj => by
    rw [List.getElem?_append_right (by omega), Nat.add_sub_cancel_left]; exact hj
  have keyl : ∀ {s : Res}, s ∈ l → ∃ j, j < l.length ∧ (l ++ L)[j]? = some s := fun {s} hs => by
    obtain ⟨j, hj, rfl⟩ := List.mem_iff_getElem.1 hs
    exact ⟨j, hj, by rw [List.getElem?_append_left hj]; simp⟩
  refine ⟨o.ext, fun {i s} hi => ?_, fun {i j s t} hi hj hne b hb hb' => ?_⟩
  · cases i with
    | zero =>
      simp at hi; subst hi
      refine ⟨fun r hr => ?_, fun b ⟨r, hr, hb⟩ => ?_⟩
      · obtain ⟨j, _, hj⟩ := keyl hr; exact (o.q hj).1
      · obtain ⟨j, _, hj⟩ := keyl hr; exact (o.q hj).2 b hb
    | succ i => exact o.q (key (j := i) (by simpa using hi))
  · cases i with
    | zero =>
      simp at hi; subst hi
      obtain ⟨r, hr, hb⟩ := hb
      obtain ⟨k, hk, hkr⟩ := keyl hr
      cases j with
      | zero => exact hne rfl
      | succ j => exact o.ap hkr (key (j := j) (by simpa using hj)) (by omega) b hb hb'
    | succ i =>
      cases j with
      | zero =>
        simp at hj; subst hj
        obtain ⟨r, hr, hb'⟩ := hb'
        obtain ⟨k, hk, hkr⟩ := keyl hr
        exact o.ap (key (j := i) (by simpa using hi)) hkr (by omega) b hb hb'
      | succ j => exact o.ap (key (j := i) (by simpa using hi)) (key (j := j) (by simpa using hj)) (by omega) b hb hb'

/-- A part that keeps less in mind. -/
theorem Own.weak (o : Own h0 h (r :: L)) (q : r.Q h → r'.Q h) (g : ∀ b, r'.F b → r.F b) : Own h0 h (r' :: L) :=
  o.conv 0 rfl (q (o.get 0 rfl)) g

/-- Of the first k parts some, in any order; the others as they are. -/
theorem Own.front (o : Own h0 h L) (k : Nat) (is : List Nat) (hn : is.Nodup) (hk : ∀ i ∈ is, i < k) : Own h0 h ((is.map fun i => L.getD i nilR) ++ L.drop k) := by
  have key : ∀ {j : Nat} {s : Res}, ((is.map fun i => L.getD i nilR) ++ L.drop k)[j]? = some s → s = nilR ∨ ∃ i, L[i]? = some s ∧ ((j < is.length ∧ is[j]? = some i) ∨ (is.length ≤ j ∧ i = k + (j - is.length))) := by
    intro j s hs
    by_cases hj : j < is.length
    · rw [List.getElem?_append_left (by simpa using hj), List.getElem?_map, Option.map_eq_some_iff] at hs
      obtain ⟨i, hi, rfl⟩ := hs
      rw [List.getD_eq_getElem?_getD]
      cases hL : L[i]? with
      | none => exact .inl rfl
      | some s => exact .inr ⟨i, hL, .inl ⟨hj, hi⟩⟩
    · rw [List.getElem?_append_right (by simp; omega), List.length_map, List.getElem?_drop] at hs
      exact .inr ⟨_, hs, .inr ⟨by omega, rfl⟩⟩
  refine ⟨o.ext, fun {j s} hs => ?_, fun {j l s t} hs ht hne b hb hb' => ?_⟩
  · rcases key hs with rfl | ⟨i, hi, _⟩
    · exact ⟨trivial, fun b hb => hb.elim⟩
    · exact o.q hi
  · rcases key hs with rfl | ⟨a, ha, h1⟩
    · exact hb.elim
    · rcases key ht with rfl | ⟨c, hc, h2⟩
      · exact hb'.elim
      · refine o.ap ha hc (fun e => hne ?_) b hb hb'
        subst e
        rcases h1 with ⟨h1, h1'⟩ | ⟨h1, h1'⟩ <;> rcases h2 with ⟨h2, h2'⟩ | ⟨h2, h2'⟩
        · have e1 := (List.getElem?_eq_some_iff.1 h1')
          have e2 := (List.getElem?_eq_some_iff.1 h2')
          exact (List.getElem_inj hn).1 (e1.2.trans e2.2.symm)
        · have := hk a (List.mem_of_getElem? h1'); omega
        · have := hk a (List.mem_of_getElem? h2'); omega
        · omega

theorem Vw.plain {α : Type} {enc : α → List Value} {n : Nat} {v : Value} {xs : List α} (H : Vw enc n h v xs) : plainCell v = true := by
  obtain ⟨b, c, rfl⟩ := H.isSl; rfl
theorem Vw.one {α : Type} {enc : α → List Value} {n : Nat} {v : Value} {xs : List α} (H : Vw enc n h v xs) : v.cells = #[v] := by
  obtain ⟨b, c, rfl⟩ := H.isSl; rfl

/-- A store of plain values, by lists that are written out. -/
theorem Own.st {b off n : Nat} {cs cs' l : List Value} {T : TypeId} {v : Value} {KH : Value → Heap → Prop} (o : Own h0 h L) (i : Nat) (hi : L[i]? = some (cellR b cs T)) (hv : v.cells = l.toArray) (hn : l.length = n) (hle : Nat.ble (off + n) cs.length = true) (hcs : over cs off l = cs')
    (hp : ∀ u ∈ l, plainCell u = true) (hk : ∀ h', Own h0 h' (L.set i (cellR b cs' T)) → KH undef h') : pStore n (.pointer (some ⟨b, off, none⟩)) v h KH := by
  have hs : v.cells.size = n := by rw [hv]; simpa using hn
  refine o.store i hi hs (by rw [hs]; exact Nat.le_of_ble_eq_true hle) (by rw [hv]; simpa using hp) fun h' o' => hk h' ?_
  rw [hv] at o'
  simp only [hcs] at o'
  exact o'

theorem Own.st1 {b off : Nat} {cs cs' : List Value} {T : TypeId} {v : Value} {KH : Value → Heap → Prop} (o : Own h0 h L) (i : Nat) (hi : L[i]? = some (cellR b cs T)) (hle : Nat.blt off cs.length = true) (hcs : over cs off [v] = cs') (hv : v.cells = #[v]) (hp : plainCell v = true)
    (hk : ∀ h', Own h0 h' (L.set i (cellR b cs' T)) → KH undef h') : pStore 1 (.pointer (some ⟨b, off, none⟩)) v h KH :=
  o.st i hi (l := [v]) hv rfl hle hcs (by simpa using hp) hk

/-- A struct read whole. -/
theorem Own.ldN {b off n : Nat} {cs cs' : List Value} {T : TypeId} {K : Value → Prop} (o : Own h0 h L) (i : Nat) (hi : L[i]? = some (cellR b cs T)) (hle : Nat.ble (off + n) cs.length = true) (hcs : (cs.drop off).take n = cs') (hk : K (.agg cs'.toArray)) : pLoadN n h (.pointer (some ⟨b, off, none⟩)) K :=
  o.loadN i hi (Nat.le_of_ble_eq_true hle) (by rw [hcs]; exact hk)

theorem Own.nilTail (o : Own h0 h L) : Own h0 h (L ++ []) := by rwa [List.append_nil]
theorem Own.toNil (o : Own h0 h (L ++ [])) : Own h0 h L := by rwa [List.append_nil] at o

/-- A call that only adds to memory. -/
theorem Own.ext2 (o : Own h0 h L) (x : Ext h h') : Ext h0 h' := (o.more x).ext

end

/-! ### Loops that count -/

theorem LoopH_count {σ : Type} {B : σ → Heap → (σ → Heap → Prop) → Prop} {x : σ} {h : Heap} (N : Nat) (I : Nat → σ → Heap → Prop) (h0 : I 0 x h)
    (step : ∀ (i : Nat) (x : σ) (h : Heap) (Z : σ → Heap → Prop), i ≤ N → I i x h → (∀ x' h', i < N → I (i + 1) x' h' → Z x' h') → B x h Z) : LoopH B x h := by
  intro Z hZ
  have key : ∀ k i x h, N - i = k → i ≤ N → I i x h → Z x h := by
    intro k
    induction k with
    | zero => intro i x h hk hi hI; exact hZ x h (step i x h Z hi hI fun x' h' hlt => by omega)
    | succ k ih => intro i x h hk hi hI; exact hZ x h (step i x h Z hi hI fun x' h' hlt hI' => ih (i + 1) x' h' (by omega) (by omega) hI')
  exact key _ 0 x h rfl (Nat.zero_le _) h0

theorem LoopH_down {σ : Type} {B : σ → Heap → (σ → Heap → Prop) → Prop} {x : σ} {h : Heap} (I : Nat → σ → Heap → Prop) {k0 : Nat} (h0 : I k0 x h)
    (step : ∀ (k : Nat) (x : σ) (h : Heap) (Z : σ → Heap → Prop), I k x h → (∀ x' h' k', k' < k → I k' x' h' → Z x' h') → B x h Z) : LoopH B x h := by
  intro Z hZ
  have key : ∀ k x h, I k x h → Z x h := by
    intro k
    induction k using Nat.strongRecOn with
    | _ k ih => intro x h hI; exact hZ x h (step k x h Z hI fun x' h' k' hlt hI' => ih k' hlt x' h' hI')
  exact key _ x h h0

theorem wI (n : Nat) (hn : n < 9223372036854775807) : IntKind.i64.wrap ((n : Int) + 1) = ((n + 1 : Nat) : Int) := by rw [w64 (by omega) (by omega)]; rfl

/-! ### Copies into one's own -/

section
variable {α : Type} {enc : α → List Value} {n : Nat} {T : TypeId} {h0 h : Heap} {v : Value} {ys xs : List α} {KP : Heap → Prop} {KH : Value → Heap → Prop} {L : List Res}

theorem over_rows {rest : List Value} {j : Nat} (he : ∀ a, (enc a).length = n) (hj : j + ys.length ≤ xs.length) :
    over (row enc xs ++ rest) (j * n) (row enc ys) = row enc (xs.take j ++ ys ++ xs.drop (j + ys.length)) ++ rest := by
  have hl := row_length he xs
  have hm : (j + ys.length) * n ≤ xs.length * n := Nat.mul_le_mul_right n hj
  rw [Nat.add_mul] at hm
  unfold over
  rw [row_length he ys, List.take_append_of_le_length (by omega), row_take he, ← Nat.add_mul, List.drop_append_of_le_length (by rw [Nat.add_mul]; omega), row_drop he, row_append, row_append]
  simp [List.append_assoc]

theorem Own.storeRow {j : Nat} (o : Own h0 h L) (i : Nat) (hi : L[i]? = some (slR enc n T v xs)) (he : ∀ a, (enc a).length = n) (hp : ∀ a, ∀ u ∈ enc a, plainCell u = true) {bl : Nat} (H : SlR enc n T h v bl xs) (hb : blkOf v bl) (hj : j + ys.length ≤ xs.length)
    (hk : ∀ h', Own h0 h' (L.set i (slR enc n T v (xs.take j ++ ys ++ xs.drop (j + ys.length)))) → KP h') : storeL h bl (j * n) (row enc ys) KP := by
  rcases H with ⟨rfl, _⟩ | ⟨cap, rest, rfl, hbk, hr, hle⟩
  · exact hb.elim
  have hl := row_length he xs
  have hly := row_length he ys
  have hm : (j + ys.length) * n ≤ xs.length * n := Nat.mul_le_mul_right n hj
  rw [Nat.add_mul] at hm
  have hlen : (xs.take j ++ ys ++ xs.drop (j + ys.length)).length = xs.length := by simp; omega
  refine storeL_of _ _ _ _ hbk (by rw [List.length_append]; omega) (fun u hu => ?_) (hk _ ?_)
  · simp only [row, List.mem_flatMap] at hu
    obtain ⟨a, _, ha⟩ := hu
    exact hp a u ha
  · rw [over_rows he hj]
    refine o.set i hi (Upd.upd _ _ rfl) (slR_of (bl := bl) (.inr ⟨cap, rest, by rw [hlen], upd_self' hbk, by rw [hlen]; exact hr, by rw [hlen]; exact hle⟩)) fun b hb' => ⟨.inl hb', ?_⟩
    have : b = bl := hb'
    subst this
    rw [upd_size]; exact get_lt hbk

end
/-! ### More on what yields -/

section
variable {P : Program} {fv : Value} {Q Q' : Heap → Prop}

theorem IterG.map {σ τ : Type} {s0 : σ} {t0 : τ} {next : σ → List Value → σ → Prop} {stop : σ → Prop} {next' : τ → List Value → τ → Prop} {stop' : τ → Prop} (g : σ → τ) (h : IterG P fv Q s0 next stop)
    (h0 : g s0 = t0) (hn : ∀ s x s', next s x s' → next' (g s) x (g s')) (hs : ∀ s, stop s → stop' (g s)) : IterG P fv Q t0 next' stop' := by
  intro yv b0 h1 Rs K J E hl o j0 hQ hY hK
  refine h yv b0 h1 Rs K (fun s => J (g s)) E hl o (h0 ▸ j0) (fun s Rs' h' hj => hQ _ Rs' h' hj) (fun s x s' Rs' Pr h' R hx => hY _ _ _ Rs' Pr h' R (hn _ _ _ hx)) fun Rs' h' hje => hK Rs' h' ?_
  rcases hje with ⟨s, h1, h2⟩ | h
  · exact .inl ⟨_, hs _ h1, h2⟩
  · exact .inr h

theorem Iter.toS {n : Nat} {f : (i : Nat) → i < n → List Value} {S : List Value → Prop} (h : Iter P fv Q n f) (hS : ∀ i hi, S (f i hi)) : IterS P fv Q S :=
  h.map (fun _ => ()) rfl (fun s x s' ⟨⟨hi, e⟩, _⟩ => e ▸ hS _ hi) fun _ _ => trivial

theorem IterG.need {σ : Type} {s0 : σ} {next : σ → List Value → σ → Prop} {stop : σ → Prop} (h : IterG P fv Q s0 next stop) (hq : ∀ h, Q' h → Q h) : IterG P fv Q' s0 next stop :=
  fun yv b0 h1 Rs K J E hl o j0 hQ hY hK => h yv b0 h1 Rs K J E hl o j0 (fun s Rs' h' hj o' => hq _ (hQ s Rs' h' hj o')) hY hK

end

theorem callV_of {P : Program} {f : Nat} {first captured : Array Value} {args l : List Value} {h : Heap} {K : Value → Heap → Prop} (e : first.toList ++ args ++ captured.toList = l) (hc : CallsH P f l.toArray h K) :
    callV P (.func (.func f) first captured) args.toArray h K := by
  have : first ++ args.toArray ++ captured = l.toArray := by
    apply Array.ext'; simp [← e]
  refine callV_func ?_
  rw [this]; exact hc

theorem callF_of {P : Program} {f : Nat} {first captured : Array Value} {args : Array Value} {l : List Value} {h : Heap} {K : Value → Heap → Prop} (e : first.toList ++ args.toList ++ captured.toList = l) (hc : CallsH P f l.toArray h K) :
    callF P (.func (.func f) first captured) args h K := by
  have : first ++ args ++ captured = l.toArray := by
    apply Array.ext'; simp [← e]
  show CallsH P f (first ++ args ++ captured) h K
  rw [this]; exact hc

def sizesB (n : Nat) : List (Nat × Nat × Value) → Bool
  | [] => true
  | (off, size, v) :: r => Nat.beq v.cells.size size && (Nat.ble (off + size) n && sizesB n r)
theorem sizesOk_of : ∀ {n : Nat} {l : List (Nat × Nat × Value)}, sizesB n l = true → sizesOk n l
  | _, [], _ => trivial
  | _, _ :: _, h => by
    simp only [sizesB, Bool.and_eq_true] at h
    exact ⟨Nat.eq_of_beq_eq_true h.1, Nat.le_of_ble_eq_true h.2.1, sizesOk_of h.2.2⟩

section
variable {α : Type} {enc : α → List Value} {n : Nat} {T : TypeId} {h0 h : Heap} {x : Value} {KH : Value → Heap → Prop} {L : List Res} {k k' : IntKind}

/-- A slice made, its block known. -/
theorem Own.makeB {bytes m : Nat} {zero : List Value} (o : Own h0 h L) (hb : (bytes : Int) * m ≤ 2 ^ 48) (hm : m < 2 ^ 63)
    (hK : ∀ bl h', Own h0 h' (cellR bl (List.replicate m zero).flatten T :: L) → KH (.slice (some ⟨bl, 0, none⟩) m m) h') : pMakeSlice T bytes zero (.int k m) (.int k' m) h KH := by
  refine ⟨by omega, Int.le_refl _, hb, by omega, ?_⟩
  simp only [Int.toNat_natCast]
  exact hK h.size _ (o.new (r := cellR h.size _ T) push_new fun b hb => hb)

/-- An element behind, where there is room. -/
theorem Own.appIn {bytes bl off len cap : Nat} {zero cs : List Value} {e : α → Value} {a : α} (o : Own h0 h L) (i : Nat) (hi : L[i]? = some (cellR bl cs T)) (he : ∀ a, enc a = [e a]) (hp : plainCell (e a) = true) (hx : Vw enc 1 h x [a]) (hlen : len + 1 ≤ cap) (hpos : off + len < cs.length)
    (hK : ∀ h', Own h0 h' (L.set i (cellR bl (cs.set (off + len) (e a)) T)) → KH (.slice (some ⟨bl, off, none⟩) (len + 1) cap) h') : pAppend T 1 bytes zero (.slice (some ⟨bl, off, none⟩) len cap) x h KH := by
  obtain ⟨xb, xc, rfl, hc⟩ := hx.cells fun a => by rw [he]; rfl
  have hc' : cellsOfSl h 1 1 xb = some [e a] := by
    have e1 : Mh.row enc [a] = [e a] := by simp [row, he]
    rw [← e1]; exact hc
  simp only [pAppend, List.length_singleton, hc']
  rw [if_pos hlen, Nat.mul_one]
  have hb : h[bl]? = some (.cells cs.toArray T (0, 0)) := o.get i hi
  have hlt := ((o.q hi).2 bl rfl).2
  refine storeL_of _ _ _ _ hb (by show off + len + 1 ≤ _; omega) (by simpa using hp) (hK _ ?_)
  have eo : over cs (off + len) [e a] = cs.set (off + len) (e a) := by rw [List.set_eq_take_append_cons_drop, if_pos hpos]; simp [over]
  rw [eo]
  refine o.set i hi (Upd.upd _ _ rfl) (upd_self hlt) fun b hb' => ⟨.inl hb', ?_⟩
  rw [upd_size]; exact (show b = bl from hb') ▸ hlt

end

theorem Vw.atQ {h : Heap} {v : Value} {ys : List Int} {i : Nat} {z : Int} {k : IntKind} {K : Value → Prop} (H : Vw encI 1 h v ys) (hq : ys[i]? = some z) (hk : K (I z)) : pIdx 1 v (.int k i) (fun t => pLoad h t K) := by
  obtain ⟨hi, rfl⟩ := List.getElem?_eq_some_iff.1 hq
  exact H.atI hi hk

theorem hcell_more {h h' : Heap} {a : Addr} {v : Value} (x : Ext h h') (hc : hcell h a = some v) : hcell h' a = some v := by
  unfold hcell at *
  split at hc
  · rename_i c T fz hb
    rw [x.get hb]
    exact hc
  · cases hc

/-- The place of a number in a view, which is read there, now and later. -/
theorem Vw.idxI {h : Heap} {v : Value} {ys : List Int} {i : Nat} {k : IntKind} {K : Value → Prop} (H : Vw encI 1 h v ys) (hi : i < ys.length) (hK : ∀ b o, hcell h ⟨b, o, none⟩ = some (I ys[i]) → K (.pointer (some ⟨b, o, none⟩))) : pIdx 1 v (.int k i) K :=
  H.idx (fun _ => rfl) hi fun b o hc => hK b o (by simpa [encI] using hc 0 (by omega))

end Go.Mh

namespace Go.Mh
open Go

/-- An arc, and a graph, as data. -/
structure A where
  f : Nat
  t : Nat
  w : Nat
  deriving DecidableEq
structure G where
  n : Nat
  X : List Int
  Y : List Int
  arcs : List A

def encA (a : A) : List Value := [I a.f, I a.t, I a.w]
theorem encA_len (a : A) : (encA a).length = 3 := rfl
theorem encA_plain (a : A) : ∀ u ∈ encA a, plainCell u = true := by
  intro u hu; simp [encA] at hu; rcases hu with rfl | rfl | rfl <;> rfl
abbrev vA (a : A) : Value := .agg #[I a.f, I a.t, I a.w]

/-- A graph that is right. -/
structure G.Right (g : G) : Prop where
  pos : 1 ≤ g.n
  most : g.n ≤ 16777216
  x : g.X.length = g.n
  y : g.Y.length = g.n
  xr : ∀ c ∈ g.X, -2147483648 ≤ c ∧ c ≤ 2147483647
  yr : ∀ c ∈ g.Y, -2147483648 ≤ c ∧ c ≤ 2147483647
  many : g.arcs.length ≤ 67108864
  ends : ∀ a ∈ g.arcs, a.f < g.n ∧ a.t < g.n ∧ a.w ≤ 2147483647

/-- A graph's lists in memory. -/
def RawL (h : Heap) (vx vy va : Value) (g : G) : Prop := Vw encI 1 h vx g.X ∧ Vw encI 1 h vy g.Y ∧ Vw encA 3 h va g.arcs
def RawV (h : Heap) (v : Value) (g : G) : Prop := ∃ vx vy va, v = .agg #[I g.n, vx, vy, va] ∧ RawL h vx vy va g

theorem RawL.more {h h' : Heap} {vx vy va : Value} {g : G} (H : RawL h vx vy va g) (x : Ext h h') : RawL h' vx vy va g := ⟨H.1.more x, H.2.1.more x, H.2.2.more x⟩
theorem RawV.more {h h' : Heap} {v : Value} {g : G} (H : RawV h v g) (x : Ext h h') : RawV h' v g := by
  obtain ⟨vx, vy, va, e, H⟩ := H
  exact ⟨vx, vy, va, e, H.more x⟩

def encU8 (x : Int) : List Value := [.int .u8 x]
theorem encU8_len (x : Int) : (encU8 x).length = 1 := rfl
def encV (v : Value) : List Value := [v]
theorem encV_len (v : Value) : (encV v).length = 1 := rfl

/-- The arcs that go out of a node, in to it. -/
def outsP (p : A → Bool) : List A → Nat → List Nat
  | [], _ => []
  | a :: l, i => if p a then i :: outsP p l (i + 1) else outsP p l (i + 1)
def G.out (g : G) (v : Nat) : List Nat := outsP (fun a => a.f == v) g.arcs 0
def G.in (g : G) (v : Nat) : List Nat := outsP (fun a => a.t == v) g.arcs 0
def encN (x : Nat) : List Value := [I x]
theorem encN_len (x : Nat) : (encN x).length = 1 := rfl
theorem encN_plain (x : Nat) : ∀ u ∈ encN x, plainCell u = true := by intro u hu; simp [encN] at hu; subst hu; rfl

theorem u8_wrap (x : Int) : 0 ≤ IntKind.u8.wrap x ∧ IntKind.u8.wrap x < 256 := by
  simp only [IntKind.wrap, IntKind.bits, IntKind.signed, Bool.false_and, Bool.false_eq_true, if_false]
  omega

end Go.Mh

namespace Go.Mh
open Go

/-! ### Arcs by an end -/

def Arcs.off (p : A → Nat) (l : List A) (v : Nat) : Nat := l.countP fun a => decide (p a < v)
def Arcs.cnt (p : A → Nat) (l : List A) (v : Nat) : Nat := l.countP fun a => p a == v

section
variable {p : A → Nat} {l : List A} {v n : Nat}
open Arcs

theorem off_succ : off p l (v + 1) = off p l v + cnt p l v := by
  unfold off cnt
  induction l with
  | nil => rfl
  | cons a l ih =>
    simp only [List.countP_cons, ih]
    by_cases h1 : p a < v
    · simp [h1, show p a < v + 1 by omega, show ¬ p a = v by omega]; omega
    · by_cases h2 : p a = v
      · simp [h2]; omega
      · simp [h1, h2, show ¬ p a < v + 1 by omega]

theorem off_zero : off p l 0 = 0 := by simp [off]
theorem off_le : off p l v ≤ l.length := List.countP_le_length
theorem off_mono {u : Nat} (h : u ≤ v) : off p l u ≤ off p l v := by
  induction h with
  | refl => exact Nat.le_refl _
  | step h ih => rw [Nat.succ_eq_add_one, off_succ]; omega
theorem cnt_le : cnt p l v ≤ l.length := List.countP_le_length
theorem off_cnt_le : off p l v + cnt p l v ≤ l.length := by rw [← off_succ]; exact off_le

theorem outsP_length (q : A → Bool) : ∀ (l : List A) (i : Nat), (outsP q l i).length = l.countP q
  | [], _ => rfl
  | a :: l, i => by
    simp only [outsP, List.countP_cons]
    split <;> simp [outsP_length q l, *]

theorem outsP_append (q : A → Bool) : ∀ (l m : List A) (i : Nat), outsP q (l ++ m) i = outsP q l i ++ outsP q m (i + l.length)
  | [], m, i => by simp [outsP]
  | a :: l, m, i => by
    simp only [outsP, List.cons_append, outsP_append q l m, List.length_cons]
    have e : i + 1 + l.length = i + (l.length + 1) := by omega
    rw [e]
    split <;> simp

theorem outsP_mem {q : A → Bool} : ∀ {l : List A} {i x : Nat}, x ∈ outsP q l i ↔ i ≤ x ∧ ∃ h : x - i < l.length, q (l[x - i]) = true
  | [], i, x => by simp [outsP]
  | a :: l, i, x => by
    have ih := @outsP_mem q l (i + 1) x
    have key : x ∈ outsP q (a :: l) i ↔ (x = i ∧ q a = true) ∨ x ∈ outsP q l (i + 1) := by
      simp only [outsP]
      split
      · simp [*]
      · simp [*]
    rw [key, ih]
    constructor
    · rintro (⟨rfl, hq⟩ | ⟨h1, h2, h3⟩)
      · exact ⟨Nat.le_refl _, by simp, by simpa using hq⟩
      · refine ⟨by omega, by simp; omega, ?_⟩
        have e : x - i = (x - (i + 1)) + 1 := by omega
        simp only [e, List.getElem_cons_succ]; exact h3
    · rintro ⟨h1, h2, h3⟩
      by_cases e : x = i
      · subst e; left; exact ⟨rfl, by simpa using h3⟩
      · right
        have e : x - i = (x - (i + 1)) + 1 := by omega
        simp only [e, List.getElem_cons_succ] at h3
        exact ⟨by omega, by simp at h2; omega, h3⟩

/-- What of an end's arcs stands among the first i. -/
def fill (p : A → Nat) (l : List A) (i v : Nat) : List Nat := outsP (fun a => p a == v) (l.take i) 0

theorem fill_length {i : Nat} : (fill p l i v).length = cnt p (l.take i) v := outsP_length _ _ _
theorem cnt_take_le {i : Nat} : cnt p (l.take i) v ≤ cnt p l v := (List.take_sublist i l).countP_le
theorem fill_le {i : Nat} : (fill p l i v).length ≤ cnt p l v := by rw [fill_length]; exact cnt_take_le

theorem fill_succ {i : Nat} (hi : i < l.length) : fill p l (i + 1) v = fill p l i v ++ (if p l[i] = v then [i] else []) := by
  unfold fill
  rw [List.take_succ_eq_append_getElem hi, outsP_append]
  congr 1
  have : (l.take i).length = i := by simp; omega
  rw [this, Nat.zero_add]
  simp only [outsP]
  by_cases h : p l[i] = v
  · simp [h]
  · simp [h]

theorem cnt_succ {i : Nat} (hi : i < l.length) : cnt p (l.take (i + 1)) v = cnt p (l.take i) v + (if p l[i] = v then 1 else 0) := by
  rw [← fill_length, fill_succ hi, List.length_append, fill_length]
  split <;> simp

theorem cnt_lt {i : Nat} (hi : i < l.length) : cnt p (l.take i) (p l[i]) < cnt p l (p l[i]) := by
  have h1 := cnt_succ (p := p) (v := p l[i]) hi
  have h2 : cnt p (l.take (i + 1)) (p l[i]) ≤ cnt p l (p l[i]) := cnt_take_le
  simp at h1
  omega

theorem range_set {α : Type} {f : Nat → α} {k : Nat} {x : α} : ((List.range n).map f).set k x = (List.range n).map fun v => if v = k then x else f v := by
  apply List.ext_getElem
  · simp
  · intro j h1 h2
    simp only [List.getElem_set, List.getElem_map, List.getElem_range]
    split <;> rename_i h
    · subst h; simp
    · simp [show ¬ j = k from fun e => h e.symm]

end
end Go.Mh

/-! A value built of parts of one cell each. -/
namespace Go.Mh
open Go

def setAll (cs : List Value) : List (Nat × Nat × Value) → List Value
  | [] => cs
  | (off, _, v) :: r => setAll (cs.set off v) r

def onesB (n : Nat) : List (Nat × Nat × Value) → Bool
  | [] => true
  | (off, size, _) :: r => Nat.beq size 1 && (Nat.blt off n && onesB n r)

theorem splice_set {cs : List Value} {off : Nat} {v : Value} (h : off < cs.length) (hv : v.cells = #[v]) : cs.take off ++ v.cells.toList ++ cs.drop (off + v.cells.size) = cs.set off v := by
  rw [hv, List.set_eq_take_append_cons_drop, if_pos h]; simp

theorem ones_of : ∀ {parts : List (Nat × Nat × Value)} {cs : List Value}, (∀ p ∈ parts, p.2.2.cells = #[p.2.2]) → onesB cs.length parts = true → sizesOk cs.length parts ∧ spliceAll cs parts = setAll cs parts
  | [], _, _, _ => ⟨trivial, rfl⟩
  | (off, size, v) :: r, cs, h1, h2 => by
    simp only [onesB, Bool.and_eq_true] at h2
    have hs : size = 1 := Nat.eq_of_beq_eq_true h2.1
    have ho : off < cs.length := Nat.le_of_ble_eq_true h2.2.1
    have hv := h1 (off, size, v) (List.mem_cons_self ..)
    have ih := @ones_of r (cs.set off v) (fun p hp => h1 p (List.mem_cons_of_mem _ hp)) (by rw [List.length_set]; exact h2.2.2)
    rw [List.length_set] at ih
    refine ⟨⟨by rw [show v.cells = #[v] from hv, hs]; rfl, by omega, ih.1⟩, ?_⟩
    simp only [spliceAll, setAll]
    rw [splice_set ho hv]
    exact ih.2

theorem pBuild_ones {zero cs' : List Value} {parts : List (Nat × Nat × Value)} {K : Value → Prop} (h1 : ∀ p ∈ parts, p.2.2.cells = #[p.2.2]) (h2 : onesB zero.length parts = true) (hcs : setAll zero parts = cs') (hk : K (.agg cs'.toArray)) : pBuild zero parts K := by
  have := ones_of h1 h2
  refine ⟨this.1, ?_⟩
  rw [this.2, hcs]; exact hk

end Go.Mh

namespace Go.Mh
open Go

/-! ### A flood, as data -/

abbrev HP := Int × Int
def hl (p q : HP) : Bool := decide (p.2 < q.2) || (decide (p.2 = q.2) && decide (p.1 < q.1))
theorem hl_iff {p q : HP} : hl p q = true ↔ p.2 < q.2 ∨ p.2 = q.2 ∧ p.1 < q.1 := by simp [hl]

def least : List HP → Option HP
  | [] => none
  | p :: l => match least l with
    | none => some p
    | some q => if hl q p then some q else some p

theorem least_none {l : List HP} : least l = none ↔ l = [] := by
  cases l with
  | nil => simp [least]
  | cons p l =>
    simp only [least]
    split
    · simp
    · split <;> simp

theorem least_spec : ∀ {l : List HP} {p : HP}, least l = some p → p ∈ l ∧ ∀ q ∈ l, ¬ hl q p = true
  | a :: l, p, h => by
    simp only [least] at h
    split at h
    · rename_i hn
      rw [least_none] at hn
      subst hn
      simp at h; subst h
      refine ⟨List.mem_cons_self, fun q hq => ?_⟩
      simp at hq; subst hq
      rw [hl_iff]; omega
    · rename_i q hq
      obtain ⟨h1, h2⟩ := least_spec hq
      split at h
      · rename_i hlt
        simp at h; subst h
        refine ⟨List.mem_cons_of_mem _ h1, fun x hx => ?_⟩
        rcases List.mem_cons.1 hx with rfl | hx
        · rw [hl_iff] at *; omega
        · exact h2 x hx
      · rename_i hlt
        simp at h; subst h
        refine ⟨List.mem_cons_self, fun x hx => ?_⟩
        rcases List.mem_cons.1 hx with rfl | hx
        · rw [hl_iff]; omega
        · have := h2 x hx
          rw [hl_iff] at *; omega

def lookH (l : List HP) (v : Nat) : Option Int := (l.find? fun p => p.1 == (v : Int)).map (·.2)

theorem lookH_none {l : List HP} {v : Nat} : lookH l v = none ↔ ∀ p ∈ l, p.1 ≠ v := by simp [lookH]
theorem lookH_some {l : List HP} {v : Nat} {k : Int} (h : lookH l v = some k) : ((v : Int), k) ∈ l := by
  simp only [lookH, Option.map_eq_some_iff] at h
  obtain ⟨p, hp, rfl⟩ := h
  have h1 := List.find?_some hp
  have h2 := List.mem_of_find?_eq_some hp
  have : p.1 = v := by simpa using h1
  rw [← this]; exact h2

structure FS where
  hp : List HP
  dist : List Int
  arc : List Int
  order : List Nat

def FS.reach (s : FS) (v a : Nat) (far : Int) : FS :=
  if v ∈ s.order then s else match lookH s.hp v with
  | some was => if was ≤ far then s else { s with hp := ((v : Int), far) :: s.hp.erase ((v : Int), was), arc := s.arc.set v a }
  | none => { s with hp := ((v : Int), far) :: s.hp, arc := s.arc.set v a }

def arcAt (l : List A) (i : Nat) : A := l.getD i ⟨0, 0, 0⟩

def FS.scan (l : List A) (head : A → Nat) (key : Int) (s : FS) (ids : List Nat) : FS :=
  ids.foldl (fun s i => s.reach (head (arcAt l i)) i (key + (arcAt l i).w)) s

/-- A node popped. -/
def FS.pop (s : FS) (v : Nat) (key : Int) : FS := { hp := s.hp.erase ((v : Int), key), dist := s.dist.set v key, arc := s.arc, order := s.order ++ [v] }

def FS.run (l : List A) (outs : Nat → List Nat) (head : A → Nat) : Nat → FS → FS
  | 0, s => s
  | k + 1, s => match least s.hp with
    | none => s
    | some p => FS.run l outs head k ((s.pop p.1.toNat p.2).scan l head p.2 (outs p.1.toNat))

def far : Int := 72057594037927936

def FS.start (n s : Nat) : FS := ⟨[((s : Int), 0)], List.replicate n far, List.replicate n (-1), []⟩

/-- A tree. -/
structure Tr where
  dist : List Int
  arc : List Int
  order : List Nat
def FS.tree (s : FS) : Tr := ⟨s.dist, s.arc, s.order⟩
def Tr.none : Tr := ⟨[], [], []⟩

def floodP (l : List A) (n : Nat) (outs : Nat → List Nat) (head : A → Nat) (s : Nat) : Tr := (FS.run l outs head (n + 1) (FS.start n s)).tree

def G.from (g : G) (s : Nat) : Tr := floodP g.arcs g.n g.out A.t s
def G.to (g : G) (s : Nat) : Tr := floodP g.arcs g.n g.in A.f s
/-- From, to a node that may be none. -/
def G.fromI (g : G) (s : Int) : Tr := if 0 ≤ s ∧ s < g.n then g.from s.toNat else .none
def G.toI (g : G) (s : Int) : Tr := if 0 ≤ s ∧ s < g.n then g.to s.toNat else .none

/-! ### What holds all the time -/

theorem nodup_le : ∀ {n : Nat} {l : List Nat}, l.Nodup → (∀ x ∈ l, x < n) → l.length ≤ n
  | 0, l, _, h => by
    cases l with
    | nil => simp
    | cons a l => exact absurd (h a List.mem_cons_self) (by omega)
  | n + 1, l, hn, h => by
    by_cases hm : n ∈ l
    · have h1 : (l.erase n).Nodup := List.Nodup.erase n hn
      have h2 : ∀ x ∈ l.erase n, x < n := fun x hx => by
        have h3 := h x (List.mem_of_mem_erase hx)
        have h4 : x ≠ n := fun e => by subst e; exact (List.Nodup.mem_erase_iff hn).1 hx |>.1 rfl
        omega
      have := nodup_le h1 h2
      rw [List.length_erase_of_mem hm] at this
      omega
    · have := nodup_le (n := n) hn fun x hx => by
        have h3 := h x hx
        have : x ≠ n := fun e => hm (e ▸ hx)
        omega
      omega

abbrev W : Int := 2147483647

structure FInv (n : Nat) (B : Int) (s : FS) : Prop where
  ids : (s.hp.map (·.1)).Nodup
  ent : ∀ p ∈ s.hp, ∃ u : Nat, p.1 = u ∧ u < n ∧ u ∉ s.order ∧ 0 ≤ p.2 ∧ p.2 ≤ B
  ord : s.order.Nodup
  ordr : ∀ v ∈ s.order, v < n
  dl : s.dist.length = n
  al : s.arc.length = n

theorem FInv.start {n s : Nat} (h : s < n) : FInv n 0 (FS.start n s) := by
  refine ⟨by simp [FS.start], fun p hp => ?_, by simp [FS.start], by simp [FS.start], by simp [FS.start], by simp [FS.start]⟩
  simp [FS.start] at hp; subst hp
  exact ⟨s, rfl, h, by simp [FS.start], by simp, by simp⟩

theorem FInv.room {n : Nat} {B : Int} {s : FS} (H : FInv n B s) (h : s.hp ≠ []) : s.order.length < n := by
  obtain ⟨p, hp⟩ := List.exists_mem_of_ne_nil _ h
  obtain ⟨u, _, hu, hno, _⟩ := H.ent p hp
  have := nodup_le (n := n) (l := u :: s.order) (List.nodup_cons.2 ⟨hno, H.ord⟩) (by
    intro x hx
    rcases List.mem_cons.1 hx with rfl | hx
    · exact hu
    · exact H.ordr x hx)
  simp at this; omega

theorem FInv.len {n : Nat} {B : Int} {s : FS} (H : FInv n B s) : s.order.length ≤ n := nodup_le H.ord H.ordr

theorem map_erase_sub {l : List HP} {p : HP} : ((l.erase p).map (·.1)).Sublist (l.map (·.1)) := List.Sublist.map _ List.erase_sublist

theorem not_mem_erase {l : List HP} (h : (l.map (·.1)).Nodup) {p q : HP} (hp : p ∈ l) (hq : q ∈ l.erase p) : q.1 ≠ p.1 := by
  induction l with
  | nil => simp at hp
  | cons a l ih =>
    simp only [List.map_cons, List.nodup_cons] at h
    by_cases e : a = p
    · subst e
      rw [List.erase_cons_head] at hq
      intro e
      exact h.1 (e ▸ List.mem_map.2 ⟨q, hq, rfl⟩)
    · have hp' : p ∈ l := by
        rcases List.mem_cons.1 hp with rfl | hp
        · exact absurd rfl e
        · exact hp
      rw [List.erase_cons_tail (by simpa using e)] at hq
      rcases List.mem_cons.1 hq with rfl | hq
      · intro e'
        exact h.1 (e' ▸ List.mem_map.2 ⟨p, hp', rfl⟩)
      · exact ih h.2 hp' hq

theorem FInv.popped {n : Nat} {B : Int} {s : FS} (H : FInv n B s) {v : Nat} {key : Int} (h : ((v : Int), key) ∈ s.hp) : FInv n B (s.pop v key) := by
  obtain ⟨u, hu, hun, hno, _, _⟩ := H.ent _ h
  have hu : v = u := by simp at hu; omega
  subst hu
  refine ⟨map_erase_sub.nodup H.ids, fun p hp => ?_, ?_, fun x hx => ?_, by simp [FS.pop, H.dl], H.al⟩
  · obtain ⟨w, h1, h2, h3, h4⟩ := H.ent p (List.mem_of_mem_erase hp)
    refine ⟨w, h1, h2, ?_, h4⟩
    simp only [FS.pop, List.mem_append, List.mem_singleton]
    rintro (hx | rfl)
    · exact h3 hx
    · exact not_mem_erase H.ids h hp h1
  · simp only [FS.pop]
    rw [List.nodup_append]
    refine ⟨H.ord, by simp, fun a ha b hb => ?_⟩
    simp at hb; subst hb
    exact fun e => hno (e ▸ ha)
  · simp only [FS.pop, List.mem_append, List.mem_singleton] at hx
    rcases hx with hx | rfl
    · exact H.ordr x hx
    · exact hun

theorem FInv.mono {n : Nat} {B B' : Int} {s : FS} (H : FInv n B s) (h : B ≤ B') : FInv n B' s :=
  ⟨H.ids, fun p hp => by obtain ⟨u, a, b, c, d, e⟩ := H.ent p hp; exact ⟨u, a, b, c, d, by omega⟩, H.ord, H.ordr, H.dl, H.al⟩

theorem FInv.reach {n : Nat} {B : Int} {s : FS} (H : FInv n B s) {v a : Nat} {d : Int} (hv : v < n) (h0 : 0 ≤ d) (hB : d ≤ B) : FInv n B (s.reach v a d) := by
  unfold FS.reach
  split
  · exact H
  · rename_i hno
    split
    · rename_i was hw
      split
      · exact H
      · have hm := lookH_some hw
        refine ⟨?_, fun p hp => ?_, H.ord, H.ordr, H.dl, by simp [H.al]⟩
        · simp only [List.map_cons, List.nodup_cons]
          refine ⟨fun hx => ?_, map_erase_sub.nodup H.ids⟩
          obtain ⟨q, hq, he⟩ := List.mem_map.1 hx
          exact not_mem_erase H.ids hm hq he
        · rcases List.mem_cons.1 hp with rfl | hp
          · exact ⟨v, rfl, hv, hno, h0, hB⟩
          · exact H.ent p (List.mem_of_mem_erase hp)
    · rename_i hw
      rw [lookH_none] at hw
      refine ⟨?_, fun p hp => ?_, H.ord, H.ordr, H.dl, by simp [H.al]⟩
      · simp only [List.map_cons, List.nodup_cons]
        refine ⟨fun hx => ?_, H.ids⟩
        obtain ⟨q, hq, he⟩ := List.mem_map.1 hx
        exact hw q hq he
      · rcases List.mem_cons.1 hp with rfl | hp
        · exact ⟨v, rfl, hv, hno, h0, hB⟩
        · exact H.ent p hp

theorem reach_order {s : FS} {v a : Nat} {d : Int} : (s.reach v a d).order = s.order ∧ (s.reach v a d).dist = s.dist := by
  unfold FS.reach
  split
  · exact ⟨rfl, rfl⟩
  · split
    · split <;> exact ⟨rfl, rfl⟩
    · exact ⟨rfl, rfl⟩

theorem FInv.scan {n : Nat} {B : Int} {l : List A} {head : A → Nat} {key : Int} (hh : ∀ a ∈ l, head a < n ∧ (a.w : Int) ≤ W) (h0 : 0 ≤ key) (hB : key + W ≤ B) : ∀ {ids : List Nat} {s : FS}, (∀ i ∈ ids, i < l.length) → FInv n B s → FInv n B (s.scan l head key ids)
  | [], s, _, H => H
  | i :: ids, s, hi, H => by
    have hlt := hi i List.mem_cons_self
    have ha : arcAt l i ∈ l := by simp [arcAt, hlt]
    obtain ⟨h1, h2⟩ := hh _ ha
    exact FInv.scan (ids := ids) hh h0 hB (fun j hj => hi j (List.mem_cons_of_mem _ hj)) (H.reach h1 (by omega) (by omega))

theorem scan_order {l : List A} {head : A → Nat} {key : Int} : ∀ {ids : List Nat} {s : FS}, (s.scan l head key ids).order = s.order ∧ (s.scan l head key ids).dist = s.dist
  | [], s => ⟨rfl, rfl⟩
  | i :: ids, s => by
    have := @scan_order l head key ids (s.reach (head (arcAt l i)) i (key + (arcAt l i).w))
    exact ⟨this.1.trans reach_order.1, this.2.trans reach_order.2⟩

end Go.Mh

namespace Go.Mh
open Go

/-! ### What a flood tells is least -/

/-- There is a way from s to a node, of a weight. -/
inductive Way (l : List A) (tl hd : A → Nat) (s : Nat) : Nat → Int → Prop
  | nil : Way l tl hd s s 0
  | step {v : Nat} {d : Int} (a : A) : Way l tl hd s v d → a ∈ l → tl a = v → Way l tl hd s (hd a) (d + a.w)

theorem Way.nonneg {l : List A} {tl hd : A → Nat} {s v : Nat} {d : Int} (h : Way l tl hd s v d) : 0 ≤ d := by
  induction h with
  | nil => exact Int.le_refl 0
  | step a _ _ _ ih => omega

abbrev dAt (dist : List Int) (v : Nat) : Int := dist.getD v far

/-- Distances that are least. -/
structure LS (l : List A) (tl hd : A → Nat) (n s : Nat) (d : List Int) : Prop where
  len : d.length = n
  zero : dAt d s = 0
  arcs : ∀ a ∈ l, dAt d (tl a) < far → dAt d (hd a) ≤ dAt d (tl a) + a.w
  way : ∀ v, v < n → dAt d v = far ∨ (dAt d v < far ∧ Way l tl hd s v (dAt d v))

theorem dAt_le {d : List Int} {v : Nat} (h : ¬ v < d.length) : dAt d v = far := by
  simp [dAt, List.getD_eq_getElem?_getD, h]

theorem LS.le_way {l : List A} {tl hd : A → Nat} {n s : Nat} {d : List Int} (H : LS l tl hd n s d) {v : Nat} {w : Int} (h : Way l tl hd s v w) : w < far → dAt d v ≤ w := by
  induction h with
  | nil => intro _; rw [H.zero]; exact Int.le_refl 0
  | step a hw hm ht ih =>
    intro hlt
    have h1 := ih (by omega)
    have := H.arcs a hm (by rw [ht]; omega)
    rw [ht] at this
    omega

theorem LS.le {l : List A} {tl hd : A → Nat} {n s : Nat} {d e : List Int} (H : LS l tl hd n s d) (H' : LS l tl hd n s e) {v : Nat} (hv : v < n) : dAt d v ≤ dAt e v := by
  rcases H'.way v hv with h | ⟨h1, h2⟩
  · rw [h]
    rcases H.way v hv with h | ⟨h, _⟩ <;> omega
  · exact H.le_way h2 h1

theorem LS.uniq {l : List A} {tl hd : A → Nat} {n s : Nat} {d e : List Int} (H : LS l tl hd n s d) (H' : LS l tl hd n s e) : d = e := by
  apply List.ext_getElem (H.len.trans H'.len.symm)
  intro i h1 h2
  have a := H.le H' (v := i) (by rw [← H.len]; exact h1)
  have b := H'.le H (v := i) (by rw [← H.len]; exact h1)
  simp only [dAt, List.getD_eq_getElem?_getD, List.getElem?_eq_getElem h1, List.getElem?_eq_getElem h2, Option.getD_some] at a b
  omega

/-! ### The invariant -/

structure DInv (l : List A) (tl hd : A → Nat) (n s : Nat) (done : List Nat) (st : FS) : Prop where
  d1 : ∀ v ∈ st.order, dAt st.dist v < far ∧ Way l tl hd s v (dAt st.dist v)
  d2 : ∀ p ∈ st.hp, Way l tl hd s p.1.toNat p.2
  d3 : ∀ v ∈ st.order, ∀ p ∈ st.hp, dAt st.dist v ≤ p.2
  d4 : ∀ i ∈ done, tl (arcAt l i) ∈ st.order ∧ ((hd (arcAt l i) ∈ st.order ∧ dAt st.dist (hd (arcAt l i)) ≤ dAt st.dist (tl (arcAt l i)) + (arcAt l i).w) ∨
    ∃ k, ((hd (arcAt l i) : Int), k) ∈ st.hp ∧ k ≤ dAt st.dist (tl (arcAt l i)) + (arcAt l i).w)
  d5 : ∀ v, v ∉ st.order → dAt st.dist v = far
  d6 : ∀ v, v < n → v ≠ s → v ∉ st.order → (∀ p ∈ st.hp, p.1 ≠ v) → st.arc.getD v (-1) = -1
  d7 : ∀ v, v ≠ s → (v ∈ st.order ∨ ∃ k, ((v : Int), k) ∈ st.hp) → ∃ i, i < l.length ∧ st.arc.getD v (-1) = (i : Int) ∧ hd (arcAt l i) = v ∧ tl (arcAt l i) ∈ st.order ∧ tl (arcAt l i) ≠ v ∧
    (v ∈ st.order → dAt st.dist v = dAt st.dist (tl (arcAt l i)) + (arcAt l i).w ∧ st.order.idxOf (tl (arcAt l i)) < st.order.idxOf v) ∧ (∀ k, ((v : Int), k) ∈ st.hp → k = dAt st.dist (tl (arcAt l i)) + (arcAt l i).w)
  d8 : s ∈ st.order ∨ (st.order = [] ∧ st.hp = [((s : Int), 0)])
  d9 : st.arc.getD s (-1) = -1
  d10 : st.order.Pairwise fun u v => dAt st.dist u ≤ dAt st.dist v
  d11 : ∀ v, st.order.head? = some v → v = s ∧ dAt st.dist s = 0

theorem dAt_set {d : List Int} {v u : Nat} {k : Int} (hv : v < d.length) : dAt (d.set v k) u = if u = v then k else dAt d u := by
  by_cases h : u = v
  · subst h; simp [dAt, List.getD_eq_getElem?_getD, hv]
  · simp [dAt, List.getD_eq_getElem?_getD, h, List.getElem?_set_ne (fun e : v = u => h e.symm)]

theorem arc_set {d : List Int} {v u : Nat} {k : Int} (hv : v < d.length) : (d.set v k).getD u (-1) = if u = v then k else d.getD u (-1) := by
  by_cases h : u = v
  · subst h; simp [List.getD_eq_getElem?_getD, hv]
  · simp [List.getD_eq_getElem?_getD, h, List.getElem?_set_ne (fun e : v = u => h e.symm)]

theorem DInv.start {l : List A} {tl hd : A → Nat} {n s : Nat} (hs : s < n) : DInv l tl hd n s [] (FS.start n s) := by
  have hd : ∀ v, dAt (List.replicate n far) v = far := fun v => by
    by_cases h : v < n <;> simp [dAt, List.getD_eq_getElem?_getD, h]
  have ha : ∀ v, (List.replicate n (-1 : Int)).getD v (-1) = -1 := fun v => by
    by_cases h : v < n <;> simp [List.getD_eq_getElem?_getD, h]
  refine ⟨by simp [FS.start], ?_, by simp [FS.start], by simp, fun v _ => hd v, fun v _ _ _ _ => ha v, ?_, .inr ⟨rfl, rfl⟩, ha s, by simp [FS.start], by simp [FS.start]⟩
  · intro p hp
    simp [FS.start] at hp; subst hp
    simpa using Way.nil
  · rintro v hv (h | ⟨k, h⟩)
    · simp [FS.start] at h
    · simp [FS.start] at h; omega

section
variable {l : List A} {tl hd : A → Nat} {n s : Nat} {done : List Nat} {st : FS} {B : Int}

/-- Popping the least one. -/
theorem DInv.popped (D : DInv l tl hd n s done st) (H : FInv n B st) {v : Nat} {key : Int} (hm : ((v : Int), key) ∈ st.hp) (hmin : ∀ q ∈ st.hp, ¬ hl q ((v : Int), key) = true) (hB : B < far) : DInv l tl hd n s done (st.pop v key) := by
  obtain ⟨u, hu, hvn, hno, hk0, hkB⟩ := H.ent _ hm
  have hu : u = v := by simp at hu; omega
  subst hu
  have hkB : key ≤ B := hkB
  have hdl : u < st.dist.length := by rw [H.dl]; exact hvn
  have hset : ∀ x, dAt (st.dist.set u key) x = if x = u then key else dAt st.dist x := fun x => dAt_set hdl
  have hold : ∀ x ∈ st.order, dAt (st.dist.set u key) x = dAt st.dist x := fun x hx => by
    have hne : ¬ x = u := fun e => hno (by rw [← e]; exact hx)
    rw [hset, if_neg hne]
  have hnew : dAt (st.dist.set u key) u = key := by rw [hset, if_pos rfl]
  have huniq : ∀ k, ((u : Int), k) ∈ st.hp → k = key := fun k hk => by
    by_cases e : ((u : Int), k) = ((u : Int), key)
    · simpa using e
    · have h2 : ((u : Int), k) ∈ st.hp.erase ((u : Int), key) := (List.mem_erase_of_ne e).2 hk
      exact absurd rfl (not_mem_erase (p := ((u : Int), key)) (q := ((u : Int), k)) H.ids hm h2)
  have hge : ∀ p ∈ st.hp, key ≤ p.2 := fun p hp => by
    have := hmin p hp
    rw [hl_iff] at this
    simp only at this
    omega
  simp only [FS.pop]
  refine ⟨?_, fun p hp => D.d2 p (List.mem_of_mem_erase hp), ?_, ?_, ?_, ?_, ?_, ?_, D.d9, ?_, ?_⟩
  · intro x hx
    rcases List.mem_append.1 hx with hx | hx
    · rw [hold x hx]; exact D.d1 x hx
    · simp at hx; subst hx
      rw [hnew]
      have := D.d2 _ hm
      exact ⟨by omega, by simpa using this⟩
  · intro x hx p hp
    have hp' := List.mem_of_mem_erase hp
    rcases List.mem_append.1 hx with hx | hx
    · rw [hold x hx]; exact D.d3 x hx p hp'
    · simp at hx; subst hx
      rw [hnew]; exact hge p hp'
  · intro i hi
    obtain ⟨h1, h2⟩ := D.d4 i hi
    refine ⟨List.mem_append_left _ h1, ?_⟩
    rw [hold _ h1]
    rcases h2 with ⟨h2, h3⟩ | ⟨k, h2, h3⟩
    · exact .inl ⟨List.mem_append_left _ h2, by rw [hold _ h2]; exact h3⟩
    · by_cases e : hd (arcAt l i) = u
      · left
        rw [e] at h2 ⊢
        exact ⟨by simp, by rw [hnew, ← huniq k h2]; exact h3⟩
      · right
        refine ⟨k, (List.mem_erase_of_ne (by simp; intro e'; omega)).2 h2, h3⟩
  · intro x hx
    simp only [List.mem_append, List.mem_singleton, not_or] at hx
    rw [hset, if_neg hx.2]
    exact D.d5 x hx.1
  · intro x hxn hxs hxo hxh
    simp only [List.mem_append, List.mem_singleton, not_or] at hxo
    refine D.d6 x hxn hxs hxo.1 fun p hp e => ?_
    refine hxh p ((List.mem_erase_of_ne fun e' => ?_).2 hp) e
    subst e'
    simp at e; omega
  · intro x hxs hx
    have hcase : x ∈ st.order ∨ ∃ k, ((x : Int), k) ∈ st.hp := by
      rcases hx with hx | ⟨k, hk⟩
      · rcases List.mem_append.1 hx with hx | hx
        · exact .inl hx
        · simp at hx; subst hx; exact .inr ⟨key, hm⟩
      · exact .inr ⟨k, List.mem_of_mem_erase hk⟩
    obtain ⟨i, h1, h2, h3, h4, h5, h6, h7⟩ := D.d7 x hxs hcase
    refine ⟨i, h1, h2, h3, List.mem_append_left _ h4, h5, fun hx' => ?_, fun k hk => ?_⟩
    · rw [hold _ h4, List.idxOf_append, List.idxOf_append, if_pos h4]
      rcases List.mem_append.1 hx' with hx' | hx'
      · rw [hold _ hx', if_pos hx']
        exact h6 hx'
      · simp at hx'; subst hx'
        rw [hnew, if_neg hno]
        refine ⟨h7 key hm, ?_⟩
        have := List.idxOf_lt_length_of_mem h4
        omega
    · rw [hold _ h4]; exact h7 k (List.mem_of_mem_erase hk)
  · rcases D.d8 with h | ⟨h1, h2⟩
    · exact .inl (List.mem_append_left _ h)
    · left
      rw [h2] at hm
      simp at hm
      have : u = s := by omega
      subst this
      exact List.mem_append_right _ List.mem_cons_self
  · rw [List.pairwise_append]
    refine ⟨?_, by simp, ?_⟩
    · refine D.d10.imp_of_mem fun {a b} ha hb hab => ?_
      rw [hold a ha, hold b hb]; exact hab
    · intro a ha b hb
      simp at hb; subst hb
      rw [hold a ha, hnew]
      exact D.d3 a ha _ hm
  · intro x hx
    cases ho : st.order with
    | nil =>
      rw [ho] at hx
      simp at hx
      rcases D.d8 with h | ⟨h1, h2⟩
      · rw [ho] at h; cases h
      · rw [h2] at hm
        simp at hm
        have : x = s := by omega
        subst this
        refine ⟨rfl, ?_⟩
        have e : x = u := by omega
        rw [e, hnew]; exact hm.2
    | cons a r =>
      have := D.d11 a (by rw [ho]; rfl)
      rw [ho] at hx
      simp at hx; subst hx
      refine ⟨this.1, ?_⟩
      have hs : s ∈ st.order := by rw [ho, ← this.1]; simp
      rw [hold _ hs]; exact this.2

/-- A node reached. -/
theorem DInv.reached (D : DInv l tl hd n s done st) (H : FInv n B st) {i : Nat} (hi : i < l.length) (ht : tl (arcAt l i) ∈ st.order) (hh : hd (arcAt l i) < n)
    (hlast : ∀ x ∈ st.order, dAt st.dist x ≤ dAt st.dist (tl (arcAt l i))) :
    DInv l tl hd n s (done ++ [i]) (st.reach (hd (arcAt l i)) i (dAt st.dist (tl (arcAt l i)) + (arcAt l i).w)) := by
  have ha : arcAt l i ∈ l := by simp [arcAt, hi]
  generalize hv : hd (arcAt l i) = v at hh
  generalize hd' : dAt st.dist (tl (arcAt l i)) + ((arcAt l i).w : Int) = d
  have hway : Way l tl hd s v d := by
    rw [← hv, ← hd']
    exact .step _ (D.d1 _ ht).2 ha rfl
  have hs : s ∈ st.order := by
    rcases D.d8 with h | ⟨h1, h2⟩
    · exact h
    · rw [h1] at ht; cases ht
  unfold FS.reach
  split
  · rename_i hvo
    refine ⟨D.d1, D.d2, D.d3, ?_, D.d5, D.d6, D.d7, D.d8, D.d9, D.d10, D.d11⟩
    intro j hj
    rcases List.mem_append.1 hj with hj | hj
    · exact D.d4 j hj
    · simp at hj; subst hj
      refine ⟨ht, .inl ⟨by rw [hv]; exact hvo, ?_⟩⟩
      have := hlast v hvo
      rw [hv]; omega
  · rename_i hvo
    have hvs : v ≠ s := fun e => hvo (e ▸ hs)
    have hty : tl (arcAt l i) ≠ v := fun e => hvo (e ▸ ht)
    have al : v < st.arc.length := by rw [H.al]; exact hh
    split
    · rename_i was hw
      have hm := lookH_some hw
      have huniq : ∀ k, ((v : Int), k) ∈ st.hp → k = was := fun k hk => by
        by_cases e : ((v : Int), k) = ((v : Int), was)
        · simpa using e
        · have h2 : ((v : Int), k) ∈ st.hp.erase ((v : Int), was) := (List.mem_erase_of_ne e).2 hk
          exact absurd rfl (not_mem_erase (p := ((v : Int), was)) (q := ((v : Int), k)) H.ids hm h2)
      split
      · rename_i hle
        refine ⟨D.d1, D.d2, D.d3, ?_, D.d5, D.d6, D.d7, D.d8, D.d9, D.d10, D.d11⟩
        intro j hj
        rcases List.mem_append.1 hj with hj | hj
        · exact D.d4 j hj
        · simp at hj; subst hj
          exact ⟨ht, .inr ⟨was, by rw [hv]; exact hm, by omega⟩⟩
      · rename_i hgt
        have hmem : ∀ p, p ∈ ((v : Int), d) :: st.hp.erase ((v : Int), was) → p = ((v : Int), d) ∨ (p ∈ st.hp ∧ p.1 ≠ v) := fun p hp => by
          rcases List.mem_cons.1 hp with rfl | hp
          · exact .inl rfl
          · exact .inr ⟨List.mem_of_mem_erase hp, not_mem_erase H.ids hm hp⟩
        have hkeep : ∀ p ∈ st.hp, p.1 ≠ v → p ∈ ((v : Int), d) :: st.hp.erase ((v : Int), was) := fun p hp hne =>
          List.mem_cons_of_mem _ ((List.mem_erase_of_ne fun e => hne (by rw [e])).2 hp)
        refine ⟨D.d1, ?_, ?_, ?_, D.d5, ?_, ?_, .inl hs, ?_, D.d10, D.d11⟩
        · intro p hp
          rcases hmem p hp with rfl | ⟨hp, _⟩
          · simpa using hway
          · exact D.d2 p hp
        · intro x hx p hp
          rcases hmem p hp with rfl | ⟨hp, _⟩
          · have := hlast x hx
            show dAt st.dist x ≤ d
            omega
          · exact D.d3 x hx p hp
        · intro j hj
          rcases List.mem_append.1 hj with hj | hj
          · obtain ⟨h1, h2⟩ := D.d4 j hj
            refine ⟨h1, ?_⟩
            rcases h2 with h2 | ⟨k, h2, h3⟩
            · exact .inl h2
            · by_cases e : hd (arcAt l j) = v
              · rw [e] at h2 ⊢
                have := huniq k h2
                refine .inr ⟨d, List.mem_cons_self, ?_⟩
                show d ≤ dAt st.dist (tl (arcAt l j)) + _
                omega
              · exact .inr ⟨k, hkeep _ h2 (by simpa using fun e' => e (by omega)), h3⟩
          · simp at hj; subst hj
            exact ⟨ht, .inr ⟨d, by rw [hv]; exact List.mem_cons_self, Int.le_of_eq hd'.symm⟩⟩
        · intro x hxn hxs hxo hxh
          have hne : x ≠ v := fun e => hxh _ List.mem_cons_self (by simp [e])
          rw [arc_set al, if_neg hne]
          refine D.d6 x hxn hxs hxo fun p hp e => ?_
          exact hxh p (hkeep p hp (by rw [e]; omega)) e
        · intro x hxs hx
          by_cases e : x = v
          · subst e
            refine ⟨i, hi, by rw [arc_set al, if_pos rfl], hv, ht, hty, fun hx' => absurd hx' hvo, fun k hk => ?_⟩
            rcases hmem _ hk with h | ⟨_, h⟩
            · simp at h; exact h.trans hd'.symm
            · exact absurd rfl h
          · have hcase : x ∈ st.order ∨ ∃ k, ((x : Int), k) ∈ st.hp := by
              rcases hx with hx | ⟨k, hk⟩
              · exact .inl hx
              · rcases hmem _ hk with h | ⟨h, _⟩
                · simp at h; omega
                · exact .inr ⟨k, h⟩
            obtain ⟨j, h1, h2, h3, h4, h5, h6, h7⟩ := D.d7 x hxs hcase
            refine ⟨j, h1, by rw [arc_set al, if_neg e]; exact h2, h3, h4, h5, h6, fun k hk => ?_⟩
            rcases hmem _ hk with h | ⟨h, _⟩
            · simp at h; omega
            · exact h7 k h
        · rw [arc_set al, if_neg (fun e => hvs e.symm)]; exact D.d9
    · rename_i hw
      rw [lookH_none] at hw
      have hmem : ∀ p, p ∈ ((v : Int), d) :: st.hp → p = ((v : Int), d) ∨ (p ∈ st.hp ∧ p.1 ≠ v) := fun p hp => by
        rcases List.mem_cons.1 hp with rfl | hp
        · exact .inl rfl
        · exact .inr ⟨hp, hw p hp⟩
      refine ⟨D.d1, ?_, ?_, ?_, D.d5, ?_, ?_, .inl hs, ?_, D.d10, D.d11⟩
      · intro p hp
        rcases hmem p hp with rfl | ⟨hp, _⟩
        · simpa using hway
        · exact D.d2 p hp
      · intro x hx p hp
        rcases hmem p hp with rfl | ⟨hp, _⟩
        · have := hlast x hx
          show dAt st.dist x ≤ d
          omega
        · exact D.d3 x hx p hp
      · intro j hj
        rcases List.mem_append.1 hj with hj | hj
        · obtain ⟨h1, h2⟩ := D.d4 j hj
          refine ⟨h1, ?_⟩
          rcases h2 with h2 | ⟨k, h2, h3⟩
          · exact .inl h2
          · exact .inr ⟨k, List.mem_cons_of_mem _ h2, h3⟩
        · simp at hj; subst hj
          exact ⟨ht, .inr ⟨d, by rw [hv]; exact List.mem_cons_self, Int.le_of_eq hd'.symm⟩⟩
      · intro x hxn hxs hxo hxh
        have hne : x ≠ v := fun e => hxh _ List.mem_cons_self (by simp [e])
        rw [arc_set al, if_neg hne]
        exact D.d6 x hxn hxs hxo fun p hp e => hxh p (List.mem_cons_of_mem _ hp) e
      · intro x hxs hx
        by_cases e : x = v
        · subst e
          refine ⟨i, hi, by rw [arc_set al, if_pos rfl], hv, ht, hty, fun hx' => absurd hx' hvo, fun k hk => ?_⟩
          rcases hmem _ hk with h | ⟨_, h⟩
          · simp at h; exact h.trans hd'.symm
          · exact absurd rfl h
        · have hcase : x ∈ st.order ∨ ∃ k, ((x : Int), k) ∈ st.hp := by
            rcases hx with hx | ⟨k, hk⟩
            · exact .inl hx
            · rcases hmem _ hk with h | ⟨h, _⟩
              · simp at h; omega
              · exact .inr ⟨k, h⟩
          obtain ⟨j, h1, h2, h3, h4, h5, h6, h7⟩ := D.d7 x hxs hcase
          refine ⟨j, h1, by rw [arc_set al, if_neg e]; exact h2, h3, h4, h5, h6, fun k hk => ?_⟩
          rcases hmem _ hk with h | ⟨h, _⟩
          · simp at h; omega
          · exact h7 k h
      · rw [arc_set al, if_neg (fun e => hvs e.symm)]; exact D.d9

end
end Go.Mh

namespace Go.Mh
open Go

section
variable {l : List A} {tl hd : A → Nat} {n s : Nat} {B : Int} {outs : Nat → List Nat}

theorem DInv.scanned {v : Nat} {key : Int} (hB : key + W ≤ B) (h0 : 0 ≤ key) (hh : ∀ a ∈ l, hd a < n ∧ (a.w : Int) ≤ W) :
    ∀ (ids : List Nat) {done : List Nat} {st : FS}, DInv l tl hd n s done st → FInv n B st → v ∈ st.order → dAt st.dist v = key → (∀ x ∈ st.order, dAt st.dist x ≤ key) → (∀ i ∈ ids, i < l.length ∧ tl (arcAt l i) = v) →
      DInv l tl hd n s (done ++ ids) (st.scan l hd key ids)
  | [], done, st, D, _, _, _, _, _ => by rw [List.append_nil]; exact D
  | i :: ids, done, st, D, H, hv, hk, hlast, hi => by
    obtain ⟨h1, h2⟩ := hi i List.mem_cons_self
    have ha : arcAt l i ∈ l := by simp [arcAt, h1]
    have h3 := hh _ ha
    have D1 := D.reached H h1 (by rw [h2]; exact hv) h3.1 (by rw [h2, hk]; exact hlast)
    rw [h2, hk] at D1
    have H1 : FInv n B (st.reach (hd (arcAt l i)) i (key + (arcAt l i).w)) := H.reach h3.1 (by omega) (by omega)
    have ho := @reach_order st (hd (arcAt l i)) i (key + (arcAt l i).w)
    have := DInv.scanned hB h0 hh ids D1 H1 (by rw [ho.1]; exact hv) (by rw [ho.2]; exact hk) (by rw [ho.1, ho.2]; exact hlast) fun j hj => hi j (List.mem_cons_of_mem _ hj)
    rw [List.append_assoc] at this
    exact this

theorem DInv.ran (hn : n ≤ 16777216) (hh : ∀ a ∈ l, hd a < n ∧ (a.w : Int) ≤ W) (hout : ∀ v, v < n → ∀ i ∈ outs v, i < l.length ∧ tl (arcAt l i) = v) :
    ∀ (k : Nat) {done : List Nat} {st : FS}, DInv l tl hd n s done st → FInv n (st.order.length * W) st → n + 1 ≤ k + st.order.length → (∀ u ∈ st.order, ∀ i ∈ outs u, i ∈ done) →
      ∃ done', DInv l tl hd n s done' (FS.run l outs hd k st) ∧ FInv n (n * W) (FS.run l outs hd k st) ∧ (FS.run l outs hd k st).hp = [] ∧ (∀ u ∈ (FS.run l outs hd k st).order, ∀ i ∈ outs u, i ∈ done') := by
  intro k
  induction k with
  | zero => intro done st D H hk hd'; have := H.len; omega
  | succ k ih =>
    intro done st D H hk hd'
    have hW : (0 : Int) ≤ W := by decide
    have hmul : (st.order.length : Int) * W ≤ n * W := Int.mul_le_mul_of_nonneg_right (by have := H.len; omega) hW
    simp only [FS.run]
    cases hl : least st.hp with
    | none =>
      exact ⟨done, D, H.mono hmul, least_none.1 hl, hd'⟩
    | some p =>
      have hm := (least_spec hl).1
      obtain ⟨u, hu, hun, hno, hk0, hkB⟩ := H.ent p hm
      obtain ⟨pv, key⟩ := p
      dsimp only at hu hk0 hkB ⊢
      subst hu
      have hroom := H.room (by intro e; rw [e] at hm; cases hm)
      have hfar : (16777216 : Int) * W < far := by decide
      have hBn0 : (st.order.length : Int) ≤ 16777216 := by omega
      have hBn : (st.order.length : Int) * W ≤ 16777216 * W := Int.mul_le_mul_of_nonneg_right hBn0 hW
      have D1 := D.popped H hm (least_spec hl).2 (by omega)
      have H1 : FInv n (st.order.length * W + W) (st.pop u key) := (H.popped hm).mono (by omega)
      have hdu : dAt (st.pop u key).dist u = key := by
        simp only [FS.pop]; rw [dAt_set (by rw [H.dl]; exact hun), if_pos rfl]
      have hmem : u ∈ (st.pop u key).order := by simp [FS.pop]
      have hlast : ∀ x ∈ (st.pop u key).order, dAt (st.pop u key).dist x ≤ key := by
        intro x hx
        have := D1.d10
        simp only [FS.pop] at this hx
        rcases List.mem_append.1 hx with hx | hx
        · have := (List.pairwise_append.1 this).2.2 x hx u (by simp)
          exact Int.le_trans this (Int.le_of_eq hdu)
        · simp at hx; subst hx; rw [hdu]; exact Int.le_refl _
      simp only [Int.toNat_natCast]
      have D2 := D1.scanned (B := st.order.length * W + W) (v := u) (key := key) (by omega) hk0 hh (outs u) H1 hmem hdu hlast (hout u hun)
      have H2 : FInv n (st.order.length * W + W) ((st.pop u key).scan l hd key (outs u)) := FInv.scan hh hk0 (by omega) (fun i hi => (hout u hun i hi).1) H1
      have hso := @scan_order l hd key (outs u) (st.pop u key)
      have hol : ((st.pop u key).scan l hd key (outs u)).order.length = st.order.length + 1 := by rw [hso.1]; simp [FS.pop]
      have hol' : ((((st.pop u key).scan l hd key (outs u)).order.length : Nat) : Int) * W = st.order.length * W + W := by
        rw [hol, Int.natCast_add, Int.add_mul]; rfl
      refine ih D2 (by rw [hol']; exact H2) (by omega) ?_
      intro x hx i hi
      rw [hso.1] at hx
      simp only [FS.pop] at hx
      rcases List.mem_append.1 hx with hx | hx
      · exact List.mem_append_left _ (hd' x hx i hi)
      · simp at hx; subst hx; exact List.mem_append_right _ hi

/-- All that is known of a flood's tree. -/
structure TreeOf (l : List A) (tl hd : A → Nat) (n s : Nat) (t : Tr) : Prop where
  ls : LS l tl hd n s t.dist
  al : t.arc.length = n
  nodup : t.order.Nodup
  range : ∀ v ∈ t.order, v < n
  reached : ∀ v, v < n → (v ∈ t.order ↔ dAt t.dist v < far)
  first : t.order.head? = some s
  root : t.arc.getD s (-1) = -1
  none : ∀ v, v < n → v ∉ t.order → dAt t.dist v = far ∧ t.arc.getD v (-1) = -1
  arc : ∀ v ∈ t.order, v ≠ s → ∃ i, i < l.length ∧ t.arc.getD v (-1) = (i : Int) ∧ hd (arcAt l i) = v ∧ tl (arcAt l i) ∈ t.order ∧ dAt t.dist v = dAt t.dist (tl (arcAt l i)) + (arcAt l i).w ∧ t.order.idxOf (tl (arcAt l i)) < t.order.idxOf v
  rising : t.order.Pairwise fun u v => dAt t.dist u ≤ dAt t.dist v
  bound : ∀ v ∈ t.order, 0 ≤ dAt t.dist v

theorem treeOf (hs : s < n) (hn : n ≤ 16777216) (hh : ∀ a ∈ l, hd a < n ∧ (a.w : Int) ≤ W) (hout : ∀ v, v < n → ∀ i ∈ outs v, i < l.length ∧ tl (arcAt l i) = v) (htl : ∀ i, i < l.length → i ∈ outs (tl (arcAt l i))) :
    TreeOf l tl hd n s (floodP l n outs hd s) := by
  obtain ⟨done, D, H, hhp, hdone⟩ := DInv.ran (s := s) (tl := tl) (outs := outs) hn hh hout (n + 1) (DInv.start hs) ((FInv.start hs).mono (by simp [FS.start])) (by omega) (by simp [FS.start])
  have hord : ∀ v, v ∈ (FS.run l outs hd (n + 1) (FS.start n s)).order ↔ dAt (FS.run l outs hd (n + 1) (FS.start n s)).dist v < far := fun v =>
    ⟨fun h => (D.d1 v h).1, fun h => by
      by_cases hx : v ∈ (FS.run l outs hd (n + 1) (FS.start n s)).order
      · exact hx
      · have := D.d5 v hx; omega⟩
  have hso : s ∈ (FS.run l outs hd (n + 1) (FS.start n s)).order := by
    rcases D.d8 with h | ⟨_, h⟩
    · exact h
    · rw [hhp] at h; cases h
  have hhead : (FS.run l outs hd (n + 1) (FS.start n s)).order.head? = some s := by
    cases ho : (FS.run l outs hd (n + 1) (FS.start n s)).order with
    | nil => rw [ho] at hso; cases hso
    | cons a r => rw [List.head?_cons, (D.d11 a (by rw [ho]; rfl)).1]
  refine ⟨⟨H.dl, (D.d11 s hhead).2, ?_, ?_⟩, H.al, H.ord, H.ordr, fun v _ => hord v, hhead, D.d9, ?_, ?_, D.d10, fun v hv => (D.d1 v hv).2.nonneg⟩
  · intro a ha hlt
    obtain ⟨i, hi, rfl⟩ := List.mem_iff_getElem.1 ha
    have e : arcAt l i = l[i] := by simp [arcAt, hi]
    have h1 := (hord (tl l[i])).2 hlt
    have h2 := hdone _ h1 i (by rw [← e]; exact htl i hi)
    have h3 := (D.d4 i h2).2
    rw [e] at h3
    rcases h3 with ⟨_, h⟩ | ⟨k, h, _⟩
    · exact h
    · rw [hhp] at h; cases h
  · intro v hv
    by_cases hx : v ∈ (FS.run l outs hd (n + 1) (FS.start n s)).order
    · exact .inr (D.d1 v hx)
    · exact .inl (D.d5 v hx)
  · intro v hv hx
    refine ⟨D.d5 v hx, D.d6 v hv (fun e => hx (e ▸ hso)) hx fun p hp => ?_⟩
    rw [hhp] at hp; cases hp
  · intro v hv hvs
    obtain ⟨i, h1, h2, h3, h4, _, h6, _⟩ := D.d7 v hvs (.inl hv)
    exact ⟨i, h1, h2, h3, h4, (h6 hv).1, (h6 hv).2⟩

end

theorem out_spec {g : G} (hR : g.Right) : (∀ v, v < g.n → ∀ i ∈ g.out v, i < g.arcs.length ∧ (arcAt g.arcs i).f = v) ∧ ∀ i, i < g.arcs.length → i ∈ g.out (arcAt g.arcs i).f := by
  constructor
  · intro v _ i hi
    obtain ⟨_, h1, h2⟩ := outsP_mem.1 hi
    simp only [Nat.sub_zero] at h1 h2
    refine ⟨h1, ?_⟩
    simp [arcAt, h1]; simpa using h2
  · intro i hi
    refine outsP_mem.2 ⟨Nat.zero_le _, by simpa using hi, ?_⟩
    simp [arcAt, hi]
theorem in_spec {g : G} (hR : g.Right) : (∀ v, v < g.n → ∀ i ∈ g.in v, i < g.arcs.length ∧ (arcAt g.arcs i).t = v) ∧ ∀ i, i < g.arcs.length → i ∈ g.in (arcAt g.arcs i).t := by
  constructor
  · intro v _ i hi
    obtain ⟨_, h1, h2⟩ := outsP_mem.1 hi
    simp only [Nat.sub_zero] at h1 h2
    refine ⟨h1, ?_⟩
    simp [arcAt, h1]; simpa using h2
  · intro i hi
    refine outsP_mem.2 ⟨Nat.zero_le _, by simpa using hi, ?_⟩
    simp [arcAt, hi]

theorem from_tree {g : G} (hR : g.Right) {s : Nat} (hs : s < g.n) : TreeOf g.arcs A.f A.t g.n s (g.from s) :=
  treeOf hs hR.most (fun a ha => ⟨(hR.ends a ha).2.1, by have := (hR.ends a ha).2.2; show (a.w : Int) ≤ 2147483647; omega⟩) (out_spec hR).1 (out_spec hR).2
theorem to_tree {g : G} (hR : g.Right) {s : Nat} (hs : s < g.n) : TreeOf g.arcs A.t A.f g.n s (g.to s) :=
  treeOf hs hR.most (fun a ha => ⟨(hR.ends a ha).1, by have := (hR.ends a ha).2.2; show (a.w : Int) ≤ 2147483647; omega⟩) (in_spec hR).1 (in_spec hR).2

theorem TreeOf.top {l : List A} {tl hd : A → Nat} {n s : Nat} {t : Tr} (T : TreeOf l tl hd n s t) (hw : ∀ a ∈ l, (a.w : Int) ≤ W) : ∀ v ∈ t.order, dAt t.dist v ≤ t.order.idxOf v * W := by
  intro v hv
  generalize hk : t.order.idxOf v = k
  induction k using Nat.strongRecOn generalizing v with
  | _ k ih =>
    by_cases e : v = s
    · subst e
      rw [T.ls.zero]
      have : (0 : Int) ≤ W := by decide
      exact Int.mul_nonneg (by omega) this
    · obtain ⟨i, hi, _, _, hu, hd', hlt⟩ := T.arc v hv e
      have h1 := ih _ (by omega) _ hu rfl
      have h2 := hw (arcAt l i) (by simp [arcAt, hi])
      have h3 : ((t.order.idxOf (tl (arcAt l i)) : Int) + 1) * W ≤ k * W := Int.mul_le_mul_of_nonneg_right (by omega) (by decide)
      rw [Int.add_mul, Int.one_mul] at h3
      omega

/-- The places of nodes in an order, from 1 on, as far as they were met. -/
def plc (order : List Nat) (n i : Nat) : List Int := (List.range n).map fun v => if order.idxOf v < i then ((order.idxOf v : Int) + 1) else 0
theorem plc_len {order : List Nat} {n i : Nat} : (plc order n i).length = n := by simp [plc]
theorem plc_get {order : List Nat} {n i v : Nat} (hv : v < n) : (plc order n i)[v]'(by rw [plc_len]; exact hv) = if order.idxOf v < i then ((order.idxOf v : Int) + 1) else 0 := by simp [plc]
theorem idx_get {order : List Nat} (hn : order.Nodup) {i : Nat} (hi : i < order.length) : order.idxOf order[i] = i := by
  exact hn.idxOf_getElem i hi
theorem plc_succ {order : List Nat} {n i : Nat} (hn : order.Nodup) (hi : i < order.length) : (plc order n i).set order[i] ((i : Int) + 1) = plc order n (i + 1) := by
  unfold plc
  rw [range_set]
  apply List.map_congr_left
  intro v hv
  by_cases e : v = order[i]
  · rw [if_pos e, e, idx_get hn hi, if_pos (by omega)]
  · rw [if_neg e]
    have : order.idxOf v ≠ i := fun h => e (by
      have h1 : order.idxOf v < order.length := by omega
      have := List.getElem_idxOf h1
      simp only [h] at this; exact this.symm)
    by_cases h : order.idxOf v < i
    · rw [if_pos h, if_pos (by omega)]
    · rw [if_neg h, if_neg (by omega)]

theorem dAt_get {d : List Int} {v : Nat} (hv : v < d.length) : d[v] = dAt d v := by simp [dAt, List.getD_eq_getElem?_getD, hv]
theorem arc_get {d : List Int} {v : Nat} (hv : v < d.length) : d[v] = d.getD v (-1) := by simp [List.getD_eq_getElem?_getD, hv]

end Go.Mh

namespace Go.Mh
open Go

def A.swap (a : A) : A := ⟨a.t, a.f, a.w⟩
def G.turned (g : G) : G := { g with arcs := g.arcs.map A.swap }

theorem G.Right.turned {g : G} (h : g.Right) : g.turned.Right :=
  ⟨h.pos, h.most, h.x, h.y, h.xr, h.yr, by simpa [G.turned] using h.many, fun a ha => by
    simp only [G.turned, List.mem_map] at ha
    obtain ⟨b, hb, rfl⟩ := ha
    have := h.ends b hb
    exact ⟨this.2.1, this.1, this.2.2⟩⟩

theorem floodP_congr {l l' : List A} {n : Nat} {outs outs' : Nat → List Nat} {head head' : A → Nat} {s : Nat} (h : ∀ i, head' (arcAt l' i) = head (arcAt l i) ∧ (arcAt l' i).w = (arcAt l i).w) (ho : ∀ v, outs' v = outs v) :
    floodP l' n outs' head' s = floodP l n outs head s := by
  have hs : ∀ ids key st, FS.scan l' head' key st ids = FS.scan l head key st ids := by
    intro ids
    induction ids with
    | nil => intros; rfl
    | cons i ids ih =>
      intro key st
      have h1 : FS.scan l' head' key st (i :: ids) = FS.scan l' head' key (st.reach (head' (arcAt l' i)) i (key + (arcAt l' i).w)) ids := rfl
      have h2 : FS.scan l head key st (i :: ids) = FS.scan l head key (st.reach (head (arcAt l i)) i (key + (arcAt l i).w)) ids := rfl
      rw [h1, h2, (h i).1, (h i).2, ih]
  have hr : ∀ k st, FS.run l' outs' head' k st = FS.run l outs head k st := by
    intro k
    induction k with
    | zero => intros; rfl
    | succ k ih =>
      intro st
      simp only [FS.run]
      cases least st.hp with
      | none => rfl
      | some p => simp only [hs, ho, ih]
  simp only [floodP, hr]

theorem outsP_map {q : A → Bool} {f : A → A} : ∀ {l : List A} {i : Nat}, outsP q (l.map f) i = outsP (fun a => q (f a)) l i
  | [], _ => rfl
  | a :: l, i => by simp only [List.map_cons, outsP, outsP_map]

theorem arcAt_map {l : List A} {i : Nat} : arcAt (l.map A.swap) i = (arcAt l i).swap := by
  by_cases h : i < l.length
  · simp [arcAt, h]
  · simp [arcAt, h, A.swap]

theorem turned_from {g : G} {s : Int} : g.turned.fromI s = g.toI s := by
  unfold G.fromI G.toI
  have e : g.turned.n = g.n := rfl
  rw [e]
  split
  · exact floodP_congr (fun i => by
      show A.t (arcAt (g.arcs.map A.swap) i) = _ ∧ (arcAt (g.arcs.map A.swap) i).w = _
      rw [arcAt_map]; exact ⟨rfl, rfl⟩) fun v => by
      show outsP _ (g.arcs.map A.swap) 0 = _
      rw [outsP_map]; rfl
  · rfl
theorem turned_to {g : G} {s : Int} : g.turned.toI s = g.fromI s := by
  unfold G.fromI G.toI
  have e : g.turned.n = g.n := rfl
  rw [e]
  split
  · exact floodP_congr (fun i => by
      show A.f (arcAt (g.arcs.map A.swap) i) = _ ∧ (arcAt (g.arcs.map A.swap) i).w = _
      rw [arcAt_map]; exact ⟨rfl, rfl⟩) fun v => by
      show outsP _ (g.arcs.map A.swap) 0 = _
      rw [outsP_map]; rfl
  · rfl

theorem tr_len {g : G} (hR : g.Right) {s : Int} : (g.fromI s).arc.length = (g.fromI s).dist.length ∧ (g.fromI s).dist.length ≤ g.n ∧ (g.fromI s).order.length ≤ g.n := by
  unfold G.fromI
  split
  · rename_i h
    have T := from_tree hR (s := s.toNat) (by omega)
    exact ⟨T.al.trans T.ls.len.symm, Nat.le_of_eq T.ls.len, nodup_le T.nodup T.range⟩
  · simp [Tr.none]
theorem tr_lenT {g : G} (hR : g.Right) {s : Int} : (g.toI s).arc.length = (g.toI s).dist.length ∧ (g.toI s).dist.length ≤ g.n ∧ (g.toI s).order.length ≤ g.n := by
  unfold G.toI
  split
  · rename_i h
    have T := to_tree hR (s := s.toNat) (by omega)
    exact ⟨T.al.trans T.ls.len.symm, Nat.le_of_eq T.ls.len, nodup_le T.nodup T.range⟩
  · simp [Tr.none]

end Go.Mh

/-! Least distances by relaxing all arcs again and again. -/
namespace Go.Mh
open Go

def dsum (d : List Int) : Nat := (d.map Int.toNat).sum
theorem dsum_set {d : List Int} {i : Nat} {z : Int} (hi : i < d.length) (h0 : 0 ≤ z) (hlt : z < d[i]) : dsum (d.set i z) < dsum d := by
  induction d generalizing i with
  | nil => simp at hi
  | cons a d ih =>
    cases i with
    | zero => simp only [List.getElem_cons_zero] at hlt; simp only [List.set_cons_zero, dsum, List.map_cons, List.sum_cons]; omega
    | succ i =>
      simp only [List.getElem_cons_succ] at hlt
      have := ih (by simpa using hi) hlt
      simp only [List.set_cons_succ, dsum, List.map_cons, List.sum_cons] at this ⊢
      omega

/-- What holds all the time. -/
structure BInv (l : List A) (n s : Nat) (d : List Int) : Prop where
  len : d.length = n
  zero : dAt d s = 0
  way : ∀ v, v < n → dAt d v = far ∨ (dAt d v < far ∧ Way l A.f A.t s v (dAt d v))

theorem BInv.rng {l : List A} {n s : Nat} {d : List Int} (H : BInv l n s d) {v : Nat} (hv : v < n) : 0 ≤ dAt d v ∧ dAt d v ≤ far := by
  rcases H.way v hv with h | ⟨h, hw⟩
  · rw [h]; exact ⟨by decide, Int.le_refl _⟩
  · exact ⟨hw.nonneg, Int.le_of_lt h⟩

theorem BInv.start {l : List A} {n s : Nat} (hs : s < n) : BInv l n s ((List.replicate n far).set s 0) := by
  refine ⟨by simp, by rw [dAt_set (by simpa using hs), if_pos rfl], fun v hv => ?_⟩
  rw [dAt_set (by simpa using hs)]
  split
  · rename_i e; subst e; exact .inr ⟨by decide, .nil⟩
  · left; simp [dAt, List.getD_eq_getElem?_getD, hv]

theorem BInv.relax {l : List A} {n s : Nat} {d : List Int} (H : BInv l n s d) {a : A} (ha : a ∈ l) (hf : a.f < n) (ht : a.t < n) (h1 : dAt d a.f < far) (h2 : dAt d a.f + a.w < dAt d a.t) :
    BInv l n s (d.set a.t (dAt d a.f + a.w)) ∧ dsum (d.set a.t (dAt d a.f + a.w)) < dsum d := by
  have r1 := H.rng hf
  have r2 := H.rng ht
  have hd : a.t < d.length := by rw [H.len]; exact ht
  have hst : s ≠ a.t := fun e => by rw [← e, H.zero] at h2; omega
  refine ⟨⟨by simp [H.len], by rw [dAt_set hd, if_neg hst]; exact H.zero, fun v hv => ?_⟩, ?_⟩
  · rw [dAt_set hd]
    split
    · rename_i e
      subst e
      refine .inr ⟨by omega, ?_⟩
      rcases H.way a.f hf with h | ⟨_, h⟩
      · omega
      · exact .step a h ha rfl
    · exact H.way v hv
  · refine dsum_set hd (by omega) ?_
    rw [dAt_get]; exact h2

theorem BInv.ls {l : List A} {n s : Nat} {d : List Int} (H : BInv l n s d) (h : ∀ a ∈ l, dAt d a.f < far → dAt d a.t ≤ dAt d a.f + a.w) : LS l A.f A.t n s d := ⟨H.len, H.zero, h, H.way⟩

/-- Turned round, least distances are those to a node. -/
theorem Way.swap {l : List A} {s v : Nat} {d : Int} (h : Way (l.map A.swap) A.f A.t s v d) : Way l A.t A.f s v d := by
  induction h with
  | nil => exact .nil
  | step a _ hm ht ih =>
    obtain ⟨b, hb, rfl⟩ := List.mem_map.1 hm
    exact .step b ih hb ht

theorem LS.swap {l : List A} {n s : Nat} {d : List Int} (h : LS (l.map A.swap) A.f A.t n s d) : LS l A.t A.f n s d :=
  ⟨h.len, h.zero, fun a ha hl => h.arcs a.swap (List.mem_map_of_mem ha) hl, fun v hv => (h.way v hv).imp id fun ⟨a, b⟩ => ⟨a, b.swap⟩⟩

end Go.Mh

/-! What becomes of least distances with an arc more, with weights times seven, with other names of nodes. -/
namespace Go.Mh
open Go

theorem Way.mono {l l' : List A} {tl hd : A → Nat} {s v : Nat} {d : Int} (h : Way l tl hd s v d) (hs : ∀ a ∈ l, a ∈ l') : Way l' tl hd s v d := by
  induction h with
  | nil => exact .nil
  | step a _ hm ht ih => exact .step a ih (hs a hm) ht

theorem LS.far_le {l : List A} {tl hd : A → Nat} {n s : Nat} {d : List Int} (H : LS l tl hd n s d) {v : Nat} (hv : v < n) : dAt d v ≤ far := by
  rcases H.way v hv with h | ⟨h, _⟩ <;> omega
theorem LS.nonneg {l : List A} {tl hd : A → Nat} {n s : Nat} {d : List Int} (H : LS l tl hd n s d) {v : Nat} (hv : v < n) : 0 ≤ dAt d v := by
  rcases H.way v hv with h | ⟨_, h⟩
  · rw [h]; decide
  · exact h.nonneg

/-- More arcs: no distance is greater. -/
theorem LS.more {l l' : List A} {tl hd : A → Nat} {n s : Nat} {d e : List Int} (H : LS l tl hd n s d) (H' : LS l' tl hd n s e) (hs : ∀ a ∈ l, a ∈ l') {v : Nat} (hv : v < n) : dAt e v ≤ dAt d v := by
  rcases H.way v hv with h | ⟨h1, h2⟩
  · rw [h]; exact H'.far_le hv
  · exact H'.le_way (h2.mono hs) h1

/-! ### Times seven -/

def A.x7 (a : A) : A := ⟨a.f, a.t, a.w * 7⟩
def x7 (d : Int) : Int := if d = far then far else 7 * d

theorem dAt_map {d : List Int} {f : Int → Int} (hf : f far = far) {v : Nat} : dAt (d.map f) v = f (dAt d v) := by
  by_cases h : v < d.length
  · simp [dAt, List.getD_eq_getElem?_getD, h]
  · rw [dAt_le h, dAt_le (by simpa using h), hf]

theorem Way.x7 {l : List A} {s v : Nat} {d : Int} (h : Way l A.f A.t s v d) : Way (l.map A.x7) A.f A.t s v (7 * d) := by
  induction h with
  | nil => exact .nil
  | @step v d a _ hm ht ih =>
    have := Way.step (l := l.map A.x7) (tl := A.f) (hd := A.t) a.x7 ih (List.mem_map_of_mem hm) ht
    have e : 7 * d + (A.x7 a).w = 7 * (d + a.w) := by simp only [A.x7]; omega
    rw [e] at this
    exact this

theorem LS.x7 {l : List A} {n s : Nat} {d : List Int} (H : LS l A.f A.t n s d) (hl : ∀ a ∈ l, a.f < n ∧ a.t < n ∧ a.w ≤ 2147483647) (hB : ∀ v, v < n → dAt d v < far → dAt d v ≤ 16777216 * 2147483647 / 8) : LS (l.map A.x7) A.f A.t n s (d.map Mh.x7) := by
  have hf : far = 72057594037927936 := rfl
  have h7 : Mh.x7 far = far := by simp [Mh.x7]
  refine ⟨by simp [H.len], by rw [dAt_map h7, H.zero]; rfl, ?_, fun v hv => ?_⟩
  · intro b hb
    obtain ⟨a, ha, rfl⟩ := List.mem_map.1 hb
    obtain ⟨e1, e2, e3⟩ := hl a ha
    show dAt _ a.f < far → dAt _ a.t ≤ dAt _ a.f + ((a.w * 7 : Nat) : Int)
    rw [dAt_map h7, dAt_map h7]
    intro hlt
    have hne : dAt d a.f ≠ far := fun e => by rw [e, h7] at hlt; omega
    have hlt' : dAt d a.f < far := by have := H.far_le e1; omega
    have h1 := H.arcs a ha hlt'
    have h2 := hB _ e1 hlt'
    have hne' : dAt d a.t ≠ far := by omega
    rw [Mh.x7, if_neg hne', Mh.x7, if_neg hne]
    omega
  · rw [dAt_map h7]
    rcases H.way v hv with h | ⟨h1, h2⟩
    · left; rw [h, h7]
    · right
      rw [Mh.x7, if_neg (by omega)]
      exact ⟨by have := hB v hv h1; omega, h2.x7⟩

/-! ### Other names -/

/-- The new name of a node. -/
def mv (by' : Int) (n v : Nat) : Nat := (((v : Int) + by') % n).toNat
theorem mv_lt {b : Int} {n v : Nat} (hn : 0 < n) : mv b n v < n := by
  have h1 := Int.emod_nonneg ((v : Int) + b) (show (n : Int) ≠ 0 by omega)
  have h2 := Int.emod_lt_of_pos ((v : Int) + b) (show 0 < (n : Int) by omega)
  unfold mv; omega
theorem mv_val {b : Int} {n v : Nat} (hn : 0 < n) : ((mv b n v : Nat) : Int) = ((v : Int) + b) % n := by
  have h1 := Int.emod_nonneg ((v : Int) + b) (show (n : Int) ≠ 0 by omega)
  unfold mv; omega
theorem mv_inv {b : Int} {n v : Nat} (hv : v < n) : mv (-b) n (mv b n v) = v := by
  have hn : 0 < n := by omega
  have e : ((mv (-b) n (mv b n v) : Nat) : Int) = v := by
    rw [mv_val hn, mv_val hn, Int.emod_add_emod, show (v : Int) + b + -b = v by omega]
    exact Int.emod_eq_of_lt (by omega) (by omega)
  omega
theorem mv_inv' {b : Int} {n v : Nat} (hv : v < n) : mv b n (mv (-b) n v) = v := by
  have := mv_inv (b := -b) hv
  rwa [Int.neg_neg] at this

theorem goMod {a : Int} {n : Nat} (hn : 0 < n) : (a.tmod n + n).tmod n = a % n := by
  have hn' : (0 : Int) < n := by omega
  have h1 : -(n : Int) < a.tmod n := Int.lt_tmod_of_pos a hn'
  have h2 : 0 ≤ a.tmod n + n := by omega
  rw [Int.tmod_eq_emod_of_nonneg h2, Int.add_emod_right]
  have : a.tmod n % n = a % n := by
    have := Int.mul_tdiv_add_tmod a n
    rw [show a % n = ((n : Int) * a.tdiv n + a.tmod n) % n by rw [this], Int.mul_add_emod_self_left]
  exact this

def A.mv (b : Int) (n : Nat) (a : A) : A := ⟨Mh.mv b n a.f, Mh.mv b n a.t, a.w⟩

theorem Way.mv {l : List A} {b : Int} {n s v : Nat} {d : Int} (h : Way l A.f A.t s v d) : Way (l.map (A.mv b n)) A.f A.t (Mh.mv b n s) (Mh.mv b n v) d := by
  induction h with
  | nil => exact .nil
  | @step v d a _ hm ht ih => exact Way.step (l := l.map (A.mv b n)) (tl := A.f) (hd := A.t) (a.mv b n) ih (List.mem_map_of_mem hm) (by show Mh.mv b n a.f = _; rw [ht])

/-- A list by the new names. -/
def mvL (b : Int) (n : Nat) (d : List Int) : List Int := (List.range n).map fun u => dAt d (mv (-b) n u)
theorem mvL_len {b : Int} {n : Nat} {d : List Int} : (mvL b n d).length = n := by simp [mvL]
theorem mvL_at {b : Int} {n v : Nat} {d : List Int} (hv : v < n) : dAt (mvL b n d) (mv b n v) = dAt d v := by
  have hm := mv_lt (b := b) (v := v) (show 0 < n by omega)
  have : dAt (mvL b n d) (mv b n v) = dAt d (mv (-b) n (mv b n v)) := by simp [dAt, mvL, List.getD_eq_getElem?_getD, hm]
  rw [this, mv_inv hv]

theorem LS.mv {l : List A} {b : Int} {n s : Nat} {d : List Int} (H : LS l A.f A.t n s d) (hs : s < n) (hl : ∀ a ∈ l, a.f < n ∧ a.t < n) : LS (l.map (A.mv b n)) A.f A.t n (Mh.mv b n s) (mvL b n d) := by
  refine ⟨mvL_len, by rw [mvL_at hs, H.zero], ?_, fun v hv => ?_⟩
  · intro b' hb
    obtain ⟨a, ha, rfl⟩ := List.mem_map.1 hb
    show dAt _ (Mh.mv b n a.f) < far → dAt _ (Mh.mv b n a.t) ≤ dAt _ (Mh.mv b n a.f) + a.w
    rw [mvL_at (hl a ha).1, mvL_at (hl a ha).2]
    exact H.arcs a ha
  · have hu := mv_lt (b := -b) (v := v) (show 0 < n by omega)
    rw [show v = Mh.mv b n (Mh.mv (-b) n v) from (mv_inv' hv).symm, mvL_at hu]
    rcases H.way _ hu with h | ⟨h1, h2⟩
    · exact .inl h
    · exact .inr ⟨h1, h2.mv⟩

/-- The graph by other names. -/
def G.moved (g : G) (b : Int) : G := ⟨g.n, mvL b g.n g.X, mvL b g.n g.Y, g.arcs.map (A.mv b g.n)⟩

theorem mvL_rng {b : Int} {n : Nat} {d : List Int} (hd : d.length = n) (h : ∀ c ∈ d, -2147483648 ≤ c ∧ c ≤ 2147483647) : ∀ c ∈ mvL b n d, -2147483648 ≤ c ∧ c ≤ 2147483647 := by
  intro c hc
  simp only [mvL, List.mem_map, List.mem_range] at hc
  obtain ⟨u, hu, rfl⟩ := hc
  have hm := mv_lt (b := -b) (v := u) (show 0 < n by omega)
  rw [← dAt_get (by rw [hd]; exact hm)]
  exact h _ (List.getElem_mem _)

theorem G.Right.moved {g : G} (h : g.Right) {b : Int} : (g.moved b).Right := by
  have hp := h.pos
  refine ⟨h.pos, h.most, mvL_len, mvL_len, mvL_rng h.x h.xr, mvL_rng h.y h.yr, by simpa [G.moved] using h.many, fun a ha => ?_⟩
  simp only [G.moved, List.mem_map] at ha
  obtain ⟨c, hc, rfl⟩ := ha
  exact ⟨mv_lt (by omega), mv_lt (by omega), (h.ends c hc).2.2⟩

/-- Moved as far as i. -/
def MvTo (b : Int) (n : Nat) (d e : List Int) (i : Nat) : Prop := e.length = n ∧ ∀ v, v < i → dAt e (mv b n v) = dAt d v
theorem MvTo.step {b : Int} {n i : Nat} {d e : List Int} (H : MvTo b n d e i) (hi : i < n) : MvTo b n d (e.set (mv b n i) (dAt d i)) (i + 1) := by
  have hm := mv_lt (b := b) (v := i) (show 0 < n by omega)
  refine ⟨by rw [List.length_set]; exact H.1, fun v hv => ?_⟩
  rw [dAt_set (by rw [H.1]; exact hm)]
  split
  · rename_i e'
    have : v = i := by rw [← mv_inv (b := b) (n := n) (v := v) (by omega), e', mv_inv hi]
    rw [this]
  · rename_i e'
    have : v ≠ i := fun h => e' (by rw [h])
    exact H.2 v (by omega)
theorem MvTo.done {b : Int} {n : Nat} {d e : List Int} (H : MvTo b n d e n) : e = mvL b n d := by
  apply List.ext_getElem (by rw [mvL_len, H.1])
  intro u h1 h2
  have hu : u < n := by rw [mvL_len] at h2; exact h2
  have := H.2 (mv (-b) n u) (mv_lt (by omega))
  rw [mv_inv' hu] at this
  rw [dAt_get, this]
  simp [mvL, dAt]

end Go.Mh

/-! Walks as rows of arcs. -/
namespace Go.Mh
open Go

/-- A row of arcs that leads from s to t. -/
def Trail (l : List A) : Nat → List Nat → Nat → Prop
  | s, [], t => s = t
  | s, i :: r, t => i < l.length ∧ (arcAt l i).f = s ∧ Trail l (arcAt l i).t r t

def tsum (l : List A) (r : List Nat) : Int := (r.map fun i => ((arcAt l i).w : Int)).sum

theorem tsum_cons {l : List A} {i : Nat} {r : List Nat} : tsum l (i :: r) = (arcAt l i).w + tsum l r := by simp [tsum]
theorem tsum_nil {l : List A} : tsum l [] = 0 := rfl
theorem tsum_append {l : List A} {r q : List Nat} : tsum l (r ++ q) = tsum l r + tsum l q := by simp [tsum]
theorem tsum_nonneg {l : List A} {r : List Nat} : 0 ≤ tsum l r := by
  induction r with
  | nil => exact Int.le_refl _
  | cons i r ih => rw [tsum_cons]; omega

theorem Trail.append {l : List A} : ∀ {r q : List Nat} {s t u : Nat}, Trail l s r t → Trail l t q u → Trail l s (r ++ q) u
  | [], _, _, _, _, h, h' => by cases h; exact h'
  | _ :: _, _, _, _, _, ⟨a, b, h⟩, h' => ⟨a, b, h.append h'⟩

theorem Trail.split {l : List A} : ∀ {r q : List Nat} {s u : Nat}, Trail l s (r ++ q) u → ∃ t, Trail l s r t ∧ Trail l t q u
  | [], _, s, _, h => ⟨s, rfl, h⟩
  | _ :: _, _, _, _, ⟨a, b, h⟩ => by obtain ⟨t, h1, h2⟩ := Trail.split h; exact ⟨t, ⟨a, b, h1⟩, h2⟩

theorem Trail.lt {l : List A} : ∀ {r : List Nat} {s t : Nat}, Trail l s r t → ∀ i ∈ r, i < l.length
  | [], _, _, _, _, h => by cases h
  | _ :: _, _, _, ⟨a, _, h⟩, i, hi => by
    rcases List.mem_cons.1 hi with rfl | hi
    · exact a
    · exact h.lt i hi

theorem arcAt_mem {l : List A} {i : Nat} (h : i < l.length) : arcAt l i ∈ l := by
  rw [show arcAt l i = l[i] by simp [arcAt, h]]; exact List.getElem_mem h

theorem Trail.way {l : List A} : ∀ {r : List Nat} {s u t : Nat} {d : Int}, Way l A.f A.t s u d → Trail l u r t → Way l A.f A.t s t (d + tsum l r)
  | [], _, _, _, _, hw, h => by cases h; rw [tsum_nil, Int.add_zero]; exact hw
  | i :: r, _, u, _, d, hw, ⟨a, b, h⟩ => by
    have := Trail.way (Way.step _ hw (arcAt_mem a) b) h
    rw [tsum_cons, ← Int.add_assoc]; exact this

/-- What a row of arcs is as a walk that begins at s, with weight w so far: where it ends, and its weight. -/
def wchk (l : List A) : Int → Int → List Int → Option (Int × Int)
  | s, w, [] => some (s, w)
  | s, w, i :: r => if 0 ≤ i ∧ i < l.length ∧ ((arcAt l i.toNat).f : Int) = s then wchk l (arcAt l i.toNat).t (w + (arcAt l i.toNat).w) r else none

theorem wchk_trail {l : List A} : ∀ {r : List Nat} {s t : Nat} {w : Int}, Trail l s r t → wchk l s w (r.map fun (i : Nat) => (i : Int)) = some ((t : Int), w + tsum l r)
  | [], _, _, w, h => by cases h; simp [wchk, tsum_nil]
  | i :: r, _, _, w, ⟨a, b, h⟩ => by
    simp only [List.map_cons, wchk]
    rw [if_pos ⟨by omega, by omega, by rw [Int.toNat_natCast, b]⟩, Int.toNat_natCast, wchk_trail h, tsum_cons, Int.add_assoc]

def nI (l : List Nat) : List Int := l.map fun (i : Nat) => (i : Int)
theorem nI_nil : nI [] = [] := rfl
theorem nI_rev {l : List Nat} : (nI l).reverse = nI l.reverse := by simp [nI]
theorem nI_len {l : List Nat} : (nI l).length = l.length := by simp [nI]

/-- The arc of a number, and whether it is one. -/
def wArc (l : List A) (z : Int) : A × Bool := if 0 ≤ z ∧ z < l.length then (arcAt l z.toNat, true) else (⟨0, 0, 0⟩, false)
def wNext (l : List A) (arcs : List Int) (p : Nat × Int) (x : List Value) (p' : Nat × Int) : Prop :=
  ∃ hi : p.1 < arcs.length, x = [vA (wArc l arcs[p.1]).1, .bool ((wArc l arcs[p.1]).2 && decide (((wArc l arcs[p.1]).1.f : Int) = p.2))] ∧ p' = (p.1 + 1, ((wArc l arcs[p.1]).1.t : Int))

theorem wchk_step {l : List A} {arcs : List Int} {i : Nat} {s w : Int} (hi : i < arcs.length) :
    wchk l s w (arcs.drop i) = if ((wArc l arcs[i]).2 && decide (((wArc l arcs[i]).1.f : Int) = s)) = true then wchk l (wArc l arcs[i]).1.t (w + (wArc l arcs[i]).1.w) (arcs.drop (i + 1)) else none := by
  rw [List.drop_eq_getElem_cons hi]
  simp only [wchk]
  by_cases h : 0 ≤ arcs[i] ∧ arcs[i] < l.length
  · simp only [wArc, if_pos h]
    by_cases h2 : ((arcAt l arcs[i].toNat).f : Int) = s
    · rw [if_pos ⟨h.1, h.2, h2⟩, decide_eq_true h2, Bool.true_and, if_pos rfl]
    · rw [if_neg fun e => h2 e.2.2, decide_eq_false h2, Bool.and_false, if_neg (by decide)]
  · simp only [wArc, if_neg h]
    rw [if_neg fun e => h ⟨e.1, e.2.1⟩, Bool.false_and, if_neg (by decide)]

/-- Where a row leads by arcs that are marked. -/
inductive Rch (l : List A) (mk : Nat → Bool) (s : Nat) : Nat → Prop
  | here : Rch l mk s s
  | step {u i : Nat} : Rch l mk s u → i < l.length → mk i = true → (arcAt l i).f = u → Rch l mk s (arcAt l i).t

/-- The search by marked arcs: ord are the nodes met, the first k of them were left; the arc to each, -1 to the first. -/
structure BFS (l : List A) (n : Nat) (mk : Nat → Bool) (s : Nat) (ord : List Nat) (f : Int → Option Int) : Prop where
  nd : ord.Nodup
  rng : ∀ v ∈ ord, v < n
  hd : ord[0]? = some s
  fs : f s = some (-1)
  fv : ∀ (j v : Nat), ord[j]? = some v → 0 < j → ∃ i : Nat, f (v : Int) = some (i : Int) ∧ i < l.length ∧ mk i = true ∧ (arcAt l i).t = v ∧ ∃ j', j' < j ∧ ord[j']? = some (arcAt l i).f
  no : ∀ z : Int, (f z).isSome = true → ∃ v ∈ ord, z = (v : Int)

theorem BFS.start {l : List A} {n s : Nat} {mk : Nat → Bool} {f : Int → Option Int} (hs : s < n) (hf : ∀ z, f z = if z = (s : Int) then some (-1) else none) : BFS l n mk s [s] f := by
  refine ⟨by simp, by simpa using hs, rfl, by simp [hf], fun j v h0 hj => ?_, fun z hz => ?_⟩
  · cases j with
    | zero => omega
    | succ j => simp at h0
  · rw [hf] at hz
    split at hz
    · exact ⟨s, by simp, by assumption⟩
    · cases hz

section
variable {l : List A} {n s : Nat} {mk : Nat → Bool} {ord : List Nat} {f f' : Int → Option Int}

theorem BFS.add (B : BFS l n mk s ord f) {i j : Nat} (hi : i < l.length) (hm : mk i = true) (hu : ord[j]? = some (arcAt l i).f) (hn : (arcAt l i).t < n) (hf : f (arcAt l i).t = none)
    (hf' : ∀ z, f' z = if z = ((arcAt l i).t : Int) then some (i : Int) else f z) : BFS l n mk s (ord ++ [(arcAt l i).t]) f' := by
  have hj : j < ord.length := (List.getElem?_eq_some_iff.1 hu).1
  have hno : (arcAt l i).t ∉ ord := fun hm => by
    obtain ⟨k, hk⟩ := List.getElem?_of_mem hm
    cases k with
    | zero =>
      rw [B.hd] at hk
      have e := Option.some.inj hk
      rw [← e, B.fs] at hf; cases hf
    | succ k => obtain ⟨_, h1, _⟩ := B.fv _ _ hk (by omega); rw [h1] at hf; cases hf
  have hne : ∀ v ∈ ord, ¬ ((v : Int) = ((arcAt l i).t : Int)) := fun v hv e => hno (by rw [← Int.ofNat.inj e]; exact hv)
  have keep : ∀ {k v : Nat}, ord[k]? = some v → (ord ++ [(arcAt l i).t])[k]? = some v := fun {k v} h => by
    rw [List.getElem?_append_left (List.getElem?_eq_some_iff.1 h).1]; exact h
  refine ⟨?_, ?_, keep B.hd, ?_, fun k v h1 h2 => ?_, fun z hz => ?_⟩
  · refine List.nodup_append.2 ⟨B.nd, by simp, fun a ha b hb e => ?_⟩
    simp at hb; subst hb; subst e; exact hno ha
  · intro v hv
    rcases List.mem_append.1 hv with h | h
    · exact B.rng v h
    · simp at h; subst h; exact hn
  · rw [hf', if_neg (hne s (List.mem_of_getElem? B.hd))]; exact B.fs
  · by_cases hk : k < ord.length
    · rw [List.getElem?_append_left hk] at h1
      obtain ⟨i', a, b, c, d, j', e1, e2⟩ := B.fv k v h1 h2
      refine ⟨i', ?_, b, c, d, j', e1, keep e2⟩
      rw [hf', if_neg (hne v (List.mem_of_getElem? h1))]; exact a
    · rw [List.getElem?_append_right (by omega)] at h1
      obtain ⟨h3, h4⟩ := List.getElem?_eq_some_iff.1 h1
      simp at h3 h4
      refine ⟨i, by rw [hf', ← h4, if_pos rfl], hi, hm, h4, j, by omega, keep hu⟩
  · rw [hf'] at hz
    split at hz
    · exact ⟨(arcAt l i).t, by simp, by assumption⟩
    · obtain ⟨v, hv, e⟩ := B.no z hz
      exact ⟨v, by simp [hv], e⟩

theorem BFS.mem (B : BFS l n mk s ord f) {v : Nat} : v ∈ ord ↔ (f v).isSome = true := by
  refine ⟨fun h => ?_, fun h => ?_⟩
  · obtain ⟨k, hk⟩ := List.getElem?_of_mem h
    cases k with
    | zero => rw [B.hd] at hk; rw [← Option.some.inj hk, B.fs]; rfl
    | succ k => obtain ⟨_, h1, _⟩ := B.fv _ _ hk (by omega); rw [h1]; rfl
  · obtain ⟨u, hu, e⟩ := B.no _ h
    rw [Int.ofNat.inj e]; exact hu

theorem BFS.rch (B : BFS l n mk s ord f) : ∀ (j v : Nat), ord[j]? = some v → Rch l mk s v := by
  intro j
  induction j using Nat.strongRecOn with
  | ind j ih =>
    intro v hv
    cases j with
    | zero => rw [B.hd] at hv; rw [← Option.some.inj hv]; exact .here
    | succ j =>
      obtain ⟨i, _, hi, hm, ht, j', hj, hu⟩ := B.fv _ v hv (by omega)
      rw [← ht]
      exact .step (ih j' hj _ hu) hi hm rfl

/-- All arcs out of what was met are done. -/
def BFS.Closed (l : List A) (mk : Nat → Bool) (ord : List Nat) (k : Nat) : Prop := ∀ (j u i : Nat), j < k → ord[j]? = some u → i < l.length → mk i = true → (arcAt l i).f = u → (arcAt l i).t ∈ ord

theorem BFS.all (B : BFS l n mk s ord f) (C : BFS.Closed l mk ord ord.length) {v : Nat} : v ∈ ord ↔ Rch l mk s v := by
  refine ⟨fun h => ?_, fun h => ?_⟩
  · obtain ⟨k, hk⟩ := List.getElem?_of_mem h
    exact B.rch k v hk
  · induction h with
    | here => exact List.mem_of_getElem? B.hd
    | step _ hi hm hf ih =>
      obtain ⟨k, hk⟩ := List.getElem?_of_mem ih
      exact C k _ _ (List.getElem?_eq_some_iff.1 hk).1 hk hi hm hf

theorem BFS.len (B : BFS l n mk s ord f) : ord.length ≤ n := nodup_le B.nd B.rng

end
end Go.Mh

/-! Views of natural numbers as views of numbers. -/
namespace Go.Mh
open Go

/-- Those of some numbers that are nodes. -/
def mksZ (n : Nat) (l : List Int) : List Nat := (l.filter fun (z : Int) => decide (0 ≤ z ∧ z < n)).map Int.toNat
theorem mksZ_lt {n : Nat} {l : List Int} : ∀ m ∈ mksZ n l, m < n := fun m hm => by
  obtain ⟨z, hz, rfl⟩ := List.mem_map.1 hm
  have := of_decide_eq_true (List.mem_filter.1 hz).2
  omega
theorem mksZ_snoc {n : Nat} {l : List Int} {z : Int} : mksZ n (l ++ [z]) = mksZ n l ++ (if 0 ≤ z ∧ z < n then [z.toNat] else []) := by
  unfold mksZ
  rw [List.filter_append, List.map_append]
  congr 1
  by_cases h : 0 ≤ z ∧ z < n
  · simp only [if_pos h, List.filter_cons, List.filter_nil, decide_eq_true_eq, List.map_cons, List.map_nil]
  · simp only [if_neg h, List.filter_cons, List.filter_nil, decide_eq_true_eq, List.map_nil]
theorem mksZ_nI {n : Nat} {l : List Nat} (h : ∀ m ∈ l, m < n) : mksZ n (nI l) = l := by
  unfold mksZ nI
  rw [List.filter_eq_self.2 (fun z hz => by obtain ⟨m, hm, rfl⟩ := List.mem_map.1 hz; have := h m hm; exact decide_eq_true ⟨by omega, by omega⟩), List.map_map]
  simp [Function.comp_def]

theorem row_nI {l : List Nat} : row encN l = row encI (nI l) := by
  unfold row nI
  rw [List.flatMap_map]
  rfl
theorem vw_nI {h : Heap} {v : Value} {l : List Nat} (H : Vw encN 1 h v l) : Vw encI 1 h v (nI l) := by
  obtain ⟨bl, base, cap, rfl, hc, H⟩ := H
  refine ⟨bl, base, cap, by rw [nI_len], by rw [nI_len]; exact hc, ?_⟩
  rcases H with ⟨rfl, H⟩ | ⟨o, pre, post, T, fz, h1, h2, h3⟩
  · exact .inl ⟨rfl, H⟩
  · exact .inr ⟨o, pre, post, T, fz, h1, by rw [← row_nI]; exact h2, h3⟩
theorem vw_nN {h : Heap} {v : Value} {l : List Nat} (H : Vw encI 1 h v (nI l)) : Vw encN 1 h v l := by
  obtain ⟨bl, base, cap, rfl, hc, H⟩ := H
  rw [nI_len] at *
  refine ⟨bl, base, cap, rfl, hc, ?_⟩
  rcases H with ⟨e, H⟩ | ⟨o, pre, post, T, fz, h1, h2, h3⟩
  · exact .inl ⟨by cases l with
      | nil => rfl
      | cons a l => simp [nI] at e, H⟩
  · exact .inr ⟨o, pre, post, T, fz, h1, by rw [row_nI]; exact h2, h3⟩
/-- Those of some numbers that are nodes, as numbers. -/
theorem nI_mksZ {n : Nat} {l : List Int} : nI (mksZ n l) = l.filter fun (z : Int) => decide (0 ≤ z ∧ z < n) := by
  unfold mksZ nI
  rw [List.map_map]
  conv => rhs; rw [← List.map_id (l.filter fun (z : Int) => decide (0 ≤ z ∧ z < n))]
  refine List.map_congr_left fun z hz => ?_
  have := of_decide_eq_true (List.mem_filter.1 hz).2
  show ((z.toNat : Nat) : Int) = z
  omega
end Go.Mh
