/- Texts of the proofs of seat YtgefabaobhendaaGreatDoor, joined: Trail, Steps, ViewA, ViewB, ViewC, ViewD. They have no conditions of their own. -/
import Derived.Test.YtgefabaobhendaaGreatDoorMc
import Derived.Test.YtgefabaobhendaaGreatDoorMb
import Derived.OpenShut
set_option linter.unusedVariables false
set_option linter.unusedSimpArgs false

/-! Walks as rows of arcs. -/
namespace Go.Mh
open Go

/-- A row of arcs that leads from s to t. -/
def Trail (l : List A) : Nat → List Nat → Nat → Prop
  | s, [], t => s = t
  | s, i :: r, t => i < l.length ∧ (arcAt l i).f = s ∧ Trail l (arcAt l i).t r t

def tsum (l : List A) (r : List Nat) : Int := (r.map fun i => ((arcAt l i).w : Int)).sum

theorem tsum_cons {l : List A} {i : Nat} {r : List Nat} : tsum l (i :: r) = (arcAt l i).w + tsum l r := by simp [tsum]
theorem tsum_nil {l : List A} : tsum l [] = 0 := rfl
theorem tsum_append {l : List A} {r q : List Nat} : tsum l (r ++ q) = tsum l r + tsum l q := by simp [tsum]
theorem tsum_nonneg {l : List A} {r : List Nat} : 0 ≤ tsum l r := by
  induction r with
  | nil => exact Int.le_refl _
  | cons i r ih => rw [tsum_cons]; omega

theorem Trail.append {l : List A} : ∀ {r q : List Nat} {s t u : Nat}, Trail l s r t → Trail l t q u → Trail l s (r ++ q) u
  | [], _, _, _, _, h, h' => by cases h; exact h'
  | _ :: _, _, _, _, _, ⟨a, b, h⟩, h' => ⟨a, b, h.append h'⟩

theorem Trail.split {l : List A} : ∀ {r q : List Nat} {s u : Nat}, Trail l s (r ++ q) u → ∃ t, Trail l s r t ∧ Trail l t q u
  | [], _, s, _, h => ⟨s, rfl, h⟩
  | _ :: _, _, _, _, ⟨a, b, h⟩ => by obtain ⟨t, h1, h2⟩ := Trail.split h; exact ⟨t, ⟨a, b, h1⟩, h2⟩

theorem Trail.lt {l : List A} : ∀ {r : List Nat} {s t : Nat}, Trail l s r t → ∀ i ∈ r, i < l.length
  | [], _, _, _, _, h => by cases h
  | _ :: _, _, _, ⟨a, _, h⟩, i, hi => by
    rcases List.mem_cons.1 hi with rfl | hi
    · exact a
    · exact h.lt i hi

theorem arcAt_mem {l : List A} {i : Nat} (h : i < l.length) : arcAt l i ∈ l := by
  rw [show arcAt l i = l[i] by simp [arcAt, h]]; exact List.getElem_mem h

theorem Trail.way {l : List A} : ∀ {r : List Nat} {s u t : Nat} {d : Int}, Way l A.f A.t s u d → Trail l u r t → Way l A.f A.t s t (d + tsum l r)
  | [], _, _, _, _, hw, h => by cases h; rw [tsum_nil, Int.add_zero]; exact hw
  | i :: r, _, u, _, d, hw, ⟨a, b, h⟩ => by
    have := Trail.way (Way.step _ hw (arcAt_mem a) b) h
    rw [tsum_cons, ← Int.add_assoc]; exact this

/-- What a row of arcs is as a walk that begins at s, with weight w so far: where it ends, and its weight. -/
def wchk (l : List A) : Int → Int → List Int → Option (Int × Int)
  | s, w, [] => some (s, w)
  | s, w, i :: r => if 0 ≤ i ∧ i < l.length ∧ ((arcAt l i.toNat).f : Int) = s then wchk l (arcAt l i.toNat).t (w + (arcAt l i.toNat).w) r else none

theorem wchk_trail {l : List A} : ∀ {r : List Nat} {s t : Nat} {w : Int}, Trail l s r t → wchk l s w (r.map fun (i : Nat) => (i : Int)) = some ((t : Int), w + tsum l r)
  | [], _, _, w, h => by cases h; simp [wchk, tsum_nil]
  | i :: r, _, _, w, ⟨a, b, h⟩ => by
    simp only [List.map_cons, wchk]
    rw [if_pos ⟨by omega, by omega, by rw [Int.toNat_natCast, b]⟩, Int.toNat_natCast, wchk_trail h, tsum_cons, Int.add_assoc]

def nI (l : List Nat) : List Int := l.map fun (i : Nat) => (i : Int)
theorem nI_nil : nI [] = [] := rfl
theorem nI_rev {l : List Nat} : (nI l).reverse = nI l.reverse := by simp [nI]
theorem nI_len {l : List Nat} : (nI l).length = l.length := by simp [nI]

/-- The arc of a number, and whether it is one. -/
def wArc (l : List A) (z : Int) : A × Bool := if 0 ≤ z ∧ z < l.length then (arcAt l z.toNat, true) else (⟨0, 0, 0⟩, false)
def wNext (l : List A) (arcs : List Int) (p : Nat × Int) (x : List Value) (p' : Nat × Int) : Prop :=
  ∃ hi : p.1 < arcs.length, x = [vA (wArc l arcs[p.1]).1, .bool ((wArc l arcs[p.1]).2 && decide (((wArc l arcs[p.1]).1.f : Int) = p.2))] ∧ p' = (p.1 + 1, ((wArc l arcs[p.1]).1.t : Int))

theorem wchk_step {l : List A} {arcs : List Int} {i : Nat} {s w : Int} (hi : i < arcs.length) :
    wchk l s w (arcs.drop i) = if ((wArc l arcs[i]).2 && decide (((wArc l arcs[i]).1.f : Int) = s)) = true then wchk l (wArc l arcs[i]).1.t (w + (wArc l arcs[i]).1.w) (arcs.drop (i + 1)) else none := by
  rw [List.drop_eq_getElem_cons hi]
  simp only [wchk]
  by_cases h : 0 ≤ arcs[i] ∧ arcs[i] < l.length
  · simp only [wArc, if_pos h]
    by_cases h2 : ((arcAt l arcs[i].toNat).f : Int) = s
    · rw [if_pos ⟨h.1, h.2, h2⟩, decide_eq_true h2, Bool.true_and, if_pos rfl]
    · rw [if_neg fun e => h2 e.2.2, decide_eq_false h2, Bool.and_false, if_neg (by decide)]
  · simp only [wArc, if_neg h]
    rw [if_neg fun e => h ⟨e.1, e.2.1⟩, Bool.false_and, if_neg (by decide)]

/-- Where a row leads by arcs that are marked. -/
inductive Rch (l : List A) (mk : Nat → Bool) (s : Nat) : Nat → Prop
  | here : Rch l mk s s
  | step {u i : Nat} : Rch l mk s u → i < l.length → mk i = true → (arcAt l i).f = u → Rch l mk s (arcAt l i).t

/-- The search by marked arcs: ord are the nodes met, the first k of them were left; the arc to each, -1 to the first. -/
structure BFS (l : List A) (n : Nat) (mk : Nat → Bool) (s : Nat) (ord : List Nat) (f : Int → Option Int) : Prop where
  nd : ord.Nodup
  rng : ∀ v ∈ ord, v < n
  hd : ord[0]? = some s
  fs : f s = some (-1)
  fv : ∀ (j v : Nat), ord[j]? = some v → 0 < j → ∃ i : Nat, f (v : Int) = some (i : Int) ∧ i < l.length ∧ mk i = true ∧ (arcAt l i).t = v ∧ ∃ j', j' < j ∧ ord[j']? = some (arcAt l i).f
  no : ∀ z : Int, (f z).isSome = true → ∃ v ∈ ord, z = (v : Int)

theorem BFS.start {l : List A} {n s : Nat} {mk : Nat → Bool} {f : Int → Option Int} (hs : s < n) (hf : ∀ z, f z = if z = (s : Int) then some (-1) else none) : BFS l n mk s [s] f := by
  refine ⟨by simp, by simpa using hs, rfl, by simp [hf], fun j v h0 hj => ?_, fun z hz => ?_⟩
  · cases j with
    | zero => omega
    | succ j => simp at h0
  · rw [hf] at hz
    split at hz
    · exact ⟨s, by simp, by assumption⟩
    · cases hz

section
variable {l : List A} {n s : Nat} {mk : Nat → Bool} {ord : List Nat} {f f' : Int → Option Int}

theorem BFS.add (B : BFS l n mk s ord f) {i j : Nat} (hi : i < l.length) (hm : mk i = true) (hu : ord[j]? = some (arcAt l i).f) (hn : (arcAt l i).t < n) (hf : f (arcAt l i).t = none)
    (hf' : ∀ z, f' z = if z = ((arcAt l i).t : Int) then some (i : Int) else f z) : BFS l n mk s (ord ++ [(arcAt l i).t]) f' := by
  have hj : j < ord.length := (List.getElem?_eq_some_iff.1 hu).1
  have hno : (arcAt l i).t ∉ ord := fun hm => by
    obtain ⟨k, hk⟩ := List.getElem?_of_mem hm
    cases k with
    | zero =>
      rw [B.hd] at hk
      have e := Option.some.inj hk
      rw [← e, B.fs] at hf; cases hf
    | succ k => obtain ⟨_, h1, _⟩ := B.fv _ _ hk (by omega); rw [h1] at hf; cases hf
  have hne : ∀ v ∈ ord, ¬ ((v : Int) = ((arcAt l i).t : Int)) := fun v hv e => hno (by rw [← Int.ofNat.inj e]; exact hv)
  have keep : ∀ {k v : Nat}, ord[k]? = some v → (ord ++ [(arcAt l i).t])[k]? = some v := fun {k v} h => by
    rw [List.getElem?_append_left (List.getElem?_eq_some_iff.1 h).1]; exact h
  refine ⟨?_, ?_, keep B.hd, ?_, fun k v h1 h2 => ?_, fun z hz => ?_⟩
  · refine List.nodup_append.2 ⟨B.nd, by simp, fun a ha b hb e => ?_⟩
    simp at hb; subst hb; subst e; exact hno ha
  · intro v hv
    rcases List.mem_append.1 hv with h | h
    · exact B.rng v h
    · simp at h; subst h; exact hn
  · rw [hf', if_neg (hne s (List.mem_of_getElem? B.hd))]; exact B.fs
  · by_cases hk : k < ord.length
    · rw [List.getElem?_append_left hk] at h1
      obtain ⟨i', a, b, c, d, j', e1, e2⟩ := B.fv k v h1 h2
      refine ⟨i', ?_, b, c, d, j', e1, keep e2⟩
      rw [hf', if_neg (hne v (List.mem_of_getElem? h1))]; exact a
    · rw [List.getElem?_append_right (by omega)] at h1
      obtain ⟨h3, h4⟩ := List.getElem?_eq_some_iff.1 h1
      simp at h3 h4
      refine ⟨i, by rw [hf', ← h4, if_pos rfl], hi, hm, h4, j, by omega, keep hu⟩
  · rw [hf'] at hz
    split at hz
    · exact ⟨(arcAt l i).t, by simp, by assumption⟩
    · obtain ⟨v, hv, e⟩ := B.no z hz
      exact ⟨v, by simp [hv], e⟩

theorem BFS.mem (B : BFS l n mk s ord f) {v : Nat} : v ∈ ord ↔ (f v).isSome = true := by
  refine ⟨fun h => ?_, fun h => ?_⟩
  · obtain ⟨k, hk⟩ := List.getElem?_of_mem h
    cases k with
    | zero => rw [B.hd] at hk; rw [← Option.some.inj hk, B.fs]; rfl
    | succ k => obtain ⟨_, h1, _⟩ := B.fv _ _ hk (by omega); rw [h1]; rfl
  · obtain ⟨u, hu, e⟩ := B.no _ h
    rw [Int.ofNat.inj e]; exact hu

theorem BFS.rch (B : BFS l n mk s ord f) : ∀ (j v : Nat), ord[j]? = some v → Rch l mk s v := by
  intro j
  induction j using Nat.strongRecOn with
  | ind j ih =>
    intro v hv
    cases j with
    | zero => rw [B.hd] at hv; rw [← Option.some.inj hv]; exact .here
    | succ j =>
      obtain ⟨i, _, hi, hm, ht, j', hj, hu⟩ := B.fv _ v hv (by omega)
      rw [← ht]
      exact .step (ih j' hj _ hu) hi hm rfl

/-- All arcs out of what was met are done. -/
def BFS.Closed (l : List A) (mk : Nat → Bool) (ord : List Nat) (k : Nat) : Prop := ∀ (j u i : Nat), j < k → ord[j]? = some u → i < l.length → mk i = true → (arcAt l i).f = u → (arcAt l i).t ∈ ord

theorem BFS.all (B : BFS l n mk s ord f) (C : BFS.Closed l mk ord ord.length) {v : Nat} : v ∈ ord ↔ Rch l mk s v := by
  refine ⟨fun h => ?_, fun h => ?_⟩
  · obtain ⟨k, hk⟩ := List.getElem?_of_mem h
    exact B.rch k v hk
  · induction h with
    | here => exact List.mem_of_getElem? B.hd
    | step _ hi hm hf ih =>
      obtain ⟨k, hk⟩ := List.getElem?_of_mem ih
      exact C k _ _ (List.getElem?_eq_some_iff.1 hk).1 hk hi hm hf

theorem BFS.len (B : BFS l n mk s ord f) : ord.length ≤ n := nodup_le B.nd B.rng

end
end Go.Mh

/-! Events that come in blocks: a pop, and the scans of its arcs. -/
namespace Go.Mh
open Go

def sI (x : Bool) : Int := if x then 1 else 0
theorem sI_inj {x y : Bool} : sI x = sI y ↔ x = y := by cases x <;> cases y <;> decide
theorem sI_or (x : Bool) : sI x = 0 ∨ sI x = 1 := by cases x <;> decide
def tlS (x : Bool) (a : A) : Nat := if x then a.t else a.f
def hdS (x : Bool) (a : A) : Nat := if x then a.f else a.t

structure Stp where
  x : Bool
  v : Nat
  d : Int

def scanE (x : Bool) (i : Nat) : Ev := ⟨1, sI x, i, 0⟩
def popE (s : Stp) : Ev := ⟨0, sI s.x, s.v, s.d⟩
def blkS (outs : Bool → Nat → List Nat) (s : Stp) : List Ev := popE s :: (outs s.x s.v).map (scanE s.x)
def evs (outs : Bool → Nat → List Nat) (st : List Stp) : List Ev := st.flatMap (blkS outs)

theorem evs_nil {outs : Bool → Nat → List Nat} : evs outs [] = [] := rfl
theorem evs_append {outs : Bool → Nat → List Nat} {a b : List Stp} : evs outs (a ++ b) = evs outs a ++ evs outs b := List.flatMap_append
theorem evs_cons {outs : Bool → Nat → List Nat} {s : Stp} {b : List Stp} : evs outs (s :: b) = blkS outs s ++ evs outs b := rfl
theorem evs_one {outs : Bool → Nat → List Nat} {s : Stp} : evs outs [s] = blkS outs s := by simp [evs]

structure OutsOk (g : G) (outs : Bool → Nat → List Nat) : Prop where
  mem : ∀ x v i, i ∈ outs x v → i < g.arcs.length ∧ tlS x (arcAt g.arcs i) = v
  nd : ∀ x v, (outs x v).Nodup

theorem outsP_rising {q : A → Bool} : ∀ {l : List A} {i : Nat}, (outsP q l i).Pairwise (· < ·)
  | [], _ => .nil
  | a :: l, i => by
    simp only [outsP]
    split
    · refine List.pairwise_cons.2 ⟨fun j hj => ?_, outsP_rising⟩
      have := (outsP_mem.1 hj).1
      omega
    · exact outsP_rising

theorem outsP_nodup {q : A → Bool} {l : List A} {i : Nat} : (outsP q l i).Nodup := List.Pairwise.imp (fun h => Nat.ne_of_lt h) outsP_rising

def outG (g : G) (x : Bool) (v : Nat) : List Nat := if x then g.in v else g.out v

theorem outG_ok {g : G} : OutsOk g (outG g) := by
  refine ⟨fun x v i hi => ?_, fun x v => ?_⟩
  · cases x with
    | false =>
      obtain ⟨_, h1, h2⟩ := outsP_mem.1 (show i ∈ g.out v from hi)
      simp only [Nat.sub_zero] at h1 h2
      refine ⟨h1, ?_⟩
      show (arcAt g.arcs i).f = v
      simpa [arcAt, h1] using h2
    | true =>
      obtain ⟨_, h1, h2⟩ := outsP_mem.1 (show i ∈ g.in v from hi)
      simp only [Nat.sub_zero] at h1 h2
      refine ⟨h1, ?_⟩
      show (arcAt g.arcs i).t = v
      simpa [arcAt, h1] using h2
  · cases x
    · exact outsP_nodup
    · exact outsP_nodup

theorem OutsOk.filter {g : G} {outs : Bool → Nat → List Nat} (H : OutsOk g outs) (p : Nat → Bool) : OutsOk g (fun x v => (outs x v).filter p) :=
  ⟨fun x v i hi => H.mem x v i (List.mem_filter.1 hi).1, fun x v => (H.nd x v).filter p⟩

section
variable {g : G} {outs : Bool → Nat → List Nat} {st : List Stp} {l : List Ev}

theorem mem_evs {e : Ev} : e ∈ evs outs st ↔ ∃ s ∈ st, e = popE s ∨ ∃ i ∈ outs s.x s.v, e = scanE s.x i := by
  simp only [evs, List.mem_flatMap, blkS, List.mem_cons, List.mem_map]
  exact ⟨fun ⟨s, hs, h⟩ => ⟨s, hs, h.imp id fun ⟨i, a, b⟩ => ⟨i, a, b.symm⟩⟩, fun ⟨s, hs, h⟩ => ⟨s, hs, h.imp id fun ⟨i, a, b⟩ => ⟨i, a, b.symm⟩⟩⟩

theorem may_pop {s : Stp} (h : s.v < g.n) : mayE g.n g.arcs.length (popE s) = true :=
  decide_eq_true ⟨by simp [popE], by show (s.v : Int) < mostE _ _ 0; unfold mostE; rw [if_pos rfl]; omega, sI_or _, .inl rfl⟩
theorem may_scan {x : Bool} {i : Nat} (h : i < g.arcs.length) : mayE g.n g.arcs.length (scanE x i) = true :=
  decide_eq_true ⟨by simp [scanE], by show (i : Int) < mostE _ _ 1; unfold mostE; rw [if_neg (by decide), if_pos rfl]; omega, sI_or _, .inr rfl⟩

theorem evs_may (H : OutsOk g outs) (hv : ∀ s ∈ st, s.v < g.n) : ∀ e ∈ evs outs st, mayE g.n g.arcs.length e = true := by
  intro e he
  obtain ⟨s, hs, rfl | ⟨i, hi, rfl⟩⟩ := mem_evs.1 he
  · exact may_pop (hv s hs)
  · exact may_scan (H.mem _ _ _ hi).1

theorem onceE_iff {n m : Nat} : OnceE n m l ↔ (∀ e ∈ l, mayE n m e = true) ∧ (l.map Ev.key).Nodup := by
  constructor
  · intro h
    refine ⟨fun e he => ?_, ?_⟩
    · obtain ⟨i, hi⟩ := List.getElem?_of_mem he
      exact (h i e hi).1
    · rw [List.nodup_iff_pairwise_ne, List.pairwise_map, List.pairwise_iff_getElem]
      intro i j hi hj hij e
      refine (h j _ (List.getElem?_eq_getElem hj)).2 ?_
      rw [← e]
      exact List.mem_map_of_mem (List.mem_take_iff_getElem.2 ⟨i, by omega, rfl⟩)
  · rintro ⟨h1, h2⟩ i e hi
    refine ⟨h1 e (List.mem_of_getElem? hi), fun hm => ?_⟩
    obtain ⟨e', he', hk⟩ := List.mem_map.1 hm
    obtain ⟨j, hj, rfl⟩ := List.mem_take_iff_getElem.1 he'
    obtain ⟨hi', rfl⟩ := List.getElem?_eq_some_iff.1 hi
    rw [List.nodup_iff_pairwise_ne, List.pairwise_map, List.pairwise_iff_getElem] at h2
    exact h2 j i (by omega) hi' (by omega) hk

theorem popE_key (s : Stp) : (popE s).key = (0, sI s.x, (s.v : Int)) := rfl
theorem scanE_key (x : Bool) (i : Nat) : (scanE x i).key = (1, sI x, (i : Int)) := rfl

theorem blkS_nodup (H : OutsOk g outs) {s : Stp} : ((blkS outs s).map Ev.key).Nodup := by
  simp only [blkS, List.map_cons, List.map_map, List.nodup_cons]
  refine ⟨fun h => ?_, ?_⟩
  · obtain ⟨i, _, e⟩ := List.mem_map.1 h
    simp [scanE_key, popE_key] at e
  · rw [List.nodup_iff_pairwise_ne, List.pairwise_map]
    refine (List.nodup_iff_pairwise_ne.1 (H.nd s.x s.v)).imp fun {a b} hne e => hne ?_
    exact Int.ofNat.inj (by simpa [scanE_key] using e)

theorem evs_once (H : OutsOk g outs) (hv : ∀ s ∈ st, s.v < g.n) (hn : (st.map fun s => (s.x, s.v)).Nodup) : OnceE g.n g.arcs.length (evs outs st) := by
  rw [onceE_iff]
  refine ⟨evs_may H hv, ?_⟩
  clear hv
  induction st with
  | nil => simp [evs]
  | cons s st ih =>
    simp only [List.map_cons, List.nodup_cons] at hn
    rw [evs_cons, List.map_append, List.nodup_append]
    refine ⟨blkS_nodup H, ih hn.2, fun a ha b hb e => hn.1 ?_⟩
    subst e
    obtain ⟨e1, h1, rfl⟩ := List.mem_map.1 ha
    obtain ⟨e2, h2, hk⟩ := List.mem_map.1 hb
    obtain ⟨s', hs', h2⟩ := mem_evs.1 h2
    simp only [blkS, List.mem_cons, List.mem_map] at h1
    refine List.mem_map.2 ⟨s', hs', ?_⟩
    rcases h1 with rfl | ⟨i, hi, rfl⟩ <;> rcases h2 with rfl | ⟨j, hj, rfl⟩
    · simp only [popE_key, Prod.mk.injEq, sI_inj, true_and] at hk
      rw [hk.1, Int.ofNat.inj hk.2]
    · simp [popE_key, scanE_key] at hk
    · simp [popE_key, scanE_key] at hk
    · simp only [scanE_key, Prod.mk.injEq, sI_inj, true_and] at hk
      obtain ⟨hx, hk⟩ := hk
      have hk := Int.ofNat.inj hk
      have e1 := (H.mem _ _ _ hi).2
      have e2 := (H.mem _ _ _ hj).2
      rw [hk, hx, e1] at e2
      rw [hx, e2]

theorem lastE_scans {q : List Ev} {side : Int} (h : ∀ e ∈ q, e.kind ≠ 0) : lastE (l ++ q) side = lastE l side := by
  unfold lastE
  rw [List.foldl_append]
  induction q generalizing l with
  | nil => rfl
  | cons e q ih =>
    rw [List.foldl_cons, if_neg fun hh => h e List.mem_cons_self hh.1]
    exact ih fun e he => h e (List.mem_cons_of_mem _ he)

theorem heads_blk (H : OutsOk g outs) {s : Stp} (hv : s.v < g.n) (h : HeadsE g l) {k : Nat} : HeadsE g (l ++ (blkS outs s).take k) := by
  intro i e he
  by_cases hi : i < l.length
  · rw [List.getElem?_append_left hi] at he
    have := h i e he
    rw [List.take_append_of_le_length (by omega)]
    exact this
  · rw [List.getElem?_append_right (by omega)] at he
    obtain ⟨j, rfl⟩ : ∃ j, i = l.length + j := ⟨i - l.length, by omega⟩
    rw [Nat.add_sub_cancel_left] at he
    rw [List.take_length_add_append]
    have hj : j < k := by
      have := (List.getElem?_eq_some_iff.1 he).1
      rw [List.length_take] at this; omega
    rw [List.getElem?_take_of_lt hj] at he
    rw [List.take_take, Nat.min_eq_left (by omega)]
    cases j with
    | zero =>
      have : e = popE s := by simpa [blkS] using he.symm
      subst this
      exact ⟨may_pop hv, fun hk => absurd rfl hk⟩
    | succ j =>
      have he : ((outs s.x s.v).map (scanE s.x))[j]? = some e := he
      rw [List.getElem?_map] at he
      cases ho : (outs s.x s.v)[j]? with
      | none => rw [ho] at he; cases he
      | some a =>
        rw [ho] at he
        obtain rfl := Option.some.inj he
        obtain ⟨h1, h2⟩ := H.mem _ _ _ (List.mem_of_getElem? ho)
        refine ⟨may_scan h1, fun _ => ?_⟩
        show lastE (l ++ popE s :: ((outs s.x s.v).map (scanE s.x)).take j) (sI s.x) = _
        rw [show l ++ popE s :: ((outs s.x s.v).map (scanE s.x)).take j = (l ++ [popE s]) ++ ((outs s.x s.v).map (scanE s.x)).take j by simp]
        rw [lastE_scans (by
          intro e he
          obtain ⟨i, _, rfl⟩ := List.mem_map.1 (List.mem_of_mem_take he)
          show (1 : Int) ≠ 0
          decide), lastE_snoc, if_pos ⟨rfl, rfl⟩]
        have h3 : g.arcs[a]? = some (arcAt g.arcs a) := by simp [arcAt, h1]
        show (s.v : Int) = match g.arcs[((a : Int)).toNat]? with
          | some b => if sI s.x = 1 then (b.t : Int) else (b.f : Int)
          | none => 0
        rw [Int.toNat_natCast, h3]
        dsimp only
        rw [← h2]
        cases s.x <;> rfl

theorem evs_heads' (H : OutsOk g outs) : ∀ {st : List Stp} {l : List Ev}, (∀ s ∈ st, s.v < g.n) → HeadsE g l → HeadsE g (l ++ evs outs st)
  | [], l, _, h => by rw [evs_nil, List.append_nil]; exact h
  | s :: st, l, hv, h => by
    rw [evs_cons, ← List.append_assoc]
    refine evs_heads' H (fun s hs => hv s (List.mem_cons_of_mem _ hs)) ?_
    have := heads_blk H (hv s List.mem_cons_self) h (k := (blkS outs s).length)
    rwa [List.take_length] at this

theorem evs_heads (H : OutsOk g outs) (hv : ∀ s ∈ st, s.v < g.n) : HeadsE g (evs outs st) := by
  have := evs_heads' (l := []) H hv fun i e h => by simp at h
  rwa [List.nil_append] at this

theorem HeadsE.take (h : HeadsE g l) (k : Nat) : HeadsE g (l.take k) := by
  intro i e he
  have hi : i < k := by
    have := (List.getElem?_eq_some_iff.1 he).1
    rw [List.length_take] at this; omega
  rw [List.getElem?_take_of_lt hi] at he
  rw [List.take_take, Nat.min_eq_left (by omega)]
  exact h i e he
theorem OnceE.take {n m : Nat} (h : OnceE n m l) (k : Nat) : OnceE n m (l.take k) := by
  intro i e he
  have hi : i < k := by
    have := (List.getElem?_eq_some_iff.1 he).1
    rw [List.length_take] at this; omega
  rw [List.getElem?_take_of_lt hi] at he
  rw [List.take_take, Nat.min_eq_left (by omega)]
  exact h i e he

theorem ofE_append {k s : Int} {a b : List Ev} : ofE k s (a ++ b) = ofE k s a ++ ofE k s b := by
  unfold ofE; rw [List.filter_append, List.map_append]

theorem isE_pop {s : Stp} {k : Int} {x : Bool} : isE k (sI x) (popE s) = (decide (k = 0) && decide (s.x = x)) := by
  show decide ((0 : Int) = k ∧ sI s.x = sI x) = _
  simp only [sI_inj, Bool.decide_and, eq_comm (a := (0 : Int))]
theorem isE_scan {x y : Bool} {i : Nat} {k : Int} : isE k (sI x) (scanE y i) = (decide (k = 1) && decide (y = x)) := by
  show decide ((1 : Int) = k ∧ sI y = sI x) = _
  simp only [sI_inj, Bool.decide_and, eq_comm (a := (1 : Int))]

/-- The steps of a side. -/
def onS (x : Bool) (st : List Stp) : List Stp := st.filter fun s => decide (s.x = x)

theorem onS_cons {x : Bool} {s : Stp} {st : List Stp} : onS x (s :: st) = if decide (s.x = x) = true then s :: onS x st else onS x st := by
  unfold onS; rw [List.filter_cons]
theorem onS_append {x : Bool} {a b : List Stp} : onS x (a ++ b) = onS x a ++ onS x b := List.filter_append ..
theorem mem_onS {x : Bool} {s : Stp} {st : List Stp} : s ∈ onS x st ↔ s ∈ st ∧ s.x = x := by simp [onS]

theorem filter_pops {x : Bool} : ∀ {st : List Stp}, (evs outs st).filter (isE 0 (sI x)) = (onS x st).map popE
  | [] => rfl
  | s :: st => by
    rw [evs_cons, List.filter_append, filter_pops, blkS, List.filter_cons]
    have h2 : ((outs s.x s.v).map (scanE s.x)).filter (isE 0 (sI x)) = [] := by
      rw [List.filter_eq_nil_iff]
      intro e he
      obtain ⟨i, _, rfl⟩ := List.mem_map.1 he
      rw [isE_scan]; simp
    rw [h2, isE_pop, onS_cons]
    cases h : decide (s.x = x)
    · simp
    · simp

theorem evs_pops {x : Bool} : ofE 0 (sI x) (evs outs st) = (onS x st).map fun s => (s.v : Int) := by
  unfold ofE
  rw [filter_pops, List.map_map]; rfl

theorem evs_scans {x : Bool} : ∀ {st : List Stp}, ofE 1 (sI x) (evs outs st) = nI ((onS x st).flatMap fun s => outs s.x s.v)
  | [] => rfl
  | s :: st => by
    rw [evs_cons, ofE_append, evs_scans, onS_cons]
    have hp : isE 1 (sI x) (popE s) = false := by rw [isE_pop]; simp
    cases h : decide (s.x = x) with
    | false =>
      have h2 : ofE 1 (sI x) (blkS outs s) = [] := by
        unfold ofE
        rw [List.map_eq_nil_iff, List.filter_eq_nil_iff]
        intro e he
        simp only [blkS, List.mem_cons, List.mem_map] at he
        rcases he with rfl | ⟨i, _, rfl⟩
        · rw [hp]; decide
        · rw [isE_scan, h]; simp
      rw [h2, List.nil_append]; rfl
    | true =>
      have h2 : ofE 1 (sI x) (blkS outs s) = nI (outs s.x s.v) := by
        unfold ofE blkS
        rw [List.filter_cons, hp, if_neg (by decide), List.filter_eq_self.2, List.map_map]
        · rfl
        · intro e he
          obtain ⟨i, _, rfl⟩ := List.mem_map.1 he
          rw [isE_scan, h]; rfl
      rw [h2, if_pos rfl, List.flatMap_cons]
      simp [nI]

theorem evs_label {x : Bool} {v : Nat} : labE (evs outs st) (sI x) v = ((onS x st).find? fun s => decide (s.v = v)).map Stp.d := by
  unfold labE
  rw [filter_pops]
  generalize onS x st = q
  induction q with
  | nil => rfl
  | cons s q ih =>
    rw [List.map_cons, List.find?_cons, List.find?_cons]
    have : ((popE s).id == (v : Int)) = decide (s.v = v) := by
      show ((s.v : Int) == (v : Int)) = _
      rw [Bool.eq_iff_iff, beq_iff_eq, decide_eq_true_eq]
      omega
    rw [this]
    cases decide (s.v = v)
    · exact ih
    · rfl

end
end Go.Mh
namespace Go.Mh
open Go

theorem nodup_sides {st : List Stp} (h : ∀ x, ((onS x st).map Stp.v).Nodup) : (st.map fun s => (s.x, s.v)).Nodup := by
  induction st with
  | nil => simp
  | cons s st ih =>
    rw [List.map_cons, List.nodup_cons]
    refine ⟨fun hm => ?_, ih fun x => ?_⟩
    · obtain ⟨s', hs', e⟩ := List.mem_map.1 hm
      simp only [Prod.mk.injEq] at e
      have := h s.x
      rw [onS_cons, if_pos (by simp), List.map_cons, List.nodup_cons] at this
      exact this.1 (List.mem_map.2 ⟨s', mem_onS.2 ⟨hs', e.1⟩, e.2⟩)
    · have := h x
      rw [onS_cons] at this
      split at this
      · rw [List.map_cons, List.nodup_cons] at this; exact this.2
      · exact this

theorem blkS_len {outs : Bool → Nat → List Nat} {s : Stp} : (blkS outs s).length = (outs s.x s.v).length + 1 := by simp [blkS]
theorem evs_len {outs : Bool → Nat → List Nat} {m : Nat} (h : ∀ x v, (outs x v).length ≤ m) : ∀ {st : List Stp}, (evs outs st).length ≤ (m + 1) * st.length
  | [] => by simp [evs_nil]
  | s :: st => by
    rw [evs_cons, List.length_append, blkS_len, List.length_cons, Nat.mul_add]
    have := evs_len h (st := st)
    have := h s.x s.v
    omega
theorem outG_len {g : G} {x : Bool} {v : Nat} : (outG g x v).length ≤ g.arcs.length := by
  cases x
  · exact Nat.le_trans (Nat.le_of_eq (outsP_length _ _ _)) List.countP_le_length
  · exact Nat.le_trans (Nat.le_of_eq (outsP_length _ _ _)) List.countP_le_length

/-- Two rows of steps, mixed. -/
def mixS (a b : List Stp) : Nat → List Stp
  | 0 => []
  | k + 1 => mixS a b k ++ (a[k]?.toList ++ b[k]?.toList)
theorem mixS_len {a b : List Stp} : ∀ {k : Nat}, (mixS a b k).length ≤ 2 * k
  | 0 => by simp [mixS]
  | k + 1 => by
    have := mixS_len (a := a) (b := b) (k := k)
    have h : ∀ o : Option Stp, o.toList.length ≤ 1 := fun o => by cases o <;> simp
    have h1 := h a[k]?
    have h2 := h b[k]?
    simp only [mixS, List.length_append]
    omega

theorem take_succ_opt {α : Type} {a : List α} {k : Nat} : a.take (k + 1) = a.take k ++ a[k]?.toList := List.take_add_one

theorem onS_all {x : Bool} {a : List Stp} (h : ∀ s ∈ a, s.x = x) : onS x a = a := List.filter_eq_self.2 fun s hs => by simpa using h s hs
theorem onS_none {x : Bool} {a : List Stp} (h : ∀ s ∈ a, s.x ≠ x) : onS x a = [] := List.filter_eq_nil_iff.2 fun s hs => by simpa using h s hs

theorem onS_mix {a b : List Stp} (ha : ∀ s ∈ a, s.x = false) (hb : ∀ s ∈ b, s.x = true) : ∀ k, onS false (mixS a b k) = a.take k ∧ onS true (mixS a b k) = b.take k
  | 0 => by simp [mixS, onS]
  | k + 1 => by
    obtain ⟨h1, h2⟩ := onS_mix ha hb k
    have e1 : ∀ s ∈ a[k]?.toList, s.x = false := fun s hs => ha s (List.mem_of_getElem? (Option.mem_toList.1 hs))
    have e2 : ∀ s ∈ b[k]?.toList, s.x = true := fun s hs => hb s (List.mem_of_getElem? (Option.mem_toList.1 hs))
    simp only [mixS, onS_append, h1, h2, take_succ_opt]
    rw [onS_all e1, onS_none (x := false) (a := b[k]?.toList) fun s hs => by rw [e2 s hs]; decide, onS_none (x := true) (a := a[k]?.toList) fun s hs => by rw [e1 s hs]; decide, onS_all e2]
    simp

/-- The steps of a flood. -/
def stpF (x : Bool) (t : Tr) : List Stp := t.order.map fun v => ⟨x, v, dAt t.dist v⟩
theorem stpF_x {x : Bool} {t : Tr} : ∀ s ∈ stpF x t, s.x = x := fun s hs => by
  obtain ⟨v, _, rfl⟩ := List.mem_map.1 hs; rfl
theorem stpF_len {x : Bool} {t : Tr} : (stpF x t).length = t.order.length := List.length_map ..

def stF (g : G) (v : Nat) (k : Nat) : List Stp := mixS (stpF false (g.from v)) (stpF true (g.to v)) k
def evF (g : G) (v : Nat) : List Ev := evs (outG g) (stF g v (max (g.from v).order.length (g.to v).order.length))

section
variable {g : G} {v : Nat}

def treeS (g : G) (x : Bool) (v : Nat) : Tr := if x then g.to v else g.from v

theorem onS_stF (x : Bool) : onS x (stF g v (max (g.from v).order.length (g.to v).order.length)) = stpF x (treeS g x v) := by
  have h := onS_mix (a := stpF false (g.from v)) (b := stpF true (g.to v)) stpF_x stpF_x (max (g.from v).order.length (g.to v).order.length)
  cases x with
  | false => rw [stF, h.1, List.take_of_length_le (by rw [stpF_len]; omega)]; rfl
  | true => rw [stF, h.2, List.take_of_length_le (by rw [stpF_len]; omega)]; rfl

theorem mem_mixS {a b : List Stp} {s : Stp} : ∀ {k : Nat}, s ∈ mixS a b k → s ∈ a ∨ s ∈ b
  | 0, h => by simp [mixS] at h
  | k + 1, h => by
    simp only [mixS, List.mem_append] at h
    rcases h with h | h | h
    · exact mem_mixS h
    · exact .inl (List.mem_of_getElem? (Option.mem_toList.1 h))
    · exact .inr (List.mem_of_getElem? (Option.mem_toList.1 h))

theorem treeS_of (hR : g.Right) (hv : v < g.n) (x : Bool) : TreeOf g.arcs (tlS x) (hdS x) g.n v (treeS g x v) := by
  cases x
  · exact from_tree hR hv
  · exact to_tree hR hv

theorem stF_lt (hR : g.Right) (hv : v < g.n) {k : Nat} : ∀ s ∈ stF g v k, s.v < g.n := fun s hs => by
  rcases mem_mixS hs with h | h
  · obtain ⟨u, hu, rfl⟩ := List.mem_map.1 h
    exact (treeS_of hR hv false).range u hu
  · obtain ⟨u, hu, rfl⟩ := List.mem_map.1 h
    exact (treeS_of hR hv true).range u hu

theorem evF_once (hR : g.Right) (hv : v < g.n) : OnceE g.n g.arcs.length (evF g v) := by
  refine evs_once outG_ok (stF_lt hR hv) (nodup_sides fun x => ?_)
  rw [onS_stF, stpF, List.map_map]
  have : (treeS g x v).order.map ((fun s => s.v) ∘ fun v_1 => (⟨x, v_1, dAt (treeS g x v).dist v_1⟩ : Stp)) = (treeS g x v).order := by
    simp [Function.comp_def]
  rw [this]
  exact (treeS_of hR hv x).nodup

theorem evF_heads (hR : g.Right) (hv : v < g.n) : HeadsE g (evF g v) := evs_heads outG_ok (stF_lt hR hv)

theorem evF_pops {x : Bool} : ofE 0 (sI x) (evF g v) = nI (treeS g x v).order := by
  rw [evF, evs_pops, onS_stF, stpF, List.map_map]; rfl

theorem evF_label (hR : g.Right) (hv : v < g.n) {x : Bool} {u : Nat} (hu : u < g.n) : labE (evF g v) (sI x) u = if dAt (treeS g x v).dist u < far then some (dAt (treeS g x v).dist u) else none := by
  have T := treeS_of hR hv x
  rw [evF, evs_label, onS_stF]
  have key : ∀ (l : List Nat), (((l.map fun w => (⟨x, w, dAt (treeS g x v).dist w⟩ : Stp)).find? fun s => decide (s.v = u)).map Stp.d) = if u ∈ l then some (dAt (treeS g x v).dist u) else none := by
    intro l
    induction l with
    | nil => rfl
    | cons w l ih =>
      rw [List.map_cons, List.find?_cons]
      by_cases h : w = u
      · subst h; simp
      · rw [show (decide ((⟨x, w, dAt (treeS g x v).dist w⟩ : Stp).v = u)) = false by simpa using h]
        refine ih.trans ?_
        have hm : u ∈ l ↔ u ∈ w :: l := by
          rw [List.mem_cons]
          exact ⟨.inr, fun hh => hh.resolve_left fun e => h e.symm⟩
        by_cases hl : u ∈ l
        · rw [if_pos hl, if_pos (hm.1 hl)]
        · rw [if_neg hl, if_neg fun hh => hl (hm.2 hh)]
  rw [stpF, key]
  by_cases h : u ∈ (treeS g x v).order
  · rw [if_pos h, if_pos ((T.reached u hu).1 h)]
  · rw [if_neg h, if_neg fun hl => h ((T.reached u hu).2 hl)]

theorem evF_kind : ∀ e ∈ evF g v, e.kind = 0 ∨ e.kind = 1 := fun e he => by
  obtain ⟨s, _, rfl | ⟨i, _, rfl⟩⟩ := mem_evs.1 he
  · exact .inl rfl
  · exact .inr rfl

theorem evF_len (hR : g.Right) (hv : v < g.n) : (evF g v).length ≤ (g.arcs.length + 1) * (2 * g.n) := by
  refine Nat.le_trans (evs_len (m := g.arcs.length) fun _ _ => outG_len) (Nat.mul_le_mul_left _ (Nat.le_trans mixS_len ?_))
  have h1 := nodup_le (treeS_of hR hv false).nodup (treeS_of hR hv false).range
  have h2 := nodup_le (treeS_of hR hv true).nodup (treeS_of hR hv true).range
  have h1 : (g.from v).order.length ≤ g.n := h1
  have h2 : (g.to v).order.length ≤ g.n := h2
  omega

end
end Go.Mh

namespace Go.Mh
open Go Go.ChangeShapes Go.WideShapes Go.ChangeAt Go.RowKit

section
variable {H : Type} {encD : TypeId × Value → H} {P : Program} {w : World} {e t : TypeId} {v : Value} {r : Reach} {base : Nat} {d : DataW H} {p : List MemPlace}

/-- An array of three numbers, given. -/
theorem arr3_of {k : IntKind} (ht : P.underlying t = some (.array 3 e)) (he : P.underlying e = some (.int k)) (hct : P.cellsOf t = 3) (hce : P.cellsOf e = 1) (hv : Value.okWide P w r base t v) (hd : DataW.Trod encD P w 0 (fun _ => true) true t v d p) :
    ∃ a b c : Int, v = .agg #[.int k a, .int k b, .int k c] ∧ (k.min ≤ a ∧ a ≤ k.max) ∧ (k.min ≤ b ∧ b ≤ k.max) ∧ (k.min ≤ c ∧ c ≤ k.max) := by
  simp only [Value.okWide, ht] at hv
  obtain ⟨cs, rfl, hsz, _⟩ := hv
  rw [hct] at hsz
  obtain ⟨l⟩ := cs
  match l, hsz with
  | [c0, c1, c2], _ =>
    obtain ⟨fuel, hf⟩ := hd
    cases fuel with
    | zero => simp [DataW.trod] at hf
    | succ n =>
      simp only [Value.cells] at hf
      unfold DataW.trod at hf
      rw [ht] at hf
      have r3 : List.range 3 = [0, 1, 2] := rfl
      simp [r3, hce] at hf
      obtain ⟨_, hf⟩ := hf
      cases h0 : DataW.trod encD P w 0 (fun _ => true) true n e [c0] with
      | none => simp [h0] at hf
      | some y0 =>
        cases h1 : DataW.trod encD P w 0 (fun _ => true) true n e [c1] with
        | none => simp [h0, h1] at hf
        | some y1 =>
          cases h2 : DataW.trod encD P w 0 (fun _ => true) true n e [c2] with
          | none => simp [h0, h1, h2] at hf
          | some y2 =>
            obtain ⟨a, ea, ra⟩ := dec_int (k := k) he _ _ _ h0
            obtain ⟨b, eb, rb⟩ := dec_int (k := k) he _ _ _ h1
            obtain ⟨c, ec, rc⟩ := dec_int (k := k) he _ _ _ h2
            simp only [List.cons.injEq, and_true] at ea eb ec
            subst ea eb ec
            exact ⟨a, b, c, rfl, ra, rb, rc⟩

end
end Go.Mh

namespace Go.Mh
open Go Go.ChangeShapes Go.WideShapes Go.ChangeAt Go.RowKit

section
variable {H : Type} {encD : TypeId × Value → H} {P : Program} {w : World} {α : Type} {enc : α → List Value} {ok : α → Prop} {n : Nat} {e t : TypeId} {v : Value} {r : Reach} {base : Nat} {d : DataW H} {p : List MemPlace} {cs : List Value}

theorem view_at {fuel : Nat} {x0 : DataW H × List MemPlace} (he : ∀ a, (enc a).length = n) (ht : P.underlying t = some (.slice e)) (hn : P.cellsOf e = n) (hpos : 0 < n)
    (hdec : ∀ fuel cs x, DataW.trod encD P w 0 (fun _ => true) true fuel e cs = some x → ∃ a, cs = enc a ∧ ok a)
    (hf : DataW.trod encD P w 0 (fun _ => true) true fuel t [v] = some x0) (hsp0 : ∀ a l c, v = .slice (some a) l c → a.spot = none) :
    ∃ bl xs, VwR enc n w.heap v bl xs ∧ (∀ a ∈ xs, ok a) ∧ xs.length ≤ maxLen := by
  rcases Go.Deep.open_slice ht hf with ⟨hc, _⟩ | ⟨a, len, cap, m, fuel', D, Pl, hc, _, hle, hmx, hm, _, hx⟩
  · simp only [List.cons.injEq, and_true] at hc
    subst hc
    exact ⟨0, [], ⟨none, 0, rfl, Nat.le_refl _, .inl ⟨rfl, .inl rfl⟩⟩, by simp, by simp⟩
  · simp only [List.cons.injEq, and_true] at hc
    subst hc
    have hsp := hsp0 a len cap rfl
    simp only [if_true] at hm
    subst hm
    have hall : ∀ i, i < len → ∃ x : α, w.cells? 0 (a.add (i * n)) n = some (enc x) ∧ ok x := by
      intro i hi
      obtain ⟨cs', h1, h2⟩ := hx i (by omega)
      obtain ⟨x, rfl, hok⟩ := hdec _ _ _ h2
      rw [hn] at h1
      exact ⟨x, h1, hok⟩
    obtain ⟨xs, hl, hxs⟩ := choose_list (Q := fun i x => w.cells? 0 (a.add (i * n)) n = some (enc x) ∧ ok x) len hall
    refine ⟨a.block, xs, ?_, fun x hx' => ?_, by omega⟩
    · refine ⟨some a, m, by rw [hl], by omega, ?_⟩
      have ha : a = ⟨a.block, a.off, none⟩ := by
        obtain ⟨b, o, s⟩ := a; simp only at hsp; subst hsp; rfl
      by_cases h0 : xs = []
      · exact .inl ⟨h0, .inr ⟨_, _, by rw [← ha]⟩⟩
      · right
        have hlp : 0 < xs.length := List.length_pos_iff.2 h0
        have hcell : ∀ i (hi : i < xs.length) j, j < n → w.cell? ⟨a.block, a.off + i * n + j, none⟩ = (enc xs[i])[j]? := by
          intro i hi j hj
          have h1 := (hxs i hi).1
          unfold World.cells? at h1
          rw [if_pos (Nat.zero_le _), add_plain hsp] at h1
          have := mapM_get h1 j j (by simp [hj])
          rw [add_plain rfl] at this
          exact this
        have h00 := hcell 0 hlp 0 hpos
        simp only [World.cell?] at h00
        have hblk : ∃ c T fz, w.heap[a.block]? = some (.cells c T fz) := by
          split at h00
          · rename_i c T fz hb; exact ⟨c, T, fz, hb⟩
          · rw [List.getElem?_eq_getElem (by rw [he]; exact hpos)] at h00; cases h00
        obtain ⟨c, T, fz, hb⟩ := hblk
        have hcc : ∀ i (hi : i < xs.length) j, j < n → c[a.off + i * n + j]? = (enc xs[i])[j]? := by
          intro i hi j hj
          have := hcell i hi j hj
          simpa [World.cell?, hb] using this
        have hrl := row_length he xs
        have hmid : (c.toList.drop a.off).take (xs.length * n) = row enc xs := by
          apply List.ext_getElem?
          intro k
          by_cases hk : k < xs.length * n
          · have hi : k / n < xs.length := (Nat.div_lt_iff_lt_mul hpos).2 hk
            have hj : k % n < n := Nat.mod_lt _ hpos
            have hkk : k / n * n + k % n = k := by rw [Nat.mul_comm]; exact Nat.div_add_mod k n
            have g := row_get he hi hj []
            rw [List.append_nil, hkk] at g
            rw [g, ← hcc _ hi _ hj, List.getElem?_take_of_lt hk, List.getElem?_drop, Nat.add_assoc, hkk]
            simp
          · rw [List.getElem?_eq_none (by simp; omega), List.getElem?_eq_none (by omega)]
        have hsize : a.off + xs.length * n ≤ c.size := by
          have hi : xs.length - 1 < xs.length := by omega
          have h1 := hcc (xs.length - 1) hi (n - 1) (by omega)
          rw [List.getElem?_eq_getElem (by rw [he]; omega)] at h1
          have h2 := (Array.getElem?_eq_some_iff.1 h1).1
          have h3 : (xs.length - 1) * n + n = xs.length * n := by rw [← Nat.succ_mul]; congr 1; omega
          omega
        refine ⟨a.off, c.toList.take a.off, c.toList.drop (a.off + xs.length * n), T, fz, by rw [← ha], ?_, by simp; omega⟩
        rw [hb, ← hmid]
        have : c.toList.take a.off ++ (c.toList.drop a.off).take (xs.length * n) ++ c.toList.drop (a.off + xs.length * n) = c.toList := by
          rw [← List.drop_drop, List.append_assoc, List.take_append_drop, List.take_append_drop]
        rw [this]
    · obtain ⟨i, hi, rfl⟩ := List.mem_iff_getElem.1 hx'
      exact (hxs i hi).2


/-- Cells of a type, given: they can be gone through, and slices among them begin at no spot. -/
def Opn (encD : TypeId × Value → H) (P : Program) (w : World) (t : TypeId) (cs : List Value) : Prop :=
  (∃ fuel x, DataW.trod encD P w 0 (fun _ => true) true fuel t cs = some x) ∧ ∀ v ∈ cs, ∀ a l c, v = .slice (some a) l c → a.spot = none

theorem cell_spot {a : Addr} {l c : Nat} (h : Cell.okWide P w r base t (.slice (some a) l c)) : a.spot = none := by
  unfold Cell.okWide at h
  cases hu : P.underlying t with
  | none => simp [hu, Cell.ok] at h
  | some u =>
    cases u <;> simp [hu, Cell.ok] at h
    exact h.2.2.2.1

theorem Opn.of_slice (ht : P.underlying t = some (.slice e)) (hv : Value.okWide P w r base t v) (hd : DataW.Trod encD P w 0 (fun _ => true) true t v d p) : Opn encD P w t [v] := by
  obtain ⟨a0, len0, cap0, rfl⟩ := okWide_slice ht hv
  obtain ⟨fuel, hf⟩ := hd
  refine ⟨⟨fuel, _, hf⟩, fun v hv' a l c e' => ?_⟩
  simp at hv'
  subst hv'
  injection e' with e1 e2 e3
  subst e1
  exact okWide_slice_spot ht hv

def isAgg (P : Program) (t : TypeId) : Bool := match P.underlying t with
  | some (.struct _) | some (.array _ _) => true
  | _ => false

theorem agg_of (ha : isAgg P t = true) (hn : P.cellsOf t = n) (hv : Value.okWide P w r base t v) (hd : DataW.Trod encD P w 0 (fun _ => true) true t v d p) :
    ∃ cs : List Value, v = .agg cs.toArray ∧ cs.length = n ∧ Opn encD P w t cs := by
  have : ∃ cs, v = .agg cs ∧ cs.size = P.cellsOf t ∧ Row.okWide P w r base t cs := by
    unfold Value.okWide at hv
    unfold isAgg at ha
    split at hv
    · exact hv
    · exact hv
    · rename_i h1 h2
      split at ha
      · rename_i h3; exact absurd h3 (h1 _)
      · rename_i h3; exact absurd h3 (h2 _ _)
      · cases ha
  obtain ⟨cs, rfl, hs, ts, _, _, hc⟩ := this
  obtain ⟨fuel, hf⟩ := hd
  refine ⟨cs.toList, by simp, by simpa [hn] using hs, ⟨fuel, _, hf⟩, fun v hv a l c e => ?_⟩
  obtain ⟨i, hi⟩ := List.getElem?_of_mem hv
  obtain ⟨u, _, hu⟩ := hc i v (by simpa using hi)
  rw [e] at hu
  exact cell_spot hu

def fieldOf (P : Program) (t : TypeId) (i : Nat) : Option (TypeId × Nat) := match P.underlying t with
  | some (.struct fs) => fs.toList[i]?.map fun f => (f.type, f.offset)
  | _ => none

theorem Opn.field (O : Opn encD P w t cs) (i : Nat) {ft : TypeId} {off : Nat} {cs' : List Value} (hf : fieldOf P t i = some (ft, off)) (hn : P.cellsOf ft = n) (hcs : (cs.drop off).take n = cs') : Opn encD P w ft cs' := by
  obtain ⟨⟨fuel, x, h⟩, hs⟩ := O
  unfold fieldOf at hf
  split at hf
  · rename_i fs ht
    obtain ⟨xs, m, rfl, _, _, _, hfs⟩ := DataW.trod_struct ht h
    simp only [Option.map_eq_some_iff] at hf
    obtain ⟨f, hi, e⟩ := hf
    injection e with e1 e2
    subst e1 e2 hn hcs
    refine ⟨⟨m, ?_⟩, fun v hv => hs v (List.mem_of_mem_drop (List.mem_of_mem_take hv))⟩
    have hh := hfs i f (by simpa using hi)
    obtain ⟨y, hy⟩ : ∃ y, xs[i]? = some y := by
      have : i < xs.length := by
        have := (List.getElem?_eq_some_iff.1 hi).1
        simp_all
      exact ⟨_, List.getElem?_eq_getElem this⟩
    exact ⟨y, by rw [hh, hy]⟩
  · cases hf

theorem Opn.elem {m : Nat} (O : Opn encD P w t cs) (i : Nat) {cs' : List Value} (ht : P.underlying t = some (.array m e)) (hi : i < m) (hn : P.cellsOf e = n) (hcs : (cs.drop (i * n)).take n = cs') : Opn encD P w e cs' := by
  obtain ⟨⟨fuel, x, h⟩, hs⟩ := O
  obtain ⟨xs, k, rfl, _, _, hl, hfs⟩ := DataW.trod_array ht h
  subst hn hcs
  refine ⟨⟨k, xs[i], ?_⟩, fun v hv => hs v (List.mem_of_mem_drop (List.mem_of_mem_take hv))⟩
  rw [hfs i hi, List.getElem?_eq_getElem (by omega)]

theorem Opn.int {k : IntKind} (O : Opn encD P w t [v]) (ht : P.underlying t = some (.int k)) : ∃ a : Int, v = .int k a ∧ k.min ≤ a ∧ a ≤ k.max := by
  obtain ⟨⟨fuel, x, h⟩, _⟩ := O
  obtain ⟨a, e, r⟩ := dec_int ht _ _ _ h
  simp only [List.cons.injEq, and_true] at e
  exact ⟨a, e, r⟩

theorem Opn.view (he : ∀ a, (enc a).length = n) (O : Opn encD P w t [v]) (ht : P.underlying t = some (.slice e)) (hn : P.cellsOf e = n) (hpos : 0 < n)
    (hdec : ∀ fuel cs x, DataW.trod encD P w 0 (fun _ => true) true fuel e cs = some x → ∃ a, cs = enc a ∧ ok a) : ∃ bl xs, VwR enc n w.heap v bl xs ∧ (∀ a ∈ xs, ok a) ∧ xs.length ≤ maxLen := by
  obtain ⟨⟨fuel, x, h⟩, hs⟩ := O
  exact view_at he ht hn hpos hdec h (hs v (by simp))

theorem dec_bool (he : P.underlying e = some .bool) {sp : Nat → Bool} : ∀ fuel cs x, DataW.trod encD P w 0 sp true fuel e cs = some x → ∃ a : Bool, cs = [.bool a] ∧ True := by
  intro fuel cs x h
  cases fuel with
  | zero => simp [DataW.trod] at h
  | succ m =>
    unfold DataW.trod at h
    rw [he] at h
    split at h <;> simp_all

theorem len2 {l : List Value} (h : l.length = 2) : ∃ a b, l = [a, b] := by match l, h with | [a, b], _ => exact ⟨a, b, rfl⟩
theorem len3 {l : List Value} (h : l.length = 3) : ∃ a b c, l = [a, b, c] := by match l, h with | [a, b, c], _ => exact ⟨a, b, c, rfl⟩
theorem len4 {l : List Value} (h : l.length = 4) : ∃ a b c d, l = [a, b, c, d] := by match l, h with | [a, b, c, d], _ => exact ⟨a, b, c, d, rfl⟩
theorem len5 {l : List Value} (h : l.length = 5) : ∃ a b c d e, l = [a, b, c, d, e] := by match l, h with | [a, b, c, d, e], _ => exact ⟨a, b, c, d, e, rfl⟩
theorem len6 {l : List Value} (h : l.length = 6) : ∃ a b c d e f, l = [a, b, c, d, e, f] := by match l, h with | [a, b, c, d, e, f], _ => exact ⟨a, b, c, d, e, f, rfl⟩
theorem len7 {l : List Value} (h : l.length = 7) : ∃ a b c d e f g, l = [a, b, c, d, e, f, g] := by match l, h with | [a, b, c, d, e, f, g], _ => exact ⟨a, b, c, d, e, f, g, rfl⟩
theorem len8 {l : List Value} (h : l.length = 8) : ∃ a b c d e f g i, l = [a, b, c, d, e, f, g, i] := by match l, h with | [a, b, c, d, e, f, g, i], _ => exact ⟨a, b, c, d, e, f, g, i, rfl⟩

/-- Numbers of a kind. -/
def encK (k : IntKind) (x : Int) : List Value := [.int k x]
theorem encK_len (k : IntKind) (x : Int) : (encK k x).length = 1 := rfl
def encB (x : Bool) : List Value := [.bool x]

end
end Go.Mh

/-! Arguments of which it is known how much memory they take. -/
namespace Go.Mh
open Go Go.ChangeShapes Go.WideShapes Go.ChangeAt Go.RowKit

section
variable {H : Type} {enc encD : TypeId × Value → H} {P : Program} {w W W' : World} {n : Nat} {e t : TypeId} {v : Value} {r : Reach} {base : Nat} {d : DataW H} {p : List MemPlace} {cs : List Value} {B : Nat}

/-- As law_laid; the arguments take no more memory than may be. -/
theorem law_laidS {C : Checked} {os : Os} {f : FuncId} {fn : Func} {s : ChangeSpec} {conds : List PathCond} {tb : TypeId} {X : World → Array Value → Prop}
    (hX : ∀ (w w' : World) (args : Array Value), w.heap = w'.heap → X w args → X w' args)
    (own : ownKnob C.prog.godebug = none) (started : os.Started) (noInit : C.prog.inits.idxOf? f = none) (hfn : C.prog.funcs[f]? = some fn)
    (witness : ∃ (w : World) (tape : Tape) (i : Input), w.os = os ∧ (w.forCall tape i).Shaped C.prog ∧ i.vars = [] ∧ Input.okWide C.prog (w.forCall tape i) .any w.heap.size f i ∧
      ((s.pre enc C.prog fn conds false (w.forCall tape i).memory i.args ∧ X (w.forCall tape i).memory i.args) ∧ sizedMet enc C.prog fn (OpenSpec.ofChange s) false (w.forCall tape i).memory i.args) ∧ ({} : Assume).holds C.prog (lone (Frame.enter C.prog f i.args .normal) [] (w.forCall tape i)))
    (hvars : s.vars = []) (hres : fn.resultTypes = #[tb]) (htb : C.prog.underlying tb = some .bool)
    (hspec : ∀ ds : List (DataW H), ds.length = fn.params.toList.length → s.fn H ds = { results := [.lit (.bool true)], args := ds })
    (kids : Kids C.prog (· < C.prog.types.size)) (full : ∀ t e, t < C.prog.types.size → C.prog.underlying t = some (.slice e) → 0 < C.prog.cellsOf e) (hpar : ∀ t ∈ fn.params.toList, t < C.prog.types.size)
    (hcall : ∀ (W : World) (base : Nat) (args : Array Value) (ds : List (DataW H)) (ps : List MemPlace), (∀ (j : Nat) t v, fn.params[j]? = some t → args[j]? = some v → Value.okWide C.prog W .any base t v) →
      DataW.TrodAll enc C.prog W 0 (fun _ => true) true fn.params.toList args.toList ds ps → (∀ q ∈ DataW.weightsEach C.prog fn.params.toList ds, q ≤ reachBytes) →
      CallsH C.prog f args W.heap fun v h' => v = .bool true ∧ Ext W.heap h') :
    ReturnsInHanded {} C os f .any (fun w args => (s.pre enc C.prog fn conds false w args ∧ X w args) ∧ sizedMet enc C.prog fn (OpenSpec.ofChange s) false w args) (s.post enc C.prog fn false true false false) := by
  refine returnsInHanded_of_change_and hX own started noInit hfn witness ?_
  intro W base args ds gs before hval hW hcnd hwt _ _
  have hW' := hW
  obtain ⟨p, q, hA, hV, rfl, hfz, hnd⟩ := hW
  rw [hvars] at hV
  obtain ⟨rfl, rfl⟩ := trodVars_none hV
  have hvt : s.plain.varTypes C.prog = [] := by
    have : s.plain.vars = [] := hvars
    simp [DataSpec.varTypes, this]
  rw [hvt, List.append_nil, List.append_nil] at hwt
  refine calls_of_H (hcall W base args ds p hval hA fun q hq => by simpa using List.all_eq_true.1 hwt q hq) fun v w' hs hv => ⟨v, rfl, ?_⟩
  obtain ⟨rfl, hx⟩ := hv
  have hlt : ∀ x ∈ p, x.block < W.heap.size := fun x hx => hW'.lt x (by simpa using hx)
  have hsp := hspec ds (trodAll_length hA)
  unfold ChangeSpec.post
  refine ⟨ds, [], p ++ [], [], p, [], hW', ?_, ?_, ?_, kept_of_ext hs hx _, fun h => by cases h⟩
  · rw [List.append_nil, hsp, hres]
    exact trodAll_mk1 ⟨1, by simp [DataW.trod, htb, Value.cells]⟩
  · rw [List.append_nil, hsp]
    exact trodAll_carry (DataW.TrodAll.respare kids full hpar hA fun x hx => by simpa using hlt x hx) fun x hx' => sameAt_of_ext hx (hlt x hx')
  · rw [List.append_nil, hsp, hvars]; rfl

/-- Cells of a type, given, of which no part takes more memory than B. -/
def OpnW (encD : TypeId × Value → H) (P : Program) (w : World) (B : Nat) (t : TypeId) (cs : List Value) : Prop :=
  (∃ fuel x, DataW.trod encD P w 0 (fun _ => true) true fuel t cs = some x ∧ ∀ q ∈ DataW.weights P t x.1, q ≤ B) ∧ ∀ v ∈ cs, ∀ a l c, v = .slice (some a) l c → a.spot = none

theorem OpnW.opn (O : OpnW encD P w B t cs) : Opn encD P w t cs := by
  obtain ⟨⟨fuel, x, h, _⟩, hs⟩ := O
  exact ⟨⟨fuel, x, h⟩, hs⟩

theorem agg_ofW (ha : isAgg P t = true) (hn : P.cellsOf t = n) (hv : Value.okWide P w r base t v) (hd : DataW.Trod encD P w 0 (fun _ => true) true t v d p) (hw : ∀ q ∈ DataW.weights P t d, q ≤ B) :
    ∃ cs : List Value, v = .agg cs.toArray ∧ cs.length = n ∧ OpnW encD P w B t cs := by
  obtain ⟨cs, rfl, hl, ⟨_, hs⟩⟩ := agg_of ha hn hv hd
  obtain ⟨fuel, hf⟩ := hd
  exact ⟨cs, rfl, hl, ⟨fuel, _, by simpa [Value.cells] using hf, hw⟩, hs⟩

theorem weightsEach_get {q : Nat} : ∀ {ts : List TypeId} {ds : List (DataW H)} {i : Nat} {u : TypeId} {d : DataW H}, ts[i]? = some u → ds[i]? = some d → q ∈ DataW.weights P u d → q ∈ DataW.weightsEach P ts ds
  | t :: ts, d :: ds, 0, u, x, h1, h2, hq => by
    simp at h1 h2
    subst h1 h2
    simp only [DataW.weightsEach]
    exact List.mem_append_left _ hq
  | t :: ts, d :: ds, i + 1, u, x, h1, h2, hq => by
    simp only [DataW.weightsEach]
    exact List.mem_append_right _ (weightsEach_get (by simpa using h1) (by simpa using h2) hq)
  | [], _, _, _, _, h1, _, _ => by simp at h1
  | _ :: _, [], _, _, _, _, h2, _ => by simp at h2

theorem OpnW.field (O : OpnW encD P w B t cs) (i : Nat) {ft : TypeId} {off : Nat} {cs' : List Value} (hf : fieldOf P t i = some (ft, off)) (hn : P.cellsOf ft = n) (hcs : (cs.drop off).take n = cs') : OpnW encD P w B ft cs' := by
  have O' := (O.opn.field i hf hn hcs).2
  obtain ⟨⟨fuel, x, h, hw⟩, hs⟩ := O
  refine ⟨?_, O'⟩
  unfold fieldOf at hf
  split at hf
  · rename_i fs ht
    obtain ⟨xs, m, rfl, rfl, _, _, hfs⟩ := DataW.trod_struct ht h
    simp only [Option.map_eq_some_iff] at hf
    obtain ⟨f, hi, e⟩ := hf
    injection e with e1 e2
    subst e1 e2 hn hcs
    have hh := hfs i f (by simpa using hi)
    obtain ⟨y, hy⟩ : ∃ y, xs[i]? = some y := by
      have : i < xs.length := by
        have := (List.getElem?_eq_some_iff.1 hi).1
        simp_all
      exact ⟨_, List.getElem?_eq_getElem this⟩
    refine ⟨m, y, by rw [hh, hy], fun q hq => hw q ?_⟩
    simp only [DataW.weights, ht]
    exact weightsEach_get (i := i) (by simp [hi]) (by simp [hy]) hq
  · cases hf

/-- A slice takes no more memory than may be. -/
theorem OpnW.len {α : Type} {enc : α → List Value} {bl : Nat} {xs : List α} {h : Heap} {b : Nat} (O : OpnW encD P w B t [v]) (ht : P.underlying t = some (.slice e)) (hb : P.bytesOf e = b) (H : VwR enc n h v bl xs) : xs.length * b ≤ B := by
  obtain ⟨⟨fuel, x, hx, hw⟩, _⟩ := O
  obtain ⟨bs, cap, rfl, _⟩ := H
  rcases Go.Deep.open_slice ht hx with ⟨hc, _⟩ | ⟨a, len, cap', m, fuel', D, Pl, hc, _, _, _, _, rfl, _⟩
  · simp only [List.cons.injEq, and_true] at hc
    injection hc with _ hl _
    rw [hl]; simp
  · simp only [List.cons.injEq, and_true] at hc
    injection hc with _ hl _
    have := hw (((List.range len).map D).length * P.bytesOf e + ((List.range (m - len)).map fun j => D (len + j)).length * P.bytesOf e) (by
      simp only [DataW.weights, ht]
      rw [← Nat.add_mul]
      exact List.mem_cons_self ..)
    rw [hb] at this
    simp at this
    rw [hl]; omega

end
end Go.Mh

namespace Go.Mh
open Go Go.ChangeShapes Go.WideShapes Go.ChangeAt Go.RowKit

section
variable {H : Type} {encD : TypeId × Value → H} {P : Program} {w : World} {n : Nat} {e t : TypeId} {v : Value} {r : Reach} {base : Nat} {d : DataW H} {p : List MemPlace}

theorem trod_field {fuel : Nat} {cs : List Value} {x : DataW H × List MemPlace} {sp : Nat → Bool} (h : DataW.trod encD P w 0 sp true fuel t cs = some x) (i : Nat) {ft : TypeId} {off : Nat} {cs' : List Value}
    (hf : fieldOf P t i = some (ft, off)) (hn : P.cellsOf ft = n) (hcs : (cs.drop off).take n = cs') : ∃ m y, DataW.trod encD P w 0 sp true m ft cs' = some y := by
  unfold fieldOf at hf
  split at hf
  · rename_i fs ht
    obtain ⟨xs, m, rfl, _, _, _, hfs⟩ := DataW.trod_struct ht h
    simp only [Option.map_eq_some_iff] at hf
    obtain ⟨f, hi, e⟩ := hf
    injection e with e1 e2
    subst e1 e2 hn hcs
    refine ⟨m, ?_⟩
    have hh := hfs i f (by simpa using hi)
    obtain ⟨y, hy⟩ : ∃ y, xs[i]? = some y := by
      have : i < xs.length := by
        have := (List.getElem?_eq_some_iff.1 hi).1
        simp_all
      exact ⟨_, List.getElem?_eq_getElem this⟩
    exact ⟨y, by rw [hh, hy]⟩
  · cases hf

theorem trod_len {fuel : Nat} {cs : List Value} {x : DataW H × List MemPlace} {sp : Nat → Bool} (h : DataW.trod encD P w 0 sp true fuel t cs = some x) (hf : (fieldOf P t 0).isSome = true) : cs.length = P.cellsOf t := by
  unfold fieldOf at hf
  split at hf
  · rename_i fs ht
    obtain ⟨xs, m, rfl, _, hl, _, hfs⟩ := DataW.trod_struct ht h
    exact hl
  · cases hf

/-- An event, given. -/
theorem dec_ev {t0 t1 t2 t3 : TypeId} (f0 : fieldOf P e 0 = some (t0, 0)) (f1 : fieldOf P e 1 = some (t1, 1)) (f2 : fieldOf P e 2 = some (t2, 2)) (f3 : fieldOf P e 3 = some (t3, 3)) (hc : P.cellsOf e = 4)
    (h0 : P.underlying t0 = some (.int .i64)) (h1 : P.underlying t1 = some (.int .i64)) (h2 : P.underlying t2 = some (.int .i64)) (h3 : P.underlying t3 = some (.int .i64))
    (c0 : P.cellsOf t0 = 1) (c1 : P.cellsOf t1 = 1) (c2 : P.cellsOf t2 = 1) (c3 : P.cellsOf t3 = 1) {sp : Nat → Bool} :
    ∀ fuel cs x, DataW.trod encD P w 0 sp true fuel e cs = some x → ∃ a : Ev, cs = encE a ∧ True := by
  intro fuel cs x h
  have hl := trod_len h (by rw [f0]; rfl)
  rw [hc] at hl
  obtain ⟨a, b, c, d, rfl⟩ := len4 hl
  obtain ⟨m0, y0, g0⟩ := trod_field h 0 (cs' := [a]) f0 c0 rfl
  obtain ⟨m1, y1, g1⟩ := trod_field h 1 (cs' := [b]) f1 c1 rfl
  obtain ⟨m2, y2, g2⟩ := trod_field h 2 (cs' := [c]) f2 c2 rfl
  obtain ⟨m3, y3, g3⟩ := trod_field h 3 (cs' := [d]) f3 c3 rfl
  obtain ⟨za, ea, _⟩ := dec_int (k := .i64) h0 _ _ _ g0
  obtain ⟨zb, eb, _⟩ := dec_int (k := .i64) h1 _ _ _ g1
  obtain ⟨zc, ec, _⟩ := dec_int (k := .i64) h2 _ _ _ g2
  obtain ⟨zd, ed, _⟩ := dec_int (k := .i64) h3 _ _ _ g3
  simp only [List.cons.injEq, and_true] at ea eb ec ed
  subst ea eb ec ed
  exact ⟨⟨za, zb, zc, zd⟩, rfl, trivial⟩

end
end Go.Mh
