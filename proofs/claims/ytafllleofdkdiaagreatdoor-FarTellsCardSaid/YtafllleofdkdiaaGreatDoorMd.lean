/- Texts of the proofs of seat YtafllleofdkdiaaGreatDoor, joined: Build, Far2, Far3, Far4, ViewC. They have no conditions of their own. -/
import Derived.Test.YtafllleofdkdiaaGreatDoorMc
import Derived.Test.YtafllleofdkdiaaGreatDoorMb
set_option linter.unusedVariables false
set_option linter.unusedSimpArgs false

/-! A value built of parts of one cell each. -/
namespace Go.Mh
open Go

def setAll (cs : List Value) : List (Nat × Nat × Value) → List Value
  | [] => cs
  | (off, _, v) :: r => setAll (cs.set off v) r

def onesB (n : Nat) : List (Nat × Nat × Value) → Bool
  | [] => true
  | (off, size, _) :: r => Nat.beq size 1 && (Nat.blt off n && onesB n r)

theorem splice_set {cs : List Value} {off : Nat} {v : Value} (h : off < cs.length) (hv : v.cells = #[v]) : cs.take off ++ v.cells.toList ++ cs.drop (off + v.cells.size) = cs.set off v := by
  rw [hv, List.set_eq_take_append_cons_drop, if_pos h]; simp

theorem ones_of : ∀ {parts : List (Nat × Nat × Value)} {cs : List Value}, (∀ p ∈ parts, p.2.2.cells = #[p.2.2]) → onesB cs.length parts = true → sizesOk cs.length parts ∧ spliceAll cs parts = setAll cs parts
  | [], _, _, _ => ⟨trivial, rfl⟩
  | (off, size, v) :: r, cs, h1, h2 => by
    simp only [onesB, Bool.and_eq_true] at h2
    have hs : size = 1 := Nat.eq_of_beq_eq_true h2.1
    have ho : off < cs.length := Nat.le_of_ble_eq_true h2.2.1
    have hv := h1 (off, size, v) (List.mem_cons_self ..)
    have ih := @ones_of r (cs.set off v) (fun p hp => h1 p (List.mem_cons_of_mem _ hp)) (by rw [List.length_set]; exact h2.2.2)
    rw [List.length_set] at ih
    refine ⟨⟨by rw [show v.cells = #[v] from hv, hs]; rfl, by omega, ih.1⟩, ?_⟩
    simp only [spliceAll, setAll]
    rw [splice_set ho hv]
    exact ih.2

theorem pBuild_ones {zero cs' : List Value} {parts : List (Nat × Nat × Value)} {K : Value → Prop} (h1 : ∀ p ∈ parts, p.2.2.cells = #[p.2.2]) (h2 : onesB zero.length parts = true) (hcs : setAll zero parts = cs') (hk : K (.agg cs'.toArray)) : pBuild zero parts K := by
  have := ones_of h1 h2
  refine ⟨this.1, ?_⟩
  rw [this.2, hcs]; exact hk

end Go.Mh

/-! What is known of covers and landmarks. -/
namespace Go.Mh
open Go

theorem cl_at {c d : List Int} {u : Nat} (hu : u < c.length) : dAt (cl c d) u = if u < d.length then min (dAt c u) (dAt d u) else dAt c u := by
  have e1 : dAt (cl c d) u = (cl c d)[u]'(by rw [cl_len]; exact hu) := (dAt_get (by rw [cl_len]; exact hu)).symm
  rw [e1]
  simp only [cl, clp, List.getElem_mapIdx]
  rw [dAt_get hu]

section
variable {g : G}

theorem from_rng (hR : g.Right) {m : Int} {u : Nat} (hu : u < g.n) : 0 ≤ dAt (g.fromI m).dist u ∧ dAt (g.fromI m).dist u ≤ far := by
  unfold G.fromI
  split
  · rename_i h
    have T := from_tree hR (s := m.toNat) (by omega)
    exact ⟨T.ls.nonneg hu, T.ls.far_le hu⟩
  · have : dAt Tr.none.dist u = far := by simp [Tr.none, dAt]
    rw [this]; exact ⟨by decide, Int.le_refl _⟩

theorem from_len (hR : g.Right) {m : Int} : (g.fromI m).dist.length = if 0 ≤ m ∧ m < g.n then g.n else 0 := by
  unfold G.fromI
  split
  · rename_i h
    exact (from_tree hR (s := m.toNat) (by omega)).ls.len
  · rfl

theorem cl_le {c d : List Int} {u : Nat} (hu : u < c.length) : dAt (cl c d) u ≤ dAt c u := by
  rw [cl_at hu]; split <;> omega

theorem foldl_rng (hR : g.Right) : ∀ {ms : List Int} {c : List Int}, c.length = g.n → (∀ u, u < g.n → 0 ≤ dAt c u ∧ dAt c u ≤ far) → ∀ u, u < g.n → 0 ≤ dAt (ms.foldl (fun c m => cl c (g.fromI m).dist) c) u ∧ dAt (ms.foldl (fun c m => cl c (g.fromI m).dist) c) u ≤ dAt c u
  | [], c, _, h, u, hu => ⟨(h u hu).1, Int.le_refl _⟩
  | m :: ms, c, hl, h, u, hu => by
    rw [List.foldl_cons]
    have h2 : ∀ u, u < g.n → 0 ≤ dAt (cl c (g.fromI m).dist) u ∧ dAt (cl c (g.fromI m).dist) u ≤ far := fun u hu => by
      have q := h u hu
      have r := from_rng hR (m := m) hu
      rw [cl_at (by omega)]
      split <;> omega
    have := foldl_rng hR (ms := ms) (c := cl c (g.fromI m).dist) (by rw [cl_len]; exact hl) h2 u hu
    have le := cl_le (c := c) (d := (g.fromI m).dist) (u := u) (by omega)
    omega

theorem rep_rng {n u : Nat} (hu : u < n) : dAt (List.replicate n far) u = far := by
  simp [dAt, List.getD_eq_getElem?_getD, hu]

theorem cov_rng (hR : g.Right) {ms : List Int} {u : Nat} (hu : u < g.n) : 0 ≤ dAt (cov g ms) u ∧ dAt (cov g ms) u ≤ far := by
  have := foldl_rng hR (ms := ms) (c := List.replicate g.n far) (by simp) (fun u hu => by rw [rep_rng hu]; exact ⟨by decide, Int.le_refl _⟩) u hu
  rw [rep_rng hu] at this
  exact this

theorem foldl_mem (hR : g.Right) : ∀ {ms : List Int} {c : List Int} {m : Nat}, c.length = g.n → (∀ u, u < g.n → 0 ≤ dAt c u ∧ dAt c u ≤ far) → (m : Int) ∈ ms → m < g.n → ∀ u, u < g.n → dAt (ms.foldl (fun c m => cl c (g.fromI m).dist) c) u ≤ dAt (g.from m).dist u
  | x :: ms, c, m, hl, h, hm, hmn, u, hu => by
    rw [List.foldl_cons]
    have h2 : ∀ u, u < g.n → 0 ≤ dAt (cl c (g.fromI x).dist) u ∧ dAt (cl c (g.fromI x).dist) u ≤ far := fun u hu => by
      have q := h u hu
      have r := from_rng hR (m := x) hu
      rw [cl_at (by omega)]
      split <;> omega
    by_cases e : (m : Int) = x
    · subst e
      have ef : g.fromI (m : Int) = g.from m := by rw [G.fromI, if_pos (by omega)]; rfl
      have := (foldl_rng hR (ms := ms) (c := cl c (g.fromI (m : Int)).dist) (by rw [cl_len]; exact hl) h2 u hu).2
      rw [cl_at (by omega), ef, if_pos (by rw [(from_tree hR hmn).ls.len]; exact hu)] at this
      rw [ef]
      omega
    · rcases List.mem_cons.1 hm with h' | h'
      · exact absurd h' e
      · exact foldl_mem hR (by rw [cl_len]; exact hl) h2 h' hmn u hu

theorem cov_mem (hR : g.Right) {ms : List Int} {m u : Nat} (hm : (m : Int) ∈ ms) (hmn : m < g.n) (hu : u < g.n) : dAt (cov g ms) u ≤ dAt (g.from m).dist u :=
  foldl_mem hR (by simp) (fun u hu => by rw [rep_rng hu]; exact ⟨by decide, Int.le_refl _⟩) hm hmn u hu

/-- A mark's cover is 0. -/
theorem cov_own (hR : g.Right) {ms : List Int} {m : Nat} (hm : (m : Int) ∈ ms) (hmn : m < g.n) : dAt (cov g ms) m = 0 := by
  have h1 := cov_mem hR hm hmn hmn
  rw [(from_tree hR hmn).ls.zero] at h1
  have := (cov_rng hR (ms := ms) hmn).1
  omega

theorem filter_len {left : List Nat} {m : Nat} (hn : left.Nodup) (hm : m ∈ left) : (left.filter (· != m)).length + 1 = left.length := by
  have e : left.filter (· != m) = left.erase m := by
    rw [hn.erase_eq_filter]
  rw [e, List.length_erase_of_mem hm]
  have : 0 < left.length := List.length_pos_of_mem hm
  omega

theorem mgo_len : ∀ {k i : Nat} {left : List Nat} {c : List Int}, left.Nodup → (mgo g k i left c).length = min k left.length
  | 0, _, _, _, _ => by simp [mgo]
  | k + 1, i, left, c, hn => by
    by_cases h : left = []
    · subst h; simp [mgo]
    · rw [mgo_next h, List.length_cons, mgo_len (hn.filter _)]
      have := filter_len hn (bst_mem (c := c) h)
      omega

theorem mgo_take : ∀ {k j i : Nat} {left : List Nat} {c : List Int}, (mgo g (k + j) i left c).take k = mgo g k i left c
  | 0, _, _, _, _ => by simp [mgo]
  | k + 1, j, i, left, c => by
    by_cases h : left = []
    · subst h
      rw [show k + 1 + j = (k + j) + 1 by omega]
      simp [mgo]
    · rw [show k + 1 + j = (k + j) + 1 by omega, mgo_next h, mgo_next h, List.take_succ_cons, mgo_take]

theorem mgo_sub : ∀ {k i : Nat} {left : List Nat} {c : List Int}, ∀ v ∈ mgo g k i left c, v ∈ left
  | 0, _, _, _, v, h => by simp [mgo] at h
  | k + 1, i, left, c, v, h => by
    by_cases e : left = []
    · subst e; simp [mgo] at h
    · rw [mgo_next e] at h
      rcases List.mem_cons.1 h with rfl | h
      · exact bst_mem e
      · exact (List.mem_filter.1 (mgo_sub v h)).1

theorem mgo_all : ∀ {k i : Nat} {left : List Nat} {c : List Int}, left.Nodup → left.length ≤ k → ∀ v ∈ left, v ∈ mgo g k i left c
  | 0, _, left, _, _, hl, v, h => by
    have : left = [] := List.eq_nil_of_length_eq_zero (by omega)
    subst this; cases h
  | k + 1, i, left, c, hn, hl, v, h => by
    have e : left ≠ [] := List.ne_nil_of_mem h
    rw [mgo_next e]
    by_cases hv : v = bst c left
    · rw [hv]; exact List.mem_cons_self ..
    · refine List.mem_cons_of_mem _ (mgo_all (hn.filter _) ?_ v (List.mem_filter.2 ⟨h, by simpa using hv⟩))
      have := filter_len hn (bst_mem (c := c) e)
      omega

end
end Go.Mh

/-! Landmarks lie far from each other. -/
namespace Go.Mh
open Go

theorem bstGo_spec {c : List Int} : ∀ {r : List Nat} {x : Nat}, (x :: r).Pairwise (· < ·) → ∀ v ∈ x :: r, c.getD v 0 ≤ c.getD (bstGo c x r) 0 ∧ (c.getD v 0 = c.getD (bstGo c x r) 0 → bstGo c x r ≤ v)
  | [], x, _, v, hv => by
    simp at hv; subst hv
    exact ⟨Int.le_refl _, fun _ => Nat.le_refl _⟩
  | y :: r, x, hp, v, hv => by
    unfold bstGo
    have hx := List.pairwise_cons.1 hp
    have hy := List.pairwise_cons.1 hx.2
    have hxy := hx.1 y (List.mem_cons_self ..)
    by_cases hc : c.getD x 0 < c.getD y 0
    · rw [if_pos hc]
      have ih := bstGo_spec (c := c) hx.2
      rcases List.mem_cons.1 hv with rfl | hv
      · have := ih y (List.mem_cons_self ..)
        exact ⟨by omega, fun e => by omega⟩
      · exact ih v hv
    · rw [if_neg hc]
      have hp2 : (x :: r).Pairwise (· < ·) := List.pairwise_cons.2 ⟨fun z hz => hx.1 z (List.mem_cons_of_mem _ hz), hy.2⟩
      have ih := bstGo_spec (c := c) hp2
      have ix := ih x (List.mem_cons_self ..)
      rcases List.mem_cons.1 hv with rfl | hv
      · exact ix
      · rcases List.mem_cons.1 hv with rfl | hv
        · exact ⟨by omega, fun e => by have := ix.2 (by omega); omega⟩
        · exact ih v (List.mem_cons_of_mem _ hv)

theorem bst_spec {c : List Int} {l : List Nat} (hp : l.Pairwise (· < ·)) : ∀ v ∈ l, c.getD v 0 ≤ c.getD (bst c l) 0 ∧ (c.getD v 0 = c.getD (bst c l) 0 → bst c l ≤ v) := by
  cases l with
  | nil => intro v h; cases h
  | cons x r => exact bstGo_spec hp

def restOf (n : Nat) (pre : List Nat) : List Nat := (List.range n).filter fun v => !pre.contains v

theorem restOf_mem {n v : Nat} {pre : List Nat} : v ∈ restOf n pre ↔ v < n ∧ v ∉ pre := by
  simp [restOf]

theorem restOf_snoc {n m : Nat} {pre : List Nat} : (restOf n pre).filter (· != m) = restOf n (pre ++ [m]) := by
  unfold restOf
  rw [List.filter_filter]
  apply List.filter_congr
  intro v _
  rw [Bool.eq_iff_iff]
  simp only [Bool.and_eq_true, bne_iff_ne, Bool.not_eq_true', List.contains_eq_mem, decide_eq_false_iff_not, List.mem_append, List.mem_singleton, not_or]
  exact ⟨fun h => ⟨h.2, h.1⟩, fun h => ⟨h.2, h.1⟩⟩

theorem restOf_sorted {n : Nat} {pre : List Nat} : (restOf n pre).Pairwise (· < ·) := List.Pairwise.filter _ List.pairwise_lt_range

section
variable {g : G}

theorem mgo_at : ∀ {k i : Nat} {pre : List Nat}, 1 ≤ i → ∀ j m, (mgo g k i (restOf g.n pre) (cov g (nI pre)))[j]? = some m →
    m ∈ restOf g.n (pre ++ (mgo g k i (restOf g.n pre) (cov g (nI pre))).take j) ∧ m = bst (cov g (nI (pre ++ (mgo g k i (restOf g.n pre) (cov g (nI pre))).take j))) (restOf g.n (pre ++ (mgo g k i (restOf g.n pre) (cov g (nI pre))).take j))
  | 0, _, _, _, j, m, h => by simp [mgo] at h
  | k + 1, i, pre, hi, j, m, h => by
    by_cases e : restOf g.n pre = []
    · rw [e] at h; simp [mgo] at h
    · have es := mgo_next (g := g) (k := k) (i := i) (c := cov g (nI pre)) e
      have e1 : cl (if i = 0 then List.replicate g.n far else cov g (nI pre)) (g.fromI (bst (cov g (nI pre)) (restOf g.n pre) : Nat)).dist = cov g (nI (pre ++ [bst (cov g (nI pre)) (restOf g.n pre)])) := by
        rw [if_neg (by omega)]
        have : nI (pre ++ [bst (cov g (nI pre)) (restOf g.n pre)]) = nI pre ++ [((bst (cov g (nI pre)) (restOf g.n pre) : Nat) : Int)] := by simp [nI]
        rw [this, cov_snoc]
      rw [restOf_snoc, e1] at es
      rw [es] at h ⊢
      have hb := bst_mem (c := cov g (nI pre)) e
      generalize hm : bst (cov g (nI pre)) (restOf g.n pre) = b at h hb ⊢
      cases j with
      | zero =>
        simp at h
        subst h
        rw [List.take_zero, List.append_nil]
        exact ⟨hb, hm.symm⟩
      | succ j =>
        rw [List.getElem?_cons_succ] at h
        have := mgo_at (k := k) (i := i + 1) (pre := pre ++ [b]) (by omega) j m h
        rw [List.take_succ_cons]
        simpa [List.append_assoc] using this

/-- Each landmark but the first one is the one of the greatest cover, of all that are left. -/
theorem marks_at {k : Nat} {first : Int} {j m : Nat} (h : (mgo g k 0 (List.range g.n) (cov g [first]))[j]? = some m) :
    m ∈ restOf g.n ((mgo g k 0 (List.range g.n) (cov g [first])).take j) ∧ (1 ≤ j → m = bst (cov g (nI ((mgo g k 0 (List.range g.n) (cov g [first])).take j))) (restOf g.n ((mgo g k 0 (List.range g.n) (cov g [first])).take j))) := by
  cases k with
  | zero => simp [mgo] at h
  | succ k =>
    have er : List.range g.n = restOf g.n [] := by
      unfold restOf
      exact (List.filter_eq_self.2 fun a _ => rfl).symm
    by_cases e : List.range g.n = []
    · rw [e] at h; simp [mgo] at h
    · have es := mgo_next (g := g) (k := k) (i := 0) (c := cov g [first]) e
      have e1 : cl (if (0 : Nat) = 0 then List.replicate g.n far else cov g [first]) (g.fromI (bst (cov g [first]) (List.range g.n) : Nat)).dist = cov g (nI [bst (cov g [first]) (List.range g.n)]) := by
        rw [if_pos rfl]; rfl
      have e2 : (List.range g.n).filter (· != bst (cov g [first]) (List.range g.n)) = restOf g.n [bst (cov g [first]) (List.range g.n)] := by
        conv => lhs; arg 2; rw [er]
        rw [restOf_snoc]; rfl
      rw [e1, e2] at es
      rw [es] at h ⊢
      have hb := bst_mem (c := cov g [first]) e
      generalize bst (cov g [first]) (List.range g.n) = b at h hb ⊢
      cases j with
      | zero =>
        simp at h
        subst h
        refine ⟨?_, fun h => by omega⟩
        rw [List.take_zero, ← er]; exact hb
      | succ j =>
        rw [List.getElem?_cons_succ] at h
        have := mgo_at (k := k) (i := 1) (pre := [b]) (by omega) j m h
        rw [List.take_succ_cons]
        exact ⟨by simpa using this.1, fun _ => by simpa using this.2⟩

theorem getD_dAt {c : List Int} {v : Nat} (h : v < c.length) : c.getD v 0 = dAt c v := by
  simp [dAt, List.getD_eq_getElem?_getD, h]

/-- All others' covers are no greater; those as great are of nodes behind. -/
theorem marks_far {k : Nat} {first : Int} {j m v : Nat} (h : (mgo g k 0 (List.range g.n) (cov g [first]))[j]? = some m) (hj : 1 ≤ j) (hv : v < g.n) (hno : v ∉ (mgo g k 0 (List.range g.n) (cov g [first])).take j) :
    dAt (cov g (nI ((mgo g k 0 (List.range g.n) (cov g [first])).take j))) v ≤ dAt (cov g (nI ((mgo g k 0 (List.range g.n) (cov g [first])).take j))) m ∧
      (dAt (cov g (nI ((mgo g k 0 (List.range g.n) (cov g [first])).take j))) v = dAt (cov g (nI ((mgo g k 0 (List.range g.n) (cov g [first])).take j))) m → m ≤ v) := by
  obtain ⟨h1, h2⟩ := marks_at h
  have h2 := h2 hj
  have hm := (restOf_mem.1 h1).1
  have := bst_spec (c := cov g (nI ((mgo g k 0 (List.range g.n) (cov g [first])).take j))) (restOf_sorted (n := g.n) (pre := (mgo g k 0 (List.range g.n) (cov g [first])).take j)) v (restOf_mem.2 ⟨hv, hno⟩)
  rw [← h2, getD_dAt (by rw [cov_len]; exact hv), getD_dAt (by rw [cov_len]; exact hm)] at this
  exact this

/-- Covers of landmarks never go up. -/
theorem marks_last {k : Nat} {first : Int} {j m m' : Nat} (h : (mgo g k 0 (List.range g.n) (cov g [first]))[j + 1]? = some m) (h' : (mgo g k 0 (List.range g.n) (cov g [first]))[j]? = some m') (hj : 1 ≤ j) :
    dAt (cov g (nI ((mgo g k 0 (List.range g.n) (cov g [first])).take (j + 1)))) m ≤ dAt (cov g (nI ((mgo g k 0 (List.range g.n) (cov g [first])).take j))) m' := by
  have hm := restOf_mem.1 (marks_at h).1
  have hjl := (List.getElem?_eq_some_iff.1 h').1
  have htk : (mgo g k 0 (List.range g.n) (cov g [first])).take (j + 1) = (mgo g k 0 (List.range g.n) (cov g [first])).take j ++ [m'] := by
    rw [List.take_succ_eq_append_getElem hjl]
    congr 1
    exact congrArg (fun x => [x]) (List.getElem?_eq_some_iff.1 h').2
  have hno : m ∉ (mgo g k 0 (List.range g.n) (cov g [first])).take j := fun hx => hm.2 (by rw [htk]; exact List.mem_append_left _ hx)
  have h3 := (marks_far h' hj hm.1 hno).1
  have h4 : dAt (cov g (nI ((mgo g k 0 (List.range g.n) (cov g [first])).take (j + 1)))) m ≤ dAt (cov g (nI ((mgo g k 0 (List.range g.n) (cov g [first])).take j))) m := by
    rw [htk]
    have : nI ((mgo g k 0 (List.range g.n) (cov g [first])).take j ++ [m']) = nI ((mgo g k 0 (List.range g.n) (cov g [first])).take j) ++ [(m' : Int)] := by simp [nI]
    rw [this, cov_snoc]
    exact cl_le (by rw [cov_len]; exact hm.1)
  omega

end
end Go.Mh

/-! The document's landmarks. -/
namespace Go.Mh
open Go

/-- The greatest but for some: -1: none. -/
def grGo (c : List Int) (but : List Int) : Nat → Int
  | 0 => -1
  | i + 1 => let b := grGo c but i
    if ¬ ((i : Int) ∈ but) ∧ (b < 0 ∨ dAt c b.toNat < dAt c i) then (i : Int) else b

theorem grGo_spec {c : List Int} {but : List Int} : ∀ i, (grGo c but i = -1 ∧ ∀ v : Nat, v < i → (v : Int) ∈ but) ∨
    ∃ b : Nat, b < i ∧ grGo c but i = b ∧ ¬ ((b : Int) ∈ but) ∧ ∀ v : Nat, v < i → ¬ ((v : Int) ∈ but) → dAt c v ≤ dAt c b ∧ (dAt c v = dAt c b → b ≤ v)
  | 0 => .inl ⟨rfl, fun v h => absurd h (by omega)⟩
  | i + 1 => by
    have step : grGo c but (i + 1) = if ¬ ((i : Int) ∈ but) ∧ (grGo c but i < 0 ∨ dAt c (grGo c but i).toNat < dAt c i) then (i : Int) else grGo c but i := rfl
    have sp : ∀ {v : Nat}, v < i + 1 → v < i ∨ v = i := fun h => by omega
    by_cases hi : (i : Int) ∈ but
    · rw [if_neg fun e => e.1 hi] at step
      rcases grGo_spec (c := c) (but := but) i with ⟨h1, h2⟩ | ⟨b, h0, h1, h2, h3⟩
      · refine .inl ⟨by rw [step, h1], fun v hv => ?_⟩
        rcases sp hv with h | rfl
        · exact h2 v h
        · exact hi
      · refine .inr ⟨b, by omega, by rw [step, h1], h2, fun v hv hn => ?_⟩
        rcases sp hv with h | rfl
        · exact h3 v h hn
        · exact absurd hi hn
    · rcases grGo_spec (c := c) (but := but) i with ⟨h1, h2⟩ | ⟨b, h0, h1, h2, h3⟩
      · rw [h1, if_pos ⟨hi, .inl (by decide)⟩] at step
        refine .inr ⟨i, by omega, step, hi, fun v hv hn => ?_⟩
        rcases sp hv with h | rfl
        · exact absurd (h2 v h) hn
        · exact ⟨Int.le_refl _, fun _ => Nat.le_refl _⟩
      · rw [h1, Int.toNat_natCast] at step
        by_cases hlt : dAt c b < dAt c i
        · rw [if_pos ⟨hi, .inr hlt⟩] at step
          refine .inr ⟨i, by omega, step, hi, fun v hv hn => ?_⟩
          rcases sp hv with h | rfl
          · have := h3 v h hn
            exact ⟨by omega, fun e => by omega⟩
          · exact ⟨Int.le_refl _, fun _ => Nat.le_refl _⟩
        · rw [if_neg (by rintro ⟨_, h | h⟩; exact absurd h (by omega); exact hlt h)] at step
          refine .inr ⟨b, by omega, step, h2, fun v hv hn => ?_⟩
          rcases sp hv with h | rfl
          · exact h3 v h hn
          · exact ⟨by omega, fun _ => by omega⟩

section
variable {g : G}

/-- It is the one the program takes. -/
theorem grGo_bst {c : List Int} {pre : List Nat} {n : Nat} (hc : c.length = n) (he : restOf n pre ≠ []) : grGo c (nI pre) n = (bst c (restOf n pre) : Nat) := by
  have hm := restOf_mem.1 (bst_mem (c := c) he)
  have hs := bst_spec (c := c) (restOf_sorted (n := n) (pre := pre))
  have mI : ∀ {v : Nat}, (v : Int) ∈ nI pre ↔ v ∈ pre := fun {v} => by
    simp only [nI, List.mem_map]
    exact ⟨fun ⟨a, h1, h2⟩ => by rw [← Int.ofNat.inj h2]; exact h1, fun h => ⟨v, h, rfl⟩⟩
  rcases grGo_spec (c := c) (but := nI pre) n with ⟨h1, h2⟩ | ⟨b, h0, h1, h2, h3⟩
  · exact absurd (mI.1 (h2 _ hm.1)) hm.2
  · rw [h1]
    have hbm : b ∈ restOf n pre := restOf_mem.2 ⟨h0, fun h => h2 (mI.2 h)⟩
    have q1 := hs b hbm
    have q2 := h3 _ hm.1 fun h => hm.2 (mI.1 h)
    rw [getD_dAt (by omega), getD_dAt (by rw [hc]; exact hm.1)] at q1
    have e : dAt c b = dAt c (bst c (restOf n pre)) := by omega
    have a1 := q1.2 e
    have a2 := q2.2 e.symm
    have : b = bst c (restOf n pre) := by omega
    rw [this]

end
end Go.Mh

/-! Arguments of which it is known how much memory they take. -/
namespace Go.Mh
open Go Go.ChangeShapes Go.WideShapes Go.ChangeAt Go.RowKit

section
variable {H : Type} {enc encD : TypeId × Value → H} {P : Program} {w W W' : World} {n : Nat} {e t : TypeId} {v : Value} {r : Reach} {base : Nat} {d : DataW H} {p : List MemPlace} {cs : List Value} {B : Nat}

/-- As law_laid; the arguments take no more memory than may be. -/
theorem law_laidS {C : Checked} {os : Os} {f : FuncId} {fn : Func} {s : ChangeSpec} {conds : List PathCond} {tb : TypeId} {X : World → Array Value → Prop}
    (hX : ∀ (w w' : World) (args : Array Value), w.heap = w'.heap → X w args → X w' args)
    (own : ownKnob C.prog.godebug = none) (started : os.Started) (noInit : C.prog.inits.idxOf? f = none) (hfn : C.prog.funcs[f]? = some fn)
    (witness : ∃ (w : World) (tape : Tape) (i : Input), w.os = os ∧ (w.forCall tape i).Shaped C.prog ∧ i.vars = [] ∧ Input.okWide C.prog (w.forCall tape i) .any w.heap.size f i ∧
      ((s.pre enc C.prog fn conds false (w.forCall tape i).memory i.args ∧ X (w.forCall tape i).memory i.args) ∧ sizedMet enc C.prog fn (OpenSpec.ofChange s) false (w.forCall tape i).memory i.args) ∧ ({} : Assume).holds C.prog (lone (Frame.enter C.prog f i.args .normal) [] (w.forCall tape i)))
    (hvars : s.vars = []) (hres : fn.resultTypes = #[tb]) (htb : C.prog.underlying tb = some .bool)
    (hspec : ∀ ds : List (DataW H), ds.length = fn.params.toList.length → s.fn H ds = { results := [.lit (.bool true)], args := ds })
    (kids : Kids C.prog (· < C.prog.types.size)) (full : ∀ t e, t < C.prog.types.size → C.prog.underlying t = some (.slice e) → 0 < C.prog.cellsOf e) (hpar : ∀ t ∈ fn.params.toList, t < C.prog.types.size)
    (hcall : ∀ (W : World) (base : Nat) (args : Array Value) (ds : List (DataW H)) (ps : List MemPlace), (∀ (j : Nat) t v, fn.params[j]? = some t → args[j]? = some v → Value.okWide C.prog W .any base t v) →
      DataW.TrodAll enc C.prog W 0 (fun _ => true) true fn.params.toList args.toList ds ps → (∀ q ∈ DataW.weightsEach C.prog fn.params.toList ds, q ≤ reachBytes) →
      CallsH C.prog f args W.heap fun v h' => v = .bool true ∧ Ext W.heap h') :
    ReturnsInHanded {} C os f .any (fun w args => (s.pre enc C.prog fn conds false w args ∧ X w args) ∧ sizedMet enc C.prog fn (OpenSpec.ofChange s) false w args) (s.post enc C.prog fn false true false false) := by
  refine returnsInHanded_of_change_and hX own started noInit hfn witness ?_
  intro W base args ds gs before hval hW hcnd hwt _ _
  have hW' := hW
  obtain ⟨p, q, hA, hV, rfl, hfz, hnd⟩ := hW
  rw [hvars] at hV
  obtain ⟨rfl, rfl⟩ := trodVars_none hV
  have hvt : s.plain.varTypes C.prog = [] := by
    have : s.plain.vars = [] := hvars
    simp [DataSpec.varTypes, this]
  rw [hvt, List.append_nil, List.append_nil] at hwt
  refine calls_of_H (hcall W base args ds p hval hA fun q hq => by simpa using List.all_eq_true.1 hwt q hq) fun v w' hs hv => ⟨v, rfl, ?_⟩
  obtain ⟨rfl, hx⟩ := hv
  have hlt : ∀ x ∈ p, x.block < W.heap.size := fun x hx => hW'.lt x (by simpa using hx)
  have hsp := hspec ds (trodAll_length hA)
  unfold ChangeSpec.post
  refine ⟨ds, [], p ++ [], [], p, [], hW', ?_, ?_, ?_, kept_of_ext hs hx _, fun h => by cases h⟩
  · rw [List.append_nil, hsp, hres]
    exact trodAll_mk1 ⟨1, by simp [DataW.trod, htb, Value.cells]⟩
  · rw [List.append_nil, hsp]
    exact trodAll_carry (DataW.TrodAll.respare kids full hpar hA fun x hx => by simpa using hlt x hx) fun x hx' => sameAt_of_ext hx (hlt x hx')
  · rw [List.append_nil, hsp, hvars]; rfl

/-- Cells of a type, given, of which no part takes more memory than B. -/
def OpnW (encD : TypeId × Value → H) (P : Program) (w : World) (B : Nat) (t : TypeId) (cs : List Value) : Prop :=
  (∃ fuel x, DataW.trod encD P w 0 (fun _ => true) true fuel t cs = some x ∧ ∀ q ∈ DataW.weights P t x.1, q ≤ B) ∧ ∀ v ∈ cs, ∀ a l c, v = .slice (some a) l c → a.spot = none

theorem OpnW.opn (O : OpnW encD P w B t cs) : Opn encD P w t cs := by
  obtain ⟨⟨fuel, x, h, _⟩, hs⟩ := O
  exact ⟨⟨fuel, x, h⟩, hs⟩

theorem agg_ofW (ha : isAgg P t = true) (hn : P.cellsOf t = n) (hv : Value.okWide P w r base t v) (hd : DataW.Trod encD P w 0 (fun _ => true) true t v d p) (hw : ∀ q ∈ DataW.weights P t d, q ≤ B) :
    ∃ cs : List Value, v = .agg cs.toArray ∧ cs.length = n ∧ OpnW encD P w B t cs := by
  obtain ⟨cs, rfl, hl, ⟨_, hs⟩⟩ := agg_of ha hn hv hd
  obtain ⟨fuel, hf⟩ := hd
  exact ⟨cs, rfl, hl, ⟨fuel, _, by simpa [Value.cells] using hf, hw⟩, hs⟩

theorem weightsEach_get {q : Nat} : ∀ {ts : List TypeId} {ds : List (DataW H)} {i : Nat} {u : TypeId} {d : DataW H}, ts[i]? = some u → ds[i]? = some d → q ∈ DataW.weights P u d → q ∈ DataW.weightsEach P ts ds
  | t :: ts, d :: ds, 0, u, x, h1, h2, hq => by
    simp at h1 h2
    subst h1 h2
    simp only [DataW.weightsEach]
    exact List.mem_append_left _ hq
  | t :: ts, d :: ds, i + 1, u, x, h1, h2, hq => by
    simp only [DataW.weightsEach]
    exact List.mem_append_right _ (weightsEach_get (by simpa using h1) (by simpa using h2) hq)
  | [], _, _, _, _, h1, _, _ => by simp at h1
  | _ :: _, [], _, _, _, _, h2, _ => by simp at h2

theorem OpnW.field (O : OpnW encD P w B t cs) (i : Nat) {ft : TypeId} {off : Nat} {cs' : List Value} (hf : fieldOf P t i = some (ft, off)) (hn : P.cellsOf ft = n) (hcs : (cs.drop off).take n = cs') : OpnW encD P w B ft cs' := by
  have O' := (O.opn.field i hf hn hcs).2
  obtain ⟨⟨fuel, x, h, hw⟩, hs⟩ := O
  refine ⟨?_, O'⟩
  unfold fieldOf at hf
  split at hf
  · rename_i fs ht
    obtain ⟨xs, m, rfl, rfl, _, _, hfs⟩ := DataW.trod_struct ht h
    simp only [Option.map_eq_some_iff] at hf
    obtain ⟨f, hi, e⟩ := hf
    injection e with e1 e2
    subst e1 e2 hn hcs
    have hh := hfs i f (by simpa using hi)
    obtain ⟨y, hy⟩ : ∃ y, xs[i]? = some y := by
      have : i < xs.length := by
        have := (List.getElem?_eq_some_iff.1 hi).1
        simp_all
      exact ⟨_, List.getElem?_eq_getElem this⟩
    refine ⟨m, y, by rw [hh, hy], fun q hq => hw q ?_⟩
    simp only [DataW.weights, ht]
    exact weightsEach_get (i := i) (by simp [hi]) (by simp [hy]) hq
  · cases hf

/-- A slice takes no more memory than may be. -/
theorem OpnW.len {α : Type} {enc : α → List Value} {bl : Nat} {xs : List α} {h : Heap} {b : Nat} (O : OpnW encD P w B t [v]) (ht : P.underlying t = some (.slice e)) (hb : P.bytesOf e = b) (H : VwR enc n h v bl xs) : xs.length * b ≤ B := by
  obtain ⟨⟨fuel, x, hx, hw⟩, _⟩ := O
  obtain ⟨bs, cap, rfl, _⟩ := H
  rcases Go.Deep.open_slice ht hx with ⟨hc, _⟩ | ⟨a, len, cap', m, fuel', D, Pl, hc, _, _, _, _, rfl, _⟩
  · simp only [List.cons.injEq, and_true] at hc
    injection hc with _ hl _
    rw [hl]; simp
  · simp only [List.cons.injEq, and_true] at hc
    injection hc with _ hl _
    have := hw (((List.range len).map D).length * P.bytesOf e + ((List.range (m - len)).map fun j => D (len + j)).length * P.bytesOf e) (by
      simp only [DataW.weights, ht]
      rw [← Nat.add_mul]
      exact List.mem_cons_self ..)
    rw [hb] at this
    simp at this
    rw [hl]; omega

end
end Go.Mh
