/- Texts of the proofs of seat YtoopkllfpmjnfaaGreatDoor, joined: OwnP, OwnF, Avoid6, Far, Que, Rev, ViewA, ViewB, Build, ViewC, ViewD. They have no conditions of their own. -/
import Derived.Test.YtoopkllfpmjnfaaGreatDoorMc
import Derived.Test.YtoopkllfpmjnfaaGreatDoorMd
import Derived.Test.YtoopkllfpmjnfaaGreatDoorMb
import Derived.OpenShut
set_option linter.unusedVariables false
set_option linter.unusedSimpArgs false

namespace Go.Mh
open Go

section
variable {P : Program} {h0 h h' : Heap} {L : List Res} {i b off n : Nat}

/-- Two rows of parts exchanged. -/
theorem Own.comm : ∀ {L L' : List Res}, Own h0 h (L ++ L') → Own h0 h (L' ++ L)
  | [], L', o => by rw [List.append_nil]; exact o
  | r :: L, L', o => by
    have o1 : Own h0 h ((L ++ L') ++ [r]) := Own.rot o
    rw [List.append_assoc] at o1
    have o2 := Own.comm o1
    rw [List.append_assoc] at o2
    exact o2

/-- As IterG; it has parts of memory of its own, Pr0, which it may turn. -/
def IterP (P : Program) (fv : Value) {σ : Type} (Q : σ → Heap → Prop) (Pr0 : List Res) (s0 : σ) (next : σ → List Value → σ → Prop) (stop : σ → Prop) : Prop :=
  ∀ (yv : Value) (h0 h : Heap) (Rs : List Res) (K : Value → Heap → Prop) (J : σ → List Res → Prop) (E : List Res → Prop), (∃ l, yv = yieldV l) →
    Own h0 h (Rs ++ Pr0) → J s0 Rs → (∀ s Rs' h', J s Rs' → Own h0 h' Rs' → Q s h') →
    (∀ s x s' Rs' Pr h' R, next s x s' → J s Rs' → Own h0 h' (Rs' ++ Pr) → (∀ Rs'' h'', J s' Rs'' → Own h0 h'' (Rs'' ++ Pr) → R (.bool true) h'') →
      (∀ Rs'' h'', E Rs'' → Own h0 h'' (Rs'' ++ Pr) → R (.bool false) h'') → callV P yv x.toArray h' R) →
    (∀ Rs' h', ((∃ s, stop s ∧ J s Rs') ∨ E Rs') → Own h0 h' Rs' → K (.tuple #[]) h') → callF P fv #[yv] h K

theorem IterG.toP {fv : Value} {Q : Heap → Prop} {σ : Type} {s0 : σ} {next : σ → List Value → σ → Prop} {stop : σ → Prop} (H : IterG P fv Q s0 next stop) : IterP P fv (fun _ => Q) [] s0 next stop :=
  fun yv h0 h Rs K J E hy o j0 hQ hY hK => H yv h0 h Rs K J E hy o.toNil j0 hQ hY hK

theorem Own.rangeP {fv : Value} {Pr0 : List Res} {σ : Type} {Q : σ → Heap → Prop} {s0 : σ} {next : σ → List Value → σ → Prop} {stop : σ → Prop} {ps : List Nat} {B : Loop → Vals ps → Heap → (Exit → Heap → Prop) → Prop} {Kn Kr : Heap → Prop} {Ks : List (Nat × (Heap → Prop))}
    (o : Own h0 h (L ++ Pr0)) (hI : IterP P fv Q Pr0 s0 next stop) (hf : ∀ s x s', next s x s' → x.length = ps.length) (J : σ → List Res → Prop) (Er : List Res → Prop) (Ex : Nat → List Res → Prop)
    (j0 : J s0 L) (hQ : ∀ s Rs' h', J s Rs' → Own h0 h' Rs' → Q s h')
    (step : ∀ M s x s' Rs' Pr h' (R : Exit → Heap → Prop), next s x s' → J s Rs' → Own h0 h' (loopR (h.size + 1) (lo M .ready none) :: markR h.size :: (Rs' ++ Pr)) →
      (∀ Rs'' h'', J s' Rs'' → Own h0 h'' (loopR (h.size + 1) (lo M .busy none) :: markR h.size :: (Rs'' ++ Pr)) → R .normal h'') →
      (∀ Rs'' h'', Er Rs'' → Own h0 h'' (loopR (h.size + 1) (lo M .busy none) :: markR h.size :: (Rs'' ++ Pr)) → R .ret h'') →
      (∀ id Rs'' h'', Ex id Rs'' → Own h0 h'' (loopR (h.size + 1) (lo M .busy none) :: markR h.size :: (Rs'' ++ Pr)) → R (.exit id) h'') → B M (valsOf ps x) h' R)
    (fin : ∀ s h' Rs', stop s → J s Rs' → Own h0 h' (markR h.size :: Rs') → Kn h') (finr : ∀ h' Rs', Er Rs' → Own h0 h' (markR h.size :: Rs') → Kr h')
    (finx : ∀ id h' Rs', Ex id Rs' → Own h0 h' (markR h.size :: Rs') → lookK Ks id h') :
    rangeH P fv ps (h.size + 1) (h.push (.deferred (some []))) B Kn Kr Ks := by
  intro M hy
  have e1 : (h.push (.deferred (some []))).size = h.size + 1 := push_size
  have o1 : Own h0 (h.push (.deferred (some []))) (markR h.size :: (L ++ Pr0)) := o.new (r := markR h.size) push_new fun b hb => hb
  have o2 : Own h0 ((h.push (.deferred (some []))).push (lo M .ready none)) (loopR (h.size + 1) (lo M .ready none) :: markR h.size :: (L ++ Pr0)) :=
    o1.new (r := loopR (h.size + 1) (lo M .ready none)) (by show (Array.push _ _)[h.size + 1]? = _; rw [← e1, push_new]) fun b hb => hb.trans e1.symm
  refine hI (yieldV (h.size + 1)) h0 _ _ _ (fun s Rs => ∃ Rs1, Rs = loopR (h.size + 1) (lo M .ready none) :: markR h.size :: Rs1 ∧ J s Rs1)
    (fun Rs => ∃ p Rs1, Rs = loopR (h.size + 1) (lo M .done (some p)) :: markR h.size :: Rs1 ∧ ((p = .ret ∧ Er Rs1) ∨ ∃ id, p = .exit id ∧ Ex id Rs1)) ⟨_, rfl⟩ o2 ⟨L, rfl, j0⟩
    (fun s Rs' h' ⟨Rs1, e, hj⟩ o' => hQ s Rs1 h' hj (by subst e; exact o'.tail.tail)) ?_ ?_
  · rintro s x s' _ Pr h' R hn ⟨Rs1, rfl, hj⟩ o' hT hF
    have hb : h'[h.size + 1]? = some (lo M .ready none) := o'.get 0 rfl
    have := hy (valsOf ps x) h' R .ready none hb
    rw [listV_valsOf (hf _ _ _ hn)] at this
    refine this (step M s x s' Rs1 Pr h' _ hn hj o' ?_ ?_ ?_)
    · intro Rs'' h'' hj' o''
      have hb' : h''[h.size + 1]? = some (lo M .busy none) := o''.get 0 rfl
      have hlt := get_lt hb'
      refine ⟨none, hb', hT (loopR (h.size + 1) (lo M .ready none) :: markR h.size :: Rs'') _ ⟨Rs'', rfl, hj'⟩ ?_⟩
      refine o''.set 0 (r' := loopR (h.size + 1) (lo M .ready none)) rfl (Upd.upd (S := (loopR (h.size + 1) (lo M .busy none)).F) h'' _ rfl) (upd_self hlt) fun c hc => ⟨.inl hc, ?_⟩
      rw [setIf_upd, upd_size]; exact (show c = h.size + 1 from hc) ▸ hlt
    · intro Rs'' h'' hj' o''
      have hb' : h''[h.size + 1]? = some (lo M .busy none) := o''.get 0 rfl
      have hlt := get_lt hb'
      refine ⟨none, hb', hF (loopR (h.size + 1) (lo M .done (some .ret)) :: markR h.size :: Rs'') _ ⟨.ret, Rs'', rfl, .inl ⟨rfl, hj'⟩⟩ ?_⟩
      refine o''.set 0 (r' := loopR (h.size + 1) (lo M .done (some .ret))) rfl (Upd.upd (S := (loopR (h.size + 1) (lo M .busy none)).F) h'' _ rfl) (upd_self hlt) fun c hc => ⟨.inl hc, ?_⟩
      rw [setIf_upd, upd_size]; exact (show c = h.size + 1 from hc) ▸ hlt
    · intro id Rs'' h'' hj' o''
      have hb' : h''[h.size + 1]? = some (lo M .busy none) := o''.get 0 rfl
      have hlt := get_lt hb'
      refine ⟨none, hb', hF (loopR (h.size + 1) (lo M .done (some (.exit id))) :: markR h.size :: Rs'') _ ⟨.exit id, Rs'', rfl, .inr ⟨id, rfl, hj'⟩⟩ ?_⟩
      refine o''.set 0 (r' := loopR (h.size + 1) (lo M .done (some (.exit id)))) rfl (Upd.upd (S := (loopR (h.size + 1) (lo M .busy none)).F) h'' _ rfl) (upd_self hlt) fun c hc => ⟨.inl hc, ?_⟩
      rw [setIf_upd, upd_size]; exact (show c = h.size + 1 from hc) ▸ hlt
  · have close : ∀ {Rs1 : List Res} {h' : Heap} {st : LoopState} {p : Option Code}, Own h0 h' (loopR (h.size + 1) (lo M st p) :: markR h.size :: Rs1) → Own h0 (upd h' (h.size + 1) (lo M .exhausted p)) (markR h.size :: Rs1) := by
      intro Rs1 h' st p o'
      have hb' : h'[h.size + 1]? = some (lo M st p) := o'.get 0 rfl
      have hlt := get_lt hb'
      exact (o'.set 0 (r' := nilR) rfl (Upd.upd (S := (loopR (h.size + 1) (lo M st p)).F) h' (lo M .exhausted p) rfl) trivial fun c hc => hc.elim).tail
    rintro Rs' h' (⟨s, hs, Rs1, rfl, hj⟩ | ⟨p, Rs1, rfl, hp⟩) o'
    · exact ⟨.ready, none, by decide, o'.get 0 rfl, fin _ _ _ hs hj (close o')⟩
    · refine ⟨.done, some p, by decide, o'.get 0 rfl, ?_⟩
      rcases hp with ⟨rfl, he⟩ | ⟨id, rfl, he⟩
      · exact finr _ _ he (close o')
      · exact finx _ _ _ he (close o')

end
end Go.Mh

/-! A family of slices. -/
namespace Go.Mh
open Go

variable {α : Type} {enc : α → List Value} {n m p v : Nat} {T : TypeId} {h0 h : Heap} {L : List Res}

def upF {β : Type} (f : Nat → β) (p : Nat) (x : β) : Nat → β := fun v => if v = p then x else f v
theorem upF_same {β : Type} {f : Nat → β} {x : β} : upF f p x p = x := if_pos rfl
theorem upF_ne {β : Type} {f : Nat → β} {x : β} (h : v ≠ p) : upF f p x v = f v := if_neg h

def famR (enc : α → List Value) (n : Nat) (T : TypeId) (kv : Nat → Value) (ks : Nat → List α) (m : Nat) : List Res := (List.range m).map fun v => slR enc n T (kv v) (ks v)
theorem famR_get {kv : Nat → Value} {ks : Nat → List α} (hv : v < m) : (famR enc n T kv ks m)[v]? = some (slR enc n T (kv v) (ks v)) := by simp [famR, hv]
theorem famR_set {kv : Nat → Value} {ks : Nat → List α} {w : Value} {ys : List α} : (famR enc n T kv ks m).set p (slR enc n T w ys) = famR enc n T (upF kv p w) (upF ks p ys) m := by
  apply List.ext_getElem?
  intro i
  by_cases hi : i < m
  · by_cases e : i = p
    · subst e
      rw [List.getElem?_set_self (by simp [famR, hi]), famR_get hi, upF_same, upF_same]
    · rw [List.getElem?_set_ne (fun h => e h.symm), famR_get hi, famR_get hi, upF_ne e, upF_ne e]
  · rw [List.getElem?_eq_none (by simp [famR]; omega), List.getElem?_eq_none (by simp [famR]; omega)]

theorem Own.fam0 (o : Own h0 h L) : Own h0 h (famR enc n T (fun _ => .slice none 0 0) (fun _ => ([] : List α)) m ++ L) := by
  unfold famR
  generalize List.range m = r
  induction r with
  | nil => exact o
  | cons a r ih => exact ih.nilS

theorem Own.vwm {w : Value} {xs : List α} (o : Own h0 h L) (hm : slR enc n T w xs ∈ L) : Vw enc n h w xs := by
  obtain ⟨i, hi⟩ := List.getElem?_of_mem hm
  exact o.vw i hi

end Go.Mh

/-! What holds while a tree grows. -/
namespace Go.Mh
open Go

section
variable {g : G} {r : Nat} {ms : List Nat}

def growQ (g : G) (ms : List Nat) (r i : Nat) : GS := ((g.from r).order.reverse.take i).foldl (GS.step (parA g r) (wtA g ms r)) (growZ g.n ms)

theorem growQ_gi (hR : g.Right) (hn : g.n ≤ 16) (hr : r < g.n) (hm : ∀ m ∈ ms, m < g.n) (i : Nat) : GI (parA g r) g.n (wtA g ms r) (cntA ms) ((g.from r).order.reverse.take i) (growQ g ms r i) := by
  have T := from_tree hR hr
  unfold growQ
  rw [List.take_reverse]
  refine GI.all T hn (wtA_rng hR hr hm) (fun v => by unfold cntA; omega) (S := growZ g.n ms) ?_ (pre := (g.from r).order.take ((g.from r).order.length - i)) (List.take_append_drop _ _).symm
  refine ⟨fun x => rfl, by simp [growZ], by simp [growZ], fun v hv _ => ⟨?_, ?_⟩, fun _ => [], fun v hv => by simp at hv⟩
  · simp [growZ, List.getD_eq_getElem?_getD, hv]
  · simp [growZ, List.getD_eq_getElem?_getD, hv]

theorem growQ_end : growQ g ms r (g.from r).order.length = growA g ms r := by
  unfold growQ growA
  rw [List.take_of_length_le (by simp)]

theorem growQ_step {i : Nat} (hi : i < (g.from r).order.length) : growQ g ms r (i + 1) = (growQ g ms r i).step (parA g r) (wtA g ms r) ((g.from r).order.reverse.getD i 0) := by
  unfold growQ
  have h : i < (g.from r).order.reverse.length := by rw [List.length_reverse]; exact hi
  rw [List.take_succ_eq_append_getElem h, List.foldl_append, List.getD_eq_getElem?_getD, List.getElem?_eq_getElem h]
  rfl

theorem growQ_facts (hR : g.Right) (hn : g.n ≤ 16) (hr : r < g.n) (hm : ∀ m ∈ ms, m < g.n) (hml : ms.length ≤ 2 ^ 20) (i : Nat) : (∀ x, ((growQ g ms r i).kd x).length ≤ 16) ∧ (growQ g ms r i).sz.length = g.n ∧ (growQ g ms r i).mc.length = g.n ∧
    (∀ v, ∀ k ∈ (growQ g ms r i).kd v, k < g.n ∧ k ≠ v) ∧ ∀ u, 0 ≤ (growQ g ms r i).mc.getD u 0 ∧ (growQ g ms r i).mc.getD u 0 ≤ 2 ^ 32 := by
  have T := from_tree hR hr
  have H := growQ_gi hR hn hr hm i
  have hcn : ∀ u, 0 ≤ cntA ms u ∧ cntA ms u ≤ 2 ^ 20 := fun u => by
    unfold cntA
    have := List.count_le_length (a := u) (l := ms)
    omega
  refine ⟨fun x => ?_, H.sl, H.ml, fun v k hk => ?_, fun u => ?_⟩
  · rw [H.kd]
    have h1 := List.length_filter_le (fun v => decide (parA g r v = some x)) ((g.from r).order.reverse.take i)
    have h2 := nodup_le T.nodup T.range
    rw [List.length_take, List.length_reverse] at h1
    omega
  · rw [H.kd, List.mem_filter, decide_eq_true_eq] at hk
    obtain ⟨p1, _, _, p4⟩ := par_some T hk.2
    exact ⟨T.range k p1, fun e => by rw [e] at p4; omega⟩
  · by_cases hu : u ∈ (g.from r).order.reverse.take i
    · obtain ⟨pt, hpt⟩ := H.done
      obtain ⟨h1, h2, h3, _⟩ := hpt u hu
      have huo : u ∈ (g.from r).order := List.mem_reverse.1 (List.mem_of_mem_take hu)
      have h4 := nodup_le h1 fun x hx => T.range x (desc_in T ((h2 x).1 hx) huo)
      have h5 := sum_le (f := cntA ms) (l := pt u) (B := 2 ^ 20) fun k _ => (hcn k).2
      rw [h3]
      refine ⟨sum_nn fun k _ => (hcn k).1, ?_⟩
      omega
    · by_cases hn : u < g.n
      · rw [(H.out u hn hu).2]
        have := hcn u
        omega
      · rw [List.getD_eq_getElem?_getD, List.getElem?_eq_none (by rw [H.ml]; omega)]
        exact ⟨Int.le_refl _, by decide⟩

theorem cnt_set {n x : Nat} {l : List Nat} (hx : x < n) : ((List.range n).map (cntA l)).set x (cntA l x + 1) = (List.range n).map (cntA (l ++ [x])) := by
  apply List.ext_getElem?
  intro i
  by_cases hi : i < n
  · by_cases e : i = x
    · subst e
      rw [List.getElem?_set_self (by simpa using hi)]
      simp [hi, cntA, List.count_append]
    · rw [List.getElem?_set_ne (fun h => e h.symm)]
      have : List.count i [x] = 0 := List.count_eq_zero.2 (by simpa using e)
      simp [hi, cntA, List.count_append, this]
  · rw [List.getElem?_eq_none (by simp; omega), List.getElem?_eq_none (by simp; omega)]
end
end Go.Mh

/-! Covers, and landmarks far from each other. -/
namespace Go.Mh
open Go

def clp (c d : List Int) (i : Nat) : List Int := c.mapIdx fun v x => if v < i then min x (dAt d v) else x
def cl (c d : List Int) : List Int := clp c d d.length
theorem clp_len {c d : List Int} {i : Nat} : (clp c d i).length = c.length := by simp [clp]
theorem cl_len {c d : List Int} : (cl c d).length = c.length := clp_len
theorem clp_zero {c d : List Int} : clp c d 0 = c := by
  apply List.ext_getElem clp_len
  intro i h1 h2
  simp [clp]
theorem clp_at {c d : List Int} {i : Nat} (h : i < c.length) : (clp c d i)[i]'(by rw [clp_len]; exact h) = c[i] := by simp [clp]
theorem clp_step {c d : List Int} {i : Nat} (h : i < c.length) : (clp c d i).set i (min c[i] (dAt d i)) = clp c d (i + 1) := by
  apply List.ext_getElem (by simp [clp])
  intro j h1 h2
  have hj : j < c.length := by rw [clp_len] at h2; exact h2
  rw [List.getElem_set]
  by_cases e : i = j
  · subst e; simp [clp]
  · rw [if_neg e]
    simp only [clp, List.getElem_mapIdx]
    by_cases h3 : j < i
    · rw [if_pos h3, if_pos (by omega)]
    · rw [if_neg h3, if_neg (by omega)]

def cov (g : G) (ms : List Int) : List Int := ms.foldl (fun c m => cl c (g.fromI m).dist) (List.replicate g.n far)
theorem cov_snoc {g : G} {ms : List Int} {m : Int} : cov g (ms ++ [m]) = cl (cov g ms) (g.fromI m).dist := by simp [cov]
theorem foldl_len {g : G} : ∀ {ms : List Int} {c : List Int}, (ms.foldl (fun c m => cl c (g.fromI m).dist) c).length = c.length
  | [], _ => rfl
  | m :: ms, c => by rw [List.foldl_cons, foldl_len, cl_len]
theorem cov_len {g : G} {ms : List Int} : (cov g ms).length = g.n := by unfold cov; rw [foldl_len]; simp

/-- The first one of which the cover is greatest. -/
def bstGo (c : List Int) : Nat → List Nat → Nat
  | x, [] => x
  | x, y :: r => bstGo c (if c.getD x 0 < c.getD y 0 then y else x) r
def bst (c : List Int) : List Nat → Nat
  | [] => 0
  | x :: r => bstGo c x r

theorem bstGo_mem {c : List Int} : ∀ {r : List Nat} {x : Nat}, bstGo c x r ∈ x :: r
  | [], x => by simp [bstGo]
  | y :: r, x => by
    unfold bstGo
    have := bstGo_mem (c := c) (r := r) (x := if c.getD x 0 < c.getD y 0 then y else x)
    split at this <;> rename_i h
    · rw [if_pos h]; exact List.mem_cons_of_mem _ this
    · rw [if_neg h]
      rcases List.mem_cons.1 this with e | e
      · rw [e]; exact List.mem_cons_self ..
      · exact List.mem_cons_of_mem _ (List.mem_cons_of_mem _ e)
theorem bst_mem {c : List Int} {l : List Nat} (h : l ≠ []) : bst c l ∈ l := by
  cases l with
  | nil => exact absurd rfl h
  | cons x r => exact bstGo_mem

theorem bstGo_snoc {c : List Int} {y : Nat} : ∀ {r : List Nat} {x : Nat}, bstGo c x (r ++ [y]) = if c.getD (bstGo c x r) 0 < c.getD y 0 then y else bstGo c x r
  | [], x => rfl
  | z :: r, x => by rw [List.cons_append]; unfold bstGo; exact bstGo_snoc
theorem bst_snoc {c : List Int} {l : List Nat} {y : Nat} (h : l ≠ []) : bst c (l ++ [y]) = if c.getD (bst c l) 0 < c.getD y 0 then y else bst c l := by
  cases l with
  | nil => exact absurd rfl h
  | cons x r => exact bstGo_snoc

/-- Landmarks: k at most, by those that are left, and their covers. -/
def mgo (g : G) : Nat → Nat → List Nat → List Int → List Nat
  | 0, _, _, _ => []
  | k + 1, i, left, c => match left with
    | [] => []
    | x :: r => bst c (x :: r) :: mgo g k (i + 1) ((x :: r).filter (· != bst c (x :: r))) (cl (if i = 0 then List.replicate g.n far else c) (g.fromI (bst c (x :: r))).dist)
def marksP (g : G) (k first : Nat) : List Nat := mgo g k 0 (List.range g.n) (cov g [(first : Int)])

/-- The next landmark. -/
def mNext (g : G) (p : Nat × List Nat × List Int) (x : List Value) (p' : Nat × List Nat × List Int) : Prop :=
  p.2.1 ≠ [] ∧ x = [I (bst p.2.2 p.2.1)] ∧ p' = (p.1 + 1, p.2.1.filter (· != bst p.2.2 p.2.1), cl (if p.1 = 0 then List.replicate g.n far else p.2.2) (g.fromI (bst p.2.2 p.2.1)).dist)

theorem mgo_next {g : G} {k i : Nat} {left : List Nat} {c : List Int} (h : left ≠ []) : mgo g (k + 1) i left c = bst c left :: mgo g k (i + 1) (left.filter (· != bst c left)) (cl (if i = 0 then List.replicate g.n far else c) (g.fromI (bst c left)).dist) := by
  cases left with
  | nil => exact absurd rfl h
  | cons x r => rfl

end Go.Mh

/-! Queues: slices of which the front is cut off, and to which is appended. -/
namespace Go.Mh
open Go

section
variable {α : Type} {enc : α → List Value} {n : Nat} {T : TypeId} {h0 h h' : Heap} {v w : Value} {ys xs : List α} {K : Value → Prop} {KH : Value → Heap → Prop} {k : IntKind} {i : Nat} {L : List Res}

theorem pSlice_both {x : Value} {lo hi mx : Option Value} {K1 K2 : Value → Prop} (h1 : pSlice n x lo hi mx K1) (h2 : pSlice n x lo hi mx K2) : pSlice n x lo hi mx fun v => K1 v ∧ K2 v := by
  unfold pSlice at *
  split at h1
  · split at h1
    · rename_i e1 e2 e3
      simp only [e1, e2, e3] at h2 ⊢
      exact ⟨h1.1, h1.2.1, h1.2.2.1, h1.2.2.2.1, h1.2.2.2.2.1, h1.2.2.2.2.2, h2.2.2.2.2.2⟩
    · exact h1.elim
  · exact h1.elim

theorem pSlice_mono {x : Value} {lo hi mx : Option Value} {K1 K2 : Value → Prop} (h1 : pSlice n x lo hi mx K1) (h2 : ∀ v, K1 v → K2 v) : pSlice n x lo hi mx K2 := by
  unfold pSlice at *
  split at h1
  · split at h1
    · rename_i e1 e2 e3
      exact ⟨h1.1, h1.2.1, h1.2.2.1, h1.2.2.2.1, h1.2.2.2.2.1, h2 _ h1.2.2.2.2.2⟩
    · exact h1.elim
  · exact h1.elim

theorem pSlice_all {β : Type} {x : Value} {lo hi mx : Option Value} {Q : β → Prop} {K : β → Value → Prop} (b0 : β) (hb : Q b0) (h : ∀ b, Q b → pSlice n x lo hi mx (K b)) : pSlice n x lo hi mx fun v => ∀ b, Q b → K b v := by
  have h1 := h b0 hb
  unfold pSlice at h h1 ⊢
  split at h1
  · split at h1
    · rename_i e1 e2 e3
      simp only [e1, e2, e3] at h ⊢
      exact ⟨h1.1, h1.2.1, h1.2.2.1, h1.2.2.2.1, h1.2.2.2.2.1, fun b hb => (h b hb).2.2.2.2.2⟩
    · exact h1.elim
  · exact h1.elim

/-- A part of a row: it is one wherever the row is. -/
theorem Vw.subA {lo hi : Option Value} {a j : Nat} (he : ∀ a, (enc a).length = n) (H : Vw enc n h v ys) (hlo : bndOf 0 lo = some (a : Int)) (hhi : bndOf ys.length hi = some (j : Int)) (hij : a ≤ j) (hj : j ≤ ys.length)
    (hK : ∀ v', (∀ h', Vw enc n h' v ys → Vw enc n h' v' ((ys.drop a).take (j - a))) → K v') : pSlice n v lo hi none K :=
  pSlice_mono (pSlice_all (Q := fun h' => Vw enc n h' v ys) (K := fun h' v' => Vw enc n h' v' ((ys.drop a).take (j - a))) h H fun h' H' => H'.sub he hlo hhi hij hj fun v' h => h) fun v' h => hK v' h

def QuR (enc : α → List Value) (n : Nat) (T : TypeId) (h : Heap) (v : Value) (ys : List α) : Prop :=
  (v = .slice none 0 0 ∧ ys = []) ∨ ∃ bl cap pre rest, v = .slice (some ⟨bl, pre.length, none⟩) ys.length cap ∧ h[bl]? = some (.cells (pre ++ row enc ys ++ rest).toArray T (0, 0)) ∧
    (cap - ys.length) * n ≤ rest.length ∧ ys.length ≤ cap

def quR (enc : α → List Value) (n : Nat) (T : TypeId) (v : Value) (ys : List α) : Res := ⟨blkOf v, fun h => QuR enc n T h v ys, fun {h h'} hs hq => by
  rcases hq with H | ⟨bl, cap, pre, rest, rfl, hb, a, c⟩
  · exact .inl H
  · exact .inr ⟨bl, cap, pre, rest, rfl, (hs bl rfl).trans hb, a, c⟩⟩

theorem Own.que (o : Own h0 h L) (i : Nat) (hi : L[i]? = some (slR enc n T v xs)) : Own h0 h (L.set i (quR enc n T v xs)) := by
  refine o.conv i hi ?_ fun b hb => hb
  obtain ⟨bl, H⟩ := o.get i hi
  rcases H with H | ⟨cap, rest, rfl, hb, a, c⟩
  · exact .inl H
  · exact .inr ⟨bl, cap, [], rest, rfl, hb, by omega, c⟩

theorem Own.qvw (o : Own h0 h L) (i : Nat) (hi : L[i]? = some (quR enc n T v ys)) : Vw enc n h v ys := by
  rcases o.get i hi with ⟨rfl, rfl⟩ | ⟨bl, cap, pre, rest, rfl, hb, a, c⟩
  · exact .nil
  · exact ⟨bl, _, cap, rfl, c, .inr ⟨_, pre, rest, T, _, rfl, hb, rfl⟩⟩

/-- The first one off. -/
theorem Own.qtail {y : α} {hi' : Option Value} (o : Own h0 h L) (he : ∀ a, (enc a).length = n) (i : Nat) (hi : L[i]? = some (quR enc n T v (y :: ys))) (hh : hi' = none)
    (hK : ∀ v', Own h0 h (L.set i (quR enc n T v' ys)) → K v') : pSlice n v (some (.int k 1)) hi' none K := by
  subst hh
  rcases o.get i hi with ⟨rfl, h⟩ | ⟨bl, cap, pre, rest, rfl, hb, a, c⟩
  · cases h
  · simp only [List.length_cons] at c a
    refine ⟨by simp, by simp, by simp; omega, by simp; omega, by simp, ?_⟩
    refine hK _ (o.conv i hi ?_ ?_)
    · refine .inr ?_
      simp only [List.length_cons, Int.toNat_natCast]
      unfold slBase
      by_cases hc : cap = 1
      · subst hc
        have : ys = [] := List.eq_nil_of_length_eq_zero (by omega)
        subst this
        refine ⟨bl, 0, pre, enc y ++ rest, by simp, by rw [hb]; simp [row], by simp, by simp⟩
      · refine ⟨bl, cap - 1, pre ++ enc y, rest, ?_, by rw [hb]; simp [row], ?_, by omega⟩
        · rw [if_neg (by simp; omega)]; simp [he]
        · rw [show cap - 1 - ys.length = cap - (ys.length + 1) by omega]; exact a
    · intro b hb'
      unfold slBase at hb'
      split at hb'
      · exact hb'
      · exact hb'

/-- One element more. -/
theorem Own.qapp1 {bytes : Nat} {zero zs : List Value} {parts : List (Nat × Nat × Value)} (o : Own h0 h L) (i : Nat) (a : α) (hi : L[i]? = some (quR enc n T v xs)) (hrow : spliceAll zs parts = enc a) (hsz : sizesOk zs.length parts)
    (he : ∀ a, (enc a).length = n) (hp : ∀ a, ∀ u ∈ enc a, plainCell u = true) (hz : zero.length = n) (hby : 0 < bytes) (hb : (xs.length + 1) * bytes ≤ 2 ^ 47)
    (hK : ∀ v' h', Own h0 h' (L.set i (quR enc n T v' (xs ++ [a]))) → KH v' h') : pBuildSlice T zs parts 1 h fun t h1 => pAppend T n bytes zero v t h1 KH := by
  refine o.build (enc := enc) (n := n) [a] (by rw [hrow]; simp [row]) hsz rfl fun w h1 o1 => ?_
  have hi1 : (slR enc n T w [a] :: L)[i + 1]? = some (quR enc n T v xs) := hi
  obtain ⟨xb, xc, rfl, hcx⟩ := (o1.vw 0 rfl).cells he
  have fin : ∀ v' h', Own h0 h' ((slR enc n T (.slice xb [a].length xc) [a] :: L).set (i + 1) (quR enc n T v' (xs ++ [a]))) → KH v' h' := fun v' h' o' => hK v' h' o'.tail
  rcases o1.get (i + 1) hi1 with ⟨rfl, rfl⟩ | ⟨bl, cap, pre, rest, rfl, hbk, hr, hle⟩
  · have o2 := o1.conv (r' := slR enc n T (.slice none 0 0) []) (i + 1) hi1 ⟨0, .inl ⟨rfl, rfl⟩⟩ fun b hb => hb
    refine o2.app (i + 1) (set_get hi1) he hp hz (o1.vw 0 rfl) hby (by simpa using hb) fun v' h' o3 => ?_
    rw [List.set_set] at o3
    have o4 := o3.que (i + 1) (set_get hi1)
    rw [List.set_set] at o4
    exact fin v' h' o4
  · simp only [pAppend, List.length_singleton] at hcx ⊢
    rw [hcx]
    have hrx := row_length he xs
    have hra : (row enc [a]).length = n := by simp [row, he]
    have hpl : ∀ u ∈ row enc [a], plainCell u = true := by
      intro u hu; simp [row] at hu; exact hp a u hu
    have hblt := get_lt hbk
    dsimp only
    by_cases hcap : xs.length + 1 ≤ cap
    · rw [if_pos hcap]
      have hn : n ≤ rest.length := by
        refine Nat.le_trans ?_ hr
        exact Nat.le_mul_of_pos_left n (by omega)
      refine storeL_of _ _ _ _ hbk (by simp only [List.length_append]; rw [hrx, hra]; omega) hpl ?_
      have ov : over (pre ++ row enc xs ++ rest) (pre.length + xs.length * n) (row enc [a]) = pre ++ row enc (xs ++ [a]) ++ rest.drop n := by
        unfold over
        rw [hra, row_append]
        rw [show pre.length + xs.length * n = (pre ++ row enc xs).length by simp [hrx]]
        rw [List.take_left', List.drop_append, List.drop_of_length_le (by omega)]
        · rw [show (pre ++ row enc xs).length + n - (pre ++ row enc xs).length = n by omega]; simp
        · rfl
      rw [ov]
      refine fin _ _ (o1.set (i + 1) hi1 (Upd.upd _ _ rfl) (.inr ⟨bl, cap, pre, rest.drop n, by simp, upd_self' hbk, ?_, by simpa using hcap⟩) fun b hb => ⟨.inl hb, by rw [upd_size]; exact (show b = bl from hb) ▸ hblt⟩)
      rw [List.length_drop, List.length_append, List.length_singleton]
      rw [show cap - (xs.length + 1) = cap - xs.length - 1 by omega, Nat.sub_mul]; omega
    · rw [if_neg hcap]
      obtain ⟨b0, c0, e0, hl⟩ := (o1.qvw (i + 1) hi1).cells he
      injection e0 with e0 _ _
      subst e0
      rw [hl]
      have hc' : cap < xs.length + 1 := by omega
      refine ⟨growslice_fits hc' (by omega), by have := Nat.le_mul_of_pos_right (xs.length + 1) hby; omega, fun c h1' h2 => ?_⟩
      refine fin _ _ (o1.set (i + 1) hi1 (Upd.push _ _ _) (.inr ⟨h1.size, c, [], zerosL zero (c - (xs.length + 1)), by simp, ?_, ?_, by simpa using h1'⟩) fun b hb => ⟨.inr (by rw [show b = h1.size from hb]; exact Nat.le_refl _), by rw [show b = h1.size from hb, push_size]; omega⟩)
      · rw [push_new, row_append]; simp [row]
      · simp [zerosL, hz]

/-- The end of one's own row cleared. -/
theorem Own.clearTail {xs : List Int} {j : Nat} {a : Int} (o : Own h0 h L) (i : Nat) (hi : L[i]? = some (slR encI 1 T v xs)) (hj : j ≤ xs.length)
    (hK : ∀ h', Own h0 h' (L.set i (slR encI 1 T v (xs.take j ++ List.replicate (xs.length - j) a))) → KH (.tuple #[]) h') : pSlice 1 v (some (.int k j)) none none fun t => pClear [I a] t h KH := by
  have hrow : ∀ l : List Int, row encI l = l.map I := fun l => by
    induction l with
    | nil => rfl
    | cons a l ih => simp only [row, List.flatMap_cons, List.map_cons] at ih ⊢; rw [ih]; rfl
  have same : j = xs.length → L.set i (slR encI 1 T v (xs.take j ++ List.replicate (xs.length - j) a)) = L := fun e => by
    subst e
    rw [List.take_length, Nat.sub_self, List.replicate_zero, List.append_nil]
    apply List.ext_getElem?
    intro q
    rw [List.getElem?_set]
    split
    · rename_i e; subst e; rw [hi]; simp [(List.getElem?_eq_some_iff.1 hi).1]
    · rfl
  obtain ⟨bl, H⟩ := o.get i hi
  rcases H with ⟨rfl, rfl⟩ | ⟨cap, rest, rfl, hb, hr, hle⟩
  · have e0 : j = 0 := by simpa using hj
    subst e0
    refine ⟨by simp, by simp, by simp, by simp, by simp, ?_⟩
    have e : slBase 1 (Int.toNat ((0 : Nat) : Int)) (Int.toNat ((0 : Nat) : Int)) none = none := by simp [slBase]
    rw [e]
    show KH (.tuple #[]) h
    exact hK h (by rw [same rfl]; exact o)
  · have hblt := get_lt hb
    refine ⟨by simp, by simp, by simp; omega, by simp; omega, by simp, ?_⟩
    simp only [Int.toNat_natCast]
    by_cases e : xs.length = j
    · have hlen : xs.length - j = 0 := by omega
      have ho := hK h (by rw [same e.symm]; exact o)
      rw [hlen]
      unfold slBase
      split
      · exact ho
      · exact ho
    · have hb2 : slBase 1 j cap (some ⟨bl, 0, none⟩) = some ⟨bl, j, none⟩ := by
        unfold slBase; rw [if_neg (by omega)]; simp
      rw [hb2]
      obtain ⟨q, hq⟩ : ∃ q, xs.length - j = q + 1 := ⟨xs.length - j - 1, by omega⟩
      rw [hq]
      show storeL h bl j (zerosL [I a] (q + 1)) (KH (.tuple #[]))
      rw [← hq]
      have hz : zerosL [I a] (xs.length - j) = List.replicate (xs.length - j) (I a) := by simp [zerosL]
      rw [hz]
      refine storeL_of _ _ _ _ hb (by rw [List.length_append, hrow]; simp; omega) (fun u hu => by rw [List.eq_of_mem_replicate hu]; rfl) ?_
      have ov : over (row encI xs ++ rest) j (List.replicate (xs.length - j) (I a)) = row encI (xs.take j ++ List.replicate (xs.length - j) a) ++ rest := by
        rw [hrow, hrow]
        unfold over
        have hl : (List.map (fun x => I x) xs).length = xs.length := by simp
        rw [List.length_replicate, List.take_append_of_le_length (by rw [hl]; omega), show j + (xs.length - j) = (List.map (fun x => I x) xs).length by rw [hl]; omega, List.drop_left']
        · simp [List.map_take]
        · rfl
      rw [ov]
      refine hK _ (o.set i hi (Upd.upd _ _ rfl) ⟨bl, .inr ⟨cap, rest, by simp; omega, upd_self hblt, by simp; rw [hr]; congr 1; simp; omega, by simp; omega⟩⟩ fun b hb' => ⟨.inl hb', by rw [upd_size]; exact (show b = bl from hb') ▸ hblt⟩)

/-- A front part of one's own row. -/
theorem Own.pre {j : Nat} (o : Own h0 h L) (he : ∀ a, (enc a).length = n) (i : Nat) (hi : L[i]? = some (slR enc n T v xs)) (hj : j ≤ xs.length)
    (hK : ∀ v', Own h0 h (L.set i (slR enc n T v' (xs.take j))) → K v') : pSlice n v none (some (.int k j)) none K := by
  obtain ⟨bl, H⟩ := o.get i hi
  have H0 := H
  rcases H with ⟨rfl, rfl⟩ | ⟨cap, rest, rfl, hb, hr, hle⟩
  · have : j = 0 := by simpa using hj
    subst this
    refine ⟨by simp, by simp, by simp, by simp, by simp, hK _ (o.conv i hi ⟨bl, ?_⟩ ?_)⟩
    · exact .inl ⟨by simp [slBase], by simp⟩
    · intro b hb; simp [slBase, slR, blkOf] at hb
  · exact H0.pre he hj fun v' H' => hK v' (o.conv i hi ⟨bl, H'⟩ fun b hb => H'.blk hb)

/-- A front part of one's own row, and no more room than that. -/
theorem Own.qcut {j : Nat} {k' : IntKind} (o : Own h0 h L) (he : ∀ a, (enc a).length = n) (i : Nat) (hi : L[i]? = some (slR enc n T v xs)) (hj : j ≤ xs.length)
    (hK : ∀ v', Own h0 h (L.set i (quR enc n T v' (xs.take j))) → K v') : pSlice n v none (some (.int k j)) (some (.int k' j)) K := by
  obtain ⟨bl, H⟩ := o.get i hi
  rcases H with ⟨rfl, rfl⟩ | ⟨cap, rest, rfl, hb, hr, hle⟩
  · have : j = 0 := by simpa using hj
    subst this
    refine ⟨by simp, by simp, by simp, by simp, by simp, hK _ (o.conv i hi ?_ ?_)⟩
    · exact .inl ⟨by simp [slBase], by simp⟩
    · intro b hb; simp [slBase, quR, blkOf] at hb
  · have e : slBase n 0 j (some ⟨bl, 0, none⟩) = some ⟨bl, 0, none⟩ := by simp [slBase]
    refine ⟨by simp, by simp, by simp, by simp, by omega, ?_⟩
    have e2 : (Value.slice (slBase n (Int.toNat (0 : Nat)) (Int.toNat (j : Int)) (some ⟨bl, 0, none⟩)) ((j : Int).toNat - (Int.toNat (0 : Nat))) ((j : Int).toNat - (Int.toNat (0 : Nat)))) = .slice (some ⟨bl, 0, none⟩) j j := by
      simp [e]
    rw [e2]
    refine hK _ (o.conv i hi ?_ fun b hb => hb)
    refine .inr ⟨bl, j, [], row enc (xs.drop j) ++ rest, by simp [hj], ?_, by simp [hj], by simp [hj]⟩
    rw [hb, List.nil_append, ← List.append_assoc, ← row_append, List.take_append_drop]

/-- A number set. -/
theorem Own.qsetI {xs : List Int} {z : Int} {j : Nat} (o : Own h0 h L) (i : Nat) (hi : L[i]? = some (quR encI 1 T v xs)) (hj : j < xs.length)
    (hK : ∀ h', Own h0 h' (L.set i (quR encI 1 T v (xs.set j z))) → KH undef h') : pIdx 1 v (.int k j) fun t => pStore 1 t (I z) h KH := by
  rcases o.get i hi with ⟨rfl, rfl⟩ | ⟨bl, cap, pre, rest, rfl, hb, hr, hle⟩
  · cases hj
  · have hblt := get_lt hb
    have hrow : ∀ l : List Int, row encI l = l.map I := fun l => by
      induction l with
      | nil => rfl
      | cons a l ih => simp only [row, List.flatMap_cons, List.map_cons] at ih ⊢; rw [ih]; rfl
    refine ⟨by omega, by omega, ?_⟩
    refine pStore_of (cs := pre ++ row encI xs ++ rest) (i := pre.length + j) (by simp) hb rfl (by rw [hrow]; simp [Value.cells]; omega) (fun u hu => by simp [Value.cells] at hu; subst hu; rfl) ?_
    refine hK _ (o.set i hi (Upd.upd _ _ rfl) (.inr ⟨bl, cap, pre, rest, by simp, ?_, by simpa using hr, by simpa using hle⟩) fun b hb' => ⟨.inl hb', by rw [upd_size]; exact (show b = bl from hb') ▸ hblt⟩)
    rw [upd_self hblt]
    have : over (pre ++ row encI xs ++ rest) (pre.length + j) (Value.cells (I z)).toList = pre ++ row encI (xs.set j z) ++ rest := by
      rw [hrow, hrow]
      have hc : (Value.cells (I z)).toList = [I z] := rfl
      rw [hc]
      unfold over
      have hl : (List.map (fun x => I x) xs).length = xs.length := by simp
      rw [List.append_assoc pre, List.length_singleton, Nat.add_assoc, List.take_length_add_append, List.drop_length_add_append, List.take_append_of_le_length (by rw [hl]; omega), List.drop_append_of_le_length (by rw [hl]; omega),
        List.set_eq_take_append_cons_drop, if_pos hj]
      simp [List.map_take, List.map_drop]
    rw [this]

/-- The first one off, and no more room than there are. -/
theorem Own.qtail3 {y : α} {m : Int} {k' k'' : IntKind} (o : Own h0 h L) (he : ∀ a, (enc a).length = n) (i : Nat) (hi : L[i]? = some (quR enc n T v (y :: ys))) (hm : m = ys.length + 1)
    (hK : ∀ v', Own h0 h (L.set i (quR enc n T v' ys)) → K v') : pSlice n v (some (.int k 1)) (some (.int k' m)) (some (.int k'' m)) K := by
  subst hm
  rcases o.get i hi with ⟨rfl, h⟩ | ⟨bl, cap, pre, rest, rfl, hb, a, c⟩
  · cases h
  · simp only [List.length_cons] at c a
    refine ⟨fun _ => rfl, by decide, by omega, Int.le_refl _, by omega, ?_⟩
    have e1 : (Int.toNat (1 : Int)) = 1 := rfl
    have e2 : ((ys.length : Int) + 1).toNat = ys.length + 1 := by omega
    rw [e1, e2, Nat.add_sub_cancel]
    refine hK _ (o.conv i hi ?_ ?_)
    · refine .inr ?_
      unfold slBase
      by_cases hc : ys.length = 0
      · have : ys = [] := List.eq_nil_of_length_eq_zero hc
        subst this
        refine ⟨bl, 0, pre, enc y ++ rest, by simp, by rw [hb]; simp [row], by simp, by simp⟩
      · refine ⟨bl, ys.length, pre ++ enc y, rest, ?_, by rw [hb]; simp [row], by simp, Nat.le_refl _⟩
        rw [if_neg (by omega)]; simp [he]
    · intro b hb'
      unfold slBase at hb'
      split at hb'
      · exact hb'
      · exact hb'

/-- A row copied into another one of the same length. -/
theorem Own.copyAll {x : Value} {xs ys : List α} (o : Own h0 h L) (i : Nat) (hi : L[i]? = some (slR enc n T v xs)) (he : ∀ a, (enc a).length = n) (hp : ∀ a, ∀ u ∈ enc a, plainCell u = true) (hx : Vw enc n h x ys) (hl : xs.length = ys.length)
    (hK : ∀ h', Own h0 h' (L.set i (slR enc n T v ys)) → KH (.int .i64 ys.length) h') : pCopy n v x h KH := by
  obtain ⟨xb, xc, rfl, hcx⟩ := hx.cells he
  obtain ⟨bl, H⟩ := o.get i hi
  have H0 := H
  rcases H with ⟨rfl, rfl⟩ | ⟨cap, rest, rfl, hb, hr, hle⟩
  · have : ys = [] := List.eq_nil_of_length_eq_zero hl.symm
    subst this
    unfold pCopy
    have : cellsOfSl h n (Nat.min ([] : List α).length 0) xb = some [] := by
      have e : (Nat.min ([] : List α).length 0) = ([] : List α).length := rfl
      rw [e, hcx]; rfl
    simp only [this]
    refine hK h ?_
    have : L.set i (slR enc n T (.slice none 0 0) []) = L := by
      apply List.ext_getElem?
      intro q
      rw [List.getElem?_set]
      split
      · rename_i e; subst e; rw [hi]; simp [(List.getElem?_eq_some_iff.1 hi).1]
      · rfl
    rw [this]; exact o
  · unfold pCopy
    have hmin : Nat.min ys.length xs.length = ys.length := by rw [hl]; exact Nat.min_self _
    simp only [hmin, hcx]
    have hz : (0 : Nat) = 0 * n := by simp
    rw [hz]
    refine o.storeRow i hi he hp H0 rfl (by omega) fun h' o' => hK h' ?_
    have e : xs.take 0 ++ ys ++ xs.drop (0 + ys.length) = ys := by
      rw [List.take_zero, List.nil_append, Nat.zero_add, List.drop_of_length_le (by omega), List.append_nil]
    rw [e] at o'
    exact o'

end
end Go.Mh

namespace Go.Mh
open Go
theorem set_same {α : Type} {L : List α} {i : Nat} {r : α} (hi : L[i]? = some r) : L.set i r = L := by
  apply List.ext_getElem?
  intro j
  rw [List.getElem?_set]
  split
  · rename_i e; subst e; rw [hi]; simp [(List.getElem?_eq_some_iff.1 hi).1]
  · rfl

/-- A row of which k from both ends were exchanged. -/
def rv (xs : List Int) (k : Nat) : List Int := (List.range xs.length).map fun m => if m < k ∨ xs.length - k ≤ m then xs.getD (xs.length - 1 - m) 0 else xs.getD m 0
theorem rv_len {xs : List Int} {k : Nat} : (rv xs k).length = xs.length := by simp [rv]
theorem rv_get {xs : List Int} {k m : Nat} (h : m < (rv xs k).length) : (rv xs k)[m] = if m < k ∨ xs.length - k ≤ m then xs.getD (xs.length - 1 - m) 0 else xs.getD m 0 := by simp [rv]
theorem rv_zero {xs : List Int} : rv xs 0 = xs := by
  apply List.ext_getElem rv_len
  intro m h1 h2
  rw [rv_get, if_neg (by omega), List.getD_eq_getElem?_getD, List.getElem?_eq_getElem h2]; rfl
theorem rv_done {xs : List Int} {k : Nat} (h : xs.length ≤ 2 * k + 1) : rv xs k = xs.reverse := by
  apply List.ext_getElem (by rw [rv_len, List.length_reverse])
  intro m h1 h2
  have h3 : m < xs.length := by rw [rv_len] at h1; exact h1
  rw [rv_get, List.getElem_reverse]
  split
  · rw [List.getD_eq_getElem?_getD, List.getElem?_eq_getElem (by omega)]; rfl
  · have e : xs.length - 1 - m = m := by omega
    rw [List.getD_eq_getElem?_getD, List.getElem?_eq_getElem h3]
    simp only [e, Option.getD_some]
theorem rv_step {xs : List Int} {k : Nat} (h : 2 * k + 1 < xs.length) :
    ((rv xs k).set k ((rv xs k)[xs.length - 1 - k]'(by rw [rv_len]; omega))).set (xs.length - 1 - k) ((rv xs k)[k]'(by rw [rv_len]; omega)) = rv xs (k + 1) := by
  apply List.ext_getElem (by simp [rv_len])
  intro m h1 h2
  have h3 : m < xs.length := by rw [rv_len] at h2; exact h2
  rw [List.getElem_set, rv_get h2]
  split
  · rename_i e
    subst e
    rw [rv_get, if_neg (by omega), if_pos (by omega), show xs.length - 1 - (xs.length - 1 - k) = k by omega]
  · rw [List.getElem_set]
    split
    · rename_i e
      subst e
      rw [rv_get, if_neg (by omega), if_pos (by omega)]
    · rw [rv_get]
      by_cases c : m < k ∨ xs.length - k ≤ m
      · rw [if_pos c, if_pos (by omega)]
      · rw [if_neg c, if_neg (by omega)]
end Go.Mh

namespace Go.Mh
open Go Go.ChangeShapes Go.WideShapes Go.ChangeAt Go.RowKit

section
variable {H : Type} {encD : TypeId × Value → H} {P : Program} {w : World} {e t : TypeId} {v : Value} {r : Reach} {base : Nat} {d : DataW H} {p : List MemPlace}

/-- An array of three numbers, given. -/
theorem arr3_of {k : IntKind} (ht : P.underlying t = some (.array 3 e)) (he : P.underlying e = some (.int k)) (hct : P.cellsOf t = 3) (hce : P.cellsOf e = 1) (hv : Value.okWide P w r base t v) (hd : DataW.Trod encD P w 0 (fun _ => true) true t v d p) :
    ∃ a b c : Int, v = .agg #[.int k a, .int k b, .int k c] ∧ (k.min ≤ a ∧ a ≤ k.max) ∧ (k.min ≤ b ∧ b ≤ k.max) ∧ (k.min ≤ c ∧ c ≤ k.max) := by
  simp only [Value.okWide, ht] at hv
  obtain ⟨cs, rfl, hsz, _⟩ := hv
  rw [hct] at hsz
  obtain ⟨l⟩ := cs
  match l, hsz with
  | [c0, c1, c2], _ =>
    obtain ⟨fuel, hf⟩ := hd
    cases fuel with
    | zero => simp [DataW.trod] at hf
    | succ n =>
      simp only [Value.cells] at hf
      unfold DataW.trod at hf
      rw [ht] at hf
      have r3 : List.range 3 = [0, 1, 2] := rfl
      simp [r3, hce] at hf
      obtain ⟨_, hf⟩ := hf
      cases h0 : DataW.trod encD P w 0 (fun _ => true) true n e [c0] with
      | none => simp [h0] at hf
      | some y0 =>
        cases h1 : DataW.trod encD P w 0 (fun _ => true) true n e [c1] with
        | none => simp [h0, h1] at hf
        | some y1 =>
          cases h2 : DataW.trod encD P w 0 (fun _ => true) true n e [c2] with
          | none => simp [h0, h1, h2] at hf
          | some y2 =>
            obtain ⟨a, ea, ra⟩ := dec_int (k := k) he _ _ _ h0
            obtain ⟨b, eb, rb⟩ := dec_int (k := k) he _ _ _ h1
            obtain ⟨c, ec, rc⟩ := dec_int (k := k) he _ _ _ h2
            simp only [List.cons.injEq, and_true] at ea eb ec
            subst ea eb ec
            exact ⟨a, b, c, rfl, ra, rb, rc⟩

end
end Go.Mh

namespace Go.Mh
open Go Go.ChangeShapes Go.WideShapes Go.ChangeAt Go.RowKit

section
variable {H : Type} {encD : TypeId × Value → H} {P : Program} {w : World} {α : Type} {enc : α → List Value} {ok : α → Prop} {n : Nat} {e t : TypeId} {v : Value} {r : Reach} {base : Nat} {d : DataW H} {p : List MemPlace} {cs : List Value}

theorem view_at {fuel : Nat} {x0 : DataW H × List MemPlace} (he : ∀ a, (enc a).length = n) (ht : P.underlying t = some (.slice e)) (hn : P.cellsOf e = n) (hpos : 0 < n)
    (hdec : ∀ fuel cs x, DataW.trod encD P w 0 (fun _ => true) true fuel e cs = some x → ∃ a, cs = enc a ∧ ok a)
    (hf : DataW.trod encD P w 0 (fun _ => true) true fuel t [v] = some x0) (hsp0 : ∀ a l c, v = .slice (some a) l c → a.spot = none) :
    ∃ bl xs, VwR enc n w.heap v bl xs ∧ (∀ a ∈ xs, ok a) ∧ xs.length ≤ maxLen := by
  rcases Go.Deep.open_slice ht hf with ⟨hc, _⟩ | ⟨a, len, cap, m, fuel', D, Pl, hc, _, hle, hmx, hm, _, hx⟩
  · simp only [List.cons.injEq, and_true] at hc
    subst hc
    exact ⟨0, [], ⟨none, 0, rfl, Nat.le_refl _, .inl ⟨rfl, .inl rfl⟩⟩, by simp, by simp⟩
  · simp only [List.cons.injEq, and_true] at hc
    subst hc
    have hsp := hsp0 a len cap rfl
    simp only [if_true] at hm
    subst hm
    have hall : ∀ i, i < len → ∃ x : α, w.cells? 0 (a.add (i * n)) n = some (enc x) ∧ ok x := by
      intro i hi
      obtain ⟨cs', h1, h2⟩ := hx i (by omega)
      obtain ⟨x, rfl, hok⟩ := hdec _ _ _ h2
      rw [hn] at h1
      exact ⟨x, h1, hok⟩
    obtain ⟨xs, hl, hxs⟩ := choose_list (Q := fun i x => w.cells? 0 (a.add (i * n)) n = some (enc x) ∧ ok x) len hall
    refine ⟨a.block, xs, ?_, fun x hx' => ?_, by omega⟩
    · refine ⟨some a, m, by rw [hl], by omega, ?_⟩
      have ha : a = ⟨a.block, a.off, none⟩ := by
        obtain ⟨b, o, s⟩ := a; simp only at hsp; subst hsp; rfl
      by_cases h0 : xs = []
      · exact .inl ⟨h0, .inr ⟨_, _, by rw [← ha]⟩⟩
      · right
        have hlp : 0 < xs.length := List.length_pos_iff.2 h0
        have hcell : ∀ i (hi : i < xs.length) j, j < n → w.cell? ⟨a.block, a.off + i * n + j, none⟩ = (enc xs[i])[j]? := by
          intro i hi j hj
          have h1 := (hxs i hi).1
          unfold World.cells? at h1
          rw [if_pos (Nat.zero_le _), add_plain hsp] at h1
          have := mapM_get h1 j j (by simp [hj])
          rw [add_plain rfl] at this
          exact this
        have h00 := hcell 0 hlp 0 hpos
        simp only [World.cell?] at h00
        have hblk : ∃ c T fz, w.heap[a.block]? = some (.cells c T fz) := by
          split at h00
          · rename_i c T fz hb; exact ⟨c, T, fz, hb⟩
          · rw [List.getElem?_eq_getElem (by rw [he]; exact hpos)] at h00; cases h00
        obtain ⟨c, T, fz, hb⟩ := hblk
        have hcc : ∀ i (hi : i < xs.length) j, j < n → c[a.off + i * n + j]? = (enc xs[i])[j]? := by
          intro i hi j hj
          have := hcell i hi j hj
          simpa [World.cell?, hb] using this
        have hrl := row_length he xs
        have hmid : (c.toList.drop a.off).take (xs.length * n) = row enc xs := by
          apply List.ext_getElem?
          intro k
          by_cases hk : k < xs.length * n
          · have hi : k / n < xs.length := (Nat.div_lt_iff_lt_mul hpos).2 hk
            have hj : k % n < n := Nat.mod_lt _ hpos
            have hkk : k / n * n + k % n = k := by rw [Nat.mul_comm]; exact Nat.div_add_mod k n
            have g := row_get he hi hj []
            rw [List.append_nil, hkk] at g
            rw [g, ← hcc _ hi _ hj, List.getElem?_take_of_lt hk, List.getElem?_drop, Nat.add_assoc, hkk]
            simp
          · rw [List.getElem?_eq_none (by simp; omega), List.getElem?_eq_none (by omega)]
        have hsize : a.off + xs.length * n ≤ c.size := by
          have hi : xs.length - 1 < xs.length := by omega
          have h1 := hcc (xs.length - 1) hi (n - 1) (by omega)
          rw [List.getElem?_eq_getElem (by rw [he]; omega)] at h1
          have h2 := (Array.getElem?_eq_some_iff.1 h1).1
          have h3 : (xs.length - 1) * n + n = xs.length * n := by rw [← Nat.succ_mul]; congr 1; omega
          omega
        refine ⟨a.off, c.toList.take a.off, c.toList.drop (a.off + xs.length * n), T, fz, by rw [← ha], ?_, by simp; omega⟩
        rw [hb, ← hmid]
        have : c.toList.take a.off ++ (c.toList.drop a.off).take (xs.length * n) ++ c.toList.drop (a.off + xs.length * n) = c.toList := by
          rw [← List.drop_drop, List.append_assoc, List.take_append_drop, List.take_append_drop]
        rw [this]
    · obtain ⟨i, hi, rfl⟩ := List.mem_iff_getElem.1 hx'
      exact (hxs i hi).2


/-- Cells of a type, given: they can be gone through, and slices among them begin at no spot. -/
def Opn (encD : TypeId × Value → H) (P : Program) (w : World) (t : TypeId) (cs : List Value) : Prop :=
  (∃ fuel x, DataW.trod encD P w 0 (fun _ => true) true fuel t cs = some x) ∧ ∀ v ∈ cs, ∀ a l c, v = .slice (some a) l c → a.spot = none

theorem cell_spot {a : Addr} {l c : Nat} (h : Cell.okWide P w r base t (.slice (some a) l c)) : a.spot = none := by
  unfold Cell.okWide at h
  cases hu : P.underlying t with
  | none => simp [hu, Cell.ok] at h
  | some u =>
    cases u <;> simp [hu, Cell.ok] at h
    exact h.2.2.2.1

theorem Opn.of_slice (ht : P.underlying t = some (.slice e)) (hv : Value.okWide P w r base t v) (hd : DataW.Trod encD P w 0 (fun _ => true) true t v d p) : Opn encD P w t [v] := by
  obtain ⟨a0, len0, cap0, rfl⟩ := okWide_slice ht hv
  obtain ⟨fuel, hf⟩ := hd
  refine ⟨⟨fuel, _, hf⟩, fun v hv' a l c e' => ?_⟩
  simp at hv'
  subst hv'
  injection e' with e1 e2 e3
  subst e1
  exact okWide_slice_spot ht hv

def isAgg (P : Program) (t : TypeId) : Bool := match P.underlying t with
  | some (.struct _) | some (.array _ _) => true
  | _ => false

theorem agg_of (ha : isAgg P t = true) (hn : P.cellsOf t = n) (hv : Value.okWide P w r base t v) (hd : DataW.Trod encD P w 0 (fun _ => true) true t v d p) :
    ∃ cs : List Value, v = .agg cs.toArray ∧ cs.length = n ∧ Opn encD P w t cs := by
  have : ∃ cs, v = .agg cs ∧ cs.size = P.cellsOf t ∧ Row.okWide P w r base t cs := by
    unfold Value.okWide at hv
    unfold isAgg at ha
    split at hv
    · exact hv
    · exact hv
    · rename_i h1 h2
      split at ha
      · rename_i h3; exact absurd h3 (h1 _)
      · rename_i h3; exact absurd h3 (h2 _ _)
      · cases ha
  obtain ⟨cs, rfl, hs, ts, _, _, hc⟩ := this
  obtain ⟨fuel, hf⟩ := hd
  refine ⟨cs.toList, by simp, by simpa [hn] using hs, ⟨fuel, _, hf⟩, fun v hv a l c e => ?_⟩
  obtain ⟨i, hi⟩ := List.getElem?_of_mem hv
  obtain ⟨u, _, hu⟩ := hc i v (by simpa using hi)
  rw [e] at hu
  exact cell_spot hu

def fieldOf (P : Program) (t : TypeId) (i : Nat) : Option (TypeId × Nat) := match P.underlying t with
  | some (.struct fs) => fs.toList[i]?.map fun f => (f.type, f.offset)
  | _ => none

theorem Opn.field (O : Opn encD P w t cs) (i : Nat) {ft : TypeId} {off : Nat} {cs' : List Value} (hf : fieldOf P t i = some (ft, off)) (hn : P.cellsOf ft = n) (hcs : (cs.drop off).take n = cs') : Opn encD P w ft cs' := by
  obtain ⟨⟨fuel, x, h⟩, hs⟩ := O
  unfold fieldOf at hf
  split at hf
  · rename_i fs ht
    obtain ⟨xs, m, rfl, _, _, _, hfs⟩ := DataW.trod_struct ht h
    simp only [Option.map_eq_some_iff] at hf
    obtain ⟨f, hi, e⟩ := hf
    injection e with e1 e2
    subst e1 e2 hn hcs
    refine ⟨⟨m, ?_⟩, fun v hv => hs v (List.mem_of_mem_drop (List.mem_of_mem_take hv))⟩
    have hh := hfs i f (by simpa using hi)
    obtain ⟨y, hy⟩ : ∃ y, xs[i]? = some y := by
      have : i < xs.length := by
        have := (List.getElem?_eq_some_iff.1 hi).1
        simp_all
      exact ⟨_, List.getElem?_eq_getElem this⟩
    exact ⟨y, by rw [hh, hy]⟩
  · cases hf

theorem Opn.elem {m : Nat} (O : Opn encD P w t cs) (i : Nat) {cs' : List Value} (ht : P.underlying t = some (.array m e)) (hi : i < m) (hn : P.cellsOf e = n) (hcs : (cs.drop (i * n)).take n = cs') : Opn encD P w e cs' := by
  obtain ⟨⟨fuel, x, h⟩, hs⟩ := O
  obtain ⟨xs, k, rfl, _, _, hl, hfs⟩ := DataW.trod_array ht h
  subst hn hcs
  refine ⟨⟨k, xs[i], ?_⟩, fun v hv => hs v (List.mem_of_mem_drop (List.mem_of_mem_take hv))⟩
  rw [hfs i hi, List.getElem?_eq_getElem (by omega)]

theorem Opn.int {k : IntKind} (O : Opn encD P w t [v]) (ht : P.underlying t = some (.int k)) : ∃ a : Int, v = .int k a ∧ k.min ≤ a ∧ a ≤ k.max := by
  obtain ⟨⟨fuel, x, h⟩, _⟩ := O
  obtain ⟨a, e, r⟩ := dec_int ht _ _ _ h
  simp only [List.cons.injEq, and_true] at e
  exact ⟨a, e, r⟩

theorem Opn.view (he : ∀ a, (enc a).length = n) (O : Opn encD P w t [v]) (ht : P.underlying t = some (.slice e)) (hn : P.cellsOf e = n) (hpos : 0 < n)
    (hdec : ∀ fuel cs x, DataW.trod encD P w 0 (fun _ => true) true fuel e cs = some x → ∃ a, cs = enc a ∧ ok a) : ∃ bl xs, VwR enc n w.heap v bl xs ∧ (∀ a ∈ xs, ok a) ∧ xs.length ≤ maxLen := by
  obtain ⟨⟨fuel, x, h⟩, hs⟩ := O
  exact view_at he ht hn hpos hdec h (hs v (by simp))

theorem dec_bool (he : P.underlying e = some .bool) {sp : Nat → Bool} : ∀ fuel cs x, DataW.trod encD P w 0 sp true fuel e cs = some x → ∃ a : Bool, cs = [.bool a] ∧ True := by
  intro fuel cs x h
  cases fuel with
  | zero => simp [DataW.trod] at h
  | succ m =>
    unfold DataW.trod at h
    rw [he] at h
    split at h <;> simp_all

theorem len2 {l : List Value} (h : l.length = 2) : ∃ a b, l = [a, b] := by match l, h with | [a, b], _ => exact ⟨a, b, rfl⟩
theorem len3 {l : List Value} (h : l.length = 3) : ∃ a b c, l = [a, b, c] := by match l, h with | [a, b, c], _ => exact ⟨a, b, c, rfl⟩
theorem len4 {l : List Value} (h : l.length = 4) : ∃ a b c d, l = [a, b, c, d] := by match l, h with | [a, b, c, d], _ => exact ⟨a, b, c, d, rfl⟩
theorem len5 {l : List Value} (h : l.length = 5) : ∃ a b c d e, l = [a, b, c, d, e] := by match l, h with | [a, b, c, d, e], _ => exact ⟨a, b, c, d, e, rfl⟩
theorem len6 {l : List Value} (h : l.length = 6) : ∃ a b c d e f, l = [a, b, c, d, e, f] := by match l, h with | [a, b, c, d, e, f], _ => exact ⟨a, b, c, d, e, f, rfl⟩
theorem len7 {l : List Value} (h : l.length = 7) : ∃ a b c d e f g, l = [a, b, c, d, e, f, g] := by match l, h with | [a, b, c, d, e, f, g], _ => exact ⟨a, b, c, d, e, f, g, rfl⟩
theorem len8 {l : List Value} (h : l.length = 8) : ∃ a b c d e f g i, l = [a, b, c, d, e, f, g, i] := by match l, h with | [a, b, c, d, e, f, g, i], _ => exact ⟨a, b, c, d, e, f, g, i, rfl⟩

/-- Numbers of a kind. -/
def encK (k : IntKind) (x : Int) : List Value := [.int k x]
theorem encK_len (k : IntKind) (x : Int) : (encK k x).length = 1 := rfl
def encB (x : Bool) : List Value := [.bool x]

end
end Go.Mh

/-! A value built of parts of one cell each. -/
namespace Go.Mh
open Go

def setAll (cs : List Value) : List (Nat × Nat × Value) → List Value
  | [] => cs
  | (off, _, v) :: r => setAll (cs.set off v) r

def onesB (n : Nat) : List (Nat × Nat × Value) → Bool
  | [] => true
  | (off, size, _) :: r => Nat.beq size 1 && (Nat.blt off n && onesB n r)

theorem splice_set {cs : List Value} {off : Nat} {v : Value} (h : off < cs.length) (hv : v.cells = #[v]) : cs.take off ++ v.cells.toList ++ cs.drop (off + v.cells.size) = cs.set off v := by
  rw [hv, List.set_eq_take_append_cons_drop, if_pos h]; simp

theorem ones_of : ∀ {parts : List (Nat × Nat × Value)} {cs : List Value}, (∀ p ∈ parts, p.2.2.cells = #[p.2.2]) → onesB cs.length parts = true → sizesOk cs.length parts ∧ spliceAll cs parts = setAll cs parts
  | [], _, _, _ => ⟨trivial, rfl⟩
  | (off, size, v) :: r, cs, h1, h2 => by
    simp only [onesB, Bool.and_eq_true] at h2
    have hs : size = 1 := Nat.eq_of_beq_eq_true h2.1
    have ho : off < cs.length := Nat.le_of_ble_eq_true h2.2.1
    have hv := h1 (off, size, v) (List.mem_cons_self ..)
    have ih := @ones_of r (cs.set off v) (fun p hp => h1 p (List.mem_cons_of_mem _ hp)) (by rw [List.length_set]; exact h2.2.2)
    rw [List.length_set] at ih
    refine ⟨⟨by rw [show v.cells = #[v] from hv, hs]; rfl, by omega, ih.1⟩, ?_⟩
    simp only [spliceAll, setAll]
    rw [splice_set ho hv]
    exact ih.2

theorem pBuild_ones {zero cs' : List Value} {parts : List (Nat × Nat × Value)} {K : Value → Prop} (h1 : ∀ p ∈ parts, p.2.2.cells = #[p.2.2]) (h2 : onesB zero.length parts = true) (hcs : setAll zero parts = cs') (hk : K (.agg cs'.toArray)) : pBuild zero parts K := by
  have := ones_of h1 h2
  refine ⟨this.1, ?_⟩
  rw [this.2, hcs]; exact hk

end Go.Mh

/-! Arguments of which it is known how much memory they take. -/
namespace Go.Mh
open Go Go.ChangeShapes Go.WideShapes Go.ChangeAt Go.RowKit

section
variable {H : Type} {enc encD : TypeId × Value → H} {P : Program} {w W W' : World} {n : Nat} {e t : TypeId} {v : Value} {r : Reach} {base : Nat} {d : DataW H} {p : List MemPlace} {cs : List Value} {B : Nat}

/-- As law_laid; the arguments take no more memory than may be. -/
theorem law_laidS {C : Checked} {os : Os} {f : FuncId} {fn : Func} {s : ChangeSpec} {conds : List PathCond} {tb : TypeId} {X : World → Array Value → Prop}
    (hX : ∀ (w w' : World) (args : Array Value), w.heap = w'.heap → X w args → X w' args)
    (own : ownKnob C.prog.godebug = none) (started : os.Started) (noInit : C.prog.inits.idxOf? f = none) (hfn : C.prog.funcs[f]? = some fn)
    (witness : ∃ (w : World) (tape : Tape) (i : Input), w.os = os ∧ (w.forCall tape i).Shaped C.prog ∧ i.vars = [] ∧ Input.okWide C.prog (w.forCall tape i) .any w.heap.size f i ∧
      ((s.pre enc C.prog fn conds false (w.forCall tape i).memory i.args ∧ X (w.forCall tape i).memory i.args) ∧ sizedMet enc C.prog fn (OpenSpec.ofChange s) false (w.forCall tape i).memory i.args) ∧ ({} : Assume).holds C.prog (lone (Frame.enter C.prog f i.args .normal) [] (w.forCall tape i)))
    (hvars : s.vars = []) (hres : fn.resultTypes = #[tb]) (htb : C.prog.underlying tb = some .bool)
    (hspec : ∀ ds : List (DataW H), ds.length = fn.params.toList.length → s.fn H ds = { results := [.lit (.bool true)], args := ds })
    (kids : Kids C.prog (· < C.prog.types.size)) (full : ∀ t e, t < C.prog.types.size → C.prog.underlying t = some (.slice e) → 0 < C.prog.cellsOf e) (hpar : ∀ t ∈ fn.params.toList, t < C.prog.types.size)
    (hcall : ∀ (W : World) (base : Nat) (args : Array Value) (ds : List (DataW H)) (ps : List MemPlace), (∀ (j : Nat) t v, fn.params[j]? = some t → args[j]? = some v → Value.okWide C.prog W .any base t v) →
      DataW.TrodAll enc C.prog W 0 (fun _ => true) true fn.params.toList args.toList ds ps → (∀ q ∈ DataW.weightsEach C.prog fn.params.toList ds, q ≤ reachBytes) →
      CallsH C.prog f args W.heap fun v h' => v = .bool true ∧ Ext W.heap h') :
    ReturnsInHanded {} C os f .any (fun w args => (s.pre enc C.prog fn conds false w args ∧ X w args) ∧ sizedMet enc C.prog fn (OpenSpec.ofChange s) false w args) (s.post enc C.prog fn false true false false) := by
  refine returnsInHanded_of_change_and hX own started noInit hfn witness ?_
  intro W base args ds gs before hval hW hcnd hwt _ _
  have hW' := hW
  obtain ⟨p, q, hA, hV, rfl, hfz, hnd⟩ := hW
  rw [hvars] at hV
  obtain ⟨rfl, rfl⟩ := trodVars_none hV
  have hvt : s.plain.varTypes C.prog = [] := by
    have : s.plain.vars = [] := hvars
    simp [DataSpec.varTypes, this]
  rw [hvt, List.append_nil, List.append_nil] at hwt
  refine calls_of_H (hcall W base args ds p hval hA fun q hq => by simpa using List.all_eq_true.1 hwt q hq) fun v w' hs hv => ⟨v, rfl, ?_⟩
  obtain ⟨rfl, hx⟩ := hv
  have hlt : ∀ x ∈ p, x.block < W.heap.size := fun x hx => hW'.lt x (by simpa using hx)
  have hsp := hspec ds (trodAll_length hA)
  unfold ChangeSpec.post
  refine ⟨ds, [], p ++ [], [], p, [], hW', ?_, ?_, ?_, kept_of_ext hs hx _, fun h => by cases h⟩
  · rw [List.append_nil, hsp, hres]
    exact trodAll_mk1 ⟨1, by simp [DataW.trod, htb, Value.cells]⟩
  · rw [List.append_nil, hsp]
    exact trodAll_carry (DataW.TrodAll.respare kids full hpar hA fun x hx => by simpa using hlt x hx) fun x hx' => sameAt_of_ext hx (hlt x hx')
  · rw [List.append_nil, hsp, hvars]; rfl

/-- Cells of a type, given, of which no part takes more memory than B. -/
def OpnW (encD : TypeId × Value → H) (P : Program) (w : World) (B : Nat) (t : TypeId) (cs : List Value) : Prop :=
  (∃ fuel x, DataW.trod encD P w 0 (fun _ => true) true fuel t cs = some x ∧ ∀ q ∈ DataW.weights P t x.1, q ≤ B) ∧ ∀ v ∈ cs, ∀ a l c, v = .slice (some a) l c → a.spot = none

theorem OpnW.opn (O : OpnW encD P w B t cs) : Opn encD P w t cs := by
  obtain ⟨⟨fuel, x, h, _⟩, hs⟩ := O
  exact ⟨⟨fuel, x, h⟩, hs⟩

theorem agg_ofW (ha : isAgg P t = true) (hn : P.cellsOf t = n) (hv : Value.okWide P w r base t v) (hd : DataW.Trod encD P w 0 (fun _ => true) true t v d p) (hw : ∀ q ∈ DataW.weights P t d, q ≤ B) :
    ∃ cs : List Value, v = .agg cs.toArray ∧ cs.length = n ∧ OpnW encD P w B t cs := by
  obtain ⟨cs, rfl, hl, ⟨_, hs⟩⟩ := agg_of ha hn hv hd
  obtain ⟨fuel, hf⟩ := hd
  exact ⟨cs, rfl, hl, ⟨fuel, _, by simpa [Value.cells] using hf, hw⟩, hs⟩

theorem weightsEach_get {q : Nat} : ∀ {ts : List TypeId} {ds : List (DataW H)} {i : Nat} {u : TypeId} {d : DataW H}, ts[i]? = some u → ds[i]? = some d → q ∈ DataW.weights P u d → q ∈ DataW.weightsEach P ts ds
  | t :: ts, d :: ds, 0, u, x, h1, h2, hq => by
    simp at h1 h2
    subst h1 h2
    simp only [DataW.weightsEach]
    exact List.mem_append_left _ hq
  | t :: ts, d :: ds, i + 1, u, x, h1, h2, hq => by
    simp only [DataW.weightsEach]
    exact List.mem_append_right _ (weightsEach_get (by simpa using h1) (by simpa using h2) hq)
  | [], _, _, _, _, h1, _, _ => by simp at h1
  | _ :: _, [], _, _, _, _, h2, _ => by simp at h2

theorem OpnW.field (O : OpnW encD P w B t cs) (i : Nat) {ft : TypeId} {off : Nat} {cs' : List Value} (hf : fieldOf P t i = some (ft, off)) (hn : P.cellsOf ft = n) (hcs : (cs.drop off).take n = cs') : OpnW encD P w B ft cs' := by
  have O' := (O.opn.field i hf hn hcs).2
  obtain ⟨⟨fuel, x, h, hw⟩, hs⟩ := O
  refine ⟨?_, O'⟩
  unfold fieldOf at hf
  split at hf
  · rename_i fs ht
    obtain ⟨xs, m, rfl, rfl, _, _, hfs⟩ := DataW.trod_struct ht h
    simp only [Option.map_eq_some_iff] at hf
    obtain ⟨f, hi, e⟩ := hf
    injection e with e1 e2
    subst e1 e2 hn hcs
    have hh := hfs i f (by simpa using hi)
    obtain ⟨y, hy⟩ : ∃ y, xs[i]? = some y := by
      have : i < xs.length := by
        have := (List.getElem?_eq_some_iff.1 hi).1
        simp_all
      exact ⟨_, List.getElem?_eq_getElem this⟩
    refine ⟨m, y, by rw [hh, hy], fun q hq => hw q ?_⟩
    simp only [DataW.weights, ht]
    exact weightsEach_get (i := i) (by simp [hi]) (by simp [hy]) hq
  · cases hf

/-- A slice takes no more memory than may be. -/
theorem OpnW.len {α : Type} {enc : α → List Value} {bl : Nat} {xs : List α} {h : Heap} {b : Nat} (O : OpnW encD P w B t [v]) (ht : P.underlying t = some (.slice e)) (hb : P.bytesOf e = b) (H : VwR enc n h v bl xs) : xs.length * b ≤ B := by
  obtain ⟨⟨fuel, x, hx, hw⟩, _⟩ := O
  obtain ⟨bs, cap, rfl, _⟩ := H
  rcases Go.Deep.open_slice ht hx with ⟨hc, _⟩ | ⟨a, len, cap', m, fuel', D, Pl, hc, _, _, _, _, rfl, _⟩
  · simp only [List.cons.injEq, and_true] at hc
    injection hc with _ hl _
    rw [hl]; simp
  · simp only [List.cons.injEq, and_true] at hc
    injection hc with _ hl _
    have := hw (((List.range len).map D).length * P.bytesOf e + ((List.range (m - len)).map fun j => D (len + j)).length * P.bytesOf e) (by
      simp only [DataW.weights, ht]
      rw [← Nat.add_mul]
      exact List.mem_cons_self ..)
    rw [hb] at this
    simp at this
    rw [hl]; omega

end
end Go.Mh

namespace Go.Mh
open Go Go.ChangeShapes Go.WideShapes Go.ChangeAt Go.RowKit

section
variable {H : Type} {encD : TypeId × Value → H} {P : Program} {w : World} {n : Nat} {e t : TypeId} {v : Value} {r : Reach} {base : Nat} {d : DataW H} {p : List MemPlace}

theorem trod_field {fuel : Nat} {cs : List Value} {x : DataW H × List MemPlace} {sp : Nat → Bool} (h : DataW.trod encD P w 0 sp true fuel t cs = some x) (i : Nat) {ft : TypeId} {off : Nat} {cs' : List Value}
    (hf : fieldOf P t i = some (ft, off)) (hn : P.cellsOf ft = n) (hcs : (cs.drop off).take n = cs') : ∃ m y, DataW.trod encD P w 0 sp true m ft cs' = some y := by
  unfold fieldOf at hf
  split at hf
  · rename_i fs ht
    obtain ⟨xs, m, rfl, _, _, _, hfs⟩ := DataW.trod_struct ht h
    simp only [Option.map_eq_some_iff] at hf
    obtain ⟨f, hi, e⟩ := hf
    injection e with e1 e2
    subst e1 e2 hn hcs
    refine ⟨m, ?_⟩
    have hh := hfs i f (by simpa using hi)
    obtain ⟨y, hy⟩ : ∃ y, xs[i]? = some y := by
      have : i < xs.length := by
        have := (List.getElem?_eq_some_iff.1 hi).1
        simp_all
      exact ⟨_, List.getElem?_eq_getElem this⟩
    exact ⟨y, by rw [hh, hy]⟩
  · cases hf

theorem trod_len {fuel : Nat} {cs : List Value} {x : DataW H × List MemPlace} {sp : Nat → Bool} (h : DataW.trod encD P w 0 sp true fuel t cs = some x) (hf : (fieldOf P t 0).isSome = true) : cs.length = P.cellsOf t := by
  unfold fieldOf at hf
  split at hf
  · rename_i fs ht
    obtain ⟨xs, m, rfl, _, hl, _, hfs⟩ := DataW.trod_struct ht h
    exact hl
  · cases hf

theorem Opn.bool (O : Opn encD P w t [v]) (ht : P.underlying t = some .bool) : ∃ a : Bool, v = .bool a := by
  obtain ⟨⟨fuel, x, h⟩, _⟩ := O
  obtain ⟨a, e, r⟩ := dec_bool ht _ _ _ h
  simp only [List.cons.injEq, and_true] at e
  exact ⟨a, e⟩

/-- An event, given. -/
theorem dec_ev {t0 t1 t2 t3 : TypeId} (f0 : fieldOf P e 0 = some (t0, 0)) (f1 : fieldOf P e 1 = some (t1, 1)) (f2 : fieldOf P e 2 = some (t2, 2)) (f3 : fieldOf P e 3 = some (t3, 3)) (hc : P.cellsOf e = 4)
    (h0 : P.underlying t0 = some (.int .i64)) (h1 : P.underlying t1 = some (.int .i64)) (h2 : P.underlying t2 = some (.int .i64)) (h3 : P.underlying t3 = some (.int .i64))
    (c0 : P.cellsOf t0 = 1) (c1 : P.cellsOf t1 = 1) (c2 : P.cellsOf t2 = 1) (c3 : P.cellsOf t3 = 1) {sp : Nat → Bool} :
    ∀ fuel cs x, DataW.trod encD P w 0 sp true fuel e cs = some x → ∃ a : Ev, cs = encE a ∧ True := by
  intro fuel cs x h
  have hl := trod_len h (by rw [f0]; rfl)
  rw [hc] at hl
  obtain ⟨a, b, c, d, rfl⟩ := len4 hl
  obtain ⟨m0, y0, g0⟩ := trod_field h 0 (cs' := [a]) f0 c0 rfl
  obtain ⟨m1, y1, g1⟩ := trod_field h 1 (cs' := [b]) f1 c1 rfl
  obtain ⟨m2, y2, g2⟩ := trod_field h 2 (cs' := [c]) f2 c2 rfl
  obtain ⟨m3, y3, g3⟩ := trod_field h 3 (cs' := [d]) f3 c3 rfl
  obtain ⟨za, ea, _⟩ := dec_int (k := .i64) h0 _ _ _ g0
  obtain ⟨zb, eb, _⟩ := dec_int (k := .i64) h1 _ _ _ g1
  obtain ⟨zc, ec, _⟩ := dec_int (k := .i64) h2 _ _ _ g2
  obtain ⟨zd, ed, _⟩ := dec_int (k := .i64) h3 _ _ _ g3
  simp only [List.cons.injEq, and_true] at ea eb ec ed
  subst ea eb ec ed
  exact ⟨⟨za, zb, zc, zd⟩, rfl, trivial⟩

end
end Go.Mh
