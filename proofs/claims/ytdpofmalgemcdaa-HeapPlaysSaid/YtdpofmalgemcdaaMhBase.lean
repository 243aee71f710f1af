/- A text of the proofs of seat Ytdpofmalgemcdaa: 'Mh.Base'. It has no condition of its own. -/
/- Weakest preconditions over heaps for the model's own little language Sem, and their soundness. -/
import Derived.RangeFuncIn
import Derived.OrdersIn
set_option linter.unusedVariables false
set_option linter.unusedSimpArgs false
namespace Go.Mh
open Go

abbrev Heap := Array Obj

def hcell (h : Heap) (a : Addr) : Option Value :=
  match h[a.block]? with
  | some (.cells c _ _) => if a.spot.isSome then none else c[a.off]?
  | _ => none

def hfrozen (h : Heap) (a : Addr) : Bool :=
  match h[a.block]? with
  | some (.cells _ _ (lo, hi)) => lo ≤ a.off && a.off < hi
  | _ => false

def hshape (h : Heap) (r : Nat) : Option (TypeId × Nat) :=
  match h[r]? with
  | some (.cells c elem _) => some (elem, c.size)
  | _ => none

def hset (h : Heap) (a : Addr) (v : Value) : Heap :=
  h.modify a.block fun
      | .cells c elem frozen => .cells (if a.spot.isSome then c else c.setIfInBounds a.off v) elem frozen
      | o => o

theorem cell?_eq (w : World) (a : Addr) : w.cell? a = hcell w.heap a := rfl
theorem frozen?_eq (w : World) (a : Addr) : w.frozen? a = hfrozen w.heap a := rfl
theorem shape?_eq (w : World) (r : Nat) : w.shape? r = hshape w.heap r := rfl
theorem setCell_heap (w : World) (a : Addr) (v : Value) : (w.setCell a v).heap = hset w.heap a v := rfl

/-- What a run of ours leaves alone. -/
structure Same (w w' : World) : Prop where
  os : w'.os = w.os
  output : w'.output = w.output
  tape : w'.tape = w.tape

theorem Same.refl (w : World) : Same w w := ⟨rfl, rfl, rfl⟩
theorem Same.trans {a b c : World} (h : Same a b) (h' : Same b c) : Same a c :=
  ⟨h'.os.trans h.os, h'.output.trans h.output, h'.tape.trans h.tape⟩

def plainCell : Value → Bool
  | .agg _ | .tuple _ => false
  | _ => true

def isCells : Obj → Bool
  | .cells .. => true
  | _ => false

def wpS (P : Program) {α : Type} : Sem α → Heap → (α → Heap → Prop) → Prop
  | .pure a, h, K => K a h
  | .load _ a k, h, K => match hcell h a with
    | some v => wpS P (k v) h K
    | none => False
  | .store _ a v k, h, K => plainCell v = true ∧ (hcell h a).isSome = true ∧ hfrozen h a = false ∧ wpS P k (hset h a v) K
  | .new o k, h, K => wpS P (k h.size) (h.push o) K
  | .shape r k, h, K => wpS P (k (hshape h r)) h K
  | .freeze _ _ _, _, _ => False
  | .frozen a k, h, K => wpS P (k (hfrozen h a)) h K
  | .getObj r k, h, K => match h[r]? with
    | some (.cells ..) => False
    | some o => wpS P (k o) h K
    | none => False
  | .setObj r o k, h, K => match h[r]? with
    | some (.cells ..) => False
    | some _ => wpS P k (h.setIfInBounds r o) K
    | none => False
  | .choose q k, h, K => if q.forced then wpS P (k 0) h K else ∀ t, wpS P (k (q.cut t)) h K
  | .sys _ _, _, _ => False
  | .program k, h, K => wpS P (k P) h K
  | .mark _ k, h, K => wpS P k h K
  | .halt _, _, _ => False

theorem wpS_run {P : Program} {α : Type} {s : Sem α} : ∀ {h : Heap} {K : α → Heap → Prop}, wpS P s h K → ∀ w : World, w.heap = h →
    ∃ a w', s.run P w = .ok a w' ∧ Same w w' ∧ K a w'.heap := by
  induction s with
  | pure a => intro h K hk w hw; subst hw; exact ⟨a, w, rfl, .refl w, hk⟩
  | load m a k ih =>
    intro h K hk w hw; subst hw
    simp only [wpS] at hk
    split at hk
    · rename_i v hv
      obtain ⟨x, w', hr, hs, hK⟩ := ih v hk w rfl
      refine ⟨x, w', ?_, hs, hK⟩
      simp only [Sem.run, cell?_eq, hv]; exact hr
    · exact hk.elim
  | store m a v k ih =>
    intro h K hk w hw; subst hw
    obtain ⟨hp, hc, hf, hk⟩ := hk
    obtain ⟨x, w', hr, hs, hK⟩ := ih hk (w.setCell a v) rfl
    refine ⟨x, w', ?_, ⟨hs.os, hs.output, hs.tape⟩, hK⟩
    obtain ⟨u, hu⟩ := Option.isSome_iff_exists.1 hc
    rw [← cell?_eq] at hu
    rw [← frozen?_eq] at hf
    cases v <;> simp_all [Sem.run, plainCell]
  | new o k ih =>
    intro h K hk w hw; subst hw
    obtain ⟨x, w', hr, hs, hK⟩ := ih _ hk { w with heap := w.heap.push o } rfl
    exact ⟨x, w', hr, ⟨hs.os, hs.output, hs.tape⟩, hK⟩
  | shape r k ih => intro h K hk w hw; subst hw; exact ih _ hk w rfl
  | freeze a n k ih => intro h K hk; exact hk.elim
  | frozen a k ih => intro h K hk w hw; subst hw; exact ih _ hk w rfl
  | getObj r k ih =>
    intro h K hk w hw; subst hw
    simp only [wpS] at hk
    split at hk
    · exact hk.elim
    · rename_i o hno ho
      obtain ⟨x, w', hr, hs, hK⟩ := ih o hk w rfl
      refine ⟨x, w', ?_, hs, hK⟩
      simp only [Sem.run, ho]; cases o <;> first | exact hr | exact (hno _ _ _ rfl).elim
    · exact hk.elim
  | setObj r o k ih =>
    intro h K hk w hw; subst hw
    simp only [wpS] at hk
    split at hk
    · exact hk.elim
    · rename_i o' hno ho
      obtain ⟨x, w', hr, hs, hK⟩ := ih hk { w with heap := w.heap.setIfInBounds r o } rfl
      refine ⟨x, w', ?_, ⟨hs.os, hs.output, hs.tape⟩, hK⟩
      simp only [Sem.run, ho]; cases o' <;> first | exact hr | exact (hno _ _ _ rfl).elim
    · exact hk.elim
  | choose q k ih =>
    intro h K hk w hw; subst hw
    simp only [wpS] at hk
    split at hk
    · rename_i hq
      obtain ⟨x, w', hr, hs, hK⟩ := ih _ hk w rfl
      exact ⟨x, w', by simp only [Sem.run, hq, if_true]; exact hr, hs, hK⟩
    · rename_i hq
      obtain ⟨x, w', hr, hs, hK⟩ := ih _ (hk (w.tape w.drawn q)) { w with drawn := w.drawn + 1 } rfl
      refine ⟨x, w', ?_, ⟨hs.os, hs.output, hs.tape⟩, hK⟩
      simp only [Sem.run]; rw [if_neg hq]; exact hr
  | sys c k ih => intro h K hk; exact hk.elim
  | program k ih => intro h K hk w hw; subst hw; exact ih _ hk w rfl
  | mark m k ih => intro h K hk w hw; subst hw; exact ih hk w rfl
  | halt x => intro h K hk; exact hk.elim

/-- A run that only reads, and asks nothing of the tape. -/
def rdS (P : Program) {α : Type} : Sem α → Heap → Option α
  | .pure a, _ => some a
  | .load _ a k, h => match hcell h a with
    | some v => rdS P (k v) h
    | none => none
  | .shape r k, h => rdS P (k (hshape h r)) h
  | .frozen a k, h => rdS P (k (hfrozen h a)) h
  | .getObj r k, h => match h[r]? with
    | some (.cells ..) => none
    | some o => rdS P (k o) h
    | none => none
  | .choose q k, h => if q.forced then rdS P (k 0) h else none
  | .program k, h => rdS P (k P) h
  | .mark _ k, h => rdS P k h
  | _, _ => none

theorem rdS_run {P : Program} {α : Type} {s : Sem α} : ∀ {h : Heap} {a : α}, rdS P s h = some a → ∀ w : World, w.heap = h → s.run P w = .ok a w := by
  induction s with
  | pure a => intro h b hk w hw; simp only [rdS, Option.some.injEq] at hk; subst hk; rfl
  | load m a k ih =>
    intro h b hk w hw; subst hw
    simp only [rdS] at hk
    split at hk
    · rename_i v hv
      simp only [Sem.run, cell?_eq, hv]; exact ih v hk w rfl
    · cases hk
  | store m a v k ih => intro h b hk; cases hk
  | new o k ih => intro h b hk; cases hk
  | shape r k ih => intro h b hk w hw; subst hw; exact ih _ hk w rfl
  | freeze a n k ih => intro h b hk; cases hk
  | frozen a k ih => intro h b hk w hw; subst hw; exact ih _ hk w rfl
  | getObj r k ih =>
    intro h b hk w hw; subst hw
    simp only [rdS] at hk
    split at hk
    · cases hk
    · rename_i o hno ho
      have hr := ih o hk w rfl
      simp only [Sem.run, ho]; cases o <;> first | exact hr | exact (hno _ _ _ rfl).elim
    · cases hk
  | setObj r o k ih => intro h b hk; cases hk
  | choose q k ih =>
    intro h b hk w hw; subst hw
    simp only [rdS] at hk
    split at hk
    · rename_i hq
      simp only [Sem.run, hq, if_true]; exact ih _ hk w rfl
    · cases hk
  | sys c k ih => intro h b hk; cases hk
  | program k ih => intro h b hk w hw; subst hw; exact ih _ hk w rfl
  | mark m k ih => intro h b hk w hw; subst hw; exact ih hk w rfl
  | halt x => intro h b hk; cases hk

/-- bind, for both. -/
theorem wpS_bind {P : Program} {α β : Type} {s : Sem α} {f : α → Sem β} : ∀ {h : Heap} {K : β → Heap → Prop},
    wpS P s h (fun a h' => wpS P (f a) h' K) → wpS P (s >>= f) h K := by
  show ∀ {h : Heap} {K : β → Heap → Prop}, wpS P s h (fun a h' => wpS P (f a) h' K) → wpS P (Sem.bind s f) h K
  induction s with
  | pure a => intro h K hk; exact hk
  | load m a k ih =>
    intro h K hk
    simp only [wpS, Sem.bind] at hk ⊢
    split at hk
    · rename_i v hv; exact ih v hk
    · exact hk.elim
  | store m a v k ih => intro h K hk; exact ⟨hk.1, hk.2.1, hk.2.2.1, ih hk.2.2.2⟩
  | new o k ih => intro h K hk; exact ih _ hk
  | shape r k ih => intro h K hk; exact ih _ hk
  | freeze a n k ih => intro h K hk; exact hk.elim
  | frozen a k ih => intro h K hk; exact ih _ hk
  | getObj r k ih =>
    intro h K hk
    simp only [wpS, Sem.bind] at hk ⊢
    split at hk
    · exact hk.elim
    · exact ih _ hk
    · exact hk.elim
  | setObj r o k ih =>
    intro h K hk
    simp only [wpS, Sem.bind] at hk ⊢
    split at hk
    · exact hk.elim
    · exact ih hk
    · exact hk.elim
  | choose q k ih =>
    intro h K hk
    simp only [wpS, Sem.bind] at hk ⊢
    split at hk
    · rename_i hq; simp only [hq, if_true]; exact ih _ hk
    · rename_i hq; rw [if_neg hq]; exact fun t => ih _ (hk t)
  | sys c k ih => intro h K hk; exact hk.elim
  | program k ih => intro h K hk; exact ih _ hk
  | mark m k ih => intro h K hk; exact ih hk
  | halt x => intro h K hk; exact hk.elim

theorem rdS_bind {P : Program} {α β : Type} {s : Sem α} {f : α → Sem β} : ∀ {h : Heap} {a : α},
    rdS P s h = some a → rdS P (s >>= f) h = rdS P (f a) h := by
  show ∀ {h : Heap} {a : α}, rdS P s h = some a → rdS P (Sem.bind s f) h = rdS P (f a) h
  induction s with
  | pure a => intro h b hk; simp only [rdS, Option.some.injEq] at hk; subst hk; rfl
  | load m a k ih =>
    intro h b hk
    simp only [rdS, Sem.bind] at hk ⊢
    split at hk
    · exact ih _ hk
    · cases hk
  | store m a v k ih => intro h b hk; cases hk
  | new o k ih => intro h b hk; cases hk
  | shape r k ih => intro h b hk; exact ih _ hk
  | freeze a n k ih => intro h b hk; cases hk
  | frozen a k ih => intro h b hk; exact ih _ hk
  | getObj r k ih =>
    intro h b hk
    simp only [rdS, Sem.bind] at hk ⊢
    split at hk
    · cases hk
    · exact ih _ hk
    · cases hk
  | setObj r o k ih => intro h b hk; cases hk
  | choose q k ih =>
    intro h b hk
    simp only [rdS, Sem.bind] at hk ⊢
    split at hk
    · rename_i hq; simp only [hq, if_true]; exact ih _ hk
    · cases hk
  | sys c k ih => intro h b hk; cases hk
  | program k ih => intro h b hk; exact ih _ hk
  | mark m k ih => intro h b hk; exact ih hk
  | halt x => intro h b hk; cases hk

/-- A run that only reads is a run. -/
theorem wpS_of_rdS {P : Program} {α : Type} {s : Sem α} : ∀ {h : Heap} {a : α} {K : α → Heap → Prop}, rdS P s h = some a → K a h → wpS P s h K := by
  induction s with
  | pure a => intro h b K hk hK; simp only [rdS, Option.some.injEq] at hk; subst hk; exact hK
  | load m a k ih =>
    intro h b K hk hK
    simp only [rdS, wpS] at hk ⊢
    split at hk
    · exact ih _ hk hK
    · cases hk
  | store m a v k ih => intro h b K hk; cases hk
  | new o k ih => intro h b K hk; cases hk
  | shape r k ih => intro h b K hk hK; exact ih _ hk hK
  | freeze a n k ih => intro h b K hk; cases hk
  | frozen a k ih => intro h b K hk hK; exact ih _ hk hK
  | getObj r k ih =>
    intro h b K hk hK
    simp only [rdS, wpS] at hk ⊢
    split at hk
    · cases hk
    · exact ih _ hk hK
    · cases hk
  | setObj r o k ih => intro h b K hk; cases hk
  | choose q k ih =>
    intro h b K hk hK
    simp only [rdS, wpS] at hk ⊢
    split at hk
    · rename_i hq; simp only [hq, if_true]; exact ih _ hk hK
    · cases hk
  | sys c k ih => intro h b K hk; cases hk
  | program k ih => intro h b K hk hK; exact ih _ hk hK
  | mark m k ih => intro h b K hk hK; exact ih hk hK
  | halt x => intro h b K hk; cases hk

theorem wpS_mono {P : Program} {α : Type} {s : Sem α} : ∀ {h : Heap} {K K' : α → Heap → Prop}, (∀ a h, K a h → K' a h) → wpS P s h K → wpS P s h K' := by
  induction s with
  | pure a => intro h K K' hm hk; exact hm _ _ hk
  | load m a k ih =>
    intro h K K' hm hk
    simp only [wpS] at hk ⊢
    split at hk
    · exact ih _ hm hk
    · exact hk
  | store m a v k ih => intro h K K' hm hk; exact ⟨hk.1, hk.2.1, hk.2.2.1, ih hm hk.2.2.2⟩
  | new o k ih => intro h K K' hm hk; exact ih _ hm hk
  | shape r k ih => intro h K K' hm hk; exact ih _ hm hk
  | freeze a n k ih => intro h K K' hm hk; exact hk.elim
  | frozen a k ih => intro h K K' hm hk; exact ih _ hm hk
  | getObj r k ih =>
    intro h K K' hm hk
    simp only [wpS] at hk ⊢
    split at hk
    · exact hk
    · exact ih _ hm hk
    · exact hk
  | setObj r o k ih =>
    intro h K K' hm hk
    simp only [wpS] at hk ⊢
    split at hk
    · exact hk
    · exact ih hm hk
    · exact hk
  | choose q k ih =>
    intro h K K' hm hk
    simp only [wpS] at hk ⊢
    split at hk
    · rename_i hq; simp only [hq, if_true]; exact ih _ hm hk
    · rename_i hq; rw [if_neg hq]; exact fun t => ih _ hm (hk t)
  | sys c k ih => intro h K K' hm hk; exact hk.elim
  | program k ih => intro h K K' hm hk; exact ih _ hm hk
  | mark m k ih => intro h K K' hm hk; exact ih hm hk
  | halt x => intro h K K' hm hk; exact hk.elim

end Go.Mh
